import Derived.Test.YtdcijmigoefnjaaPL1b
import Derived.Test.YtdcijmigoefnjaaL10g
/- Chapter 04: a field is set. -/
set_option linter.unusedVariables false
set_option maxRecDepth 100000
set_option maxHeartbeats 0
namespace Go.Proofs.Ytdcijmigoefnjaa
open Go Go.Ev

/-- what a field is, for closed calls -/
def spC : List (FuncId × SumT) := [(31, sumOf G31), (53, sumOf G31), (27, sumOf G27), (46, sumOf G27), (32, sumOf G32), (47, sumOf G32), (48, sumOf G48), (49, sumOf G48), (50, sumOf G50), (51, sumOf G50), (28, sumOf G28), (52, sumOf G28), (26, sumOf G26), (45, sumOf G26), (108, S108), (110, S108)]
theorem spC_ok : SpecTL Try.prog spC := ⟨s31, s53, s27, s46, s32, s47, s48, s49, s50, s51, s28, s52, s26, s45, s108, s110, trivial⟩
theorem awake04 : book.mix (specS spC) 1000 8 44 [] [] = some (.bool true, []) := by kernel_rfl
theorem s44 : SumTOk Try.prog 44 (sumOf (g0 (.bool true))) := g0_ok (Book.mix_ok book_ok (specS_ok spC_ok) 1000 8 44 _ [] _ [] awake04)

end Go.Proofs.Ytdcijmigoefnjaa
