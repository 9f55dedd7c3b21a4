import Derived.Test.YtdcijmigoefnjaaBk2
import Derived.Test.YtdcijmigoefnjaaEv3
/- Chapter 11: that a match is read at all. -/
set_option linter.unusedVariables false
set_option maxRecDepth 100000
set_option maxHeartbeats 0
namespace Go.Proofs.Ytdcijmigoefnjaa
open Go Go.Ev
theorem awake11 : book.mix (specS []) 1000 12 81 [] [] = some (.bool true, []) := by kernel_rfl
theorem s81 : SumTOk Try.prog 81 (sumOf (g0 (.bool true))) := g0_ok (Book.mix_ok book_ok (specS_ok (l := []) trivial) 1000 12 81 _ [] _ [] awake11)
end Go.Proofs.Ytdcijmigoefnjaa
