/- Chapter 45: that frames are read at all; bytes by their types. -/
import Derived.Test.YtdcijmigoefnjaaD45
import Derived.Test.YtdcijmigoefnjaaL10h
set_option linter.unusedVariables false
set_option linter.unusedSimpArgs false
set_option maxRecDepth 100000
set_option maxHeartbeats 0
namespace Go.Proofs.Ytdcijmigoefnjaa
open Go Go.Ev

theorem awake45 : book.mix (specS []) 1000 8 69 [] [] = some (.bool true, []) := by kernel_rfl
theorem s69 : SumTOk Try.prog 69 (sumOf (g0 (.bool true))) := g0_ok (Book.mix_ok book_ok (specS_ok (l := []) trivial) 1000 8 69 _ [] _ [] awake45)
theorem okL_ty {xs : List AV} (hx : ∀ x ∈ xs, TyE false [.int .u8] x) (hl : xs.length ≤ maxLen) : okL xs = true := by
  unfold okL; rw [bytB_iff.2 (tyb_bytes hx), tyb_len hl]; rfl
end Go.Proofs.Ytdcijmigoefnjaa
