/- Chapter 45: the laws' calls: parsing is told by the same words. -/
import Derived.Test.YtdcijmigoefnjaaP45f
import Derived.Test.YtdcijmigoefnjaaL45e
import Derived.Test.YtdcijmigoefnjaaL10h
set_option linter.unusedVariables false
set_option linter.unusedSimpArgs false
set_option maxRecDepth 100000
set_option maxHeartbeats 0
namespace Go.Proofs.Ytdcijmigoefnjaa
open Go Go.Ev

theorem awake45 : book.mix (specS []) 1000 8 69 [] [] = some (.bool true, []) := by kernel_rfl
theorem s69 : SumTOk Try.prog 69 (sumOf (g0 (.bool true))) := g0_ok (Book.mix_ok book_ok (specS_ok (l := []) trivial) 1000 8 69 _ [] _ [] awake45)
theorem sp12_ok : SpecTL Try.prog (sp12 true) := ⟨s70, s71, s69, trivial⟩

theorem pqs (A : List AV) : (pairEq, isHdr).fst A A = true := pairEq_same A
theorem c12 {xs : List AV} (h : okL xs = true) (n : Int) : CallsA Try.prog 12 [.sl 1 xs .sh, .int .i64 n] [] (.bool true) [] := by
  refine book_ok.pth (by kernel_rfl) sp12_ok (p12 true n xs _ ?_ ?_ ?_ ?_ ?_ ?_ ?_ ?_ ?_ ?_ ?_ ?_)
  · intro _; rfl
  · intro _; exact h
  · intro _ _; kernel_rfl
  · intro _ _; kernel_rfl
  · intro _ _; kernel_rfl
  · intro _ _; kernel_rfl
  · intro _ _ _; kernel_rfl
  · intro _ _ hk; rw [hk]; kernel_rfl
  · intro _ _ _; kernel_rfl
  · intro _ _ hk; rw [pqs] at hk; cases hk
  · intro _ _ hk; rw [hk]; kernel_rfl
  · intro _ _ hk; rw [ieq_self] at hk; cases hk

theorem okL_ty {xs : List AV} (hx : ∀ x ∈ xs, TyE false [.int .u8] x) (hl : xs.length ≤ maxLen) : okL xs = true := by
  unfold okL; rw [bytB_iff.2 (tyb_bytes hx), tyb_len hl]; rfl
theorem cPacketParses {xs : List AV} {n : Int} (hx : ∀ x ∈ xs, TyE false [.int .u8] x) (hl : xs.length ≤ maxLen) (hn : IntKind.i64.min ≤ n ∧ n ≤ IntKind.i64.max) : CallsA Try.prog 12 [.sl 1 xs .sh, .int .i64 n] [] (.bool true) [] := c12 (okL_ty hx hl) n
end Go.Proofs.Ytdcijmigoefnjaa
