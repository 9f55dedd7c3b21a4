/- Chapter 45: what follows a frame: the law's call. -/
import Derived.Test.YtdcijmigoefnjaaP45g
import Derived.Test.YtdcijmigoefnjaaPlT
import Derived.Test.YtdcijmigoefnjaaL45f
set_option linter.unusedVariables false
set_option linter.unusedSimpArgs false
set_option maxRecDepth 100000
set_option maxHeartbeats 0
namespace Go.Proofs.Ytdcijmigoefnjaa
open Go Go.Ev

theorem okL_ap {xs ys : List AV} (h : okL xs = true) (hy : okL ys = true) (a : (xs.length : Int) ≤ 4000) (c : (ys.length : Int) ≤ 400) : okL (xs ++ ys) = true := by
  rw [okL_iff] at h hy ⊢
  refine ⟨fun y hm => ?_, by rw [List.length_append]; omega⟩
  rcases List.mem_append.1 hm with hm | hm
  · exact h.1 y hm
  · exact hy.1 y hm
theorem c14 {xs ys : List AV} (h : okL xs = true) (hy : okL ys = true) (n : Int) : CallsA Try.prog 14 [.sl 1 xs .sh, .sl 1 ys .sh, .int .i64 n] [] (.bool true) [] := by
  have empt : ieq (parE n xs) 0 = true → xs.isEmpty = false := fun hz => by
    cases xs with
    | cons _ _ => rfl
    | nil =>
      unfold parE at hz
      cases hp : portB n with
      | true => rw [hp] at hz; cases hz
      | false => rw [hp] at hz; cases hz
  have same : ieq (parE n xs) 0 = true → pairEq (parC n (xs ++ ys)) (parC n xs) = true := fun hz => by
    have t := (tail_frm ys h (ieq0.1 hz)).2
    unfold parC; rw [t]; exact pairEq_same _
  refine book_ok.pth (by kernel_rfl) sp12_ok (p14 true n xs ys _ ?_ ?_ ?_ ?_ ?_ ?_ ?_ ?_ ?_ ?_ ?_ ?_ ?_ ?_ ?_ ?_ ?_ ?_ ?_ ?_ ?_ ?_ ?_ ?_ ?_ ?_ ?_ ?_ ?_ ?_ ?_ ?_ ?_ ?_ ?_ ?_ ?_ ?_ ?_ ?_ ?_ ?_ ?_ ?_ ?_ ?_ ?_ ?_ ?_)
  · intro _; rfl
  · intro _ _; rfl
  · intro _ _; exact h
  · intro _ _ _; kernel_rfl
  · intro _ _ _; kernel_rfl
  · intro a _ _; rw [ilt_no] at a; rw [Nat.ble_eq]; omega
  · intro a _ _; rw [ilt_no] at a; rw [Nat.ble_eq]; omega
  · intro _ _ hz he; intros; exact Bool.noConfusion (he.symm.trans (empt hz))
  · intro _ _ hz he; intros; exact Bool.noConfusion (he.symm.trans (empt hz))
  · intro _ _ hz he; intros; exact Bool.noConfusion (he.symm.trans (empt hz))
  · intro _ _ hz he; intros; exact Bool.noConfusion (he.symm.trans (empt hz))
  · intro _ _ hz he; intros; exact Bool.noConfusion (he.symm.trans (empt hz))
  · intro _ _ hz he; intros; exact Bool.noConfusion (he.symm.trans (empt hz))
  · intro _ _ hz he; intros; exact Bool.noConfusion (he.symm.trans (empt hz))
  · intro _ _ hz he; intros; exact Bool.noConfusion (he.symm.trans (empt hz))
  · intro _ _ hz he; intros; exact Bool.noConfusion (he.symm.trans (empt hz))
  · intro _ _ hz he; intros; exact Bool.noConfusion (he.symm.trans (empt hz))
  · intro _ _ hz he; intros; exact Bool.noConfusion (he.symm.trans (empt hz))
  · intro _ _ hz he; intros; exact Bool.noConfusion (he.symm.trans (empt hz))
  · intro _ _ hz he; intros; exact Bool.noConfusion (he.symm.trans (empt hz))
  · intro _ _ hz he; intros; exact Bool.noConfusion (he.symm.trans (empt hz))
  · intro _ _ hz he; intros; exact Bool.noConfusion (he.symm.trans (empt hz))
  · intro _ _ hz he; intros; exact Bool.noConfusion (he.symm.trans (empt hz))
  · intro _ _ hz he; intros; exact Bool.noConfusion (he.symm.trans (empt hz))
  · intro _ _ hz he; intros; exact Bool.noConfusion (he.symm.trans (empt hz))
  · intro _ _ hz he; intros; exact Bool.noConfusion (he.symm.trans (empt hz))
  · intro _ _ hz he; intros; exact Bool.noConfusion (he.symm.trans (empt hz))
  · intro _ _ hz he; intros; exact Bool.noConfusion (he.symm.trans (empt hz))
  · intro _ _ hz he; intros; exact Bool.noConfusion (he.symm.trans (empt hz))
  · intro _ _ hz he; intros; exact Bool.noConfusion (he.symm.trans (empt hz))
  · intro _ _ hz he; intros; exact Bool.noConfusion (he.symm.trans (empt hz))
  · intro _ _ hz he; intros; exact Bool.noConfusion (he.symm.trans (empt hz))
  · intro _ _ hz he; intros; exact Bool.noConfusion (he.symm.trans (empt hz))
  · intro _ _ _ _; kernel_rfl
  · intro a c _ _; rw [ilt_no] at a c; rw [Nat.ble_eq]; omega
  · intro a c _ _; rw [ilt_no] at a c; rw [Nat.ble_eq]; omega
  · intro _ _ _ _; kernel_rfl
  · intro a c _ _; exact okL_ap h hy (ilt_no.1 a) (ilt_no.1 c)
  · intro _ _ _ _ _; kernel_rfl
  · intro _ _ _ _ _; kernel_rfl
  · intro _ _ _ _ _; kernel_rfl
  · intro _ _ _ _ _; kernel_rfl
  · intro _ _ _ _ _; kernel_rfl
  · intro _ _ _ _ _; kernel_rfl
  · intro _ _ _ _ _ e; rw [e]; kernel_rfl
  · intro _ _ hz _ _ e; exact Bool.noConfusion (e.symm.trans (Eq.trans (by kernel_rfl) (same hz)))
  · intro _ _ _ _ _; kernel_rfl
  · intro _ _ hz _ e; exact Bool.noConfusion (e.symm.trans (ieq0.2 (tail_frm ys h (ieq0.1 hz)).1))
  · intro _ _ _; kernel_rfl
theorem cPacketTail {xs ys : List AV} {n : Int} (hx : ∀ x ∈ xs, TyE false [.int .u8] x) (hl : xs.length ≤ maxLen) (hy : ∀ x ∈ ys, TyE false [.int .u8] x) (hl2 : ys.length ≤ maxLen) (hn : IntKind.i64.min ≤ n ∧ n ≤ IntKind.i64.max) :
    CallsA Try.prog 14 [.sl 1 xs .sh, .sl 1 ys .sh, .int .i64 n] [] (.bool true) [] := c14 (okL_ty hx hl) (okL_ty hy hl2) n
end Go.Proofs.Ytdcijmigoefnjaa
