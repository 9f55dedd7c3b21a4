/- Chapter 45: what a frame tells fits: the law's call. -/
import Derived.Test.YtdcijmigoefnjaaP45h
import Derived.Test.YtdcijmigoefnjaaPlF
import Derived.Test.YtdcijmigoefnjaaL45f
import Derived.Test.YtdcijmigoefnjaaL04b
import Derived.Test.YtdcijmigoefnjaaHdrU
set_option linter.unusedVariables false
set_option linter.unusedSimpArgs false
set_option maxRecDepth 100000
set_option maxHeartbeats 0
namespace Go.Proofs.Ytdcijmigoefnjaa
open Go Go.Ev

theorem setK_other {k : Nat → Int} {f : Nat} {v : Int × Int} {c : Nat} (h : c / 2 ≠ f) : setK k f v c = k c := by
  unfold setK
  have : Nat.beq (c / 2) f = false := by
    cases h2 : Nat.beq (c / 2) f with
    | false => rfl
    | true => exact absurd (Nat.eq_of_beq_eq_true h2) h
  rw [this]; rfl
theorem low_within {k : Nat → Int} {four : Bool} {pr : Int} {xs : List AV} {c : Nat} (hc : c < 14) : withinK k four pr xs c = k c := by
  unfold withinK
  cases ieq pr 6 with
  | true => exact (setK_other (by omega)).trans (setK_other (by omega))
  | false =>
  cases ieq pr 17 with
  | true => exact (setK_other (by omega)).trans (setK_other (by omega))
  | false =>
  cases (bif ieq pr 1 then four else false) with
  | true => exact (setK_other (by omega)).trans (setK_other (by omega))
  | false => rfl
theorem low_ip {b : B6} {four : Bool} {p : P5} {c : Nat} (hc : c < 14) : ipK b four p c = baseK b c := by
  unfold ipK
  rw [setK_other (by cases four <;> simp only [cond_true, cond_false] <;> omega), setK_other (by cases four <;> simp only [cond_true, cond_false] <;> omega), setK_other (by omega), setK_other (by omega), setK_other (by omega)]
theorem low_frm {b : B6} {xs : List AV} {c : Nat} (hc : c < 14) : frmK b xs c = baseK b c := by
  unfold frmK
  cases ieq (typN xs) 2048 with
  | true =>
    show fourK b (restX xs) c = _
    unfold fourK
    cases pieceB (restX xs) with
    | true => exact low_ip hc
    | false => exact (low_within hc).trans (low_ip hc)
  | false =>
  cases ieq (typN xs) 34525 with
  | true => exact (low_within hc).trans (low_ip hc)
  | false =>
  cases ieq (typN xs) 2054 with
  | true =>
    show arpK b (restX xs) c = _
    unfold arpK; rw [setK_other (by omega), setK_other (by omega), setK_other (by omega)]
  | false =>
  cases (bif ieq (typN xs) 34887 then true else ieq (typN xs) 34888) with
  | true => exact setK_other (by omega)
  | false => rfl
theorem port_ok {n : Int} {xs : List AV} (hz : ieq (parE n xs) 0 = true) : portB n = false := by
  cases hp : portB n with
  | false => rfl
  | true => unfold parE at hz; rw [hp] at hz; cases hz
theorem fits_par {n : Int} {xs : List AV} (h : okL xs = true) (hz : ieq (parE n xs) 0 = true) : fitsC (parC n xs) = true := by
  have hf := fit_par (port_ok hz) h
  unfold fitsC
  have e : clipC (parC n xs) = hdrC (fun c => ibits .and .u64 (parK n xs c) (maskTab.getD c 0)) := rfl
  rw [e]
  have e2 : hdrC (fun c => ibits .and .u64 (parK n xs c) (maskTab.getD c 0)) = parC n xs := hdrC_congr fun c hc => hf c hc
  rw [e2]; exact pairEq_same _
theorem low_par {n : Int} {xs : List AV} (hz : ieq (parE n xs) 0 = true) :
    (ieq (parK n xs 0) 0 && (ieq (parK n xs 1) (IntKind.u64.wrap n) && true)) = true ∧ (ieq (parK n xs 2) 0 && (ieq (parK n xs 3) 0 && true)) = true := by
  have hn := port_in (port_ok hz)
  have u : IntKind.u64.wrap n = n := wrapU (by omega) (by omega)
  have e0 : parK n xs 0 = 0 := (low_frm (by omega)).trans rfl
  have e1 : parK n xs 1 = n := (low_frm (by omega)).trans rfl
  have e2 : parK n xs 2 = 0 := (low_frm (by omega)).trans rfl
  have e3 : parK n xs 3 = 0 := (low_frm (by omega)).trans rfl
  rw [e0, e1, e2, e3, u, ieq_self, ieq_self]
  exact ⟨rfl, rfl⟩
theorem sp17_ok : SpecTL Try.prog (sp17 true) := ⟨s37, sp12_ok⟩

theorem c17 {xs : List AV} (h : okL xs = true) (n : Int) : CallsA Try.prog 17 [.sl 1 xs .sh, .int .i64 n] [] (.bool true) [] := by
  refine book_ok.pth (by kernel_rfl) sp17_ok (p17 true n xs _ ?_ ?_ ?_ ?_ ?_ ?_ ?_ ?_ ?_ ?_ ?_ ?_ ?_ ?_ ?_ ?_ ?_ ?_)
  · intro _; rfl
  · intro _; exact h
  · intro _ _; kernel_rfl
  · intro _ _; kernel_rfl
  · intro _ _; kernel_rfl
  · intro _ _; kernel_rfl
  · intro _ _ _; kernel_rfl
  · intro _ _ _; kernel_rfl
  · intro _ _ _ _; kernel_rfl
  · intro _ _ _ _; kernel_rfl
  · intro _ _ _ _; kernel_rfl
  · intro _ _ a b c; rw [a, b, c]; kernel_rfl
  · intro _ hz _ _ c; exact Bool.noConfusion (c.symm.trans (Eq.trans (by kernel_rfl) (low_par hz).2))
  · intro _ hz _ c; exact Bool.noConfusion (c.symm.trans (Eq.trans (by kernel_rfl) (low_par hz).1))
  · intro _ hz _ c; exact Bool.noConfusion (c.symm.trans (Eq.trans (by kernel_rfl) (low_par hz).1))
  · intro _ hz c; exact Bool.noConfusion (c.symm.trans (Eq.trans (by kernel_rfl) (fits_par h hz)))
  · intro _ hz c; exact Bool.noConfusion (c.symm.trans (Eq.trans (by kernel_rfl) (fits_par h hz)))
  · intro _ _; kernel_rfl
theorem cPacketFits {xs : List AV} {n : Int} (hx : ∀ x ∈ xs, TyE false [.int .u8] x) (hl : xs.length ≤ maxLen) (hn : IntKind.i64.min ≤ n ∧ n ≤ IntKind.i64.max) : CallsA Try.prog 17 [.sl 1 xs .sh, .int .i64 n] [] (.bool true) [] := c17 (okL_ty hx hl) n
end Go.Proofs.Ytdcijmigoefnjaa
