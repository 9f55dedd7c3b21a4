/- Chapter 45: sums: the law's call. -/
import Derived.Test.YtdcijmigoefnjaaP45i
import Derived.Test.YtdcijmigoefnjaaL45s
import Derived.Test.YtdcijmigoefnjaaL45j
set_option linter.unusedVariables false
set_option linter.unusedSimpArgs false
set_option maxRecDepth 100000
set_option maxHeartbeats 0
namespace Go.Proofs.Ytdcijmigoefnjaa
open Go Go.Ev

theorem sp13_ok : SpecTL Try.prog sp13 := ⟨s72, s73, s69, trivial⟩

theorem setAt1 (xs : List AV) (i : Nat) (v : AV) : setAt xs i [v] = xs.set i v := rfl
theorem byte_scal {x : AV} (h : isByte x) : x.scal = true := by
  obtain ⟨z, _, rfl⟩ := h; rfl
theorem byteL_scal {xs : List AV} (h : byteL xs) : xs.all AV.scal = true := by
  rw [List.all_eq_true]; exact fun x hx => byte_scal (h x hx)
theorem byteL_set {xs : List AV} (h : byteL xs) (i : Nat) {z : Nat} (hz : z < 256) : byteL (xs.set i (.int .u8 (z : Int))) := by
  intro x hx
  rcases List.mem_or_eq_of_mem_set hx with hx | rfl
  · exact h x hx
  · exact ⟨z, hz, rfl⟩
theorem byteL_has {xs : List AV} (h : byteL xs) {i : Nat} (hi : i < xs.length) : AV.has (TI.mk (TD.int IntKind.u8) 1 1 [AV.int IntKind.u8 0]) (xs.getD i AV.unk) = true := by
  obtain ⟨z, _, e⟩ := byteL_get h hi
  rw [e]; rfl
/-- a byte is put into a sum -/
theorem sumN_set : ∀ (xs : List AV) (j i : Nat) (z : Nat), i < xs.length → sumN (xs.set i (.int .u8 (z : Int))) j + (xs.getD i .unk).asInt.toNat * wt (j + i) = sumN xs j + z * wt (j + i)
  | [], j, i, z, h => by simp at h
  | x :: xs, j, 0, z, _ => by
    simp only [List.set_cons_zero, sumN, List.getD_cons_zero, Nat.add_zero, AV.asInt, Int.toNat_natCast]
    have : (bif Nat.beq (j % 2) 0 then 256 else 1) = wt j := rfl
    rw [this]; omega
  | x :: xs, j, i + 1, z, h => by
    have := sumN_set xs (j + 1) i z (by simpa using h)
    simp only [List.set_cons_succ, sumN, List.getD_cons_succ]
    rw [show j + (i + 1) = j + 1 + i by omega]
    omega

/-- two bytes of a sum in the place of two noughts -/
theorem sum_zero {xs : List AV} (hb : byteL xs) {q : Nat} (hq : 2 * q + 1 < xs.length) (n : Nat) (hn : n < 65536)
    (he : ((n : Nat) : Int) = sumV ((xs.set (2 * q) (.int .u8 ((0 : Nat) : Int))).set (2 * q + 1) (.int .u8 ((0 : Nat) : Int)))) :
    sumV ((((xs.set (2 * q) (.int .u8 ((0 : Nat) : Int))).set (2 * q + 1) (.int .u8 ((0 : Nat) : Int))).set (2 * q) (.int .u8 ((n / 256 : Nat) : Int))).set (2 * q + 1) (.int .u8 ((n % 256 : Nat) : Int))) = 0 := by
  generalize hx0 : (xs.set (2 * q) (.int .u8 ((0 : Nat) : Int))).set (2 * q + 1) (.int .u8 ((0 : Nat) : Int)) = x0 at he ⊢
  have hl0 : x0.length = xs.length := by rw [← hx0]; simp
  have g0 : x0.getD (2 * q) .unk = .int .u8 ((0 : Nat) : Int) := by
    rw [← hx0, List.getD_eq_getElem?_getD, List.getElem?_set_ne (by omega), List.getElem?_set_self (by omega)]; rfl
  have g1 : x0.getD (2 * q + 1) .unk = .int .u8 ((0 : Nat) : Int) := by
    rw [← hx0, List.getD_eq_getElem?_getD, List.getElem?_set_self (by simp; omega)]; rfl
  have s1 := sumN_set x0 0 (2 * q) (n / 256) (by omega)
  have s2 := sumN_set (x0.set (2 * q) (.int .u8 ((n / 256 : Nat) : Int))) 0 (2 * q + 1) (n % 256) (by simp; omega)
  have g2 : (x0.set (2 * q) (.int .u8 ((n / 256 : Nat) : Int))).getD (2 * q + 1) .unk = .int .u8 ((0 : Nat) : Int) := by
    rw [List.getD_eq_getElem?_getD, List.getElem?_set_ne (by omega), ← List.getD_eq_getElem?_getD, g1]
  rw [g0, wt_even (by omega)] at s1
  rw [g2, wt_odd (by omega)] at s2
  simp only [AV.asInt, Int.toNat_natCast, Nat.zero_mul, Nat.add_zero] at s1 s2
  have e : sumN ((x0.set (2 * q) (.int .u8 ((n / 256 : Nat) : Int))).set (2 * q + 1) (.int .u8 ((n % 256 : Nat) : Int))) 0 = sumN x0 0 + n := by omega
  unfold sumV at he ⊢
  rw [e]
  generalize sumN x0 0 = s at he
  by_cases hs : s = 0
  · subst hs
    have e0 : ocI ((0 : Nat) : Int) = 0 := rfl
    rw [e0] at he
    rw [ocI_pos (by omega)]; omega
  · rw [ocI_pos (by omega)] at he
    rw [ocI_pos (by omega)]; omega

theorem c13 {xs : List AV} (hb : byteL xs) (hsz : xs.length ≤ 9223372036854775807) {a : Int} (h0 : 0 ≤ a) (h1 : a ≤ 65535) : CallsA Try.prog 13 [.sl 1 xs .sh, .int .u16 a] [] (.bool true) [] := by
  have rng : ∀ ys : List AV, 0 ≤ sumV ys ∧ sumV ys ≤ 65535 := fun ys => by have := oc_range (sumN ys 0); unfold sumV; omega
  have idx : ∀ (hlo : 2 ≤ xs.length) (hhi : xs.length ≤ 4000), ∃ q : Nat, imul IntKind.i64 (irem (IntKind.i64.wrap a) (iquo IntKind.i64 (xs.length : Int) 2)) 2 = ((2 * q : Nat) : Int) ∧
      iadd IntKind.i64 ((2 * q : Nat) : Int) 1 = ((2 * q + 1 : Nat) : Int) ∧ 2 * q + 1 < xs.length := by
    intro hlo hhi
    obtain ⟨m, rfl⟩ : ∃ m : Nat, a = m := ⟨a.toNat, by omega⟩
    have e1 : IntKind.i64.wrap (m : Int) = m := by rw [IntKind.wrap_i64]; omega
    have e2 : iquo IntKind.i64 (xs.length : Int) 2 = ((xs.length / 2 : Nat) : Int) := by
      unfold iquo
      rw [Int.tdiv_eq_ediv_of_nonneg (by omega), IntKind.wrap_i64]; omega
    have e3 : irem (m : Int) ((xs.length / 2 : Nat) : Int) = ((m % (xs.length / 2) : Nat) : Int) := by
      unfold irem
      rw [Int.tmod_eq_emod_of_nonneg (by omega)]; omega
    have hlt := Nat.mod_lt m (show xs.length / 2 > 0 by omega)
    refine ⟨m % (xs.length / 2), ?_, ?_, by omega⟩
    · rw [e1, e2, e3]
      unfold imul
      rw [IntKind.wrap_i64]; omega
    · rw [iadd_small (by omega) (by omega)]; omega
  have quo : ∀ (hlo : 2 ≤ xs.length) (hhi : xs.length ≤ 4000), (!ieq (iquo IntKind.i64 (xs.length : Int) 2) 0) = true := by
    intro hlo hhi
    have e2 : iquo IntKind.i64 (xs.length : Int) 2 = ((xs.length / 2 : Nat) : Int) := by
      unfold iquo
      rw [Int.tdiv_eq_ediv_of_nonneg (by omega), IntKind.wrap_i64]; omega
    rw [e2]
    simp [ieq]; omega
  have okS : ∀ ys : List AV, byteL ys → ys.length ≤ 4000 → (bytB ys && shortB ys) = true := fun ys h hl => by
    rw [bytB_iff.2 h]
    have : shortB ys = true := by unfold shortB; rw [Nat.ble_eq]; omega
    rw [this]; rfl
  by_cases hlo : 2 ≤ xs.length ∧ xs.length ≤ 4000
  rotate_left
  · refine book_ok.pth (by kernel_rfl) sp13_ok (p13 a xs _ ?_ ?_ ?_ ?_ ?_ ?_ ?_ ?_ ?_ ?_ ?_ ?_ ?_ ?_ ?_ ?_ ?_ ?_ ?_ ?_ ?_ ?_ ?_ ?_ ?_ ?_)
    · intro _; rfl
    · intro _ _; rfl
    all_goals
      intro h1 h2
      rw [ilt_no] at h1 h2
      exact absurd ⟨by omega, by omega⟩ hlo
  obtain ⟨hlo, hhi⟩ := hlo
  obtain ⟨q, hi, hi1, hq⟩ := idx hlo hhi
  have b1 := byteL_set hb (2 * q) (z := 0) (by omega)
  have b2 := byteL_set b1 (2 * q + 1) (z := 0) (by omega)
  have l1 : (xs.set (2 * q) (.int .u8 ((0 : Nat) : Int))).length = xs.length := by simp
  have l2 : ((xs.set (2 * q) (.int .u8 ((0 : Nat) : Int))).set (2 * q + 1) (.int .u8 ((0 : Nat) : Int))).length = xs.length := by simp
  obtain ⟨n, hn⟩ : ∃ n : Nat, ((n : Nat) : Int) = sumV ((xs.set (2 * q) (.int .u8 ((0 : Nat) : Int))).set (2 * q + 1) (.int .u8 ((0 : Nat) : Int))) := ⟨(sumV ((xs.set (2 * q) (.int .u8 ((0 : Nat) : Int))).set (2 * q + 1) (.int .u8 ((0 : Nat) : Int)))).toNat, by have := (rng ((xs.set (2 * q) (.int .u8 ((0 : Nat) : Int))).set (2 * q + 1) (.int .u8 ((0 : Nat) : Int)))).1; omega⟩
  have hn2 : n < 65536 := by have := (rng ((xs.set (2 * q) (.int .u8 ((0 : Nat) : Int))).set (2 * q + 1) (.int .u8 ((0 : Nat) : Int)))).2; omega
  have w1 : IntKind.u8.wrap (ishr IntKind.i64 (n : Int) 8) = ((n / 256 : Nat) : Int) := by
    unfold ishr; rw [Int.fdiv_eq_ediv_of_nonneg _ (by decide), IntKind.wrap_u8]; simp [IntKind.bits]; omega
  have w2 : IntKind.u8.wrap (n : Int) = ((n % 256 : Nat) : Int) := by
    rw [IntKind.wrap_u8]; omega
  have b3 := byteL_set b2 (2 * q) (z := n / 256) (by omega)
  have b4 := byteL_set b3 (2 * q + 1) (z := n % 256) (by omega)
  have hz := sum_zero hb hq n hn2 hn
  have z0 : (AV.int IntKind.u8 0) = .int .u8 ((0 : Nat) : Int) := rfl
  refine book_ok.pth (by kernel_rfl) sp13_ok (p13 a xs _ ?_ ?_ ?_ ?_ ?_ ?_ ?_ ?_ ?_ ?_ ?_ ?_ ?_ ?_ ?_ ?_ ?_ ?_ ?_ ?_ ?_ ?_ ?_ ?_ ?_ ?_)
  · intro _; rfl
  · intro _ _; rfl
  · intro _ _; exact okS xs hb hhi
  · intro _ _ h; simp [ieq] at h
  · intro _ _ _ h; rw [ilt_iff] at h; have := (rng xs).1; omega
  · intro _ _ _ _ h; rw [ilt_iff] at h; have := (rng xs).2; omega
  · intro _ _ _ _ _; exact quo hlo hhi
  · intro _ _ _ _ _; rw [Nat.ble_eq]; omega
  · intro _ _ _ _ _; rw [Nat.ble_eq]; omega
  · intro _ _ _ _ _
    cases xs with
    | nil => simp at hlo
    | cons _ _ => rfl
  · intro _ _ _ _ _; rw [hi]; exact inR_iff.2 ⟨by omega, by omega⟩
  · intro _ _ _ _ _; rw [hi, Int.toNat_natCast]; exact byteL_has hb (by omega)
  · intro _ _ _ _ _
    have h := byteL_scal hb
    unfold p13_c4
    simp only [AS.ownOk, List.all_cons, List.all_nil, AV.ownOk, h, Bool.and_self, Bool.and_true, Bool.true_and]
  · intro _ _ _ _ _; rw [hi, hi1, Int.toNat_natCast, setAt1, z0, l1]; exact inR_iff.2 ⟨by omega, by omega⟩
  · intro _ _ _ _ _; rw [hi, hi1, Int.toNat_natCast, Int.toNat_natCast, setAt1, z0]; exact byteL_has b1 (by omega)
  · intro _ _ _ _ _
    have h := byteL_scal b1
    unfold p13_c7
    rw [hi, Int.toNat_natCast, setAt1, z0]
    simp only [AS.ownOk, List.all_cons, List.all_nil, AV.ownOk, h, Bool.and_self, Bool.and_true, Bool.true_and]
  · intro _ _ _ _ _
    unfold p13_c8
    simp only [AV.elems]
    rw [hi, hi1, Int.toNat_natCast, Int.toNat_natCast, setAt1, setAt1, z0]
    exact okS _ b2 (by simpa using hhi)
  · intro _ _ _ _ _; rw [hi, hi1, Int.toNat_natCast, Int.toNat_natCast, setAt1, setAt1, z0, l2]; exact inR_iff.2 ⟨by omega, by omega⟩
  · intro _ _ _ _ _; rw [hi, hi1, Int.toNat_natCast, Int.toNat_natCast, setAt1, setAt1, z0]; exact byteL_has b2 (by omega)
  · intro _ _ _ _ _
    have h := byteL_scal b2
    unfold p13_c11
    rw [hi, hi1, Int.toNat_natCast, Int.toNat_natCast, setAt1, setAt1, z0]
    simp only [AS.ownOk, List.all_cons, List.all_nil, AV.ownOk, h, Bool.and_self, Bool.and_true, Bool.true_and]
  · intro _ _ _ _ _
    unfold p13_c12
    simp only [AV.elems]
    simp only [hi, hi1, Int.toNat_natCast, setAt1]
    rw [z0, ← hn, w1]
    exact inR_iff.2 ⟨by omega, by simp; omega⟩
  · intro _ _ _ _ _
    unfold p13_c13
    simp only [AV.elems]
    simp only [hi, hi1, Int.toNat_natCast, setAt1]
    rw [z0, ← hn, w1]
    exact byteL_has b3 (by simp; omega)
  · intro _ _ _ _ _
    have h := byteL_scal b3
    unfold p13_c14
    simp only [AV.elems]
    simp only [hi, hi1, Int.toNat_natCast, setAt1]
    rw [z0, ← hn, w1]
    simp only [AS.ownOk, List.all_cons, List.all_nil, AV.ownOk, h, Bool.and_self, Bool.and_true, Bool.true_and]
  · intro _ _ _ _ _
    unfold p13_c15
    simp only [AV.elems]
    simp only [hi, hi1, Int.toNat_natCast, setAt1]
    rw [z0, ← hn, w1, w2]
    exact okS _ b4 (by simpa using hhi)
  · intro _ _ _ _ _ _
    simp only [AV.elems]
    simp only [hi, hi1, Int.toNat_natCast, setAt1]
    rw [z0, ← hn, w1, w2, hz]
    rfl
  · intro _ _ _ _ _ h
    simp only [AV.elems] at h
    simp only [hi, hi1, Int.toNat_natCast, setAt1] at h
    rw [z0, ← hn, w1, w2, hz] at h
    cases h

theorem cPacketSums {xs : List AV} {a : Int} (hx : ∀ x ∈ xs, TyE false [.int .u8] x) (hl : xs.length ≤ maxLen) (ha : IntKind.u16.min ≤ a ∧ a ≤ IntKind.u16.max) : CallsA Try.prog 13 [.sl 1 xs .sh, .int .u16 a] [] (.bool true) [] :=
  c13 (tyb_bytes hx) (okL_iff.1 (okL_ty hx hl)).2 ha.1 ha.2
end Go.Proofs.Ytdcijmigoefnjaa
