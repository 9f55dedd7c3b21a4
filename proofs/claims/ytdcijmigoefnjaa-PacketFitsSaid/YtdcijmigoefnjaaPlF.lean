/- Chapter 45: what a frame tells fits its fields. -/
import Derived.Test.YtdcijmigoefnjaaL45e
import Derived.Test.YtdcijmigoefnjaaD45f
set_option linter.unusedVariables false
set_option linter.unusedSimpArgs false
set_option maxRecDepth 100000
set_option maxHeartbeats 0
namespace Go.Proofs.Ytdcijmigoefnjaa
open Go Go.Ev

/-- no bits beyond the mask -/
def Fit (k : Nat → Int) : Prop := ∀ c, c < 48 → ibits .and .u64 (k c) (maskTab.getD c 0) = k c
def FitV (f : Nat) (v : Int × Int) : Prop := ibits .and .u64 v.1 (maskTab.getD (2 * f) 0) = v.1 ∧ ibits .and .u64 v.2 (maskTab.getD (2 * f + 1) 0) = v.2
theorem fit_set {k : Nat → Int} {f : Nat} {v : Int × Int} (hk : Fit k) (hv : FitV f v) : Fit (setK k f v) := by
  intro c hc
  unfold setK
  cases h : Nat.beq (c / 2) f with
  | false => exact hk c hc
  | true =>
    have e : c / 2 = f := Nat.eq_of_beq_eq_true h
    simp only [cond_true]
    cases h2 : Nat.beq (c % 2) 0 with
    | true =>
      have e2 : c % 2 = 0 := Nat.eq_of_beq_eq_true h2
      obtain rfl : c = 2 * f := by omega
      exact hv.1
    | false =>
      have e2 : c % 2 ≠ 0 := Nat.ne_of_beq_eq_false h2
      obtain rfl : c = 2 * f + 1 := by omega
      exact hv.2
theorem andU {n : Int} {m : Nat} (hm : m ≤ 64) (h0 : 0 ≤ n) (h1 : n < ((2 ^ m : Nat) : Int)) : ibits .and .u64 n ((2 ^ m - 1 : Nat) : Int) = n := by
  obtain ⟨k, rfl⟩ : ∃ k : Nat, n = k := ⟨n.toNat, by omega⟩
  have hp : 2 ^ m ≤ 2 ^ 64 := Nat.pow_le_pow_right (by decide) hm
  have hp0 := Nat.two_pow_pos m
  have hk : k < 2 ^ m := by exact_mod_cast h1
  have hk2 : k < 2 ^ 64 := by omega
  rw [ibits_eq]
  show IntKind.u64.wrap _ = _
  have e : (BitVec.ofInt IntKind.u64.bits (k : Int) &&& BitVec.ofInt IntKind.u64.bits ((2 ^ m - 1 : Nat) : Int)).toNat = k := by
    show (BitVec.ofInt 64 (k : Int) &&& BitVec.ofInt 64 ((2 ^ m - 1 : Nat) : Int)).toNat = _
    rw [BitVec.toNat_and, BitVec.ofInt_natCast, BitVec.ofInt_natCast, BitVec.toNat_ofNat, BitVec.toNat_ofNat, Nat.mod_eq_of_lt hk2, Nat.mod_eq_of_lt (by omega), Nat.and_two_pow_sub_one_eq_mod k m, Nat.mod_eq_of_lt hk]
  rw [e, IntKind.wrap_u64]; omega
theorem and0 : ibits .and .u64 0 0 = 0 := by kernel_rfl
theorem fitv {f m : Nat} {v : Int} (e1 : maskTab.getD (2 * f) 0 = 0) (e2 : maskTab.getD (2 * f + 1) 0 = ((2 ^ m - 1 : Nat) : Int)) (hm : m ≤ 64) (h0 : 0 ≤ v) (h1 : v < ((2 ^ m : Nat) : Int)) : FitV f (0, v) := by
  refine ⟨?_, ?_⟩
  · rw [e1]; exact and0
  · rw [e2]; exact andU hm h0 h1
theorem fit_zero : Fit zeroK := fun c hc => by
  obtain ⟨m, q1, q2⟩ : ∃ m : Nat, maskTab.getD c 0 = m ∧ m < 2 ^ 64 := by
    have h : ((List.range 48).all fun c => ile 0 (maskTab.getD c 0) && ilt (maskTab.getD c 0) 18446744073709551616) = true := by kernel_rfl
    have := List.all_eq_true.1 h c (List.mem_range.2 hc)
    simp only [Bool.and_eq_true, ile_iff', ilt_iff] at this
    exact ⟨(maskTab.getD c 0).toNat, by omega, by omega⟩
  show ibits .and .u64 0 _ = 0
  rw [q1, ibits_eq]
  show IntKind.u64.wrap _ = _
  have e : (BitVec.ofInt IntKind.u64.bits (0 : Int) &&& BitVec.ofInt IntKind.u64.bits (m : Int)).toNat = 0 := by
    show (BitVec.ofInt 64 ((0 : Nat) : Int) &&& BitVec.ofInt 64 (m : Int)).toNat = _
    rw [BitVec.toNat_and, BitVec.ofInt_natCast, BitVec.ofInt_natCast, BitVec.toNat_ofNat, BitVec.toNat_ofNat]
    simp
  rw [e]; rfl

structure FitB (b : B6) : Prop where
  p : 0 ≤ b.1 ∧ b.1 < 4294967296
  t : FitV 2 b.2.1
  f : FitV 3 b.2.2.1
  y : FitV 4 b.2.2.2.1
  v : 0 ≤ b.2.2.2.2.1 ∧ b.2.2.2.2.1 < 8192
  r : 0 ≤ b.2.2.2.2.2 ∧ b.2.2.2.2.2 < 8
theorem fit_base {b : B6} (h : FitB b) : Fit (baseK b) := by
  unfold baseK
  refine fit_set (fit_set (fit_set (fit_set (fit_set (fit_set fit_zero ?_) h.t) h.f) h.y) ?_) ?_
  · exact fitv (m := 32) (by kernel_rfl) (by kernel_rfl) (by omega) h.p.1 (by have := h.p; omega)
  · exact fitv (m := 13) (by kernel_rfl) (by kernel_rfl) (by omega) h.v.1 (by have := h.v; omega)
  · exact fitv (m := 3) (by kernel_rfl) (by kernel_rfl) (by omega) h.r.1 (by have := h.r; omega)
structure FitP (four : Bool) (p : P5) : Prop where
  a : 0 ≤ p.1 ∧ p.1 < 64
  b : 0 ≤ p.2.1 ∧ p.2.1 < 4
  c : 0 ≤ p.2.2.1 ∧ p.2.2.1 < 256
  d : FitV (bif four then 10 else 21) p.2.2.2.1
  e : FitV (bif four then 11 else 22) p.2.2.2.2
theorem fit_ip {b : B6} {four : Bool} {p : P5} (h : FitB b) (hp : FitP four p) : Fit (ipK b four p) := by
  unfold ipK
  refine fit_set (fit_set (fit_set (fit_set (fit_set (fit_base h) ?_) ?_) ?_) hp.d) hp.e
  · exact fitv (m := 6) (by kernel_rfl) (by kernel_rfl) (by omega) hp.a.1 (by have := hp.a; omega)
  · exact fitv (m := 2) (by kernel_rfl) (by kernel_rfl) (by omega) hp.b.1 (by have := hp.b; omega)
  · exact fitv (m := 8) (by kernel_rfl) (by kernel_rfl) (by omega) hp.c.1 (by have := hp.c; omega)
theorem fit_within {k : Nat → Int} {four : Bool} {pr : Int} {xs : List AV} (h : okL xs = true) (hk : Fit k) : Fit (withinK k four pr xs) := by
  have a0 := nv2 h 0
  have a1 := nv2 h 2
  have a2 := nv1 h 0
  have a3 := nv1 h 1
  unfold withinK
  cases ieq pr 6 with
  | true => exact fit_set (fit_set hk (fitv (m := 16) (by kernel_rfl) (by kernel_rfl) (by omega) (by omega) (by omega))) (fitv (m := 16) (by kernel_rfl) (by kernel_rfl) (by omega) (by omega) (by omega))
  | false =>
    cases ieq pr 17 with
    | true => exact fit_set (fit_set hk (fitv (m := 16) (by kernel_rfl) (by kernel_rfl) (by omega) (by omega) (by omega))) (fitv (m := 16) (by kernel_rfl) (by kernel_rfl) (by omega) (by omega) (by omega))
    | false =>
      cases (bif ieq pr 1 then four else false) with
      | true => exact fit_set (fit_set hk (fitv (m := 8) (by kernel_rfl) (by kernel_rfl) (by omega) (by omega) (by omega))) (fitv (m := 8) (by kernel_rfl) (by kernel_rfl) (by omega) (by omega) (by omega))
      | false => exact hk
theorem fit_four {b : B6} {xs : List AV} (hb : FitB b) (h : okL xs = true) : Fit (fourK b xs) := by
  have a0 := nv1 h 1
  have a1 := nv1 h 9
  have a2 := nv4 h 12
  have a3 := nv4 h 16
  have hp : FitP true (fourP xs) := ⟨by unfold fourP; simp only; omega, by unfold fourP; simp only; omega, by unfold fourP; simp only; omega,
    fitv (m := 32) (by kernel_rfl) (by kernel_rfl) (by omega) (by omega) (by omega), fitv (m := 32) (by kernel_rfl) (by kernel_rfl) (by omega) (by omega) (by omega)⟩
  unfold fourK
  cases pieceB xs with
  | true => exact fit_ip hb hp
  | false => exact fit_within (okL_take (okL_drop h _) _) (fit_ip hb hp)
theorem wv_in (xs : List AV) (n : Nat) (h : okL xs = true) (hn : n ≤ 16) : (0 ≤ wvH xs n ∧ wvH xs n < 18446744073709551616) ∧ 0 ≤ wvL xs n ∧ wvL xs n < 18446744073709551616 := by
  have hb := (okL_iff.1 (okL_take h n)).1
  have := valB_lt _ hb
  have h2 : 256 ^ ((xs.take n).length) ≤ 256 ^ 16 := Nat.pow_le_pow_right (by decide) (by rw [List.length_take]; omega)
  have h3 : valB (xs.take n) < 256 ^ 16 := by omega
  unfold wvH wvL
  have h4 : valB (xs.take n) / 18446744073709551616 < 18446744073709551616 := by
    have : (256 : Nat) ^ 16 = 18446744073709551616 * 18446744073709551616 := by decide
    rw [this] at h3
    exact Nat.div_lt_of_lt_mul h3
  have h5 : valB (xs.take n) % 18446744073709551616 < 18446744073709551616 := Nat.mod_lt _ (by decide)
  omega
theorem fit_wide {f : Nat} {xs : List AV} (h : okL xs = true) (e1 : maskTab.getD (2 * f) 0 = ((2 ^ 64 - 1 : Nat) : Int)) (e2 : maskTab.getD (2 * f + 1) 0 = ((2 ^ 64 - 1 : Nat) : Int)) : FitV f (wv xs 16) := by
  obtain ⟨⟨a, b⟩, c, d⟩ := wv_in xs 16 h (by omega)
  unfold wv
  exact ⟨by rw [e1]; exact andU (by omega) a (by omega), by rw [e2]; exact andU (by omega) c (by omega)⟩
theorem fit_six {b : B6} {xs : List AV} (hb : FitB b) (h : okL xs = true) : Fit (sixK b xs) := by
  have a1 := nv1 h 6
  have q0 : 0 ≤ clsN xs ∧ clsN xs < 256 := by unfold clsN; omega
  have hp : FitP false (sixP xs) := ⟨by unfold sixP; simp only; omega, by unfold sixP; simp only; omega, by unfold sixP; simp only; omega,
    fit_wide (okL_drop h 8) (by kernel_rfl) (by kernel_rfl), fit_wide (okL_drop h 24) (by kernel_rfl) (by kernel_rfl)⟩
  exact fit_within (okL_take (okL_drop h _) _) (fit_ip hb hp)
theorem fit_arp {b : B6} {xs : List AV} (hb : FitB b) (h : okL xs = true) : Fit (arpK b xs) := by
  have a0 := nv2 h 6
  have a1 := nv4 h 14
  have a2 := nv4 h 24
  exact fit_set (fit_set (fit_set (fit_base hb) (fitv (m := 16) (by kernel_rfl) (by kernel_rfl) (by omega) (by omega) (by omega))) (fitv (m := 32) (by kernel_rfl) (by kernel_rfl) (by omega) (by omega) (by omega)))
    (fitv (m := 32) (by kernel_rfl) (by kernel_rfl) (by omega) (by omega) (by omega))
theorem fit_lab {b : B6} {xs : List AV} (hb : FitB b) (h : okL xs = true) : Fit (labK b xs) := by
  have a0 := nv4 h 0
  exact fit_set (fit_base hb) (fitv (m := 20) (by kernel_rfl) (by kernel_rfl) (by omega) (by omega) (by omega))
theorem fit_frm {b : B6} {xs : List AV} (hb : FitB b) (h : okL xs = true) : Fit (frmK b xs) := by
  have hr : okL (restX xs) = true := okL_drop h _
  unfold frmK
  cases ieq (typN xs) 2048 with
  | true => exact fit_four hb hr
  | false =>
  cases ieq (typN xs) 34525 with
  | true => exact fit_six hb hr
  | false =>
  cases ieq (typN xs) 2054 with
  | true => exact fit_arp hb hr
  | false =>
  cases (bif ieq (typN xs) 34887 then true else ieq (typN xs) 34888) with
  | true => exact fit_lab hb hr
  | false => exact fit_base hb
theorem port_in {n : Int} (hp : portB n = false) : 1 ≤ n ∧ n ≤ 4294967040 := by
  unfold portB at hp
  cases h1 : ilt n 1 with
  | true => rw [h1] at hp; cases hp
  | false =>
    rw [h1] at hp
    simp only [cond_false] at hp
    rw [ilt_no] at h1 hp; omega
theorem fit_par {n : Int} {xs : List AV} (hp : portB n = false) (h : okL xs = true) : Fit (parK n xs) := by
  have hn := port_in hp
  have a0 := nv6 h 0
  have a1 := nv6 h 6
  have a2 := nv2 h 14
  have ty : 0 ≤ typN xs ∧ typN xs < 65536 := by unfold typN; cases tagB xs <;> exact nv2 h _
  refine fit_frm ⟨by unfold frmB; simp only; omega, fitv (m := 48) (by kernel_rfl) (by kernel_rfl) (by omega) (by omega) (by omega), fitv (m := 48) (by kernel_rfl) (by kernel_rfl) (by omega) (by omega) (by omega),
    fitv (m := 16) (by kernel_rfl) (by kernel_rfl) (by omega) (by omega) (by omega), ?_, ?_⟩ h
  · unfold frmB; cases tagB xs <;> simp only [cond_true, cond_false] <;> omega
  · unfold frmB; cases tagB xs <;> simp only [cond_true, cond_false] <;> omega
end Go.Proofs.Ytdcijmigoefnjaa
