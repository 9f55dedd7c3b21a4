/- Chapter 10: the laws' calls. -/
import Derived.Test.YtdcijmigoefnjaaPlO
import Derived.Test.YtdcijmigoefnjaaP10c
import Derived.Test.YtdcijmigoefnjaaL04c
set_option linter.unusedVariables false
set_option linter.unusedSimpArgs false
set_option maxRecDepth 100000
set_option maxHeartbeats 0
namespace Go.Proofs.Ytdcijmigoefnjaa
open Go Go.Ev

theorem byK {α : Type} {a b c : α} (h : a = b) (k : b = c) : a = c := h.trans k
theorem s80 : SumTOk Try.prog 80 S80 := sumW_ok fun x hx => by
  simp only [Bool.and_eq_true, smallB, Nat.ble_eq, Bool.not_eq_true'] at hx
  cases x with
  | nil => exact (by simp at hx)
  | cons v xs =>
    have hl : (v :: xs).length ≤ 70368744177664 := hx.1
    exact book_ok.pth (by kernel_rfl) noSpec_ok (p80 v xs _ (bleB' (by omega)) (bleB' (by omega)) rfl)
theorem awake10 : book.mix (specS spC) 1000 8 64 [] [] = some (.bool true, []) := by kernel_rfl
theorem s64 : SumTOk Try.prog 64 (sumOf (g0 (.bool true))) := g0_ok (Book.mix_ok book_ok (specS_ok spC_ok) 1000 8 64 _ [] _ [] awake10)
theorem S62_eq : S62l true = S62 := by kernel_rfl
theorem S74_eq : S74l true = S74 := by kernel_rfl
theorem sp10_ok : SpecTL Try.prog (sp10 true) := ⟨S62_eq ▸ s62, S62_eq ▸ s63, S74_eq ▸ s74, S74_eq ▸ s75, s65, s76, s66, s77, s78, s79, s59, s80, s67, s68, s64, trivial⟩

theorem ieq_self (a : Int) : ieq a a = true := by simp [ieq]
theorem enc_bytes {x : XO} (hr : rightO x = true) (hi : inO x = true) : byteL (encL x) ∧ (encL x).length ≤ 36 := by
  have hf := right_f hr
  rw [encL_eq hf]
  obtain ⟨f, m, v, k⟩ := x
  simp only [inO, Bool.and_eq_true] at hi
  have hform : ieq (formO (f, m, v, k)) 0 = true := by unfold rightO at hr; simp only [Bool.and_eq_true] at hr; exact hr.2.2
  obtain ⟨hbv, hbk⟩ := form_zero hform
  have n1 := idNum_range hf m
  have n2 := bodyN_range hf m
  have l1 := putL_lenI hf v
  have l2 := putL_lenI hf k
  have hz := sz_range hf
  simp only at *
  have isb : ∀ n : Int, 0 ≤ n → n < 256 → isByte (.int .u8 n) := fun n h1 h2 => ⟨n.toNat, by omega, by rw [Int.toNat_of_nonneg h1]⟩
  constructor
  · intro y hy
    simp only [List.mem_cons] at hy
    rcases hy with rfl | rfl | rfl | rfl | hy
    · exact isb _ (by omega) (by omega)
    · exact isb _ (by omega) (by omega)
    · exact isb _ n1.1 n1.2
    · exact isb _ n2.1 (by omega)
    · unfold bodyL at hy
      rcases List.mem_append.1 hy with hy | hy
      · exact putL_bytes hf hi.1 hbv y hy
      · cases m with
        | false => cases hy
        | true => exact putL_bytes hf hi.2 (hbk rfl) y hy
  · simp only [List.length_cons]
    unfold bodyL
    cases m
    · simp only [cond_false, List.append_nil]; omega
    · simp only [cond_true, List.length_append]; omega
theorem lenB_small {xs : List AV} (h : xs.length ≤ 1000000) : lenB xs = true := by unfold lenB; rw [Nat.ble_eq]; omega

theorem c10 {xs : List AV} (hb : byteL xs) (hl : lenB xs = true) : CallsA Try.prog 10 [.sl 1 xs .sh] [] (.bool true) [] := by
  have h0 : (bytB xs && lenB xs) = true := by rw [bytB_iff.2 hb, hl]; rfl
  refine book_ok.pth (by kernel_rfl) sp10_ok (p10 true xs _ h0 ?_ ?_ ?_ ?_ ?_)
  all_goals (intros; simp [ieq_self])

theorem c15 {x y : XO} (hi : inO x = true) : CallsA Try.prog 15 [oxA x, oxA y] [] (.bool true) [] := by
  obtain ⟨f, m, ⟨a, b⟩, c, d⟩ := x
  refine book_ok.pth (by kernel_rfl) sp10_ok (p15 true f a b c d m y _ hi ?_ ?_ ?_ ?_ ?_ ?_ ?_ ?_ ?_ ?_)
  · intro hr
    obtain ⟨h1, h2⟩ := enc_bytes hr hi
    exact byK (b := (intsA .u8 (encL (f, m, (a, b), c, d)) && (intsA .u8 (encL (f, m, (a, b), c, d)) && (lenB (encL (f, m, (a, b), c, d)) && lenB (encL (f, m, (a, b), c, d)))))) (by kernel_rfl) (by rw [byteL_int h1, lenB_small (by omega)]; rfl)
  · intro hr; exact eqA_self _
  · intros; simp
  · intros; simp [ieq_self]
  · intros; simp
  · intros; simp [ieq_self, eqA_self]
  · intros; simp
  · intros; simp [ieq_self]
  · intros; simp
  · intros; simp [ieq_self]

theorem and_or {v m a : Int} (hv : inU v = true) (hm : inU m = true) (h1 : ieq (ibits .and .u64 v m) a = true) (h2 : ieq (ibits .andNot .u64 v m) 0 = true) : ieq v a = true := by
  rw [inU_iff] at hv hm
  obtain ⟨p, rfl⟩ : ∃ p : Nat, v = p := ⟨v.toNat, by omega⟩
  obtain ⟨n, rfl⟩ : ∃ n : Nat, m = n := ⟨m.toNat, by omega⟩
  rw [ibits_eq] at h1 h2
  simp only [ieq, beq_iff_eq] at h1 h2 ⊢
  have h1 : IntKind.u64.wrap ((BitVec.ofInt 64 (p : Int) &&& (BitVec.ofInt 64 (n : Int))).toNat : Int) = a := h1
  have h2 : IntKind.u64.wrap ((BitVec.ofInt 64 (p : Int) &&& ~~~ (BitVec.ofInt 64 (n : Int))).toNat : Int) = 0 := h2
  rw [IntKind.wrap_u64] at h1 h2
  generalize hx : BitVec.ofInt 64 (p : Int) = x at h1 h2
  generalize BitVec.ofInt 64 (n : Int) = y at h1 h2
  have hxm : x.toNat = p := by rw [← hx, BitVec.ofInt_natCast, BitVec.toNat_ofNat, Nat.mod_eq_of_lt (by omega)]
  have hlt := (x &&& ~~~ y).isLt
  have hlt2 := (x &&& y).isLt
  have h0 : (x &&& ~~~ y).toNat = 0 := by omega
  have hz : x &&& ~~~ y = 0#64 := BitVec.eq_of_toNat_eq (by rw [h0]; rfl)
  have hor : x &&& y = x := by
    apply BitVec.eq_of_getLsbD_eq
    intro i hi
    have := congrArg (fun b => b.getLsbD i) hz
    simp only [BitVec.getLsbD_and, BitVec.getLsbD_not, hi, decide_true, Bool.true_and, BitVec.getLsbD_zero] at this
    rw [BitVec.getLsbD_and]
    cases hx' : x.getLsbD i <;> cases hy' : y.getLsbD i <;> simp_all
  rw [hor] at h1
  omega

theorem c11 {x : XO} (hi : inO x = true) {v w : Int} (hv : inU v = true) (hw : inU w = true) : CallsA Try.prog 11 [oxA x, wA (v, w)] [] (.bool true) [] := by
  obtain ⟨f, m, ⟨a, b⟩, c, d⟩ := x
  have fr : ∀ m, (!rightO (f, m, (a, b), c, d)) = false → isF f = true := fun m k => right_f (x := (f, m, (a, b), c, d)) (by simpa using k)
  cases m with
  | true =>
    have tr : (!rightO (f, true, (a, b), c, d)) = false → ternO (f, true, (a, b), c, d) = ((a, b), (c, d)) := fun k => by unfold ternO; rw [fr true k]; rfl
    have q3 : (!rightO (f, true, (a, b), c, d)) = false → (ieq (ibits .andNot .u64 a c) 0 && (ieq (ibits .andNot .u64 b d) 0 && true)) = true := fun k => by
      have hr : rightO (f, true, (a, b), c, d) = true := by simpa using k
      have hform : ieq (formO (f, true, (a, b), c, d)) 0 = true := by unfold rightO at hr; simp only [Bool.and_eq_true] at hr; exact hr.2.2
      unfold formO at hform
      simp only [Bool.not_true, cond_false] at hform
      have hz : zeroW (lessW (a, b) (c, d)) = true := by
        cases hq : zeroW (lessW (a, b) (c, d)) with
        | true => rfl
        | false =>
          rw [hq] at hform
          cases h1 : beyond f (a, b) <;> rw [h1] at hform
          · cases h2 : (bif beyond f (c, d) then true else zeroW (c, d)) <;> rw [h2] at hform <;> cases hform
          · cases hform
      simp only [zeroW, lessW, Bool.and_eq_true] at hz
      rw [hz.1, hz.2]; rfl
    refine book_ok.pth (by kernel_rfl) sp10_ok (p11t true f a b c d v w _ hi (fun _ => rfl) ?_ ?_ ?_)
    · intro k; rw [tr k]; simp [ieq_self]
    · intro k; rw [tr k]; exact q3 k
    · intro k; rw [tr k]; simp only; rw [q3 k]; simp [ieq_self]
  | false =>
    have tr : (!rightO (f, false, (a, b), c, d)) = false → ternO (f, false, (a, b), c, d) = ((a, b), allW f) := fun k => by unfold ternO; rw [fr false k]; rfl
    have q5 : (!rightO (f, false, (a, b), c, d)) = false → (!(ieq (ibits .and .u64 v (allW f).1) a && (ieq (ibits .and .u64 w (allW f).2) b && true))) = false → (!(ieq (ibits .andNot .u64 v (allW f).1) 0 && (ieq (ibits .andNot .u64 w (allW f).2) 0 && true))) = false → (ieq v a && (ieq w b && true)) = true := fun k h1 h2 => by
      have ha := all_in (fr false k)
      simp only [inW, Bool.and_eq_true] at ha
      simp only [Bool.not_eq_false', Bool.and_eq_true] at h1 h2
      rw [and_or hv ha.1 h1.1 h2.1, and_or hw ha.2 h1.2.1 h2.2.1]; rfl
    refine book_ok.pth (by kernel_rfl) sp10_ok (p11f true f a b c d v w _ hi (fun _ => rfl) ?_ ?_ ?_ ?_ ?_)
    · intro k; rw [tr k]; simp [ieq_self]
    · intro k; rw [tr k]; intros; simp [ieq_self]
    · intro k; rw [tr k]; intros; simp [ieq_self]
    · intro k; rw [tr k]; exact q5 k
    · intro k; rw [tr k]; intro h1 h2; have := q5 k h1 h2; simp only; rw [this]; simp [ieq_self]

theorem c16 {x : XO} (hi : inO x = true) {xs : List AV} (hb : byteL xs) (hl : lenB xs = true) : CallsA Try.prog 16 [oxA x, .sl 1 xs .sh] [] (.bool true) [] := by
  obtain ⟨f, m, ⟨a, b⟩, c, d⟩ := x
  have h0 : (bytB xs && lenB xs) = true := by rw [bytB_iff.2 hb, hl]; rfl
  generalize hx : (f, m, (a, b), c, d) = x at hi
  have l63 : (xs.length : Int) ≤ 9223372036854775807 := by have := hl; unfold lenB at this; rw [Nat.ble_eq] at this; omega
  have mn : inR (bif ilt 8 (xs.length : Int) then 8 else (xs.length : Int)) (xs.length + 1) = true := by
    cases hq : ilt 8 (xs.length : Int)
    · exact inR_iff.2 ⟨by simp only [cond_false]; omega, by simp only [cond_false]; omega⟩
    · rw [ilt_iff] at hq; exact inR_iff.2 ⟨by simp, by simp only [cond_true]; omega⟩
  have tk : ∀ n, byteL (List.take n xs) := fun n y hy => hb y (List.mem_of_mem_take hy)
  have tl : ∀ n, ((List.take n xs).length) ≤ n := fun n => by rw [List.length_take]; omega
  have m8 : ((bif ilt 8 (xs.length : Int) then 8 else (xs.length : Int)).toNat - 0) ≤ 8 := by
    cases hq : ilt 8 (xs.length : Int)
    · rw [ilt_no] at hq; simp only [cond_false]; omega
    · simp
  generalize ht : List.take ((bif ilt 8 (xs.length : Int) then 8 else (xs.length : Int)).toNat - 0) xs = t
  have tb : byteL t := by rw [← ht]; exact tk _
  have tn : t.length ≤ 8 := by rw [← ht]; exact Nat.le_trans (tl _) m8
  have dd : ieq (decCode xs) 0 = true → inO (decX xs) = true ∧ rightO (decX xs) = true ∧ ile (4 + byN xs 3) (xs.length : Int) = true ∧ inR (4 + byN xs 3) (xs.length + 1) = true ∧ encL (decX xs) = List.take ((4 + byN xs 3).toNat - 0) xs := fun h => by
    simp only [ieq, beq_iff_eq] at h
    obtain ⟨h1, h2, h3, h4⟩ := enc_dec hb h
    refine ⟨?_, h1, ile_iff'.2 (by omega), inR_iff.2 ⟨by omega, by omega⟩, h2⟩
    unfold inO decX valX
    simp only [inW_get, Bool.true_and]
    cases hdM xs
    · rfl
    · exact inW_get _ _
  have q11 : ieq (decCode xs) 0 = true → (intsA .u8 (encL (decX xs)) && (intsA .u8 (List.take ((4 + byN xs 3).toNat - 0) xs) && (lenB (encL (decX xs)) && lenB (List.take ((4 + byN xs 3).toNat - 0) xs)))) = true := fun h => by
    obtain ⟨_, _, _, _, h5⟩ := dd h
    have h6 : intsA .u8 (List.take ((4 + byN xs 3).toNat - 0) xs) = true := byteL_int (tk _)
    have h7 : lenB (List.take ((4 + byN xs 3).toNat - 0) xs) = true := by unfold lenB; rw [Nat.ble_eq, List.length_take]; omega
    rw [h5, h6, h7]; rfl
  have q15 : ieq (decCode xs) 0 = true → eqA (encL (decX xs)) (List.take ((4 + byN xs 3).toNat - 0) xs) = true := fun h => by
    obtain ⟨_, _, _, _, h5⟩ := dd h
    rw [h5]; exact eqA_self _
  have q16 : ieq (decCode xs) 0 = true → (AV.bool (bif bif ile (4 + byN xs 3) (xs.length : Int) then eqA (encL (decX xs)) (List.take ((4 + byN xs 3).toNat - 0) xs) else false then true else false), ([] : List (List AV))) = (AV.bool true, []) := fun h => by
    rw [(dd h).2.2.1, q15 h]; rfl
  have r0 : rightO x = true → (smallB (encL x) && !(encL x).isEmpty) = true := fun hr => by
    have := (enc_bytes hr hi).2
    have e := encL_eq (right_f hr)
    have h2 : (encL x).isEmpty = false := by rw [e]; rfl
    rw [h2]; simp only [smallB, Bool.not_false, Bool.and_true, Nat.ble_eq]; omega
  have r3 : rightO x = true → (bytB (encL x ++ t) && lenB (encL x ++ t)) = true := fun hr => by
    obtain ⟨h1, h2⟩ := enc_bytes hr hi
    have h3 : byteL (encL x ++ t) := fun y hy => (List.mem_append.1 hy).elim (h1 y) (tb y)
    rw [bytB_iff.2 h3, lenB_small (by rw [List.length_append]; omega)]; rfl
  have r4 : rightO x = true → ieq (decCode (encL x ++ t)) 0 = true := fun hr => by rw [(dec_enc hr hi tb).1]; rfl
  have r5 : rightO x = true → decX (encL x ++ t) = x := fun hr => (dec_enc hr hi tb).2.1
  have r6 : rightO x = true → (!ieq (4 + byN (encL x ++ t) 3) ((encL x).length : Int)) = false := fun hr => by rw [(dec_enc hr hi tb).2.2, ieq_self]; rfl
  have r7 : rightO x = true → (!(ieq (decX (encL x ++ t)).1 f && ((decX (encL x ++ t)).2.1 == m && ((ieq (decX (encL x ++ t)).2.2.1.1 a && (ieq (decX (encL x ++ t)).2.2.1.2 b && true)) && ((ieq (decX (encL x ++ t)).2.2.2.1 c && (ieq (decX (encL x ++ t)).2.2.2.2 d && true)) && true))))) = false := fun hr => by
    rw [r5 hr, ← hx]; simp [ieq_self]
  have g3 : rightO x = true → Nat.ble (((encL x).length + t.length) * 1) 140737488355328 = true := fun hr => bleB' (by have := (enc_bytes hr hi).2; omega)
  have g4 : rightO x = true → Nat.ble ((encL x).length + t.length) 140737488355328 = true := fun hr => bleB' (by have := (enc_bytes hr hi).2; omega)
  subst hx
  subst ht
  refine book_ok.pth (by kernel_rfl) sp10_ok (p16 true f a b c d m xs _ hi (fun h => byK (by kernel_rfl) (r0 h)) (fun _ => mn) (fun h => byK (by kernel_rfl) (g3 h)) (fun h => byK (by kernel_rfl) (g4 h)) (fun h => byK (by kernel_rfl) (r3 h)) (fun h => byK (by kernel_rfl) (r4 h)) (fun h => byK (by kernel_rfl) (r7 h)) (fun h => byK (by kernel_rfl) (r6 h)) (fun _ => h0)
    (fun _ k => byK (by kernel_rfl) (dd k).1) (fun _ k => byK (by kernel_rfl) (dd k).2.1) (fun _ k => (dd k).2.2.1) (fun _ k => (dd k).2.2.2.1) (fun _ k => byK (by kernel_rfl) (q11 k)) (fun _ k => byK (by kernel_rfl) (q15 k)) (fun _ k => byK (by kernel_rfl) (q16 k)) (fun _ _ => rfl) (fun _ => h0)
    (fun _ k => byK (by kernel_rfl) (dd k).1) (fun _ k => byK (by kernel_rfl) (dd k).2.1) (fun _ k => (dd k).2.2.1) (fun _ k => (dd k).2.2.2.1) (fun _ k => byK (by kernel_rfl) (q11 k)) (fun _ k => byK (by kernel_rfl) (q15 k)) (fun _ k => byK (by kernel_rfl) (q16 k)) (fun _ _ => rfl))


theorem tyb_bytes {xs : List AV} (hx : ∀ x ∈ xs, TyE false [.int .u8] x) : byteL xs := fun x hm => by
  obtain ⟨l, e, h⟩ := hx x hm
  cases e
  obtain ⟨n, rfl, h1, h2⟩ := h
  have h1 : 0 ≤ n := h1
  have h2 : n ≤ 255 := h2
  exact ⟨n.toNat, by omega, by rw [Int.toNat_of_nonneg h1]⟩
theorem tyb_len {xs : List AV} (hl : xs.length ≤ maxLen) : lenB xs = true := by
  unfold lenB; rw [Nat.ble_eq]; exact hl
theorem tyu {n : Int} (h1 : IntKind.u64.min ≤ n) (h2 : n ≤ IntKind.u64.max) : inU n = true := by
  have h1 : 0 ≤ n := h1
  have h2 : n ≤ 18446744073709551615 := h2
  rw [inU_iff]; omega
theorem tyl_cons {x : Lf} {ls : List Lf} {l : List AV} (h : TyL (x :: ls) l) : ∃ (a : AV) (l' : List AV), l = a :: l' ∧ TyA x a ∧ TyL ls l' := by
  cases l with
  | nil => exact h.elim
  | cons a l' => exact ⟨a, l', rfl, h.1, h.2⟩
theorem tyl_nil {l : List AV} (h : TyL [] l) : l = [] := by
  cases l with
  | nil => rfl
  | cons a l' => exact h.elim
theorem oxm_of {l : List AV} (h : TyL [.int .i64, .bool, .int .u64, .int .u64, .int .u64, .int .u64] l) : ∃ x : XO, AV.agg l = oxA x ∧ inO x = true := by
  obtain ⟨_, l1, rfl, ⟨f, rfl, _⟩, h1⟩ := tyl_cons h
  obtain ⟨_, l2, rfl, ⟨m, rfl⟩, h2⟩ := tyl_cons h1
  obtain ⟨_, l3, rfl, ⟨a, rfl, a1, a2⟩, h3⟩ := tyl_cons h2
  obtain ⟨_, l4, rfl, ⟨b, rfl, b1, b2⟩, h4⟩ := tyl_cons h3
  obtain ⟨_, l5, rfl, ⟨c, rfl, c1, c2⟩, h5⟩ := tyl_cons h4
  obtain ⟨_, l6, rfl, ⟨d, rfl, d1, d2⟩, h6⟩ := tyl_cons h5
  obtain rfl := tyl_nil h6
  refine ⟨(f, m, (a, b), (c, d)), rfl, ?_⟩
  unfold inO inW
  simp only [tyu a1 a2, tyu b1 b2, tyu c1 c2, tyu d1 d2]; rfl
theorem wide_of' {l : List AV} (h : TyL [.int .u64, .int .u64] l) : ∃ v : Int × Int, AV.agg l = wA v ∧ inU v.1 = true ∧ inU v.2 = true := by
  obtain ⟨_, l1, rfl, ⟨m, rfl, m1, m2⟩, h1⟩ := tyl_cons h
  obtain ⟨_, l2, rfl, ⟨n, rfl, n1, n2⟩, h2⟩ := tyl_cons h1
  obtain rfl := tyl_nil h2
  exact ⟨(m, n), rfl, tyu m1 m2, tyu n1 n2⟩
theorem cOxmDecodes {xs : List AV} (hx : ∀ x ∈ xs, TyE false [.int .u8] x) (hl : xs.length ≤ maxLen) : CallsA Try.prog 10 [.sl 1 xs .sh] [] (.bool true) [] := c10 (tyb_bytes hx) (tyb_len hl)
theorem cOxmCounts {o v : List AV} (ho : TyL [.int .i64, .bool, .int .u64, .int .u64, .int .u64, .int .u64] o) (hv : TyL [.int .u64, .int .u64] v) : CallsA Try.prog 11 [.agg o, .agg v] [] (.bool true) [] := by
  obtain ⟨x, e, h⟩ := oxm_of ho
  obtain ⟨w, e2, h2, h3⟩ := wide_of' hv
  rw [e, e2]; exact c11 h h2 h3
theorem cOxmEncodes {o p : List AV} (ho : TyL [.int .i64, .bool, .int .u64, .int .u64, .int .u64, .int .u64] o) (hp : TyL [.int .i64, .bool, .int .u64, .int .u64, .int .u64, .int .u64] p) : CallsA Try.prog 15 [.agg o, .agg p] [] (.bool true) [] := by
  obtain ⟨x, e, h⟩ := oxm_of ho
  obtain ⟨y, e2, _⟩ := oxm_of hp
  rw [e, e2]; exact c15 h
theorem cOxmBack {o xs : List AV} (ho : TyL [.int .i64, .bool, .int .u64, .int .u64, .int .u64, .int .u64] o) (hx : ∀ x ∈ xs, TyE false [.int .u8] x) (hl : xs.length ≤ maxLen) : CallsA Try.prog 16 [.agg o, .sl 1 xs .sh] [] (.bool true) [] := by
  obtain ⟨x, e, h⟩ := oxm_of ho
  rw [e]; exact c16 h (tyb_bytes hx) (tyb_len hl)

end Go.Proofs.Ytdcijmigoefnjaa
