import Derived.Test.YtdcijmigoefnjaaL10b
import Derived.Test.YtdcijmigoefnjaaL10g
import Derived.Test.YtdcijmigoefnjaaEvLa
import Derived.Test.YtdcijmigoefnjaaD03
import Derived.Test.YtdcijmigoefnjaaP11f
import Derived.Test.YtdcijmigoefnjaaL11b
import Derived.Test.YtdcijmigoefnjaaPlB
/- Chapter 10: parts as bytes, and back: plain laws. -/
set_option linter.unusedVariables false
set_option linter.unusedSimpArgs false
set_option maxRecDepth 100000
namespace Go.Proofs.Ytdcijmigoefnjaa
open Go Go.Ev

theorem enc_all : ((List.range 24).all fun j => (ieq (ixOf (idNum (j : Int) true / 2)).1 j && ((ixOf (idNum (j : Int) true / 2)).2 && ieq (idNum (j : Int) true % 2) 1)) && ((ieq (ixOf (idNum (j : Int) false / 2)).1 j && ((ixOf (idNum (j : Int) false / 2)).2 && !ieq (idNum (j : Int) false % 2) 1)) &&
    Nat.blt ((allW (j : Int)).1.toNat * 18446744073709551616 + (allW (j : Int)).2.toNat) (256 ^ (sizeOf (j : Int)).toNat))) = true := by kernel_rfl
structure EncF (f : Int) : Prop where
  t1 : (ixOf (idNum f true / 2)).1 = f
  t2 : (ixOf (idNum f true / 2)).2 = true
  t3 : ieq (idNum f true % 2) 1 = true
  f1 : (ixOf (idNum f false / 2)).1 = f
  f2 : (ixOf (idNum f false / 2)).2 = true
  f3 : ieq (idNum f false % 2) 1 = false
  w : (allW f).1.toNat * 2 ^ 64 + (allW f).2.toNat < 256 ^ (sizeOf f).toNat
theorem enc_f {f : Int} (h : isF f = true) : EncF f := by
  obtain ⟨j, hj, rfl⟩ := isF_cases h
  have := List.all_eq_true.1 enc_all j (List.mem_range.2 hj)
  simp only [Bool.and_eq_true, Bool.not_eq_true', Nat.blt_eq] at this
  obtain ⟨⟨a, b, c⟩, ⟨d, e, f⟩, g⟩ := this
  simp only [ieq, beq_iff_eq] at a d
  exact ⟨a, b, c, d, e, f, g⟩
theorem enc_fm {f : Int} (h : isF f = true) (m : Bool) : (ixOf (idNum f m / 2)).1 = f ∧ (ixOf (idNum f m / 2)).2 = true ∧ ieq (idNum f m % 2) 1 = m := by
  have e := enc_f h
  cases m
  · exact ⟨e.f1, e.f2, e.f3⟩
  · exact ⟨e.t1, e.t2, e.t3⟩
theorem idNum_range {f : Int} (h : isF f = true) (m : Bool) : 0 ≤ idNum f m ∧ idNum f m < 256 := by
  have n := num_f h
  have n1 := n.n1
  have n2 := n.n2
  simp only [numOk, Bool.and_eq_true, Bool.or_eq_true, ieq, beq_iff_eq, ile_iff', ilt_iff] at n1 n2
  cases m <;> omega
theorem bodyN_range {f : Int} (h : isF f = true) (m : Bool) : 0 ≤ bodyN f m ∧ bodyN f m ≤ 32 := by
  have := sz_range h
  cases m <;> simp only [bodyN, cond_true, cond_false] <;> omega

theorem nbyte_small {n : Int} (h : 0 ≤ n) (h2 : n < 256) : nbyte n 0 = .int .u8 n := by
  unfold nbyte ishr
  rw [IntKind.wrap_u8]
  have : n.fdiv (2 ^ (min (0 : Int).toNat IntKind.i64.bits)) = n := by
    simp [IntKind.bits]
  rw [this]
  congr 1; omega
theorem numL1 {n : Int} (h : 0 ≤ n) (h2 : n < 256) : numL n 1 = [.int .u8 n] := by
  show [nbyte n 0] = _
  rw [nbyte_small h h2]
theorem encL_eq {x : XO} (h : isF x.1 = true) : encL x = .int .u8 128 :: .int .u8 0 :: .int .u8 (idNum x.1 x.2.1) :: .int .u8 (bodyN x.1 x.2.1) :: bodyL x := by
  obtain ⟨f, m, v, k⟩ := x
  have h1 := idNum_range h m
  have h2 := bodyN_range h m
  have e : numL 32768 2 = [.int .u8 128, .int .u8 0] := by kernel_rfl
  unfold encL
  simp only
  rw [e, numL1 h1.1 h1.2, numL1 h2.1 (by omega)]; rfl

/-- bits of one number within another's -/
theorem andNot_le {a b : Int} (ha : inU a = true) (hb : inU b = true) (h : ieq (ibits .andNot .u64 a b) 0 = true) : a ≤ b := by
  rw [inU_iff] at ha hb
  obtain ⟨m, rfl⟩ : ∃ m : Nat, a = m := ⟨a.toNat, by omega⟩
  obtain ⟨n, rfl⟩ : ∃ n : Nat, b = n := ⟨b.toNat, by omega⟩
  rw [ibits_eq] at h
  simp only [ieq, beq_iff_eq] at h
  have h : IntKind.u64.wrap ((BitVec.ofInt 64 (m : Int) &&& ~~~ (BitVec.ofInt 64 (n : Int))).toNat : Int) = 0 := h
  rw [IntKind.wrap_u64] at h
  generalize hx : BitVec.ofInt 64 (m : Int) = x at h
  generalize hy : BitVec.ofInt 64 (n : Int) = y at h
  have hxm : x.toNat = m := by rw [← hx, BitVec.ofInt_natCast, BitVec.toNat_ofNat, Nat.mod_eq_of_lt (by omega)]
  have hyn : y.toNat = n := by rw [← hy, BitVec.ofInt_natCast, BitVec.toNat_ofNat, Nat.mod_eq_of_lt (by omega)]
  have hlt := (x &&& ~~~ y).isLt
  have h0 : (x &&& ~~~ y).toNat = 0 := by omega
  have hz : x &&& ~~~ y = 0#64 := BitVec.eq_of_toNat_eq (by rw [h0]; rfl)
  have hor : x ||| y = y := by
    apply BitVec.eq_of_getLsbD_eq
    intro i hi
    have := congrArg (fun b => b.getLsbD i) hz
    simp only [BitVec.getLsbD_and, BitVec.getLsbD_not, hi, decide_true, Bool.true_and, BitVec.getLsbD_zero] at this
    rw [BitVec.getLsbD_or]
    cases hx' : x.getLsbD i <;> cases hy' : y.getLsbD i <;> simp_all
  have : x.toNat ≤ y.toNat := by
    have h1 : x.toNat ≤ (x ||| y).toNat := by rw [BitVec.toNat_or]; exact Nat.left_le_or
    rw [hor] at h1; exact h1
  omega
theorem all_in {f : Int} (h : isF f = true) : inW (allW f) = true := by
  have : ((List.range 24).all fun j => inW (allW (j : Int))) = true := by kernel_rfl
  obtain ⟨j, hj, rfl⟩ := isF_cases h
  exact List.all_eq_true.1 this j (List.mem_range.2 hj)
/-- a value within its field's bytes -/
theorem in_bytes {f : Int} (hf : isF f = true) {v : Int × Int} (hv : inW v = true) (h : beyond f v = false) : ∃ hi lo : Nat, v = ((hi : Int), (lo : Int)) ∧ lo < 2 ^ 64 ∧ hi * 2 ^ 64 + lo < 256 ^ (sizeOf f).toNat := by
  unfold beyond at h
  simp only [Bool.not_eq_false', zeroW, lessW, Bool.and_eq_true] at h
  have ha := all_in hf
  simp only [inW, Bool.and_eq_true] at ha hv
  have h1 := andNot_le hv.1 ha.1 h.1
  have h2 := andNot_le hv.2 ha.2 h.2
  simp only [inU_iff] at hv ha
  have w := (enc_f hf).w
  refine ⟨v.1.toNat, v.2.toNat, by apply Prod.ext <;> simp only <;> omega, by omega, Nat.lt_of_le_of_lt ?_ w⟩
  omega
theorem form_zero {x : XO} (h : ieq (formO x) 0 = true) : beyond x.1 x.2.2.1 = false ∧ (x.2.1 = true → beyond x.1 x.2.2.2 = false) := by
  obtain ⟨f, m, v, k⟩ := x
  unfold formO at h
  simp only at h ⊢
  cases h1 : beyond f v <;> rw [h1] at h
  · refine ⟨rfl, fun hm => ?_⟩
    subst hm
    cases h2 : beyond f k <;> rw [h2] at h <;> first | rfl | cases h
  · cases h

theorem sizeN {f : Int} (h : isF f = true) : ∃ n : Nat, sizeOf f = n ∧ 1 ≤ n ∧ n ≤ 16 := by
  have := sz_range h
  exact ⟨(sizeOf f).toNat, by omega, by omega, by omega⟩
theorem putL_bytes {f : Int} (hf : isF f = true) {v : Int × Int} (hv : inW v = true) (h : beyond f v = false) : byteL (putL v (sizeOf f)) := by
  obtain ⟨n, e, h1, h2⟩ := sizeN hf
  obtain ⟨hi, lo, rfl, h3, h4⟩ := in_bytes hf hv h
  rw [e, putL_eq _ _ h3 h2]; exact bytesBE_ok _ _

/-- a part is read from its bytes, whatever is behind -/
theorem dec_enc {x : XO} (hr : rightO x = true) (hi : inO x = true) {rest : List AV} (hb : byteL rest) : decCode (encL x ++ rest) = 0 ∧ decX (encL x ++ rest) = x ∧ 4 + byN (encL x ++ rest) 3 = ((encL x).length : Int) := by
  have hf := right_f hr
  obtain ⟨f, m, v, k⟩ := x
  simp only at hf
  have e := encL_eq (x := (f, m, v, k)) hf
  simp only at e
  obtain ⟨n, hn, n1, n2⟩ := sizeN hf
  obtain ⟨c1, c2, c3⟩ := enc_fm hf m
  simp only [inO, Bool.and_eq_true] at hi
  have hform : ieq (formO (f, m, v, k)) 0 = true ∧ (bif m then masksOf f else zeroW k) = true := by
    unfold rightO at hr; simp only [Bool.and_eq_true] at hr; exact ⟨hr.2.2, hr.2.1⟩
  obtain ⟨hbv, hbk⟩ := form_zero hform.1
  simp only at hbv hbk
  have z3 : bodyN f m = ((bodyL (f, m, v, k)).length : Int) := by
    unfold bodyL bodyN
    have l1 := putL_lenI hf v
    have l2 := putL_lenI hf k
    cases m
    · simp only [cond_false, List.append_nil]; omega
    · simp only [cond_true, List.length_append]; omega
  have b0 : byN (encL (f, m, v, k) ++ rest) 0 = 128 := by rw [e]; rfl
  have b1 : byN (encL (f, m, v, k) ++ rest) 1 = 0 := by rw [e]; rfl
  have b2 : byN (encL (f, m, v, k) ++ rest) 2 = idNum f m := by rw [e]; rfl
  have b3 : byN (encL (f, m, v, k) ++ rest) 3 = bodyN f m := by rw [e]; rfl
  have eF : hdF (encL (f, m, v, k) ++ rest) = f := by unfold hdF; rw [b2, c1]
  have eI : hdIs (encL (f, m, v, k) ++ rest) = true := by unfold hdIs; rw [b2, c2]
  have eM : hdM (encL (f, m, v, k) ++ rest) = m := by unfold hdM; rw [b2, c3]
  have len : (encL (f, m, v, k)).length = 4 + (bodyL (f, m, v, k)).length := by rw [e]; simp only [List.length_cons]; omega
  have code : hdCode (encL (f, m, v, k) ++ rest) = 0 := by
    have l1 : ilt ((encL (f, m, v, k) ++ rest).length : Int) 4 = false := by rw [ilt_no, List.length_append]; omega
    have l2 : ilt ((encL (f, m, v, k) ++ rest).length : Int) (4 + bodyN f m) = false := by rw [ilt_no, List.length_append]; omega
    unfold hdCode
    rw [l1, b3, l2, b0, b1, eI, eM, eF]
    have l3 : (bif m then !masksOf f else false) = false := by
      have := hform.2
      cases m
      · rfl
      · simp only [cond_true] at this ⊢; rw [this]; rfl
    rw [l3]
    simp [ieq]
  have dr : (encL (f, m, v, k) ++ rest).drop 4 = bodyL (f, m, v, k) ++ rest := by rw [e]; rfl
  obtain ⟨vh, vl, hv1, hv2, hv3⟩ := in_bytes hf hi.1 hbv
  have hn' : (sizeOf f).toNat = n := by omega
  rw [hn'] at hv3
  have X : decX (encL (f, m, v, k) ++ rest) = (f, m, v, k) := by
    unfold decX valX
    rw [eF, eM]
    have t4 : (4 : Int).toNat = 4 := rfl
    rw [t4, dr]
    cases m
    · have hk : k = (0, 0) := by
        have := hform.2
        simp only [cond_false, zeroW, Bool.and_eq_true, ieq, beq_iff_eq] at this
        exact Prod.ext this.1 this.2
      have eb : bodyL (f, false, v, k) ++ rest = putL v (sizeOf f) ++ rest := by unfold bodyL; simp
      obtain ⟨g1, g2⟩ := get_put (rest := rest) hv2 n2 hv3 hb
      rw [eb, hv1, hn, g1, g2, hk]; rfl
    · have eb : bodyL (f, true, v, k) ++ rest = putL v (sizeOf f) ++ (putL k (sizeOf f) ++ rest) := by unfold bodyL; simp
      obtain ⟨kh, kl, hk1, hk2, hk3⟩ := in_bytes hf hi.2 (hbk rfl)
      rw [hn'] at hk3
      have bk := putL_bytes hf hi.2 (hbk rfl)
      have hb2 : byteL (putL k (sizeOf f) ++ rest) := fun y hy => (List.mem_append.1 hy).elim (bk y) (hb y)
      obtain ⟨g1, g2⟩ := get_put (rest := putL k (sizeOf f) ++ rest) hv2 n2 hv3 hb2
      obtain ⟨g3, g4⟩ := get_put (rest := rest) hk2 n2 hk3 hb
      have dr2 : (encL (f, true, v, k) ++ rest).drop (4 + sizeOf f).toNat = putL k (sizeOf f) ++ rest := by
        have lp := putL_lenI hf v
        have : (4 + sizeOf f).toNat = 4 + (putL v (sizeOf f)).length := by omega
        rw [this, ← List.drop_drop, dr, eb, List.drop_left]
      rw [eb, dr2, cond_true]
      rw [hn] at *
      rw [hv1, hk1] at *
      rw [g1, g2, g3, g4]
  refine ⟨?_, X, ?_⟩
  · unfold decCode
    rw [code, X]
    have := hform.1
    simp only [ieq, beq_iff_eq] at this
    exact this
  · rw [b3, len, z3]; omega

theorem ix_id_step (b : Bool) (k n i : Int) (r : Int × Bool) (hb : b = ieq i n) (h : idOf k = i) (h2 : r.2 = true → idOf r.1 = n) : (bif b then (k, true) else r).2 = true → idOf (bif b then (k, true) else r).1 = n := by
  cases b with
  | false => exact h2
  | true =>
    intro _
    have : i = n := by simpa [ieq] using hb.symm
    simp only [cond_true]; rw [h, this]
theorem ix_id (n : Int) : (ixOf n).2 = true → idOf (ixOf n).1 = n := by
  unfold ixOf
  iterate 24 (refine ix_id_step _ _ n _ _ rfl rfl ?_)
  intro h; cases h
/-- what is read has just these bytes -/
theorem enc_dec {xs : List AV} (hb : byteL xs) (h : decCode xs = 0) : rightO (decX xs) = true ∧ encL (decX xs) = xs.take (4 + byN xs 3).toNat ∧ (4 + byN xs 3).toNat ≤ xs.length ∧ 0 ≤ byN xs 3 := by
  have hc : ieq (hdCode xs) 0 = true := by
    cases hq : ieq (hdCode xs) 0 with
    | true => rfl
    | false => unfold decCode at h; rw [hq] at h; simp only [cond_false] at h; rw [h] at hq; cases hq
  have k := hd_ok hc
  have hform : ieq (formO (decX xs)) 0 = true := by unfold decCode at h; rw [hc, cond_true] at h; rw [h]; rfl
  have hf : isF (hdF xs) = true := ix_isF _
  obtain ⟨n, hn, n1, n2⟩ := sizeN hf
  have br := bodyN_range hf (hdM xs)
  have kn := k.n
  rw [k.z] at kn
  refine ⟨?_, ?_, by rw [k.z]; omega, by rw [k.z]; omega⟩
  · unfold rightO
    rw [hform]
    show (isF (hdF xs) && ((bif hdM xs then masksOf (hdF xs) else zeroW (bif hdM xs then valX xs (4 + sizeOf (hdF xs)) (sizeOf (hdF xs)) else (0, 0))) && true)) = true
    rw [hf]
    cases hm : hdM xs with
    | true => simp [k.m hm]
    | false => rfl
  · rw [encL_eq (x := decX xs) hf]
    show .int .u8 128 :: .int .u8 0 :: .int .u8 (idNum (hdF xs) (hdM xs)) :: .int .u8 (bodyN (hdF xs) (hdM xs)) :: bodyL (decX xs) = _
    obtain ⟨z0, z1, z2, z3, F⟩ := four hb (by rw [ilt_no]; have := k.l; omega)
    have b2 : byN xs 2 = z2 := by unfold byN; rw [F.e2]; rfl
    have b3 : byN xs 3 = z3 := by unfold byN; rw [F.e3]; rfl
    have e0 : xs.getD 0 .unk = .int .u8 128 := by have := k.b0; unfold byN at this; rw [F.e0] at this ⊢; simp only [AV.asInt] at this; rw [this]
    have e1 : xs.getD 1 .unk = .int .u8 0 := by have := k.b1; unfold byN at this; rw [F.e1] at this ⊢; simp only [AV.asInt] at this; rw [this]
    have id : idNum (hdF xs) (hdM xs) = z2 := by
      have h1 : idOf (hdF xs) = byN xs 2 / 2 := ix_id _ k.is
      have h2 : hdM xs = ieq (byN xs 2 % 2) 1 := rfl
      unfold idNum
      rw [h1, h2, b2]
      cases hq : ieq ((z2 : Int) % 2) 1
      · simp only [ieq, beq_eq_false_iff_ne] at hq; simp only [cond_false]; omega
      · simp only [ieq, beq_iff_eq] at hq; simp only [cond_true]; omega
    have l4 : xs = .int .u8 128 :: .int .u8 0 :: .int .u8 (z2 : Int) :: .int .u8 (z3 : Int) :: xs.drop 4 := by
      have a0 := drop_getD (d := AV.unk) (xs := xs) (n := 0) (by have := k.l; omega)
      have a1 := drop_getD (d := AV.unk) (xs := xs) (n := 1) (by have := k.l; omega)
      have a2 := drop_getD (d := AV.unk) (xs := xs) (n := 2) (by have := k.l; omega)
      have a3 := drop_getD (d := AV.unk) (xs := xs) (n := 3) (by have := k.l; omega)
      rw [List.drop_zero] at a0
      rw [e0] at a0; rw [e1] at a1; rw [F.e2] at a2; rw [F.e3] at a3
      rw [a3] at a2; rw [a2] at a1; rw [a1] at a0
      exact a0
    have kz := k.z
    rw [id, ← kz, b3]
    have tk : xs.take (4 + (z3 : Int)).toNat = .int .u8 128 :: .int .u8 0 :: .int .u8 (z2 : Int) :: .int .u8 (z3 : Int) :: (xs.drop 4).take z3 := by
      have : (4 + (z3 : Int)).toNat = z3 + 4 := by omega
      rw [this]
      conv => lhs; rw [l4]
      rfl
    rw [tk]
    congr 4
    have hb4 : byteL (xs.drop 4) := fun y hy => hb y (List.mem_of_mem_drop hy)
    show putL (valX xs 4 (sizeOf (hdF xs))) (sizeOf (hdF xs)) ++ (bif hdM xs then putL (bif hdM xs then valX xs (4 + sizeOf (hdF xs)) (sizeOf (hdF xs)) else (0, 0)) (sizeOf (hdF xs)) else []) = _
    unfold valX
    have t4 : (4 : Int).toNat = 4 := rfl
    rw [t4]
    rw [b3] at kz
    cases hm : hdM xs with
    | false =>
      rw [hm] at kz kn br
      simp only [bodyN, cond_false, hn] at kz kn ⊢
      have hz : z3 = n := by omega
      rw [put_get hb4 (by rw [List.length_drop]; omega) n2, List.append_nil, hz]
    | true =>
      rw [hm] at kz kn br
      simp only [bodyN, cond_true, hn] at kz kn ⊢
      have hz : z3 = n + n := by omega
      have t : (4 + (n : Int)).toNat = 4 + n := by omega
      rw [t, put_get hb4 (by rw [List.length_drop]; omega) n2, put_get (fun y hy => hb y (List.mem_of_mem_drop hy)) (by rw [List.length_drop]; omega) n2, hz, List.take_add, List.drop_drop]

end Go.Proofs.Ytdcijmigoefnjaa

/- Bytes as rows tell them. -/
set_option linter.unusedVariables false
set_option linter.unusedSimpArgs false
set_option maxRecDepth 100000
set_option maxHeartbeats 0
namespace Go.Proofs.Ytdcijmigoefnjaa
open Go Go.Ev
theorem ieq_self (a : Int) : ieq a a = true := by simp [ieq]
theorem tyb_bytes {xs : List AV} (hx : ∀ x ∈ xs, TyE false [.int .u8] x) : byteL xs := fun x hm => by
  obtain ⟨l, e, h⟩ := hx x hm
  cases e
  obtain ⟨n, rfl, h1, h2⟩ := h
  have h1 : 0 ≤ n := h1
  have h2 : n ≤ 255 := h2
  exact ⟨n.toNat, by omega, by rw [Int.toNat_of_nonneg h1]⟩
theorem tyb_len {xs : List AV} (hl : xs.length ≤ maxLen) : lenB xs = true := by
  unfold lenB; rw [Nat.ble_eq]; exact hl
theorem tyu {n : Int} (h1 : IntKind.u64.min ≤ n) (h2 : n ≤ IntKind.u64.max) : inU n = true := by
  have h1 : 0 ≤ n := h1
  have h2 : n ≤ 18446744073709551615 := h2
  rw [inU_iff]; omega
theorem tyl_cons {x : Lf} {ls : List Lf} {l : List AV} (h : TyL (x :: ls) l) : ∃ (a : AV) (l' : List AV), l = a :: l' ∧ TyA x a ∧ TyL ls l' := by
  cases l with
  | nil => exact h.elim
  | cons a l' => exact ⟨a, l', rfl, h.1, h.2⟩
theorem tyl_nil {l : List AV} (h : TyL [] l) : l = [] := by
  cases l with
  | nil => rfl
  | cons a l' => exact h.elim
theorem oxm_of {l : List AV} (h : TyL [.int .i64, .bool, .int .u64, .int .u64, .int .u64, .int .u64] l) : ∃ x : XO, AV.agg l = oxA x ∧ inO x = true := by
  obtain ⟨_, l1, rfl, ⟨f, rfl, _⟩, h1⟩ := tyl_cons h
  obtain ⟨_, l2, rfl, ⟨m, rfl⟩, h2⟩ := tyl_cons h1
  obtain ⟨_, l3, rfl, ⟨a, rfl, a1, a2⟩, h3⟩ := tyl_cons h2
  obtain ⟨_, l4, rfl, ⟨b, rfl, b1, b2⟩, h4⟩ := tyl_cons h3
  obtain ⟨_, l5, rfl, ⟨c, rfl, c1, c2⟩, h5⟩ := tyl_cons h4
  obtain ⟨_, l6, rfl, ⟨d, rfl, d1, d2⟩, h6⟩ := tyl_cons h5
  obtain rfl := tyl_nil h6
  refine ⟨(f, m, (a, b), (c, d)), rfl, ?_⟩
  unfold inO inW
  simp only [tyu a1 a2, tyu b1 b2, tyu c1 c2, tyu d1 d2]; rfl
end Go.Proofs.Ytdcijmigoefnjaa

/- Chapter 10: what a part's bytes are like. -/
set_option linter.unusedVariables false
set_option linter.unusedSimpArgs false
set_option maxRecDepth 100000
set_option maxHeartbeats 0
namespace Go.Proofs.Ytdcijmigoefnjaa
open Go Go.Ev

theorem S74_eq : S74l true = S74 := by kernel_rfl
theorem S62_eq : S62l true = S62 := by kernel_rfl
theorem enc_bytes {x : XO} (hr : rightO x = true) (hi : inO x = true) : byteL (encL x) ∧ (encL x).length ≤ 36 := by
  have hf := right_f hr
  rw [encL_eq hf]
  obtain ⟨f, m, v, k⟩ := x
  simp only [inO, Bool.and_eq_true] at hi
  have hform : ieq (formO (f, m, v, k)) 0 = true := by unfold rightO at hr; simp only [Bool.and_eq_true] at hr; exact hr.2.2
  obtain ⟨hbv, hbk⟩ := form_zero hform
  have n1 := idNum_range hf m
  have n2 := bodyN_range hf m
  have l1 := putL_lenI hf v
  have l2 := putL_lenI hf k
  have hz := sz_range hf
  simp only at *
  have isb : ∀ n : Int, 0 ≤ n → n < 256 → isByte (.int .u8 n) := fun n h1 h2 => ⟨n.toNat, by omega, by rw [Int.toNat_of_nonneg h1]⟩
  constructor
  · intro y hy
    simp only [List.mem_cons] at hy
    rcases hy with rfl | rfl | rfl | rfl | hy
    · exact isb _ (by omega) (by omega)
    · exact isb _ (by omega) (by omega)
    · exact isb _ n1.1 n1.2
    · exact isb _ n2.1 (by omega)
    · unfold bodyL at hy
      rcases List.mem_append.1 hy with hy | hy
      · exact putL_bytes hf hi.1 hbv y hy
      · cases m with
        | false => cases hy
        | true => exact putL_bytes hf hi.2 (hbk rfl) y hy
  · simp only [List.length_cons]
    unfold bodyL
    cases m
    · simp only [cond_false, List.append_nil]; omega
    · simp only [cond_true, List.length_append]; omega
theorem lenB_small {xs : List AV} (h : xs.length ≤ 1000000) : lenB xs = true := by unfold lenB; rw [Nat.ble_eq]; omega

end Go.Proofs.Ytdcijmigoefnjaa

/- Chapter 11: a match as bytes: contracts. -/
set_option linter.unusedVariables false
set_option linter.unusedSimpArgs false
set_option maxRecDepth 10000000
set_option maxHeartbeats 0
namespace Go.Proofs.Ytdcijmigoefnjaa
open Go Go.Ev

theorem byteL_sc {xs : List AV} (h : byteL xs) : xs.all AV.scal = true := by
  rw [List.all_eq_true]; intro x hx; obtain ⟨z, _, rfl⟩ := h x hx; rfl
theorem bv8 (x : BitVec 64) : (x &&& ~~~(7#64)).toNat = x.toNat / 8 * 8 := by
  have e : x &&& ~~~(7#64) = (x >>> 3) <<< 3 := by
    apply BitVec.eq_of_getLsbD_eq
    intro i hi
    have h7 : (7#64).getLsbD i = decide (i < 3) := by
      rw [BitVec.getLsbD_ofNat, show (7 : Nat) = 2 ^ 3 - 1 from rfl, Nat.testBit_two_pow_sub_one]; simp [hi]
    rw [BitVec.getLsbD_and, BitVec.getLsbD_not, h7, BitVec.getLsbD_shiftLeft, BitVec.getLsbD_ushiftRight]
    by_cases h : i < 3
    · simp [h, hi]
    · simp [h, hi, show 3 + (i - 3) = i by omega]
  rw [e, BitVec.toNat_shiftLeft, BitVec.toNat_ushiftRight, Nat.shiftLeft_eq, Nat.shiftRight_eq_div_pow]
  have := x.isLt
  omega
theorem pad_eq {n : Int} (h0 : 0 ≤ n) (h1 : n ≤ 1000000) : ibits .andNot .i64 (iadd .i64 n 7) 7 = padI n := by
  have e : iadd .i64 n 7 = n + 7 := by unfold iadd; rw [IntKind.wrap_i64]; omega
  rw [e, ibits_eq]
  obtain ⟨k, rfl⟩ := Int.eq_ofNat_of_zero_le h0
  show IntKind.i64.wrap ((BitVec.ofInt 64 ((k : Int) + 7) &&& ~~~ (BitVec.ofInt 64 7)).toNat : Int) = _
  rw [show ((k : Int) + 7) = ((k + 7 : Nat) : Int) by omega, BitVec.ofInt_natCast, show BitVec.ofInt 64 7 = 7#64 from rfl, bv8, BitVec.toNat_ofNat]
  rw [show (k + 7) % 2 ^ 64 = k + 7 by omega]
  unfold padI
  rw [IntKind.wrap_i64]
  omega
theorem s140 : SumTOk Try.prog 140 S140 := sum0_ok fun n h => by
  have h : (ile 0 n && ile n 1000000) = true := h
  rw [Bool.and_eq_true, ile_iff', ile_iff'] at h
  exact book_ok.pth (by kernel_rfl) noSpec_ok (p140 n _ (by rw [pad_eq h.1 h.2]; rfl))
theorem sp89_ok : SpecTL Try.prog (sp89 true) := ⟨s91, s133, S74_eq ▸ s74, s140, trivial⟩

theorem okXs {xs : List AV} (h : (okX xs && shortX xs) = true) : okX xs = true ∧ xs.length ≤ 1000000 := by
  simp only [Bool.and_eq_true, shortX, Nat.ble_eq] at h; exact h
theorem rightsB_drop {xs : List AV} {n : Nat} (h : n < xs.length) : rightsB (xs.drop n) = (rightO (ox (xs.getD n .unk)) && rightsB (xs.drop (n + 1))) := by
  rw [getD_drop h]; rfl
theorem encsG_on {xs : List AV} {n : Nat} (h : n < xs.length) (e : rightO (ox (xs.getD n .unk)) = true) : encsG (xs.drop n) = encL (ox (xs.getD n .unk)) ++ encsG (xs.drop (n + 1)) := by
  rw [getD_drop h]; unfold encsG; rw [List.takeWhile_cons, if_pos e]; rfl
theorem encsG_off {xs : List AV} {n : Nat} (h : n < xs.length) (e : rightO (ox (xs.getD n .unk)) = false) : encsG (xs.drop n) = [] := by
  rw [getD_drop h]; unfold encsG; rw [List.takeWhile_cons, if_neg (by rw [e]; simp)]; rfl
theorem flgB_in {xs : List AV} {n : Nat} (h : n < xs.length) : flgB xs n = !rightO (ox (xs.getD n .unk)) := by
  unfold flgB
  rw [show Nat.ble xs.length n = false from by
      cases hb : Nat.ble xs.length n
      · rfl
      · rw [Nat.ble_eq] at hb; omega]
  rfl
theorem good89 : (L89 true).Good := by
  refine ⟨fun r j a ho hi hj h => ⟨?_, ?_⟩, fun r j a ho hi hj h => ⟨?_, rfl, ?_⟩, fun r j a ho hi hj => ⟨?_, ?_⟩⟩
  · have hj : j < r.length := hj
    have h : (!rightO (ox (r.getD j .unk))) = true := h
    show (!rightsB (r.drop j)) = true
    rw [rightsB_drop hj]
    simp only [Bool.not_eq_true'] at h
    rw [h]; rfl
  · have hj : j < r.length := hj
    have h : (!rightO (ox (r.getD j .unk))) = true := h
    show (L89 true).out r 0 (a.1 && flgB r j, a.2 ++ encsG (r.drop j)) = (L89 true).out r 0 a
    rw [flgB_in hj, h, encsG_off hj (by simpa using h)]
    simp
  · have hj : j < r.length := hj
    have h : (!rightO (ox (r.getD j .unk))) = false := h
    show (!rightsB (r.drop j)) = !rightsB (r.drop (j + 1))
    rw [rightsB_drop hj]
    simp only [Bool.not_eq_false'] at h
    rw [h]; rfl
  · have hj : j < r.length := hj
    have h : (!rightO (ox (r.getD j .unk))) = false := h
    show (a.1 && flgB r j, a.2 ++ encsG (r.drop j)) = (false && flgB r (j + 1), (a.2 ++ encL (ox (r.getD j .unk))) ++ encsG (r.drop (j + 1)))
    rw [flgB_in hj, h, encsG_on hj (by simpa using h), List.append_assoc]
    simp
  · have hj : r.length ≤ j := hj
    show (!rightsB (r.drop j)) = false
    rw [List.drop_eq_nil_of_le hj]; rfl
  · have hj : r.length ≤ j := hj
    obtain ⟨b, c⟩ := a
    show (b && flgB r j, c ++ encsG (r.drop j)) = (b, c)
    rw [List.drop_eq_nil_of_le hj]
    unfold flgB
    rw [show Nat.ble r.length j = true by rw [Nat.ble_eq]; exact hj]
    simp [encsG, encsL]
theorem inO_get {xs : List AV} (h : okX xs = true) {i : Nat} (hi : i < xs.length) : inO (ox (xs.getD i .unk)) = true := (ox_of (okX_get h hi)).2
theorem step89 (x : Int × A89 × List AV) (h : (L89 true).P x) : Round (book.envP 89 (sp89 true) big noLoops) (loopBody Try.f89 5) (book.clean 89 5) (book.clean 89 (5 + 500)) st89 pr89 (L89 true).P (fun x => ((L89 true).tr x).val) (L89 true).m x := by
  obtain ⟨i, ⟨fl, cs⟩, xs⟩ := x
  obtain ⟨hx, hs⟩ := okXs h.ok
  have hinv : Nat.ble cs.length (36 * i.toNat + 4) = true := h.inv
  rw [Nat.ble_eq] at hinv
  have q : ilt i (xs.length : Int) = true → rightO (ox (xs.getD i.toNat .unk)) = true → (encL (ox (xs.getD i.toNat .unk))).length ≤ 36 := fun k e => (enc_bytes e (inO_get hx (h.lt k))).2
  have l1 : ilt i (xs.length : Int) = true → rightO (ox (xs.getD i.toNat .unk)) = true → Nat.ble ((cs.length + (encL (ox (xs.getD i.toNat .unk))).length) * 1) 140737488355328 = true := fun k e => by
    have := q k e; have hk : i.toNat < xs.length := h.lt k; have hs : xs.length ≤ 1000000 := hs; exact bleB' (by omega)
  have l2 : ilt i (xs.length : Int) = true → rightO (ox (xs.getD i.toNat .unk)) = true → Nat.ble (cs.length + (encL (ox (xs.getD i.toNat .unk))).length) 140737488355328 = true := fun k e => by
    have := q k e; have hk : i.toNat < xs.length := h.lt k; have hs : xs.length ≤ 1000000 := hs; exact bleB' (by omega)
  have l3 : ilt i (xs.length : Int) = true → rightO (ox (xs.getD i.toNat .unk)) = true → Nat.ble (cs ++ encL (ox (xs.getD i.toNat .unk))).length (36 * (i.toNat + 1) + 4) = true := fun k e => by
    have := q k e; rw [Nat.ble_eq, List.length_append]; omega
  cases fl
  · exact r89f true i cs xs _ _ _ (fun k => h.in_ k) (fun k => okX_has hx (h.lt k)) (fun k => inO_get hx (h.lt k)) (fun k e => l1 k e) (fun k e => l2 k e) (fun k e => h.on good89 k (show (!rightO (ox (xs.getD i.toNat .unk))) = false from congrArg (!·) e) rfl (l3 k e)) (fun k e => h.found good89 k (show (!rightO (ox (xs.getD i.toNat .unk))) = true from congrArg (!·) e)) (fun k => h.fin_ good89 k)
  · exact r89t true i cs xs _ _ _ (fun k => h.in_ k) (fun k => okX_has hx (h.lt k)) (fun k => inO_get hx (h.lt k)) (fun k e => l1 k e) (fun k e => l2 k e) (fun k e => h.on good89 k (show (!rightO (ox (xs.getD i.toNat .unk))) = false from congrArg (!·) e) rfl (l3 k e)) (fun k e => h.found good89 k (show (!rightO (ox (xs.getD i.toNat .unk))) = true from congrArg (!·) e)) (fun k => h.fin_ good89 k)
theorem lok89 {loops} : LoopOk (book.envP 89 (sp89 true) big loops) (loopBody Try.f89 5) (lp89 true) := GL.loop2 (loops' := noLoops) (noInner (by kernel_rfl)) (by kernel_rfl) step89

/-- parts' bytes are bytes -/
theorem encs_bytes : ∀ (xs : List AV), xs.all isOx = true → rightsB xs = true → byteL (encsL xs)
  | [], _, _ => fun y hy => by cases hy
  | v :: xs, ho, hr => by
    simp only [List.all_cons, Bool.and_eq_true] at ho
    have hr : (rightO (ox v) && rightsB xs) = true := hr
    rw [Bool.and_eq_true] at hr
    have a := (enc_bytes hr.1 (ox_of ho.1).2).1
    have c := encs_bytes xs ho.2 hr.2
    have e : encsL (v :: xs) = encL (ox v) ++ encsL xs := rfl
    rw [e]
    exact fun y hy => (List.mem_append.1 hy).elim (a y) (c y)
theorem encsG_all {xs : List AV} (h : rightsB xs = true) : encsG xs = encsL xs := by
  unfold encsG
  have e : ∀ ys : List AV, rightsB ys = true → (ys.takeWhile fun v => rightO (ox v)) = ys := fun ys => by
    induction ys with
    | nil => intro _; rfl
    | cons v ys ih =>
      intro h
      have h : (rightO (ox v) && rightsB ys) = true := h
      rw [Bool.and_eq_true] at h
      rw [List.takeWhile_cons, if_pos h.1, ih h.2]
  rw [e xs h]
/-- the length put in -/
def w89 (Z : List AV) : List AV := setAt Z 2 (List.take (List.drop 2 Z).length [nbyte (Z.length : Int) 8, nbyte (Z.length : Int) 0])
def z89 (E : List AV) : List AV := [AV.int IntKind.u8 0, AV.int IntKind.u8 1, AV.int IntKind.u8 0, AV.int IntKind.u8 0] ++ E
theorem z89_len (E : List AV) : (z89 E).length = 4 + E.length := by unfold z89; rw [List.length_append]; rfl
theorem w89_len (E : List AV) : (w89 (z89 E)).length = 4 + E.length := by unfold w89; rw [setAt_length, z89_len]
theorem w89_eq (E : List AV) : w89 (z89 E) = .int .u8 0 :: .int .u8 1 :: nbyte ((4 + E.length : Nat) : Int) 8 :: nbyte ((4 + E.length : Nat) : Int) 0 :: E := by
  unfold w89
  rw [z89_len]
  generalize nbyte ((4 + E.length : Nat) : Int) 8 = a
  generalize nbyte ((4 + E.length : Nat) : Int) 0 = b
  unfold z89
  rw [List.take_of_length_le (by simp)]
  simp [setAt]
theorem padI_ge {n : Int} (h : 0 ≤ n) : n ≤ padI n ∧ padI n ≤ n + 7 := by unfold padI; omega
theorem isub_pad {n : Nat} (h : n ≤ 1004) : isub .i64 (padI (n : Int)) (n : Int) = padI (n : Int) - n := by
  have := padI_ge (n := (n : Int)) (by omega)
  unfold isub; rw [IntKind.wrap_i64]; omega
/-- all that is asked for at the end -/
structure End89 (E : List AV) : Prop where
  a5 : inR 2 ((z89 E).length + 1) = true
  a6 : (numOk ((z89 E).length : Int) 2 && true) = true
  sc : (z89 E).all AV.scal = true
  c5 : (true && ile ((w89 (z89 E)).length : Int) 1000000) = true
  c6 : ile 0 (isub IntKind.i64 (padI ((w89 (z89 E)).length : Int)) ((w89 (z89 E)).length : Int)) = true
  c7 : ile (isub IntKind.i64 (padI ((w89 (z89 E)).length : Int)) ((w89 (z89 E)).length : Int)) 140737488355328 = true
  c8 : ile (1 * isub IntKind.i64 (padI ((w89 (z89 E)).length : Int)) ((w89 (z89 E)).length : Int)) 140737488355328 = true
  c9 : Nat.ble (((w89 (z89 E)).length + (List.replicate (isub IntKind.i64 (padI ((w89 (z89 E)).length : Int)) ((w89 (z89 E)).length : Int)).toNat (AV.int IntKind.u8 0)).length) * 1) 140737488355328 = true
  c10 : Nat.ble ((w89 (z89 E)).length + (List.replicate (isub IntKind.i64 (padI ((w89 (z89 E)).length : Int)) ((w89 (z89 E)).length : Int)).toNat (AV.int IntKind.u8 0)).length) 140737488355328 = true
  fin : w89 (z89 E) ++ List.replicate (isub IntKind.i64 (padI ((w89 (z89 E)).length : Int)) ((w89 (z89 E)).length : Int)).toNat (AV.int IntKind.u8 0) = .int .u8 0 :: .int .u8 1 :: nbyte ((4 + E.length : Nat) : Int) 8 :: nbyte ((4 + E.length : Nat) : Int) 0 :: (E ++ List.replicate ((padI ((4 + E.length : Nat) : Int)).toNat - (4 + E.length)) (.int .u8 0))
theorem end89 {E : List AV} (hb : byteL E) (hl : E.length ≤ 1000) : End89 E := by
  have p := padI_ge (n := ((4 + E.length : Nat) : Int)) (by omega)
  have s := isub_pad (n := 4 + E.length) (by omega)
  refine ⟨?_, ?_, ?_, ?_, ?_, ?_, ?_, ?_, ?_, ?_⟩
  · rw [z89_len]; exact inR_iff.2 ⟨by omega, by omega⟩
  · rw [z89_len]; unfold numOk; simp only [ile, ilt, ieq]; simp; omega
  · unfold z89; rw [List.all_append, byteL_sc hb]; rfl
  · rw [w89_len, Bool.true_and]; exact ile_iff'.2 (by omega)
  · rw [w89_len, s]; exact ile_iff'.2 (by omega)
  · rw [w89_len, s]; exact ile_iff'.2 (by omega)
  · rw [w89_len, s]; exact ile_iff'.2 (by omega)
  · rw [List.length_replicate, w89_len, s]; exact bleB' (by omega)
  · rw [List.length_replicate, w89_len, s]; exact bleB' (by omega)
  · rw [w89_len, s, w89_eq]
    show _ :: _ :: _ :: _ :: (E ++ _) = _
    rw [show (padI ((4 + E.length : Nat) : Int) - ((4 + E.length : Nat) : Int)).toNat = (padI ((4 + E.length : Nat) : Int)).toNat - (4 + E.length) by omega]
theorem s89 : SumTOk Try.prog 89 (S89 true) := sumW_ok fun xs h => by
  obtain ⟨hx, hs⟩ := okXs h
  have no : okEnc xs = false → (AV.tup [AV.sl 0 [] St.nil, AV.int IntKind.i64 1], ([] : List (List AV))) = ((encT11 true xs).val, []) := fun e => by
    unfold encT11; simp only [Tree.val, e, cond_false]
  have tl : ilt 1004 (((z89 (encsG xs)).length : Nat) : Int) = true → Nat.ble (encsG xs).length 1000 = false := fun e => by
    rw [z89_len, ilt_iff] at e
    cases hb : Nat.ble (encsG xs).length 1000
    · rfl
    · rw [Nat.ble_eq] at hb; omega
  have ok : ∀ e1 : (!rightsB xs) = false, ilt 1004 (((z89 (encsG xs)).length : Nat) : Int) = false → End89 (encsG xs) := fun e1 e => by
    have hr : rightsB xs = true := by simpa using e1
    rw [z89_len, ilt_no] at e
    refine end89 ?_ (by omega)
    rw [encsG_all hr]; exact encs_bytes xs (okX_iff.1 hx).1 hr
  have n1 : ieq (chk11 xs) 0 = false → okEnc xs = false := fun e => by unfold okEnc; rw [e]; rfl
  have n2 : (!rightsB xs) = true → okEnc xs = false := fun e => by
    have hr : rightsB xs = false := by simpa using e
    unfold okEnc; rw [hr]; simp
  have n3 : (!rightsB xs) = false → ilt 1004 (((z89 (encsG xs)).length : Nat) : Int) = true → okEnc xs = false := fun e1 e => by
    have hr : rightsB xs = true := by simpa using e1
    have := tl e
    rw [encsG_all hr] at this
    unfold okEnc; rw [this]; simp
  have y : ieq (chk11 xs) 0 = true → (!rightsB xs) = false → ilt 1004 (((z89 (encsG xs)).length : Nat) : Int) = false → (AV.tup [AV.sl 1 (w89 (z89 (encsG xs)) ++ List.replicate (isub IntKind.i64 (padI ((w89 (z89 (encsG xs))).length : Int)) ((w89 (z89 (encsG xs))).length : Int)).toNat (AV.int IntKind.u8 0)) St.sh, AV.int IntKind.i64 0], ([] : List (List AV))) = ((encT11 true xs).val, []) := fun e0 e1 e => by
    have hr : rightsB xs = true := by simpa using e1
    have d := (ok e1 e).fin
    have hl : Nat.ble (encsL xs).length 1000 = true := by
      rw [z89_len, ilt_no, encsG_all hr] at e; rw [Nat.ble_eq]; omega
    have o : okEnc xs = true := by unfold okEnc; rw [e0, hr, hl]; rfl
    rw [d, encsG_all hr]
    unfold encT11; simp only [Tree.val, o, cond_true]
    rfl
  refine book_ok.run1 (by kernel_rfl) sp89_ok (by kernel_rfl) lok89 (p89 true xs _ hx (fun _ => GL.pre_of (i := 0) (Nat.zero_le _) (okX_iff.1 hx).2 h (by show Nat.ble 4 4 = true; rfl)) (fun _ e _ => no (n2 e)) (fun _ e _ => no (n2 e))
    (fun _ e1 _ e => no (n3 e1 e)) (fun _ e1 _ e => (ok e1 e).a5) (fun _ e1 _ e => (ok e1 e).a6) (fun _ e1 _ e => ?_) (fun _ e1 _ e => (ok e1 e).c5) (fun _ e1 _ e => (ok e1 e).c6) (fun _ e1 _ e => (ok e1 e).c7) (fun _ e1 _ e => (ok e1 e).c8) (fun _ e1 _ e => (ok e1 e).c9) (fun _ e1 _ e => (ok e1 e).c10) (fun e0 e1 _ e => y e0 e1 e)
    (fun _ e1 _ e => no (n3 e1 e)) (fun _ e1 _ e => (ok e1 e).a5) (fun _ e1 _ e => (ok e1 e).a6) (fun _ e1 _ e => ?_) (fun _ e1 _ e => (ok e1 e).c5) (fun _ e1 _ e => (ok e1 e).c6) (fun _ e1 _ e => (ok e1 e).c7) (fun _ e1 _ e => (ok e1 e).c8) (fun _ e1 _ e => (ok e1 e).c9) (fun _ e1 _ e => (ok e1 e).c10) (fun e0 e1 _ e => y e0 e1 e) (fun e => no (n1 e)))
  · have sc : (lockL true ([AV.int IntKind.u8 0, AV.int IntKind.u8 1, AV.int IntKind.u8 0, AV.int IntKind.u8 0] ++ encsG xs)).all AV.scal = true := (ok e1 e).sc
    unfold p89_c4
    simp only [AS.ownOk, List.all_cons, List.all_nil, AV.ownOk, sc, Bool.and_true, AV.scal]
  · have sc : (lockL true ([AV.int IntKind.u8 0, AV.int IntKind.u8 1, AV.int IntKind.u8 0, AV.int IntKind.u8 0] ++ encsG xs)).all AV.scal = true := (ok e1 e).sc
    unfold p89_c11
    simp only [AS.ownOk, List.all_cons, List.all_nil, AV.ownOk, sc, Bool.and_true, AV.scal]
end Go.Proofs.Ytdcijmigoefnjaa

/- Chapter 11: a match as bytes, the reference: contracts. -/
set_option linter.unusedVariables false
set_option linter.unusedSimpArgs false
set_option maxRecDepth 10000000
set_option maxHeartbeats 0
namespace Go.Proofs.Ytdcijmigoefnjaa
open Go Go.Ev

def y90 (E : List AV) : List AV := .int .u8 0 :: .int .u8 1 :: nbyte (iadd .i64 4 (E.length : Int)) 8 :: nbyte (iadd .i64 4 (E.length : Int)) 0 :: E
structure End90 (E : List AV) : Prop where
  a5 : (numOk (iadd IntKind.i64 4 (E.length : Int)) 2 && true) = true
  a6 : Nat.ble ((4 + E.length) * 1) 140737488355328 = true
  a7 : Nat.ble (4 + E.length) 140737488355328 = true
  a8 : pre90b (true, y90 E) = true
end Go.Proofs.Ytdcijmigoefnjaa

/- Chapter 11: the same, and cubes (printed by program; long names). -/
set_option linter.unusedVariables false
set_option maxRecDepth 100000
set_option maxHeartbeats 0
namespace Go.Proofs.Ytdcijmigoefnjaa
open Go Go.Ev

def r145_o0 (i : Int) (xs ys : List AV) : AS := AS.mk [AV.unk, AV.unk, AV.unk, AV.unk, AV.unk, AV.unk, AV.bool false, AV.unk, AV.unk, AV.unk, AV.unk, AV.unk, AV.unk, AV.unk, AV.unk, AV.unk, AV.unk, AV.unk, AV.unk, AV.unk, AV.unk, AV.unk, AV.unk, AV.unk, AV.unk, AV.unk, AV.unk, AV.unk, AV.unk, AV.unk, AV.unk, AV.unk] []
def r145_o1 (i : Int) (xs ys : List AV) : AS := AS.mk [AV.unk, AV.unk, AV.unk, AV.unk, AV.unk, AV.unk, AV.unk, AV.unk, AV.unk, AV.unk, AV.unk, AV.unk, AV.unk, AV.unk, AV.unk, AV.unk, AV.unk, AV.unk, AV.unk, AV.unk, AV.unk, AV.unk, AV.unk, AV.unk, AV.unk, AV.unk, AV.unk, AV.unk, AV.unk, AV.unk, AV.unk, AV.unk] []
def r145_c0 (i : Int) (xs ys : List AV) : Bool := AV.has (TI.mk (TD.struct [(0, 3, false), (1, 4, false), (2, 36, false), (4, 36, false)]) 6 48 [AV.int IntKind.i64 0, AV.bool false, AV.int IntKind.u64 0, AV.int IntKind.u64 0, AV.int IntKind.u64 0, AV.int IntKind.u64 0]) (xs.getD i.toNat AV.unk)
def r145_c1 (i : Int) (xs ys : List AV) : Bool := AV.has (TI.mk (TD.struct [(0, 3, false), (1, 4, false), (2, 36, false), (4, 36, false)]) 6 48 [AV.int IntKind.i64 0, AV.bool false, AV.int IntKind.u64 0, AV.int IntKind.u64 0, AV.int IntKind.u64 0, AV.int IntKind.u64 0]) (ys.getD i.toNat AV.unk)
def r145_c2 (i : Int) (xs ys : List AV) : Bool := !sameO (((xs.getD i.toNat AV.unk).cells.getD 0 AV.unk).asInt, ((xs.getD i.toNat AV.unk).cells.getD 1 AV.unk).asBool, (((xs.getD i.toNat AV.unk).cells.getD 2 AV.unk).asInt, ((xs.getD i.toNat AV.unk).cells.getD 3 AV.unk).asInt), ((xs.getD i.toNat AV.unk).cells.getD 4 AV.unk).asInt, ((xs.getD i.toNat AV.unk).cells.getD 5 AV.unk).asInt) (((ys.getD i.toNat AV.unk).cells.getD 0 AV.unk).asInt, ((ys.getD i.toNat AV.unk).cells.getD 1 AV.unk).asBool, (((ys.getD i.toNat AV.unk).cells.getD 2 AV.unk).asInt, ((ys.getD i.toNat AV.unk).cells.getD 3 AV.unk).asInt), ((ys.getD i.toNat AV.unk).cells.getD 4 AV.unk).asInt, ((ys.getD i.toNat AV.unk).cells.getD 5 AV.unk).asInt)
theorem r145 (i : Int) (xs ys : List AV) (Pr : _ → Prop) (F : _ → Ex × AS) (m : _ → Nat) (k0 : (ilt i (↑xs.length : Int)) = true → (inR i xs.length) = true) (k1 : (ilt i (↑xs.length : Int)) = true → (AV.has (TI.mk (TD.struct [(0, 3, false), (1, 4, false), (2, 36, false), (4, 36, false)]) 6 48 [AV.int IntKind.i64 0, AV.bool false, AV.int IntKind.u64 0, AV.int IntKind.u64 0, AV.int IntKind.u64 0, AV.int IntKind.u64 0]) (xs.getD i.toNat AV.unk)) = true) (k2 : (ilt i (↑xs.length : Int)) = true → (inR i ys.length) = true) (k3 : (ilt i (↑xs.length : Int)) = true → (AV.has (TI.mk (TD.struct [(0, 3, false), (1, 4, false), (2, 36, false), (4, 36, false)]) 6 48 [AV.int IntKind.i64 0, AV.bool false, AV.int IntKind.u64 0, AV.int IntKind.u64 0, AV.int IntKind.u64 0, AV.int IntKind.u64 0]) (ys.getD i.toNat AV.unk)) = true) (k4 : (ilt i (↑xs.length : Int)) = true → (!sameO (((xs.getD i.toNat AV.unk).cells.getD 0 AV.unk).asInt, ((xs.getD i.toNat AV.unk).cells.getD 1 AV.unk).asBool, (((xs.getD i.toNat AV.unk).cells.getD 2 AV.unk).asInt, ((xs.getD i.toNat AV.unk).cells.getD 3 AV.unk).asInt), ((xs.getD i.toNat AV.unk).cells.getD 4 AV.unk).asInt, ((xs.getD i.toNat AV.unk).cells.getD 5 AV.unk).asInt) (((ys.getD i.toNat AV.unk).cells.getD 0 AV.unk).asInt, ((ys.getD i.toNat AV.unk).cells.getD 1 AV.unk).asBool, (((ys.getD i.toNat AV.unk).cells.getD 2 AV.unk).asInt, ((ys.getD i.toNat AV.unk).cells.getD 3 AV.unk).asInt), ((ys.getD i.toNat AV.unk).cells.getD 4 AV.unk).asInt, ((ys.getD i.toNat AV.unk).cells.getD 5 AV.unk).asInt)) = true → F (i, xs, ys) = (Ex.ret, r145_o0 i xs ys)) (k5 : (ilt i (↑xs.length : Int)) = true → (!sameO (((xs.getD i.toNat AV.unk).cells.getD 0 AV.unk).asInt, ((xs.getD i.toNat AV.unk).cells.getD 1 AV.unk).asBool, (((xs.getD i.toNat AV.unk).cells.getD 2 AV.unk).asInt, ((xs.getD i.toNat AV.unk).cells.getD 3 AV.unk).asInt), ((xs.getD i.toNat AV.unk).cells.getD 4 AV.unk).asInt, ((xs.getD i.toNat AV.unk).cells.getD 5 AV.unk).asInt) (((ys.getD i.toNat AV.unk).cells.getD 0 AV.unk).asInt, ((ys.getD i.toNat AV.unk).cells.getD 1 AV.unk).asBool, (((ys.getD i.toNat AV.unk).cells.getD 2 AV.unk).asInt, ((ys.getD i.toNat AV.unk).cells.getD 3 AV.unk).asInt), ((ys.getD i.toNat AV.unk).cells.getD 4 AV.unk).asInt, ((ys.getD i.toNat AV.unk).cells.getD 5 AV.unk).asInt)) = false → OnOk Pr F m (i, xs, ys) ((iadd IntKind.i64 i 1, xs, ys))) (k6 : (ilt i (↑xs.length : Int)) = false → F (i, xs, ys) = (Ex.exit 0, r145_o1 i xs ys)) : Round (book.envP 145 sp145 big noLoops) (loopBody Try.f145 4) (book.clean 145 4) (book.clean 145 (4 + 500)) st145 pr145 Pr F m (i, xs, ys) :=
  Round.of (Bool.rec (motive := fun _ => TE) (.ret (Ex.exit 0, r145_o1 i xs ys)) (Bool.rec (motive := fun _ => TE) .no (Bool.rec (motive := fun _ => TE) .no (Bool.rec (motive := fun _ => TE) .no (Bool.rec (motive := fun _ => TE) .no (.must (Same ([AV.agg [AV.int IntKind.i64 ((xs.getD i.toNat AV.unk).cells.getD 0 AV.unk).asInt, AV.bool ((xs.getD i.toNat AV.unk).cells.getD 1 AV.unk).asBool, AV.int IntKind.u64 ((xs.getD i.toNat AV.unk).cells.getD 2 AV.unk).asInt, AV.int IntKind.u64 ((xs.getD i.toNat AV.unk).cells.getD 3 AV.unk).asInt, AV.int IntKind.u64 ((xs.getD i.toNat AV.unk).cells.getD 4 AV.unk).asInt, AV.int IntKind.u64 ((xs.getD i.toNat AV.unk).cells.getD 5 AV.unk).asInt], AV.agg [AV.int IntKind.i64 ((ys.getD i.toNat AV.unk).cells.getD 0 AV.unk).asInt, AV.bool ((ys.getD i.toNat AV.unk).cells.getD 1 AV.unk).asBool, AV.int IntKind.u64 ((ys.getD i.toNat AV.unk).cells.getD 2 AV.unk).asInt, AV.int IntKind.u64 ((ys.getD i.toNat AV.unk).cells.getD 3 AV.unk).asInt, AV.int IntKind.u64 ((ys.getD i.toNat AV.unk).cells.getD 4 AV.unk).asInt, AV.int IntKind.u64 ((ys.getD i.toNat AV.unk).cells.getD 5 AV.unk).asInt]])) (Bool.rec (motive := fun _ => TE) (.must (Same (st145 (iadd IntKind.i64 i 1, xs, ys))) (.ret (.normal, st145 ((iadd IntKind.i64 i 1, xs, ys))))) (.ret (Ex.ret, r145_o0 i xs ys)) ((r145_c2 i xs ys)))) ((r145_c1 i xs ys))) (inR i ys.length)) ((r145_c0 i xs ys))) (inR i xs.length)) (ilt i (↑xs.length : Int))) (.s (.s .z .z) .z) (by kernel_rfl) (.ite (fun h0_0 => .step (k0 h0_0) (.step (k1 h0_0) (.step (k2 h0_0) (.step (k3 h0_0) (.must (same_ok _) (.ite (fun h4_5 => .out (k4 h0_0 h4_5)) (fun h4_5 => .must (same_ok _) (.next (k5 h0_0 h4_5))))))))) (fun h0_0 => .exit (k6 h0_0)))
theorem p145 (xs ys : List AV) (r : AV × List (List AV)) (k0 : (!ieq (↑xs.length : Int) (↑ys.length : Int)) = true → ((AV.bool false, [])) = r) (k1 : (!ieq (↑xs.length : Int) (↑ys.length : Int)) = false → (L145.pre (0, xs, ys)) = true) (k2 : (!ieq (↑xs.length : Int) (↑ys.length : Int)) = false → (!eqO xs ys) = true → ((AV.bool false, [])) = r) (k3 : (!ieq (↑xs.length : Int) (↑ys.length : Int)) = false → (!eqO xs ys) = false → ((AV.bool true, [])) = r) : Goes (runP (book.envP 145 sp145 big (loopsAt [(4, lp145)])) Try.f145 [.sl 6 xs .sh, .sl 6 ys .sh, .fn 78 []] [] (.s .z (.s .z .z))) r :=
  Goes.of_eq (t' := Bool.rec (motive := fun _ => TR) (.must (Same (st145 (0, xs, ys))) (Bool.rec (motive := fun _ => TR) .no (Bool.rec (motive := fun _ => TR) (.ret ((AV.bool true, []))) (.ret ((AV.bool false, []))) (!eqO xs ys)) (L145.pre (0, xs, ys)))) (.ret ((AV.bool false, []))) (!ieq (↑xs.length : Int) (↑ys.length : Int))) (by kernel_rfl) (.ite (fun h0_0 => Goes.leafE (k0 h0_0)) (fun h0_0 => .must (same_ok _) (.step (k1 h0_0) (.ite (fun h2_2 => Goes.leafE (k2 h0_0 h2_2)) (fun h2_2 => Goes.leafE (k3 h0_0 h2_2))))))
theorem p93 (xs ys : List AV) (r : AV × List (List AV)) (k0 : (okX xs && okX ys) = true) (k1 : ((AV.bool (eqO xs ys), [])) = r) : Goes (runP (book.envP 93 sp93 100 noLoops) Try.f93 [.sl 6 xs .sh, .sl 6 ys .sh] [] .z) r :=
  Goes.of_eq (t' := .must (Same ([AV.sl 6 xs St.sh, AV.sl 6 ys St.sh, AV.fn 78 []])) (Bool.rec (motive := fun _ => TR) .no (.ret ((AV.bool (eqO xs ys), []))) (okX xs && okX ys))) (by kernel_rfl) (.must (same_ok _) (.step (k0) (Goes.leafE (k1))))
end Go.Proofs.Ytdcijmigoefnjaa

/- Chapter 11: the same, and cubes: contracts. -/
set_option linter.unusedVariables false
set_option linter.unusedSimpArgs false
set_option maxRecDepth 100000
set_option maxHeartbeats 0
namespace Go.Proofs.Ytdcijmigoefnjaa
open Go Go.Ev

theorem eqO_step {xs ys : List AV} {n : Nat} (h1 : n < xs.length) (h2 : n < ys.length) : eqO (xs.drop n) (ys.drop n) = (sameO (ox (xs.getD n .unk)) (ox (ys.getD n .unk)) && eqO (xs.drop (n + 1)) (ys.drop (n + 1))) := by
  rw [getD_drop h1, getD_drop h2]; rfl
theorem eqO_len : ∀ {xs ys : List AV}, eqO xs ys = true → xs.length = ys.length
  | [], [], _ => rfl
  | x :: xs, y :: ys, h => by
    simp only [eqO, Bool.and_eq_true] at h
    simp [eqO_len h.2]
  | [], _ :: _, h => by cases h
  | _ :: _, [], h => by cases h
theorem ok145 {r : X145} (h : (okX r.1 && (okX r.2 && Nat.beq r.1.length r.2.length)) = true) : okX r.1 = true ∧ okX r.2 = true ∧ r.1.length = r.2.length := by
  simp only [Bool.and_eq_true] at h
  exact ⟨h.1, h.2.1, Nat.eq_of_beq_eq_true h.2.2⟩
theorem good145 : L145.Good := by
  refine ⟨fun r j ho hj h => ⟨?_, rfl⟩, fun r j ho hj h => ⟨?_, rfl⟩, fun r j ho hj => ?_⟩
  all_goals
    obtain ⟨h1, h2, h3⟩ := ok145 (r := r) ho
  · have hj : j < r.1.length := hj
    have h : (!sameO (ox (r.1.getD j .unk)) (ox (r.2.getD j .unk))) = true := h
    show (!eqO (r.1.drop j) (r.2.drop j)) = true
    rw [eqO_step hj (by omega)]
    cases hs : sameO (ox (r.1.getD j .unk)) (ox (r.2.getD j .unk)) <;> rw [hs] at h
    · rfl
    · cases h
  · have hj : j < r.1.length := hj
    have h : (!sameO (ox (r.1.getD j .unk)) (ox (r.2.getD j .unk))) = false := h
    show (!eqO (r.1.drop j) (r.2.drop j)) = !eqO (r.1.drop (j + 1)) (r.2.drop (j + 1))
    rw [eqO_step hj (by omega)]
    cases hs : sameO (ox (r.1.getD j .unk)) (ox (r.2.getD j .unk)) <;> rw [hs] at h
    · cases h
    · rfl
  · have hj : r.1.length ≤ j := hj
    show (!eqO (r.1.drop j) (r.2.drop j)) = false
    rw [List.drop_eq_nil_of_le hj, List.drop_eq_nil_of_le (by omega)]; rfl
theorem sp145_ok : SpecTL Try.prog sp145 := ⟨s78, s79, trivial⟩
theorem step145 (x : Int × X145) (h : L145.P x) : Round (book.envP 145 sp145 big noLoops) (loopBody Try.f145 4) (book.clean 145 4) (book.clean 145 (4 + 500)) st145 pr145 L145.P (fun x => (L145.tr x).val) L145.m x := by
  obtain ⟨i, xs, ys⟩ := x
  obtain ⟨h1, h2, h3⟩ := ok145 (r := (xs, ys)) h.ok
  have h3 : xs.length = ys.length := h3
  exact r145 i xs ys _ _ _ (fun k => h.in_ k) (fun k => okX_has h1 (h.lt k)) (fun k => h3 ▸ h.in_ k) (fun k => okX_has h2 (h3 ▸ h.lt k)) (fun k e => h.found good145 k e) (fun k e => h.on good145 k e) (fun k => h.fin_ good145 k)
theorem lok145 {loops} : LoopOk (book.envP 145 sp145 big loops) (loopBody Try.f145 4) lp145 := FL.loop (loops' := noLoops) (noInner (by kernel_rfl)) (by kernel_rfl) step145
theorem len_ne {xs ys : List AV} (e : (!ieq (xs.length : Int) (ys.length : Int)) = true) : eqO xs ys = false := by
  cases hq : eqO xs ys
  · rfl
  · rw [eqO_len hq] at e; simp [ieq] at e
theorem len_eq {xs ys : List AV} (e : (!ieq (xs.length : Int) (ys.length : Int)) = false) : xs.length = ys.length := by
  simp only [Bool.not_eq_false', ieq, beq_iff_eq] at e; omega
theorem pre145 {xs ys : List AV} (h : (okX xs && okX ys) = true) (e : xs.length = ys.length) : (okX xs && (okX ys && Nat.beq xs.length ys.length)) = true := by
  simp only [Bool.and_eq_true] at h
  rw [h.1, h.2, e]; simp
theorem s145 : SumTOk Try.prog 145 S145 := sumW_ok fun x h => by
  obtain ⟨xs, ys⟩ := x
  have h : (okX xs && okX ys) = true := h
  have hx : okX xs = true := by simp only [Bool.and_eq_true] at h; exact h.1
  refine book_ok.run1 (by kernel_rfl) sp145_ok (by kernel_rfl) lok145 (p145 xs ys _ (fun e => ?_) (fun e => FL.pre_of (i := 0) (Nat.zero_le _) (okX_iff.1 hx).2 (pre145 h (len_eq e))) (fun e e2 => ?_) (fun e e2 => ?_)) <;> show _ = (AV.bool (eqO xs ys), _)
  · rw [len_ne e]
  · rw [show eqO xs ys = false by simpa using e2]
  · rw [show eqO xs ys = true by simpa using e2]
theorem sp93_ok : SpecTL Try.prog sp93 := ⟨s145, trivial⟩
theorem s93 : SumTOk Try.prog 93 S93 := sumW_ok fun x h => by
  obtain ⟨xs, ys⟩ := x
  exact book_ok.pth (by kernel_rfl) sp93_ok (p93 xs ys _ h rfl)
end Go.Proofs.Ytdcijmigoefnjaa
