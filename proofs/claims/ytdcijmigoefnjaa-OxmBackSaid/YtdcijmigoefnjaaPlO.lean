/- Chapter 10: parts as bytes, and back: plain laws. -/
import Derived.Test.YtdcijmigoefnjaaL10b
set_option linter.unusedVariables false
set_option linter.unusedSimpArgs false
set_option maxRecDepth 100000
namespace Go.Proofs.Ytdcijmigoefnjaa
open Go Go.Ev

theorem enc_all : ((List.range 24).all fun j => (ieq (ixOf (idNum (j : Int) true / 2)).1 j && ((ixOf (idNum (j : Int) true / 2)).2 && ieq (idNum (j : Int) true % 2) 1)) && ((ieq (ixOf (idNum (j : Int) false / 2)).1 j && ((ixOf (idNum (j : Int) false / 2)).2 && !ieq (idNum (j : Int) false % 2) 1)) &&
    Nat.blt ((allW (j : Int)).1.toNat * 18446744073709551616 + (allW (j : Int)).2.toNat) (256 ^ (sizeOf (j : Int)).toNat))) = true := by kernel_rfl
structure EncF (f : Int) : Prop where
  t1 : (ixOf (idNum f true / 2)).1 = f
  t2 : (ixOf (idNum f true / 2)).2 = true
  t3 : ieq (idNum f true % 2) 1 = true
  f1 : (ixOf (idNum f false / 2)).1 = f
  f2 : (ixOf (idNum f false / 2)).2 = true
  f3 : ieq (idNum f false % 2) 1 = false
  w : (allW f).1.toNat * 2 ^ 64 + (allW f).2.toNat < 256 ^ (sizeOf f).toNat
theorem enc_f {f : Int} (h : isF f = true) : EncF f := by
  obtain ⟨j, hj, rfl⟩ := isF_cases h
  have := List.all_eq_true.1 enc_all j (List.mem_range.2 hj)
  simp only [Bool.and_eq_true, Bool.not_eq_true', Nat.blt_eq] at this
  obtain ⟨⟨a, b, c⟩, ⟨d, e, f⟩, g⟩ := this
  simp only [ieq, beq_iff_eq] at a d
  exact ⟨a, b, c, d, e, f, g⟩
theorem enc_fm {f : Int} (h : isF f = true) (m : Bool) : (ixOf (idNum f m / 2)).1 = f ∧ (ixOf (idNum f m / 2)).2 = true ∧ ieq (idNum f m % 2) 1 = m := by
  have e := enc_f h
  cases m
  · exact ⟨e.f1, e.f2, e.f3⟩
  · exact ⟨e.t1, e.t2, e.t3⟩
theorem idNum_range {f : Int} (h : isF f = true) (m : Bool) : 0 ≤ idNum f m ∧ idNum f m < 256 := by
  have n := num_f h
  have n1 := n.n1
  have n2 := n.n2
  simp only [numOk, Bool.and_eq_true, Bool.or_eq_true, ieq, beq_iff_eq, ile_iff', ilt_iff] at n1 n2
  cases m <;> omega
theorem bodyN_range {f : Int} (h : isF f = true) (m : Bool) : 0 ≤ bodyN f m ∧ bodyN f m ≤ 32 := by
  have := sz_range h
  cases m <;> simp only [bodyN, cond_true, cond_false] <;> omega

theorem nbyte_small {n : Int} (h : 0 ≤ n) (h2 : n < 256) : nbyte n 0 = .int .u8 n := by
  unfold nbyte ishr
  rw [IntKind.wrap_u8]
  have : n.fdiv (2 ^ (min (0 : Int).toNat IntKind.i64.bits)) = n := by
    simp [IntKind.bits]
  rw [this]
  congr 1; omega
theorem numL1 {n : Int} (h : 0 ≤ n) (h2 : n < 256) : numL n 1 = [.int .u8 n] := by
  show [nbyte n 0] = _
  rw [nbyte_small h h2]
theorem encL_eq {x : XO} (h : isF x.1 = true) : encL x = .int .u8 128 :: .int .u8 0 :: .int .u8 (idNum x.1 x.2.1) :: .int .u8 (bodyN x.1 x.2.1) :: bodyL x := by
  obtain ⟨f, m, v, k⟩ := x
  have h1 := idNum_range h m
  have h2 := bodyN_range h m
  have e : numL 32768 2 = [.int .u8 128, .int .u8 0] := by kernel_rfl
  unfold encL
  simp only
  rw [e, numL1 h1.1 h1.2, numL1 h2.1 (by omega)]; rfl

/-- bits of one number within another's -/
theorem andNot_le {a b : Int} (ha : inU a = true) (hb : inU b = true) (h : ieq (ibits .andNot .u64 a b) 0 = true) : a ≤ b := by
  rw [inU_iff] at ha hb
  obtain ⟨m, rfl⟩ : ∃ m : Nat, a = m := ⟨a.toNat, by omega⟩
  obtain ⟨n, rfl⟩ : ∃ n : Nat, b = n := ⟨b.toNat, by omega⟩
  rw [ibits_eq] at h
  simp only [ieq, beq_iff_eq] at h
  have h : IntKind.u64.wrap ((BitVec.ofInt 64 (m : Int) &&& ~~~ (BitVec.ofInt 64 (n : Int))).toNat : Int) = 0 := h
  rw [IntKind.wrap_u64] at h
  generalize hx : BitVec.ofInt 64 (m : Int) = x at h
  generalize hy : BitVec.ofInt 64 (n : Int) = y at h
  have hxm : x.toNat = m := by rw [← hx, BitVec.ofInt_natCast, BitVec.toNat_ofNat, Nat.mod_eq_of_lt (by omega)]
  have hyn : y.toNat = n := by rw [← hy, BitVec.ofInt_natCast, BitVec.toNat_ofNat, Nat.mod_eq_of_lt (by omega)]
  have hlt := (x &&& ~~~ y).isLt
  have h0 : (x &&& ~~~ y).toNat = 0 := by omega
  have hz : x &&& ~~~ y = 0#64 := BitVec.eq_of_toNat_eq (by rw [h0]; rfl)
  have hor : x ||| y = y := by
    apply BitVec.eq_of_getLsbD_eq
    intro i hi
    have := congrArg (fun b => b.getLsbD i) hz
    simp only [BitVec.getLsbD_and, BitVec.getLsbD_not, hi, decide_true, Bool.true_and, BitVec.getLsbD_zero] at this
    rw [BitVec.getLsbD_or]
    cases hx' : x.getLsbD i <;> cases hy' : y.getLsbD i <;> simp_all
  have : x.toNat ≤ y.toNat := by
    have h1 : x.toNat ≤ (x ||| y).toNat := by rw [BitVec.toNat_or]; exact Nat.left_le_or
    rw [hor] at h1; exact h1
  omega
theorem all_in {f : Int} (h : isF f = true) : inW (allW f) = true := by
  have : ((List.range 24).all fun j => inW (allW (j : Int))) = true := by kernel_rfl
  obtain ⟨j, hj, rfl⟩ := isF_cases h
  exact List.all_eq_true.1 this j (List.mem_range.2 hj)
/-- a value within its field's bytes -/
theorem in_bytes {f : Int} (hf : isF f = true) {v : Int × Int} (hv : inW v = true) (h : beyond f v = false) : ∃ hi lo : Nat, v = ((hi : Int), (lo : Int)) ∧ lo < 2 ^ 64 ∧ hi * 2 ^ 64 + lo < 256 ^ (sizeOf f).toNat := by
  unfold beyond at h
  simp only [Bool.not_eq_false', zeroW, lessW, Bool.and_eq_true] at h
  have ha := all_in hf
  simp only [inW, Bool.and_eq_true] at ha hv
  have h1 := andNot_le hv.1 ha.1 h.1
  have h2 := andNot_le hv.2 ha.2 h.2
  simp only [inU_iff] at hv ha
  have w := (enc_f hf).w
  refine ⟨v.1.toNat, v.2.toNat, by apply Prod.ext <;> simp only <;> omega, by omega, Nat.lt_of_le_of_lt ?_ w⟩
  omega
theorem less_zero {a b c : Int × Int} (h : zeroW (lessW a b) = true) : True := trivial

theorem form_zero {x : XO} (h : ieq (formO x) 0 = true) : beyond x.1 x.2.2.1 = false ∧ (x.2.1 = true → beyond x.1 x.2.2.2 = false) := by
  obtain ⟨f, m, v, k⟩ := x
  unfold formO at h
  simp only at h ⊢
  cases h1 : beyond f v <;> rw [h1] at h
  · refine ⟨rfl, fun hm => ?_⟩
    subst hm
    cases h2 : beyond f k <;> rw [h2] at h <;> first | rfl | cases h
  · cases h

theorem sizeN {f : Int} (h : isF f = true) : ∃ n : Nat, sizeOf f = n ∧ 1 ≤ n ∧ n ≤ 16 := by
  have := sz_range h
  exact ⟨(sizeOf f).toNat, by omega, by omega, by omega⟩
theorem putL_bytes {f : Int} (hf : isF f = true) {v : Int × Int} (hv : inW v = true) (h : beyond f v = false) : byteL (putL v (sizeOf f)) := by
  obtain ⟨n, e, h1, h2⟩ := sizeN hf
  obtain ⟨hi, lo, rfl, h3, h4⟩ := in_bytes hf hv h
  rw [e, putL_eq _ _ h3 h2]; exact bytesBE_ok _ _

/-- a part is read from its bytes, whatever is behind -/
theorem dec_enc {x : XO} (hr : rightO x = true) (hi : inO x = true) {rest : List AV} (hb : byteL rest) : decCode (encL x ++ rest) = 0 ∧ decX (encL x ++ rest) = x ∧ 4 + byN (encL x ++ rest) 3 = ((encL x).length : Int) := by
  have hf := right_f hr
  obtain ⟨f, m, v, k⟩ := x
  simp only at hf
  have e := encL_eq (x := (f, m, v, k)) hf
  simp only at e
  obtain ⟨n, hn, n1, n2⟩ := sizeN hf
  obtain ⟨c1, c2, c3⟩ := enc_fm hf m
  simp only [inO, Bool.and_eq_true] at hi
  have hform : ieq (formO (f, m, v, k)) 0 = true ∧ (bif m then masksOf f else zeroW k) = true := by
    unfold rightO at hr; simp only [Bool.and_eq_true] at hr; exact ⟨hr.2.2, hr.2.1⟩
  obtain ⟨hbv, hbk⟩ := form_zero hform.1
  simp only at hbv hbk
  have z3 : bodyN f m = ((bodyL (f, m, v, k)).length : Int) := by
    unfold bodyL bodyN
    have l1 := putL_lenI hf v
    have l2 := putL_lenI hf k
    cases m
    · simp only [cond_false, List.append_nil]; omega
    · simp only [cond_true, List.length_append]; omega
  have b0 : byN (encL (f, m, v, k) ++ rest) 0 = 128 := by rw [e]; rfl
  have b1 : byN (encL (f, m, v, k) ++ rest) 1 = 0 := by rw [e]; rfl
  have b2 : byN (encL (f, m, v, k) ++ rest) 2 = idNum f m := by rw [e]; rfl
  have b3 : byN (encL (f, m, v, k) ++ rest) 3 = bodyN f m := by rw [e]; rfl
  have eF : hdF (encL (f, m, v, k) ++ rest) = f := by unfold hdF; rw [b2, c1]
  have eI : hdIs (encL (f, m, v, k) ++ rest) = true := by unfold hdIs; rw [b2, c2]
  have eM : hdM (encL (f, m, v, k) ++ rest) = m := by unfold hdM; rw [b2, c3]
  have len : (encL (f, m, v, k)).length = 4 + (bodyL (f, m, v, k)).length := by rw [e]; simp only [List.length_cons]; omega
  have code : hdCode (encL (f, m, v, k) ++ rest) = 0 := by
    have l1 : ilt ((encL (f, m, v, k) ++ rest).length : Int) 4 = false := by rw [ilt_no, List.length_append]; omega
    have l2 : ilt ((encL (f, m, v, k) ++ rest).length : Int) (4 + bodyN f m) = false := by rw [ilt_no, List.length_append]; omega
    unfold hdCode
    rw [l1, b3, l2, b0, b1, eI, eM, eF]
    have l3 : (bif m then !masksOf f else false) = false := by
      have := hform.2
      cases m
      · rfl
      · simp only [cond_true] at this ⊢; rw [this]; rfl
    rw [l3]
    simp [ieq]
  have dr : (encL (f, m, v, k) ++ rest).drop 4 = bodyL (f, m, v, k) ++ rest := by rw [e]; rfl
  obtain ⟨vh, vl, hv1, hv2, hv3⟩ := in_bytes hf hi.1 hbv
  have hn' : (sizeOf f).toNat = n := by omega
  rw [hn'] at hv3
  have X : decX (encL (f, m, v, k) ++ rest) = (f, m, v, k) := by
    unfold decX valX
    rw [eF, eM]
    have t4 : (4 : Int).toNat = 4 := rfl
    rw [t4, dr]
    cases m
    · have hk : k = (0, 0) := by
        have := hform.2
        simp only [cond_false, zeroW, Bool.and_eq_true, ieq, beq_iff_eq] at this
        exact Prod.ext this.1 this.2
      have eb : bodyL (f, false, v, k) ++ rest = putL v (sizeOf f) ++ rest := by unfold bodyL; simp
      obtain ⟨g1, g2⟩ := get_put (rest := rest) hv2 n2 hv3 hb
      rw [eb, hv1, hn, g1, g2, hk]; rfl
    · have eb : bodyL (f, true, v, k) ++ rest = putL v (sizeOf f) ++ (putL k (sizeOf f) ++ rest) := by unfold bodyL; simp
      obtain ⟨kh, kl, hk1, hk2, hk3⟩ := in_bytes hf hi.2 (hbk rfl)
      rw [hn'] at hk3
      have bk := putL_bytes hf hi.2 (hbk rfl)
      have hb2 : byteL (putL k (sizeOf f) ++ rest) := fun y hy => (List.mem_append.1 hy).elim (bk y) (hb y)
      obtain ⟨g1, g2⟩ := get_put (rest := putL k (sizeOf f) ++ rest) hv2 n2 hv3 hb2
      obtain ⟨g3, g4⟩ := get_put (rest := rest) hk2 n2 hk3 hb
      have dr2 : (encL (f, true, v, k) ++ rest).drop (4 + sizeOf f).toNat = putL k (sizeOf f) ++ rest := by
        have lp := putL_lenI hf v
        have : (4 + sizeOf f).toNat = 4 + (putL v (sizeOf f)).length := by omega
        rw [this, ← List.drop_drop, dr, eb, List.drop_left]
      rw [eb, dr2, cond_true]
      rw [hn] at *
      rw [hv1, hk1] at *
      rw [g1, g2, g3, g4]
  refine ⟨?_, X, ?_⟩
  · unfold decCode
    rw [code, X]
    have := hform.1
    simp only [ieq, beq_iff_eq] at this
    exact this
  · rw [b3, len, z3]; omega

theorem ix_id_step (b : Bool) (k n i : Int) (r : Int × Bool) (hb : b = ieq i n) (h : idOf k = i) (h2 : r.2 = true → idOf r.1 = n) : (bif b then (k, true) else r).2 = true → idOf (bif b then (k, true) else r).1 = n := by
  cases b with
  | false => exact h2
  | true =>
    intro _
    have : i = n := by simpa [ieq] using hb.symm
    simp only [cond_true]; rw [h, this]
theorem ix_id (n : Int) : (ixOf n).2 = true → idOf (ixOf n).1 = n := by
  unfold ixOf
  iterate 24 (refine ix_id_step _ _ n _ _ rfl rfl ?_)
  intro h; cases h
/-- what is read has just these bytes -/
theorem enc_dec {xs : List AV} (hb : byteL xs) (h : decCode xs = 0) : rightO (decX xs) = true ∧ encL (decX xs) = xs.take (4 + byN xs 3).toNat ∧ (4 + byN xs 3).toNat ≤ xs.length ∧ 0 ≤ byN xs 3 := by
  have hc : ieq (hdCode xs) 0 = true := by
    cases hq : ieq (hdCode xs) 0 with
    | true => rfl
    | false => unfold decCode at h; rw [hq] at h; simp only [cond_false] at h; rw [h] at hq; cases hq
  have k := hd_ok hc
  have hform : ieq (formO (decX xs)) 0 = true := by unfold decCode at h; rw [hc, cond_true] at h; rw [h]; rfl
  have hf : isF (hdF xs) = true := ix_isF _
  obtain ⟨n, hn, n1, n2⟩ := sizeN hf
  have br := bodyN_range hf (hdM xs)
  have kn := k.n
  rw [k.z] at kn
  refine ⟨?_, ?_, by rw [k.z]; omega, by rw [k.z]; omega⟩
  · unfold rightO
    rw [hform]
    show (isF (hdF xs) && ((bif hdM xs then masksOf (hdF xs) else zeroW (bif hdM xs then valX xs (4 + sizeOf (hdF xs)) (sizeOf (hdF xs)) else (0, 0))) && true)) = true
    rw [hf]
    cases hm : hdM xs with
    | true => simp [k.m hm]
    | false => rfl
  · rw [encL_eq (x := decX xs) hf]
    show .int .u8 128 :: .int .u8 0 :: .int .u8 (idNum (hdF xs) (hdM xs)) :: .int .u8 (bodyN (hdF xs) (hdM xs)) :: bodyL (decX xs) = _
    obtain ⟨z0, z1, z2, z3, F⟩ := four hb (by rw [ilt_no]; have := k.l; omega)
    have b2 : byN xs 2 = z2 := by unfold byN; rw [F.e2]; rfl
    have b3 : byN xs 3 = z3 := by unfold byN; rw [F.e3]; rfl
    have e0 : xs.getD 0 .unk = .int .u8 128 := by have := k.b0; unfold byN at this; rw [F.e0] at this ⊢; simp only [AV.asInt] at this; rw [this]
    have e1 : xs.getD 1 .unk = .int .u8 0 := by have := k.b1; unfold byN at this; rw [F.e1] at this ⊢; simp only [AV.asInt] at this; rw [this]
    have id : idNum (hdF xs) (hdM xs) = z2 := by
      have h1 : idOf (hdF xs) = byN xs 2 / 2 := ix_id _ k.is
      have h2 : hdM xs = ieq (byN xs 2 % 2) 1 := rfl
      unfold idNum
      rw [h1, h2, b2]
      cases hq : ieq ((z2 : Int) % 2) 1
      · simp only [ieq, beq_eq_false_iff_ne] at hq; simp only [cond_false]; omega
      · simp only [ieq, beq_iff_eq] at hq; simp only [cond_true]; omega
    have l4 : xs = .int .u8 128 :: .int .u8 0 :: .int .u8 (z2 : Int) :: .int .u8 (z3 : Int) :: xs.drop 4 := by
      have a0 := drop_getD (d := AV.unk) (xs := xs) (n := 0) (by have := k.l; omega)
      have a1 := drop_getD (d := AV.unk) (xs := xs) (n := 1) (by have := k.l; omega)
      have a2 := drop_getD (d := AV.unk) (xs := xs) (n := 2) (by have := k.l; omega)
      have a3 := drop_getD (d := AV.unk) (xs := xs) (n := 3) (by have := k.l; omega)
      rw [List.drop_zero] at a0
      rw [e0] at a0; rw [e1] at a1; rw [F.e2] at a2; rw [F.e3] at a3
      rw [a3] at a2; rw [a2] at a1; rw [a1] at a0
      exact a0
    have kz := k.z
    rw [id, ← kz, b3]
    have tk : xs.take (4 + (z3 : Int)).toNat = .int .u8 128 :: .int .u8 0 :: .int .u8 (z2 : Int) :: .int .u8 (z3 : Int) :: (xs.drop 4).take z3 := by
      have : (4 + (z3 : Int)).toNat = z3 + 4 := by omega
      rw [this]
      conv => lhs; rw [l4]
      rfl
    rw [tk]
    congr 4
    have hb4 : byteL (xs.drop 4) := fun y hy => hb y (List.mem_of_mem_drop hy)
    show putL (valX xs 4 (sizeOf (hdF xs))) (sizeOf (hdF xs)) ++ (bif hdM xs then putL (bif hdM xs then valX xs (4 + sizeOf (hdF xs)) (sizeOf (hdF xs)) else (0, 0)) (sizeOf (hdF xs)) else []) = _
    unfold valX
    have t4 : (4 : Int).toNat = 4 := rfl
    rw [t4]
    rw [b3] at kz
    cases hm : hdM xs with
    | false =>
      rw [hm] at kz kn br
      simp only [bodyN, cond_false, hn] at kz kn ⊢
      have hz : z3 = n := by omega
      rw [put_get hb4 (by rw [List.length_drop]; omega) n2, List.append_nil, hz]
    | true =>
      rw [hm] at kz kn br
      simp only [bodyN, cond_true, hn] at kz kn ⊢
      have hz : z3 = n + n := by omega
      have t : (4 + (n : Int)).toNat = 4 + n := by omega
      rw [t, put_get hb4 (by rw [List.length_drop]; omega) n2, put_get (fun y hy => hb y (List.mem_of_mem_drop hy)) (by rw [List.length_drop]; omega) n2, hz, List.take_add, List.drop_drop]

end Go.Proofs.Ytdcijmigoefnjaa
