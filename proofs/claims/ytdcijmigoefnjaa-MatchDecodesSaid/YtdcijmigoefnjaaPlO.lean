import Derived.Test.YtdcijmigoefnjaaL10b
import Derived.Test.YtdcijmigoefnjaaL10g
import Derived.Test.YtdcijmigoefnjaaEvLa
import Derived.Test.YtdcijmigoefnjaaD03
import Derived.Test.YtdcijmigoefnjaaP11f
import Derived.Test.YtdcijmigoefnjaaL11c
import Derived.Test.YtdcijmigoefnjaaP11i
/- Chapter 10: parts as bytes, and back: plain laws. -/
set_option linter.unusedVariables false
set_option linter.unusedSimpArgs false
set_option maxRecDepth 100000
namespace Go.Proofs.Ytdcijmigoefnjaa
open Go Go.Ev

structure EncF (f : Int) : Prop where
  t1 : (ixOf (idNum f true / 2)).1 = f
  t2 : (ixOf (idNum f true / 2)).2 = true
  t3 : ieq (idNum f true % 2) 1 = true
  f1 : (ixOf (idNum f false / 2)).1 = f
  f2 : (ixOf (idNum f false / 2)).2 = true
  f3 : ieq (idNum f false % 2) 1 = false
  w : (allW f).1.toNat * 2 ^ 64 + (allW f).2.toNat < 256 ^ (sizeOf f).toNat
theorem idNum_range {f : Int} (h : isF f = true) (m : Bool) : 0 ≤ idNum f m ∧ idNum f m < 256 := by
  have n := num_f h
  have n1 := n.n1
  have n2 := n.n2
  simp only [numOk, Bool.and_eq_true, Bool.or_eq_true, ieq, beq_iff_eq, ile_iff', ilt_iff] at n1 n2
  cases m <;> omega
theorem bodyN_range {f : Int} (h : isF f = true) (m : Bool) : 0 ≤ bodyN f m ∧ bodyN f m ≤ 32 := by
  have := sz_range h
  cases m <;> simp only [bodyN, cond_true, cond_false] <;> omega

theorem nbyte_small {n : Int} (h : 0 ≤ n) (h2 : n < 256) : nbyte n 0 = .int .u8 n := by
  unfold nbyte ishr
  rw [IntKind.wrap_u8]
  have : n.fdiv (2 ^ (min (0 : Int).toNat IntKind.i64.bits)) = n := by
    simp [IntKind.bits]
  rw [this]
  congr 1; omega
theorem numL1 {n : Int} (h : 0 ≤ n) (h2 : n < 256) : numL n 1 = [.int .u8 n] := by
  show [nbyte n 0] = _
  rw [nbyte_small h h2]
theorem encL_eq {x : XO} (h : isF x.1 = true) : encL x = .int .u8 128 :: .int .u8 0 :: .int .u8 (idNum x.1 x.2.1) :: .int .u8 (bodyN x.1 x.2.1) :: bodyL x := by
  obtain ⟨f, m, v, k⟩ := x
  have h1 := idNum_range h m
  have h2 := bodyN_range h m
  have e : numL 32768 2 = [.int .u8 128, .int .u8 0] := by kernel_rfl
  unfold encL
  simp only
  rw [e, numL1 h1.1 h1.2, numL1 h2.1 (by omega)]; rfl

theorem sizeN {f : Int} (h : isF f = true) : ∃ n : Nat, sizeOf f = n ∧ 1 ≤ n ∧ n ≤ 16 := by
  have := sz_range h
  exact ⟨(sizeOf f).toNat, by omega, by omega, by omega⟩
theorem ix_id_step (b : Bool) (k n i : Int) (r : Int × Bool) (hb : b = ieq i n) (h : idOf k = i) (h2 : r.2 = true → idOf r.1 = n) : (bif b then (k, true) else r).2 = true → idOf (bif b then (k, true) else r).1 = n := by
  cases b with
  | false => exact h2
  | true =>
    intro _
    have : i = n := by simpa [ieq] using hb.symm
    simp only [cond_true]; rw [h, this]
theorem ix_id (n : Int) : (ixOf n).2 = true → idOf (ixOf n).1 = n := by
  unfold ixOf
  iterate 24 (refine ix_id_step _ _ n _ _ rfl rfl ?_)
  intro h; cases h
/-- what is read has just these bytes -/
theorem enc_dec {xs : List AV} (hb : byteL xs) (h : decCode xs = 0) : rightO (decX xs) = true ∧ encL (decX xs) = xs.take (4 + byN xs 3).toNat ∧ (4 + byN xs 3).toNat ≤ xs.length ∧ 0 ≤ byN xs 3 := by
  have hc : ieq (hdCode xs) 0 = true := by
    cases hq : ieq (hdCode xs) 0 with
    | true => rfl
    | false => unfold decCode at h; rw [hq] at h; simp only [cond_false] at h; rw [h] at hq; cases hq
  have k := hd_ok hc
  have hform : ieq (formO (decX xs)) 0 = true := by unfold decCode at h; rw [hc, cond_true] at h; rw [h]; rfl
  have hf : isF (hdF xs) = true := ix_isF _
  obtain ⟨n, hn, n1, n2⟩ := sizeN hf
  have br := bodyN_range hf (hdM xs)
  have kn := k.n
  rw [k.z] at kn
  refine ⟨?_, ?_, by rw [k.z]; omega, by rw [k.z]; omega⟩
  · unfold rightO
    rw [hform]
    show (isF (hdF xs) && ((bif hdM xs then masksOf (hdF xs) else zeroW (bif hdM xs then valX xs (4 + sizeOf (hdF xs)) (sizeOf (hdF xs)) else (0, 0))) && true)) = true
    rw [hf]
    cases hm : hdM xs with
    | true => simp [k.m hm]
    | false => rfl
  · rw [encL_eq (x := decX xs) hf]
    show .int .u8 128 :: .int .u8 0 :: .int .u8 (idNum (hdF xs) (hdM xs)) :: .int .u8 (bodyN (hdF xs) (hdM xs)) :: bodyL (decX xs) = _
    obtain ⟨z0, z1, z2, z3, F⟩ := four hb (by rw [ilt_no]; have := k.l; omega)
    have b2 : byN xs 2 = z2 := by unfold byN; rw [F.e2]; rfl
    have b3 : byN xs 3 = z3 := by unfold byN; rw [F.e3]; rfl
    have e0 : xs.getD 0 .unk = .int .u8 128 := by have := k.b0; unfold byN at this; rw [F.e0] at this ⊢; simp only [AV.asInt] at this; rw [this]
    have e1 : xs.getD 1 .unk = .int .u8 0 := by have := k.b1; unfold byN at this; rw [F.e1] at this ⊢; simp only [AV.asInt] at this; rw [this]
    have id : idNum (hdF xs) (hdM xs) = z2 := by
      have h1 : idOf (hdF xs) = byN xs 2 / 2 := ix_id _ k.is
      have h2 : hdM xs = ieq (byN xs 2 % 2) 1 := rfl
      unfold idNum
      rw [h1, h2, b2]
      cases hq : ieq ((z2 : Int) % 2) 1
      · simp only [ieq, beq_eq_false_iff_ne] at hq; simp only [cond_false]; omega
      · simp only [ieq, beq_iff_eq] at hq; simp only [cond_true]; omega
    have l4 : xs = .int .u8 128 :: .int .u8 0 :: .int .u8 (z2 : Int) :: .int .u8 (z3 : Int) :: xs.drop 4 := by
      have a0 := drop_getD (d := AV.unk) (xs := xs) (n := 0) (by have := k.l; omega)
      have a1 := drop_getD (d := AV.unk) (xs := xs) (n := 1) (by have := k.l; omega)
      have a2 := drop_getD (d := AV.unk) (xs := xs) (n := 2) (by have := k.l; omega)
      have a3 := drop_getD (d := AV.unk) (xs := xs) (n := 3) (by have := k.l; omega)
      rw [List.drop_zero] at a0
      rw [e0] at a0; rw [e1] at a1; rw [F.e2] at a2; rw [F.e3] at a3
      rw [a3] at a2; rw [a2] at a1; rw [a1] at a0
      exact a0
    have kz := k.z
    rw [id, ← kz, b3]
    have tk : xs.take (4 + (z3 : Int)).toNat = .int .u8 128 :: .int .u8 0 :: .int .u8 (z2 : Int) :: .int .u8 (z3 : Int) :: (xs.drop 4).take z3 := by
      have : (4 + (z3 : Int)).toNat = z3 + 4 := by omega
      rw [this]
      conv => lhs; rw [l4]
      rfl
    rw [tk]
    congr 4
    have hb4 : byteL (xs.drop 4) := fun y hy => hb y (List.mem_of_mem_drop hy)
    show putL (valX xs 4 (sizeOf (hdF xs))) (sizeOf (hdF xs)) ++ (bif hdM xs then putL (bif hdM xs then valX xs (4 + sizeOf (hdF xs)) (sizeOf (hdF xs)) else (0, 0)) (sizeOf (hdF xs)) else []) = _
    unfold valX
    have t4 : (4 : Int).toNat = 4 := rfl
    rw [t4]
    rw [b3] at kz
    cases hm : hdM xs with
    | false =>
      rw [hm] at kz kn br
      simp only [bodyN, cond_false, hn] at kz kn ⊢
      have hz : z3 = n := by omega
      rw [put_get hb4 (by rw [List.length_drop]; omega) n2, List.append_nil, hz]
    | true =>
      rw [hm] at kz kn br
      simp only [bodyN, cond_true, hn] at kz kn ⊢
      have hz : z3 = n + n := by omega
      have t : (4 + (n : Int)).toNat = 4 + n := by omega
      rw [t, put_get hb4 (by rw [List.length_drop]; omega) n2, put_get (fun y hy => hb y (List.mem_of_mem_drop hy)) (by rw [List.length_drop]; omega) n2, hz, List.take_add, List.drop_drop]

end Go.Proofs.Ytdcijmigoefnjaa

/- Bytes as rows tell them. -/
set_option linter.unusedVariables false
set_option linter.unusedSimpArgs false
set_option maxRecDepth 100000
set_option maxHeartbeats 0
namespace Go.Proofs.Ytdcijmigoefnjaa
open Go Go.Ev
theorem ieq_self (a : Int) : ieq a a = true := by simp [ieq]
theorem tyb_bytes {xs : List AV} (hx : ∀ x ∈ xs, TyE false [.int .u8] x) : byteL xs := fun x hm => by
  obtain ⟨l, e, h⟩ := hx x hm
  cases e
  obtain ⟨n, rfl, h1, h2⟩ := h
  have h1 : 0 ≤ n := h1
  have h2 : n ≤ 255 := h2
  exact ⟨n.toNat, by omega, by rw [Int.toNat_of_nonneg h1]⟩
theorem tyb_len {xs : List AV} (hl : xs.length ≤ maxLen) : lenB xs = true := by
  unfold lenB; rw [Nat.ble_eq]; exact hl
end Go.Proofs.Ytdcijmigoefnjaa

/- Chapter 10: what a part's bytes are like. -/
set_option linter.unusedVariables false
set_option linter.unusedSimpArgs false
set_option maxRecDepth 100000
set_option maxHeartbeats 0
namespace Go.Proofs.Ytdcijmigoefnjaa
open Go Go.Ev

theorem S62_eq : S62l true = S62 := by kernel_rfl
theorem lenB_small {xs : List AV} (h : xs.length ≤ 1000000) : lenB xs = true := by unfold lenB; rw [Nat.ble_eq]; omega

end Go.Proofs.Ytdcijmigoefnjaa

/- Chapter 11: a match as bytes: contracts. -/
set_option linter.unusedVariables false
set_option linter.unusedSimpArgs false
set_option maxRecDepth 10000000
set_option maxHeartbeats 0
namespace Go.Proofs.Ytdcijmigoefnjaa
open Go Go.Ev

theorem bv8 (x : BitVec 64) : (x &&& ~~~(7#64)).toNat = x.toNat / 8 * 8 := by
  have e : x &&& ~~~(7#64) = (x >>> 3) <<< 3 := by
    apply BitVec.eq_of_getLsbD_eq
    intro i hi
    have h7 : (7#64).getLsbD i = decide (i < 3) := by
      rw [BitVec.getLsbD_ofNat, show (7 : Nat) = 2 ^ 3 - 1 from rfl, Nat.testBit_two_pow_sub_one]; simp [hi]
    rw [BitVec.getLsbD_and, BitVec.getLsbD_not, h7, BitVec.getLsbD_shiftLeft, BitVec.getLsbD_ushiftRight]
    by_cases h : i < 3
    · simp [h, hi]
    · simp [h, hi, show 3 + (i - 3) = i by omega]
  rw [e, BitVec.toNat_shiftLeft, BitVec.toNat_ushiftRight, Nat.shiftLeft_eq, Nat.shiftRight_eq_div_pow]
  have := x.isLt
  omega
theorem pad_eq {n : Int} (h0 : 0 ≤ n) (h1 : n ≤ 1000000) : ibits .andNot .i64 (iadd .i64 n 7) 7 = padI n := by
  have e : iadd .i64 n 7 = n + 7 := by unfold iadd; rw [IntKind.wrap_i64]; omega
  rw [e, ibits_eq]
  obtain ⟨k, rfl⟩ := Int.eq_ofNat_of_zero_le h0
  show IntKind.i64.wrap ((BitVec.ofInt 64 ((k : Int) + 7) &&& ~~~ (BitVec.ofInt 64 7)).toNat : Int) = _
  rw [show ((k : Int) + 7) = ((k + 7 : Nat) : Int) by omega, BitVec.ofInt_natCast, show BitVec.ofInt 64 7 = 7#64 from rfl, bv8, BitVec.toNat_ofNat]
  rw [show (k + 7) % 2 ^ 64 = k + 7 by omega]
  unfold padI
  rw [IntKind.wrap_i64]
  omega
theorem s140 : SumTOk Try.prog 140 S140 := sum0_ok fun n h => by
  have h : (ile 0 n && ile n 1000000) = true := h
  rw [Bool.and_eq_true, ile_iff', ile_iff'] at h
  exact book_ok.pth (by kernel_rfl) noSpec_ok (p140 n _ (by rw [pad_eq h.1 h.2]; rfl))
/-- the length put in -/
def w89 (Z : List AV) : List AV := setAt Z 2 (List.take (List.drop 2 Z).length [nbyte (Z.length : Int) 8, nbyte (Z.length : Int) 0])
def z89 (E : List AV) : List AV := [AV.int IntKind.u8 0, AV.int IntKind.u8 1, AV.int IntKind.u8 0, AV.int IntKind.u8 0] ++ E
theorem padI_ge {n : Int} (h : 0 ≤ n) : n ≤ padI n ∧ padI n ≤ n + 7 := by unfold padI; omega
/-- all that is asked for at the end -/
structure End89 (E : List AV) : Prop where
  a5 : inR 2 ((z89 E).length + 1) = true
  a6 : (numOk ((z89 E).length : Int) 2 && true) = true
  sc : (z89 E).all AV.scal = true
  c5 : (true && ile ((w89 (z89 E)).length : Int) 1000000) = true
  c6 : ile 0 (isub IntKind.i64 (padI ((w89 (z89 E)).length : Int)) ((w89 (z89 E)).length : Int)) = true
  c7 : ile (isub IntKind.i64 (padI ((w89 (z89 E)).length : Int)) ((w89 (z89 E)).length : Int)) 140737488355328 = true
  c8 : ile (1 * isub IntKind.i64 (padI ((w89 (z89 E)).length : Int)) ((w89 (z89 E)).length : Int)) 140737488355328 = true
  c9 : Nat.ble (((w89 (z89 E)).length + (List.replicate (isub IntKind.i64 (padI ((w89 (z89 E)).length : Int)) ((w89 (z89 E)).length : Int)).toNat (AV.int IntKind.u8 0)).length) * 1) 140737488355328 = true
  c10 : Nat.ble ((w89 (z89 E)).length + (List.replicate (isub IntKind.i64 (padI ((w89 (z89 E)).length : Int)) ((w89 (z89 E)).length : Int)).toNat (AV.int IntKind.u8 0)).length) 140737488355328 = true
  fin : w89 (z89 E) ++ List.replicate (isub IntKind.i64 (padI ((w89 (z89 E)).length : Int)) ((w89 (z89 E)).length : Int)).toNat (AV.int IntKind.u8 0) = .int .u8 0 :: .int .u8 1 :: nbyte ((4 + E.length : Nat) : Int) 8 :: nbyte ((4 + E.length : Nat) : Int) 0 :: (E ++ List.replicate ((padI ((4 + E.length : Nat) : Int)).toNat - (4 + E.length)) (.int .u8 0))
end Go.Proofs.Ytdcijmigoefnjaa

/- Chapter 11: a match as bytes, the reference: contracts. -/
set_option linter.unusedVariables false
set_option linter.unusedSimpArgs false
set_option maxRecDepth 10000000
set_option maxHeartbeats 0
namespace Go.Proofs.Ytdcijmigoefnjaa
open Go Go.Ev

theorem run2e {P : Program} {K : Book} (hK : K.Ok P) {f : FuncId} {fn : Func} (hf : K.fn.get f = some fn) {spec : List (FuncId × SumT)} (hs : SpecTL P spec) {fuel k k2 : Nat} {l l2 : AS → T (Tree (Ex × AS))}
    (hn : nodupB ((bodyLoops fn).map firstKey) = true) (hl : LoopOk (K.envP f spec fuel (loopsAt [(k, l), (k2, l2)])) (loopBody fn k) l) (hl2 : LoopOk (K.envP f spec fuel (loopsAt [(k, l), (k2, l2)])) (loopBody fn k2) l2) {args : List AV} {passed : List (List AV)} {q : Q} {r : AV} {passed' : List (List AV)}
    (h : Goes (runP (K.envP f spec fuel (loopsAt [(k, l), (k2, l2)])) fn args passed q) (r, passed')) : CallsA P f args passed r passed' :=
  hK.path hf hs fuel _ (fun _ hb => loops_ok hb hn (loopsAt_cons hl (loopsAt_one hl2))) q h.ret
def y90 (E : List AV) : List AV := .int .u8 0 :: .int .u8 1 :: nbyte (iadd .i64 4 (E.length : Int)) 8 :: nbyte (iadd .i64 4 (E.length : Int)) 0 :: E
structure End90 (E : List AV) : Prop where
  a5 : (numOk (iadd IntKind.i64 4 (E.length : Int)) 2 && true) = true
  a6 : Nat.ble ((4 + E.length) * 1) 140737488355328 = true
  a7 : Nat.ble (4 + E.length) 140737488355328 = true
  a8 : pre90b (true, y90 E) = true
end Go.Proofs.Ytdcijmigoefnjaa

/- Chapter 45: numbers of bytes (printed by program). -/
set_option linter.unusedVariables false
set_option maxRecDepth 100000
set_option maxHeartbeats 0
namespace Go.Proofs.Ytdcijmigoefnjaa
open Go Go.Ev

def p178_1_c0 (xs : List AV) (at_ : Int) : Bool := ilt 0 (↑(List.take ((iadd IntKind.i64 at_ 1).toNat - at_.toNat) (List.drop at_.toNat xs)).length : Int)
def p178_1_c1 (xs : List AV) (at_ : Int) : Bool := inR 0 (List.take ((iadd IntKind.i64 at_ 1).toNat - at_.toNat) (List.drop at_.toNat xs)).length
def p178_1_c2 (xs : List AV) (at_ : Int) : Bool := AV.has (TI.mk (TD.int zk) 1 1 [zB 0]) ((List.take ((iadd IntKind.i64 at_ 1).toNat - at_.toNat) (List.drop at_.toNat xs)).getD 0 zN)
def p178_1_c3 (xs : List AV) (at_ : Int) : Bool := ilt 1 (↑(List.take ((iadd IntKind.i64 at_ 1).toNat - at_.toNat) (List.drop at_.toNat xs)).length : Int)
theorem p178_1 (xs : List AV) (at_ : Int) (r : AV × List (List AV)) (k0 : (ilt at_ 0) = false) (k1 : (ilt (isub IntKind.i64 (↑xs.length : Int) at_) 1) = false) (k2 : (inR (iadd IntKind.i64 at_ 1) (xs.length + 1)) = true) (k3 : (inR at_ ((iadd IntKind.i64 at_ 1).toNat + 1)) = true) (k4 : (ilt 0 (↑(List.take ((iadd IntKind.i64 at_ 1).toNat - at_.toNat) (List.drop at_.toNat xs)).length : Int)) = true) (k5 : (inR 0 (List.take ((iadd IntKind.i64 at_ 1).toNat - at_.toNat) (List.drop at_.toNat xs)).length) = true) (k6 : (AV.has (TI.mk (TD.int zk) 1 1 [zB 0]) ((List.take ((iadd IntKind.i64 at_ 1).toNat - at_.toNat) (List.drop at_.toNat xs)).getD 0 zN)) = true) (k7 : (ilt 1 (↑(List.take ((iadd IntKind.i64 at_ 1).toNat - at_.toNat) (List.drop at_.toNat xs)).length : Int)) = false) (k8 : ((AV.tup [zI (ibits BinOp.or IntKind.i64 0 (IntKind.i64.wrap ((List.take ((iadd IntKind.i64 at_ 1).toNat - at_.toNat) (List.drop at_.toNat xs)).getD 0 zN).asInt)), zI 0], [])) = r) : Goes (runP (book.envP 178 spNG 100 noLoops) Try.f178 [.sl 1 xs .sh, .int .i64 at_, .int .i64 1] [] (.f (.f (.f (.f (.t (.f .z))))))) r :=
  Goes.of_eq (t' := Bool.rec (motive := fun _ => TR) .no (Bool.rec (motive := fun _ => TR) .no (Bool.rec (motive := fun _ => TR) .no (Bool.rec (motive := fun _ => TR) .no (Bool.rec (motive := fun _ => TR) .no (Bool.rec (motive := fun _ => TR) .no (Bool.rec (motive := fun _ => TR) .no (Bool.rec (motive := fun _ => TR) .no (.ret ((AV.tup [zI (ibits BinOp.or IntKind.i64 0 (IntKind.i64.wrap ((List.take ((iadd IntKind.i64 at_ 1).toNat - at_.toNat) (List.drop at_.toNat xs)).getD 0 zN).asInt)), zI 0], []))) (asTold ((p178_1_c3 xs at_)) false)) ((p178_1_c2 xs at_))) ((p178_1_c1 xs at_))) (asTold ((p178_1_c0 xs at_)) true)) (inR at_ ((iadd IntKind.i64 at_ 1).toNat + 1))) (inR (iadd IntKind.i64 at_ 1) (xs.length + 1))) (asTold (ilt (isub IntKind.i64 (↑xs.length : Int) at_) 1) false)) (asTold (ilt at_ 0) false)) (by kernel_rfl) (.step (told (k0)) (.step (told (k1)) (.step (k2) (.step (k3) (.step (told (k4)) (.step (k5) (.step (k6) (.step (told (k7)) (Goes.leafE (k8))))))))))
def p178_2_c0 (xs : List AV) (at_ : Int) : Bool := ilt 0 (↑(List.take ((iadd IntKind.i64 at_ 2).toNat - at_.toNat) (List.drop at_.toNat xs)).length : Int)
def p178_2_c1 (xs : List AV) (at_ : Int) : Bool := inR 0 (List.take ((iadd IntKind.i64 at_ 2).toNat - at_.toNat) (List.drop at_.toNat xs)).length
def p178_2_c2 (xs : List AV) (at_ : Int) : Bool := AV.has (TI.mk (TD.int zk) 1 1 [zB 0]) ((List.take ((iadd IntKind.i64 at_ 2).toNat - at_.toNat) (List.drop at_.toNat xs)).getD 0 zN)
def p178_2_c3 (xs : List AV) (at_ : Int) : Bool := ilt 1 (↑(List.take ((iadd IntKind.i64 at_ 2).toNat - at_.toNat) (List.drop at_.toNat xs)).length : Int)
def p178_2_c4 (xs : List AV) (at_ : Int) : Bool := inR 1 (List.take ((iadd IntKind.i64 at_ 2).toNat - at_.toNat) (List.drop at_.toNat xs)).length
def p178_2_c5 (xs : List AV) (at_ : Int) : Bool := AV.has (TI.mk (TD.int zk) 1 1 [zB 0]) ((List.take ((iadd IntKind.i64 at_ 2).toNat - at_.toNat) (List.drop at_.toNat xs)).getD 1 zN)
def p178_2_c6 (xs : List AV) (at_ : Int) : Bool := ilt 2 (↑(List.take ((iadd IntKind.i64 at_ 2).toNat - at_.toNat) (List.drop at_.toNat xs)).length : Int)
theorem p178_2 (xs : List AV) (at_ : Int) (r : AV × List (List AV)) (k0 : (ilt at_ 0) = false) (k1 : (ilt (isub IntKind.i64 (↑xs.length : Int) at_) 2) = false) (k2 : (inR (iadd IntKind.i64 at_ 2) (xs.length + 1)) = true) (k3 : (inR at_ ((iadd IntKind.i64 at_ 2).toNat + 1)) = true) (k4 : (ilt 0 (↑(List.take ((iadd IntKind.i64 at_ 2).toNat - at_.toNat) (List.drop at_.toNat xs)).length : Int)) = true) (k5 : (inR 0 (List.take ((iadd IntKind.i64 at_ 2).toNat - at_.toNat) (List.drop at_.toNat xs)).length) = true) (k6 : (AV.has (TI.mk (TD.int zk) 1 1 [zB 0]) ((List.take ((iadd IntKind.i64 at_ 2).toNat - at_.toNat) (List.drop at_.toNat xs)).getD 0 zN)) = true) (k7 : (ilt 1 (↑(List.take ((iadd IntKind.i64 at_ 2).toNat - at_.toNat) (List.drop at_.toNat xs)).length : Int)) = true) (k8 : (inR 1 (List.take ((iadd IntKind.i64 at_ 2).toNat - at_.toNat) (List.drop at_.toNat xs)).length) = true) (k9 : (AV.has (TI.mk (TD.int zk) 1 1 [zB 0]) ((List.take ((iadd IntKind.i64 at_ 2).toNat - at_.toNat) (List.drop at_.toNat xs)).getD 1 zN)) = true) (k10 : (ilt 2 (↑(List.take ((iadd IntKind.i64 at_ 2).toNat - at_.toNat) (List.drop at_.toNat xs)).length : Int)) = false) (k11 : ((AV.tup [zI (ibits BinOp.or IntKind.i64 (ishl IntKind.i64 (ibits BinOp.or IntKind.i64 0 (IntKind.i64.wrap ((List.take ((iadd IntKind.i64 at_ 2).toNat - at_.toNat) (List.drop at_.toNat xs)).getD 0 zN).asInt)) 8) (IntKind.i64.wrap ((List.take ((iadd IntKind.i64 at_ 2).toNat - at_.toNat) (List.drop at_.toNat xs)).getD 1 zN).asInt)), zI 0], [])) = r) : Goes (runP (book.envP 178 spNG 100 noLoops) Try.f178 [.sl 1 xs .sh, .int .i64 at_, .int .i64 2] [] (.f (.f (.f (.f (.t (.t (.f .z)))))))) r :=
  Goes.of_eq (t' := Bool.rec (motive := fun _ => TR) .no (Bool.rec (motive := fun _ => TR) .no (Bool.rec (motive := fun _ => TR) .no (Bool.rec (motive := fun _ => TR) .no (Bool.rec (motive := fun _ => TR) .no (Bool.rec (motive := fun _ => TR) .no (Bool.rec (motive := fun _ => TR) .no (Bool.rec (motive := fun _ => TR) .no (Bool.rec (motive := fun _ => TR) .no (Bool.rec (motive := fun _ => TR) .no (Bool.rec (motive := fun _ => TR) .no (.ret ((AV.tup [zI (ibits BinOp.or IntKind.i64 (ishl IntKind.i64 (ibits BinOp.or IntKind.i64 0 (IntKind.i64.wrap ((List.take ((iadd IntKind.i64 at_ 2).toNat - at_.toNat) (List.drop at_.toNat xs)).getD 0 zN).asInt)) 8) (IntKind.i64.wrap ((List.take ((iadd IntKind.i64 at_ 2).toNat - at_.toNat) (List.drop at_.toNat xs)).getD 1 zN).asInt)), zI 0], []))) (asTold ((p178_2_c6 xs at_)) false)) ((p178_2_c5 xs at_))) ((p178_2_c4 xs at_))) (asTold ((p178_2_c3 xs at_)) true)) ((p178_2_c2 xs at_))) ((p178_2_c1 xs at_))) (asTold ((p178_2_c0 xs at_)) true)) (inR at_ ((iadd IntKind.i64 at_ 2).toNat + 1))) (inR (iadd IntKind.i64 at_ 2) (xs.length + 1))) (asTold (ilt (isub IntKind.i64 (↑xs.length : Int) at_) 2) false)) (asTold (ilt at_ 0) false)) (by kernel_rfl) (.step (told (k0)) (.step (told (k1)) (.step (k2) (.step (k3) (.step (told (k4)) (.step (k5) (.step (k6) (.step (told (k7)) (.step (k8) (.step (k9) (.step (told (k10)) (Goes.leafE (k11)))))))))))))
def p178_4_c0 (xs : List AV) (at_ : Int) : Bool := ilt 0 (↑(List.take ((iadd IntKind.i64 at_ 4).toNat - at_.toNat) (List.drop at_.toNat xs)).length : Int)
def p178_4_c1 (xs : List AV) (at_ : Int) : Bool := inR 0 (List.take ((iadd IntKind.i64 at_ 4).toNat - at_.toNat) (List.drop at_.toNat xs)).length
def p178_4_c2 (xs : List AV) (at_ : Int) : Bool := AV.has (TI.mk (TD.int zk) 1 1 [zB 0]) ((List.take ((iadd IntKind.i64 at_ 4).toNat - at_.toNat) (List.drop at_.toNat xs)).getD 0 zN)
def p178_4_c3 (xs : List AV) (at_ : Int) : Bool := ilt 1 (↑(List.take ((iadd IntKind.i64 at_ 4).toNat - at_.toNat) (List.drop at_.toNat xs)).length : Int)
def p178_4_c4 (xs : List AV) (at_ : Int) : Bool := inR 1 (List.take ((iadd IntKind.i64 at_ 4).toNat - at_.toNat) (List.drop at_.toNat xs)).length
def p178_4_c5 (xs : List AV) (at_ : Int) : Bool := AV.has (TI.mk (TD.int zk) 1 1 [zB 0]) ((List.take ((iadd IntKind.i64 at_ 4).toNat - at_.toNat) (List.drop at_.toNat xs)).getD 1 zN)
def p178_4_c6 (xs : List AV) (at_ : Int) : Bool := ilt 2 (↑(List.take ((iadd IntKind.i64 at_ 4).toNat - at_.toNat) (List.drop at_.toNat xs)).length : Int)
def p178_4_c7 (xs : List AV) (at_ : Int) : Bool := inR 2 (List.take ((iadd IntKind.i64 at_ 4).toNat - at_.toNat) (List.drop at_.toNat xs)).length
def p178_4_c8 (xs : List AV) (at_ : Int) : Bool := AV.has (TI.mk (TD.int zk) 1 1 [zB 0]) ((List.take ((iadd IntKind.i64 at_ 4).toNat - at_.toNat) (List.drop at_.toNat xs)).getD 2 zN)
def p178_4_c9 (xs : List AV) (at_ : Int) : Bool := ilt 3 (↑(List.take ((iadd IntKind.i64 at_ 4).toNat - at_.toNat) (List.drop at_.toNat xs)).length : Int)
def p178_4_c10 (xs : List AV) (at_ : Int) : Bool := inR 3 (List.take ((iadd IntKind.i64 at_ 4).toNat - at_.toNat) (List.drop at_.toNat xs)).length
def p178_4_c11 (xs : List AV) (at_ : Int) : Bool := AV.has (TI.mk (TD.int zk) 1 1 [zB 0]) ((List.take ((iadd IntKind.i64 at_ 4).toNat - at_.toNat) (List.drop at_.toNat xs)).getD 3 zN)
def p178_4_c12 (xs : List AV) (at_ : Int) : Bool := ilt 4 (↑(List.take ((iadd IntKind.i64 at_ 4).toNat - at_.toNat) (List.drop at_.toNat xs)).length : Int)
theorem p178_4 (xs : List AV) (at_ : Int) (r : AV × List (List AV)) (k0 : (ilt at_ 0) = false) (k1 : (ilt (isub IntKind.i64 (↑xs.length : Int) at_) 4) = false) (k2 : (inR (iadd IntKind.i64 at_ 4) (xs.length + 1)) = true) (k3 : (inR at_ ((iadd IntKind.i64 at_ 4).toNat + 1)) = true) (k4 : (ilt 0 (↑(List.take ((iadd IntKind.i64 at_ 4).toNat - at_.toNat) (List.drop at_.toNat xs)).length : Int)) = true) (k5 : (inR 0 (List.take ((iadd IntKind.i64 at_ 4).toNat - at_.toNat) (List.drop at_.toNat xs)).length) = true) (k6 : (AV.has (TI.mk (TD.int zk) 1 1 [zB 0]) ((List.take ((iadd IntKind.i64 at_ 4).toNat - at_.toNat) (List.drop at_.toNat xs)).getD 0 zN)) = true) (k7 : (ilt 1 (↑(List.take ((iadd IntKind.i64 at_ 4).toNat - at_.toNat) (List.drop at_.toNat xs)).length : Int)) = true) (k8 : (inR 1 (List.take ((iadd IntKind.i64 at_ 4).toNat - at_.toNat) (List.drop at_.toNat xs)).length) = true) (k9 : (AV.has (TI.mk (TD.int zk) 1 1 [zB 0]) ((List.take ((iadd IntKind.i64 at_ 4).toNat - at_.toNat) (List.drop at_.toNat xs)).getD 1 zN)) = true) (k10 : (ilt 2 (↑(List.take ((iadd IntKind.i64 at_ 4).toNat - at_.toNat) (List.drop at_.toNat xs)).length : Int)) = true) (k11 : (inR 2 (List.take ((iadd IntKind.i64 at_ 4).toNat - at_.toNat) (List.drop at_.toNat xs)).length) = true) (k12 : (AV.has (TI.mk (TD.int zk) 1 1 [zB 0]) ((List.take ((iadd IntKind.i64 at_ 4).toNat - at_.toNat) (List.drop at_.toNat xs)).getD 2 zN)) = true) (k13 : (ilt 3 (↑(List.take ((iadd IntKind.i64 at_ 4).toNat - at_.toNat) (List.drop at_.toNat xs)).length : Int)) = true) (k14 : (inR 3 (List.take ((iadd IntKind.i64 at_ 4).toNat - at_.toNat) (List.drop at_.toNat xs)).length) = true) (k15 : (AV.has (TI.mk (TD.int zk) 1 1 [zB 0]) ((List.take ((iadd IntKind.i64 at_ 4).toNat - at_.toNat) (List.drop at_.toNat xs)).getD 3 zN)) = true) (k16 : (ilt 4 (↑(List.take ((iadd IntKind.i64 at_ 4).toNat - at_.toNat) (List.drop at_.toNat xs)).length : Int)) = false) (k17 : ((AV.tup [zI (ibits BinOp.or IntKind.i64 (ishl IntKind.i64 (ibits BinOp.or IntKind.i64 (ishl IntKind.i64 (ibits BinOp.or IntKind.i64 (ishl IntKind.i64 (ibits BinOp.or IntKind.i64 0 (IntKind.i64.wrap ((List.take ((iadd IntKind.i64 at_ 4).toNat - at_.toNat) (List.drop at_.toNat xs)).getD 0 zN).asInt)) 8) (IntKind.i64.wrap ((List.take ((iadd IntKind.i64 at_ 4).toNat - at_.toNat) (List.drop at_.toNat xs)).getD 1 zN).asInt)) 8) (IntKind.i64.wrap ((List.take ((iadd IntKind.i64 at_ 4).toNat - at_.toNat) (List.drop at_.toNat xs)).getD 2 zN).asInt)) 8) (IntKind.i64.wrap ((List.take ((iadd IntKind.i64 at_ 4).toNat - at_.toNat) (List.drop at_.toNat xs)).getD 3 zN).asInt)), zI 0], [])) = r) : Goes (runP (book.envP 178 spNG 100 noLoops) Try.f178 [.sl 1 xs .sh, .int .i64 at_, .int .i64 4] [] (.f (.f (.f (.f (.t (.t (.t (.t (.f .z)))))))))) r :=
  Goes.of_eq (t' := Bool.rec (motive := fun _ => TR) .no (Bool.rec (motive := fun _ => TR) .no (Bool.rec (motive := fun _ => TR) .no (Bool.rec (motive := fun _ => TR) .no (Bool.rec (motive := fun _ => TR) .no (Bool.rec (motive := fun _ => TR) .no (Bool.rec (motive := fun _ => TR) .no (Bool.rec (motive := fun _ => TR) .no (Bool.rec (motive := fun _ => TR) .no (Bool.rec (motive := fun _ => TR) .no (Bool.rec (motive := fun _ => TR) .no (Bool.rec (motive := fun _ => TR) .no (Bool.rec (motive := fun _ => TR) .no (Bool.rec (motive := fun _ => TR) .no (Bool.rec (motive := fun _ => TR) .no (Bool.rec (motive := fun _ => TR) .no (Bool.rec (motive := fun _ => TR) .no (.ret ((AV.tup [zI (ibits BinOp.or IntKind.i64 (ishl IntKind.i64 (ibits BinOp.or IntKind.i64 (ishl IntKind.i64 (ibits BinOp.or IntKind.i64 (ishl IntKind.i64 (ibits BinOp.or IntKind.i64 0 (IntKind.i64.wrap ((List.take ((iadd IntKind.i64 at_ 4).toNat - at_.toNat) (List.drop at_.toNat xs)).getD 0 zN).asInt)) 8) (IntKind.i64.wrap ((List.take ((iadd IntKind.i64 at_ 4).toNat - at_.toNat) (List.drop at_.toNat xs)).getD 1 zN).asInt)) 8) (IntKind.i64.wrap ((List.take ((iadd IntKind.i64 at_ 4).toNat - at_.toNat) (List.drop at_.toNat xs)).getD 2 zN).asInt)) 8) (IntKind.i64.wrap ((List.take ((iadd IntKind.i64 at_ 4).toNat - at_.toNat) (List.drop at_.toNat xs)).getD 3 zN).asInt)), zI 0], []))) (asTold ((p178_4_c12 xs at_)) false)) ((p178_4_c11 xs at_))) ((p178_4_c10 xs at_))) (asTold ((p178_4_c9 xs at_)) true)) ((p178_4_c8 xs at_))) ((p178_4_c7 xs at_))) (asTold ((p178_4_c6 xs at_)) true)) ((p178_4_c5 xs at_))) ((p178_4_c4 xs at_))) (asTold ((p178_4_c3 xs at_)) true)) ((p178_4_c2 xs at_))) ((p178_4_c1 xs at_))) (asTold ((p178_4_c0 xs at_)) true)) (inR at_ ((iadd IntKind.i64 at_ 4).toNat + 1))) (inR (iadd IntKind.i64 at_ 4) (xs.length + 1))) (asTold (ilt (isub IntKind.i64 (↑xs.length : Int) at_) 4) false)) (asTold (ilt at_ 0) false)) (by kernel_rfl) (.step (told (k0)) (.step (told (k1)) (.step (k2) (.step (k3) (.step (told (k4)) (.step (k5) (.step (k6) (.step (told (k7)) (.step (k8) (.step (k9) (.step (told (k10)) (.step (k11) (.step (k12) (.step (told (k13)) (.step (k14) (.step (k15) (.step (told (k16)) (Goes.leafE (k17)))))))))))))))))))
end Go.Proofs.Ytdcijmigoefnjaa

/- Chapter 45: numbers of bytes: contracts. -/
set_option linter.unusedVariables false
set_option linter.unusedSimpArgs false
set_option maxRecDepth 100000
set_option maxHeartbeats 0
namespace Go.Proofs.Ytdcijmigoefnjaa
open Go Go.Ev

theorem okL_iff {xs : List AV} : okL xs = true ↔ byteL xs ∧ xs.length ≤ 9223372036854775807 := by
  unfold okL; rw [Bool.and_eq_true, bytB_iff]; unfold lenB; rw [Nat.ble_eq]
theorem spNG_ok : SpecTL Try.prog spNG := ⟨Sum.T_ok (Book.all_ok book_ok 100 3 193), trivial⟩
theorem drop_byte {xs : List AV} (hb : byteL xs) {o : Nat} (h : o < xs.length) : ∃ z : Nat, z < 256 ∧ xs.drop o = .int .u8 (z : Int) :: xs.drop (o + 1) ∧ xs.getD o .unk = .int .u8 (z : Int) := by
  obtain ⟨z, hz, e⟩ := byteL_get hb h
  refine ⟨z, hz, ?_, e⟩
  rw [drop_getD (d := AV.unk) h, e]
theorem or8 (a b : Nat) (ha : a < 36028797018963968) (hb : b < 256) : ibits .or .i64 (ishl .i64 (a : Int) 8) (IntKind.i64.wrap (b : Int)) = ((a * 256 + b : Nat) : Int) := by
  have e1 : ishl .i64 (a : Int) 8 = ((a * 256 : Nat) : Int) := by
    unfold ishl
    rw [IntKind.wrap_i64]
    simp [IntKind.bits]; omega
  have e2 : IntKind.i64.wrap (b : Int) = (b : Int) := by rw [IntKind.wrap_i64]; omega
  have e4 : (a * 256) ||| b = a * 256 + b := or_add _ _ hb
  rw [e1, e2, ibits_eq]
  show IntKind.i64.wrap _ = _
  have e : (BitVec.ofInt IntKind.i64.bits ((a * 256 : Nat) : Int) ||| BitVec.ofInt IntKind.i64.bits (b : Int)).toNat = (a * 256) ||| b := by
    show (BitVec.ofInt 64 ((a * 256 : Nat) : Int) ||| BitVec.ofInt 64 (b : Int)).toNat = _
    rw [BitVec.toNat_or, BitVec.ofInt_natCast, BitVec.ofInt_natCast, BitVec.toNat_ofNat, BitVec.toNat_ofNat, Nat.mod_eq_of_lt (by omega), Nat.mod_eq_of_lt (by omega)]
  rw [e, e4, IntKind.wrap_i64]; omega
theorem add8 (a b : Nat) (ha : a < 36028797018963968) (hb : b < 256) : iadd .i64 (imul .i64 (a : Int) 256) (IntKind.i64.wrap (b : Int)) = ((a * 256 + b : Nat) : Int) := by
  have e1 : imul .i64 (a : Int) 256 = ((a * 256 : Nat) : Int) := by unfold imul; rw [IntKind.wrap_i64]; omega
  have e2 : IntKind.i64.wrap (b : Int) = (b : Int) := by rw [IntKind.wrap_i64]; omega
  rw [e1, e2, iadd_small (by omega) (by omega)]; omega

theorem c178 (x : List AV × Int × Int) (hx : (okL x.1 && ((numNs.any fun m => ieq x.2.2 m) && (ile 0 x.2.1 && ile (x.2.1 + x.2.2) x.1.length))) = true) : CallsA Try.prog 178 [.sl 1 x.1 .sh, .int .i64 x.2.1, .int .i64 x.2.2] [] (Tree.leaf (.tup [.int .i64 (nv x.1 x.2.1.toNat x.2.2.toNat), .int .i64 0])).val [] := by
  obtain ⟨xs, at_, n⟩ := x
  simp only [Bool.and_eq_true, okL_iff, ile_iff'] at hx
  obtain ⟨⟨hb, hl⟩, hn, h0, h1⟩ := hx
  obtain ⟨o, rfl⟩ : ∃ o : Nat, at_ = o := ⟨at_.toNat, by omega⟩
  have ia1 : (o : Int) + 1 ≤ xs.length → iadd .i64 (o : Int) 1 = ((o + 1 : Nat) : Int) := fun h => by rw [iadd_small (by omega) (by omega)]; omega
  have ia2 : (o : Int) + 2 ≤ xs.length → iadd .i64 (o : Int) 2 = ((o + 2 : Nat) : Int) := fun h => by rw [iadd_small (by omega) (by omega)]; omega
  have ia3 : (o : Int) + 3 ≤ xs.length → iadd .i64 (o : Int) 3 = ((o + 3 : Nat) : Int) := fun h => by rw [iadd_small (by omega) (by omega)]; omega
  have ia4 : (o : Int) + 4 ≤ xs.length → iadd .i64 (o : Int) 4 = ((o + 4 : Nat) : Int) := fun h => by rw [iadd_small (by omega) (by omega)]; omega
  have isb : isub .i64 (xs.length : Int) (o : Int) = (xs.length : Int) - o ∨ (xs.length : Int) < o := by
    by_cases h : (xs.length : Int) < o
    · exact .inr h
    · left; unfold isub; rw [IntKind.wrap_i64]; omega
  revert h1
  refine num_cases (P := fun n => (o : Int) + n ≤ xs.length → CallsA Try.prog 178 [.sl 1 xs .sh, .int .i64 (o : Int), .int .i64 n] [] (.tup [.int .i64 (nv xs (o : Int).toNat n.toNat), .int .i64 0]) []) (fun h1 => ?_) (fun h1 => ?_) (fun h1 => ?_) hn
  · obtain ⟨z0, a0, b0, _⟩ := drop_byte hb (o := o) (by omega)
    have e : List.take ((iadd .i64 (o : Int) 1).toNat - (o : Int).toNat) (List.drop (o : Int).toNat xs) = [.int .u8 (z0 : Int)] := by
      rw [ia1 h1, Int.toNat_natCast, Int.toNat_natCast, show o + 1 - o = 1 by omega, b0]; rfl
    have v : nv xs (o : Int).toNat (1 : Int).toNat = (z0 : Int) := by unfold nv; rw [Int.toNat_natCast, b0]; simp [valB, AV.asInt]
    refine book_ok.pth (by kernel_rfl) spNG_ok (p178_1 xs o _ ?_ ?_ ?_ ?_ ?_ ?_ ?_ ?_ ?_)
    · rw [ilt_no]; omega
    · rcases isb with h | h <;> rw [ilt_no] <;> omega
    · rw [ia1 h1]; exact inR_iff.2 ⟨by omega, by omega⟩
    · rw [ia1 h1]; exact inR_iff.2 ⟨by omega, by omega⟩
    all_goals rw [e]
    · rfl
    · rfl
    · rfl
    · rfl
    · have := or8 0 z0 (by omega) a0
      rw [v]
      show (AV.tup [.int .i64 (ibits .or .i64 (ishl .i64 ((0 : Nat) : Int) 8) (IntKind.i64.wrap (z0 : Int))), .int .i64 0], _) = _
      rw [this]; simp
  · obtain ⟨z0, a0, b0, _⟩ := drop_byte hb (o := o) (by omega)
    obtain ⟨z1, a1, b1, _⟩ := drop_byte hb (o := o + 1) (by omega)
    have e : List.take ((iadd .i64 (o : Int) 2).toNat - (o : Int).toNat) (List.drop (o : Int).toNat xs) = [.int .u8 (z0 : Int), .int .u8 (z1 : Int)] := by
      rw [ia2 h1, Int.toNat_natCast, Int.toNat_natCast, show o + 2 - o = 2 by omega, b0, b1]; rfl
    have v : nv xs (o : Int).toNat (2 : Int).toNat = ((z0 * 256 + z1 : Nat) : Int) := by unfold nv; rw [Int.toNat_natCast, b0, b1]; simp [valB, AV.asInt]
    refine book_ok.pth (by kernel_rfl) spNG_ok (p178_2 xs o _ ?_ ?_ ?_ ?_ ?_ ?_ ?_ ?_ ?_ ?_ ?_ ?_)
    · rw [ilt_no]; omega
    · rcases isb with h | h <;> rw [ilt_no] <;> omega
    · rw [ia2 h1]; exact inR_iff.2 ⟨by omega, by omega⟩
    · rw [ia2 h1]; exact inR_iff.2 ⟨by omega, by omega⟩
    all_goals rw [e]
    iterate 7 rfl
    · have q0 := or8 0 z0 (by omega) a0
      have q1 := or8 z0 z1 (by omega) a1
      rw [v]
      show (AV.tup [.int .i64 (ibits .or .i64 (ishl .i64 (ibits .or .i64 (ishl .i64 ((0 : Nat) : Int) 8) (IntKind.i64.wrap (z0 : Int))) 8) (IntKind.i64.wrap (z1 : Int))), .int .i64 0], _) = _
      rw [q0, Nat.zero_mul, Nat.zero_add, q1]
  · obtain ⟨z0, a0, b0, _⟩ := drop_byte hb (o := o) (by omega)
    obtain ⟨z1, a1, b1, _⟩ := drop_byte hb (o := o + 1) (by omega)
    obtain ⟨z2, a2, b2, _⟩ := drop_byte hb (o := o + 1 + 1) (by omega)
    obtain ⟨z3, a3, b3, _⟩ := drop_byte hb (o := o + 1 + 1 + 1) (by omega)
    have e : List.take ((iadd .i64 (o : Int) 4).toNat - (o : Int).toNat) (List.drop (o : Int).toNat xs) = [.int .u8 (z0 : Int), .int .u8 (z1 : Int), .int .u8 (z2 : Int), .int .u8 (z3 : Int)] := by
      rw [ia4 h1, Int.toNat_natCast, Int.toNat_natCast, show o + 4 - o = 4 by omega, b0, b1, b2, b3]; rfl
    have v : nv xs (o : Int).toNat (4 : Int).toNat = ((((z0 * 256 + z1) * 256 + z2) * 256 + z3 : Nat) : Int) := by unfold nv; rw [Int.toNat_natCast, b0, b1, b2, b3]; simp [valB, AV.asInt]
    refine book_ok.pth (by kernel_rfl) spNG_ok (p178_4 xs o _ ?_ ?_ ?_ ?_ ?_ ?_ ?_ ?_ ?_ ?_ ?_ ?_ ?_ ?_ ?_ ?_ ?_ ?_)
    · rw [ilt_no]; omega
    · rcases isb with h | h <;> rw [ilt_no] <;> omega
    · rw [ia4 h1]; exact inR_iff.2 ⟨by omega, by omega⟩
    · rw [ia4 h1]; exact inR_iff.2 ⟨by omega, by omega⟩
    all_goals rw [e]
    iterate 13 rfl
    · have q0 := or8 0 z0 (by omega) a0
      have q1 := or8 z0 z1 (by omega) a1
      have q2 := or8 (z0 * 256 + z1) z2 (by omega) a2
      have q3 := or8 ((z0 * 256 + z1) * 256 + z2) z3 (by omega) a3
      rw [v]
      show (AV.tup [.int .i64 (ibits .or .i64 (ishl .i64 (ibits .or .i64 (ishl .i64 (ibits .or .i64 (ishl .i64 (ibits .or .i64 (ishl .i64 ((0 : Nat) : Int) 8) (IntKind.i64.wrap (z0 : Int))) 8) (IntKind.i64.wrap (z1 : Int))) 8) (IntKind.i64.wrap (z2 : Int))) 8) (IntKind.i64.wrap (z3 : Int))), .int .i64 0], _) = _
      rw [q0, Nat.zero_mul, Nat.zero_add, q1, q2, q3]

end Go.Proofs.Ytdcijmigoefnjaa

/- Chapter 11: a match out of bytes: contracts. -/
set_option linter.unusedVariables false
set_option linter.unusedSimpArgs false
set_option maxRecDepth 100000
set_option maxHeartbeats 0
namespace Go.Proofs.Ytdcijmigoefnjaa
open Go Go.Ev

theorem ile_f {a b : Int} : ile a b = false ↔ b < a := by simp [ile]
theorem s178h : SumTOk Try.prog 178 S178h := sumW_ok fun x hx => by
  obtain ⟨xs, at_⟩ := x
  have hx : (okL xs && (ile 0 at_ && ile at_ 1000)) = true := hx
  simp only [Bool.and_eq_true, ile_iff'] at hx
  obtain ⟨ho, h0, h1⟩ := hx
  cases hq : ile (at_ + 2) (xs.length : Int) with
  | true =>
    have hp : (okL xs && ((numNs.any fun m => ieq 2 m) && (ile 0 at_ && ile (at_ + 2) xs.length))) = true := by
      rw [ho, hq, ile_iff'.2 h0]; rfl
    have := c178 (xs, at_, 2) hp
    exact this
  | false =>
    have hl := (okL_iff.1 ho).2
    rw [ile_f] at hq
    refine book_ok.pth (by kernel_rfl) spNG_ok (p178h xs at_ _ (by rw [ilt_no]; omega) ?_ ?_)
    · have : isub .i64 (xs.length : Int) at_ = (xs.length : Int) - at_ := by unfold isub; rw [IntKind.wrap_i64]; omega
      rw [this, ilt_iff]; omega
    · rfl
theorem sp138h_ok : SpecTL Try.prog sp138h := ⟨s178h, s140, s142, trivial⟩
theorem nv2_lt {xs : List AV} {o : Nat} (hb : byteL xs) : 0 ≤ nv xs o 2 ∧ nv xs o 2 < 65536 := by
  have := valB_lt (xs := (xs.drop o).take 2) (fun y hy => hb y (List.mem_of_mem_drop (List.mem_of_mem_take hy)))
  have h2 : ((xs.drop o).take 2).length ≤ 2 := by rw [List.length_take]; omega
  unfold nv
  refine ⟨by omega, ?_⟩
  have : 256 ^ ((xs.drop o).take 2).length ≤ 256 ^ 2 := Nat.pow_le_pow_right (by omega) h2
  omega
theorem s138 : SumTOk Try.prog 138 S138 := sumW_ok fun xs h => by
  have h : okL xs = true := h
  have hb := (okL_iff.1 h).1
  have nr := nv2_lt (o := 2) hb
  have lt : ile 4 (xs.length : Int) = true → ilt (xs.length : Int) 4 = false := fun e => by rw [ile_iff'] at e; rw [ilt_no]; omega
  have ge : ile 4 (xs.length : Int) = false → ilt (xs.length : Int) 4 = true := fun e => by rw [ile_f] at e; rw [ilt_iff]; omega
  have im : ile 2 (xs.length : Int) = false → ile 4 (xs.length : Int) = true → False := fun e e2 => by rw [ile_f] at e; rw [ile_iff'] at e2; omega
  have sm : (true && ile (nv xs 2 2) 1000000) = true := by rw [Bool.true_and, ile_iff']; omega
  have go : ∀ c : Int, hdC xs = c → c ≠ -1 → (AV.tup [AV.int IntKind.i64 0, AV.agg [AV.bool true, AV.int IntKind.i64 4, AV.int IntKind.i64 c]], ([] : List (List AV))) = (Tree.val (.ite (ieq (hdC xs) (-1)) (.leaf (.tup [.int .i64 (nv xs 2 2), .agg noF])) (.leaf (.tup [.int .i64 0, .agg (baF (hdC xs))]))), []) := fun c e n => by
    rw [e, show ieq c (-1) = false by simp [ieq, n]]; rfl
  refine book_ok.pth (by kernel_rfl) sp138h_ok (p138 xs _ (by rw [h]; rfl) (fun _ a b => go 1 ?_ (by omega)) (fun _ _ _ => sm) (fun _ a b c => go 1 ?_ (by omega)) (fun _ a b c d => go 0 ?_ (by omega)) (fun _ a b c d e => go 1 ?_ (by omega)) (fun _ a b c d e => ?_) (fun _ a => go 1 ?_ (by omega))
    (fun z a => (im z a).elim) (fun z a => (im z a).elim) (fun z a => (im z a).elim) (fun z a => (im z a).elim) (fun _ a => go 1 ?_ (by omega)))
  · unfold hdC; rw [lt a, b]; rfl
  · unfold hdC; rw [lt a, b, c]; rfl
  · unfold hdC; rw [lt a, b, c, d]; rfl
  · unfold hdC; rw [lt a, b, c, d, e]; rfl
  · have : hdC xs = -1 := by unfold hdC; rw [lt a, b, c, d, e]; rfl
    show _ = (Tree.val (.ite (ieq (hdC xs) (-1)) _ _), _)
    rw [this]; rfl
  · unfold hdC; rw [ge a]; rfl
  · unfold hdC; rw [ge a]; rfl
end Go.Proofs.Ytdcijmigoefnjaa
