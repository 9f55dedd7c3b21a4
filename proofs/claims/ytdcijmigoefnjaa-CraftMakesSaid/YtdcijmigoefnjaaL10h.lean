import Derived.Test.YtdcijmigoefnjaaD04q
import Derived.Test.YtdcijmigoefnjaaEvLa
import Derived.Test.YtdcijmigoefnjaaL45e
import Derived.Test.YtdcijmigoefnjaaD03
import Derived.Test.YtdcijmigoefnjaaL45a
import Derived.Test.YtdcijmigoefnjaaL45b
set_option linter.unusedVariables false
set_option linter.unusedSimpArgs false
set_option maxRecDepth 100000
set_option maxHeartbeats 0
namespace Go.Proofs.Ytdcijmigoefnjaa
open Go Go.Ev
theorem pairEq_same : ∀ cs : List AV,pairEq cs cs = true
 | [] => rfl
 | [_] => rfl
 | a :: b :: cs => by simp [pairEq,ieq,pairEq_same cs]
theorem tyu {n : Int} (h1 : IntKind.u64.min ≤ n) (h2 : n ≤ IntKind.u64.max) : inU n = true := by
 have h1 : 0 ≤ n := h1
 have h2 : n ≤ 18446744073709551615 := h2
 rw [inU_iff]; omega
end Go.Proofs.Ytdcijmigoefnjaa
set_option linter.unusedVariables false
set_option linter.unusedSimpArgs false
set_option maxRecDepth 100000
set_option maxHeartbeats 0
namespace Go.Proofs.Ytdcijmigoefnjaa
open Go Go.Ev
theorem drop_ap {xs ys : List AV} {o : Nat} (h : o ≤ xs.length) : (xs ++ ys).drop o = xs.drop o ++ ys := List.drop_append_of_le_length h
theorem take_ap {xs ys : List AV} {n : Nat} (h : n ≤ xs.length) : (xs ++ ys).take n = xs.take n := List.take_append_of_le_length h
theorem nv_ap {xs : List AV} (ys : List AV) {o n : Nat} (h : o + n ≤ xs.length) : nv (xs ++ ys) o n = nv xs o n := by
 unfold nv; rw [drop_ap (by omega),take_ap (by rw [List.length_drop]; omega)]
structure Same2 (E : List AV → Int) (K : List AV → Nat → Int) (xs ys : List AV) : Prop where
 e : E (xs ++ ys) = 0
 k : K (xs ++ ys) = K xs
end Go.Proofs.Ytdcijmigoefnjaa
set_option linter.unusedVariables false
set_option linter.unusedSimpArgs false
set_option maxRecDepth 100000
set_option maxHeartbeats 0
namespace Go.Proofs.Ytdcijmigoefnjaa
open Go Go.Ev
theorem sumN_set : ∀ (xs : List AV) (j i : Nat) (z : Nat),i < xs.length → sumN (xs.set i (.int .u8 (z : Int))) j + (xs.getD i .unk).asInt.toNat * wt (j + i) = sumN xs j + z * wt (j + i)
 | [],j,i,z,h => by simp at h
 | x :: xs,j,0,z,_ => by
  simp only [List.set_cons_zero,sumN,List.getD_cons_zero,Nat.add_zero,AV.asInt,Int.toNat_natCast]
  have : (bif Nat.beq (j % 2) 0 then 256 else 1) = wt j := rfl
  rw [this]; omega
 | x :: xs,j,i + 1,z,h => by
  have := sumN_set xs (j + 1) i z (by simpa using h)
  simp only [List.set_cons_succ,sumN,List.getD_cons_succ]
  rw [show j + (i + 1) = j + 1 + i by omega]
  omega
theorem sum_zero {xs : List AV} (hb : byteL xs) {q : Nat} (hq : 2 * q + 1 < xs.length) (n : Nat) (hn : n < 65536)
  (he : ((n : Nat) : Int) = sumV ((xs.set (2 * q) (.int .u8 ((0 : Nat) : Int))).set (2 * q + 1) (.int .u8 ((0 : Nat) : Int)))) :
  sumV ((((xs.set (2 * q) (.int .u8 ((0 : Nat) : Int))).set (2 * q + 1) (.int .u8 ((0 : Nat) : Int))).set (2 * q) (.int .u8 ((n / 256 : Nat) : Int))).set (2 * q + 1) (.int .u8 ((n % 256 : Nat) : Int))) = 0 := by
 generalize hx0 : (xs.set (2 * q) (.int .u8 ((0 : Nat) : Int))).set (2 * q + 1) (.int .u8 ((0 : Nat) : Int)) = x0 at he ⊢
 have hl0 : x0.length = xs.length := by rw [← hx0]; simp
 have g0 : x0.getD (2 * q) .unk = .int .u8 ((0 : Nat) : Int) := by
  rw [← hx0,List.getD_eq_getElem?_getD,List.getElem?_set_ne (by omega),List.getElem?_set_self (by omega)]; rfl
 have g1 : x0.getD (2 * q + 1) .unk = .int .u8 ((0 : Nat) : Int) := by
  rw [← hx0,List.getD_eq_getElem?_getD,List.getElem?_set_self (by simp; omega)]; rfl
 have s1 := sumN_set x0 0 (2 * q) (n / 256) (by omega)
 have s2 := sumN_set (x0.set (2 * q) (.int .u8 ((n / 256 : Nat) : Int))) 0 (2 * q + 1) (n % 256) (by simp; omega)
 have g2 : (x0.set (2 * q) (.int .u8 ((n / 256 : Nat) : Int))).getD (2 * q + 1) .unk = .int .u8 ((0 : Nat) : Int) := by
  rw [List.getD_eq_getElem?_getD,List.getElem?_set_ne (by omega),← List.getD_eq_getElem?_getD,g1]
 rw [g0,wt_even (by omega)] at s1
 rw [g2,wt_odd (by omega)] at s2
 simp only [AV.asInt,Int.toNat_natCast,Nat.zero_mul,Nat.add_zero] at s1 s2
 have e : sumN ((x0.set (2 * q) (.int .u8 ((n / 256 : Nat) : Int))).set (2 * q + 1) (.int .u8 ((n % 256 : Nat) : Int))) 0 = sumN x0 0 + n := by omega
 unfold sumV at he ⊢
 rw [e]
 generalize sumN x0 0 = s at he
 by_cases hs : s = 0
 ·subst hs
  have e0 : ocI ((0 : Nat) : Int) = 0 := rfl
  rw [e0] at he
  rw [ocI_pos (by omega)]; omega
 ·rw [ocI_pos (by omega)] at he
  rw [ocI_pos (by omega)]; omega
end Go.Proofs.Ytdcijmigoefnjaa
set_option linter.unusedVariables false
set_option linter.unusedSimpArgs false
set_option maxRecDepth 100000
set_option maxHeartbeats 0
namespace Go.Proofs.Ytdcijmigoefnjaa
open Go Go.Ev
theorem nv_first {a b : List AV} {n : Nat} (h : a.length = n) : nv (a ++ b) 0 n = (valB a : Int) := by
 subst h
 unfold nv
 rw [List.drop_zero,List.take_left]
theorem nv_all {a : List AV} {n : Nat} (h : a.length = n) : nv a 0 n = (valB a : Int) := by
 have := nv_first (b := []) h
 rwa [List.append_nil] at this
theorem nv_skip {a b : List AV} {m o n p : Nat} (h : a.length = m) (hp : p = m + o) : nv (a ++ b) p n = nv b o n := by
 subst h hp
 unfold nv
 rw [← List.drop_drop,List.drop_left]
theorem nv_in {a b : List AV} {o n : Nat} (h : o + n ≤ a.length) : nv (a ++ b) o n = nv a o n := nv_ap b h
theorem fldC_hdr (k : Nat → Int) {i n : Int} (hi : isF i = true) : fldC (hdrC k) i n = putL (k (i.toNat * 2),k (i.toNat * 2 + 1)) n := by unfold fldC; rw [getH_hdr k hi]
theorem val_put {hi lo : Int} (h0 : 0 ≤ hi) (l0 : 0 ≤ lo) (l1 : lo < 18446744073709551616) {n : Nat} (hn : n ≤ 16) (hv : hi * 18446744073709551616 + lo < ((256 ^ n : Nat) : Int)) : (valB (putL (hi,lo) (n : Int)) : Int) = hi * 18446744073709551616 + lo := by
 obtain ⟨a,rfl⟩ : ∃ a : Nat,hi = a := ⟨hi.toNat,by omega⟩
 obtain ⟨b,rfl⟩ : ∃ b : Nat,lo = b := ⟨lo.toNat,by omega⟩
 rw [putL_eq a b (by omega) hn,val_bytes,Nat.mod_eq_of_lt (by omega)]
 omega
theorem val_fld {k : Nat → Int} (h : FitN k) {i : Int} (hi : isF i = true) (h0 : k (i.toNat * 2) = 0) {n : Nat} (hn : n ≤ 8) (hv : maskTab.getD (i.toNat * 2 + 1) 0 < ((256 ^ n : Nat) : Int)) : (valB (fldC (hdrC k) i (n : Int)) : Int) = k (i.toNat * 2 + 1) := by
 have hb := isF_in' hi
 have := h (i.toNat * 2 + 1) (by omega)
 have hp : (256 ^ n : Nat) ≤ 256 ^ 8 := Nat.pow_le_pow_right (by decide) hn
 rw [fldC_hdr k hi,h0,val_put (by decide) this.1 (by omega) (by omega) (by omega)]
 omega
theorem num_eq {v : Nat} : ∀ {n : Nat},(n = 2 ∨ n = 4) → numL (v : Int) (n : Int) = bytesBE v n := by
 have b : ∀ s : Nat,s ≤ 63 → nbyte (v : Int) (s : Int) = .int .u8 ((v / 2 ^ s % 256 : Nat) : Int) := by
  intro s hs
  unfold nbyte
  rw [shrM s hs,IntKind.wrap_u8]
  norm_cast
 have e24 := b 24 (by decide); have e16 := b 16 (by decide); have e8 := b 8 (by decide); have e0 := b 0 (by decide)
 rintro n (rfl | rfl)
 ·show [nbyte v 8,nbyte v 0] = _
  rw [show nbyte (v : Int) 8 = _ from e8,show nbyte (v : Int) 0 = _ from e0,bytesBE_get]
  simp [List.range,List.range.loop]
 ·show [nbyte v 24,nbyte v 16,nbyte v 8,nbyte v 0] = _
  rw [show nbyte (v : Int) 24 = _ from e24,show nbyte (v : Int) 16 = _ from e16,show nbyte (v : Int) 8 = _ from e8,show nbyte (v : Int) 0 = _ from e0,bytesBE_get]
  simp [List.range,List.range.loop]
theorem val_num {v : Int} (h0 : 0 ≤ v) {n : Nat} (hn : n = 2 ∨ n = 4) (hv : v < ((256 ^ n : Nat) : Int)) : (valB (numL v (n : Int)) : Int) = v := by
 obtain ⟨a,rfl⟩ : ∃ a : Nat,v = a := ⟨v.toNat,by omega⟩
 rw [num_eq hn,val_bytes,Nat.mod_eq_of_lt (by omega)]
theorem num_len {v : Int} : (numL v 2).length = 2 ∧ (numL v 4).length = 4 := ⟨rfl,rfl⟩
end Go.Proofs.Ytdcijmigoefnjaa
set_option linter.unusedVariables false
set_option linter.unusedSimpArgs false
set_option maxRecDepth 100000
set_option maxHeartbeats 0
namespace Go.Proofs.Ytdcijmigoefnjaa
open Go Go.Ev
theorem fitZ {k : Nat → Int} (h : FitN k) {c : Nat} (hc : c < 48) (hm : maskTab.getD c 0 = 0) : k c = 0 := by
 have := h c hc; omega
theorem nv_b {n : Int} (r : List AV) (h0 : 0 ≤ n) (h1 : n < 256) : nv (bt (IntKind.u8.wrap n) :: r) 0 1 = n := by
 have e : IntKind.u8.wrap n = n := by rw [IntKind.wrap_u8]; omega
 rw [e]
 show ((valB [bt n] : Nat) : Int) = n
 show ((0 * 256 + n.toNat : Nat) : Int) = n
 omega
theorem in_val {k : Nat → Int} (h : FitN k) :
  (lowH (hdrC k) 9 = 6 → ∀ f,nv (inL (hdrC k) f) 0 2 = k 25 ∧ nv (inL (hdrC k) f) 2 2 = k 27 ∧ (inL (hdrC k) f).length = 20) ∧
  (lowH (hdrC k) 9 = 17 → ∀ f,nv (inL (hdrC k) f) 0 2 = k 29 ∧ nv (inL (hdrC k) f) 2 2 = k 31 ∧ (inL (hdrC k) f).length = 8) ∧
  (lowH (hdrC k) 9 = 1 → nv (inL (hdrC k) true) 0 1 = k 33 ∧ nv (inL (hdrC k) true) 1 1 = k 35 ∧ (inL (hdrC k) true).length = 8) := by
 have f2 : ∀ i,(fldC (hdrC k) i 2).length = 2 := fun _ => rfl
 have f1 : ∀ i,(fldC (hdrC k) i 1).length = 1 := fun _ => rfl
 have v : ∀ (i : Int) (n : Nat),isF i = true → maskTab.getD (i.toNat * 2) 0 = 0 → n ≤ 8 → maskTab.getD (i.toNat * 2 + 1) 0 < ((256 ^ n : Nat) : Int) → (valB (fldC (hdrC k) i (n : Int)) : Int) = k (i.toNat * 2 + 1) := fun i n hi hm hn hv =>
  val_fld h hi (fitZ h (by have := isF_in' hi; omega) hm) hn hv
 refine ⟨fun e f => ?_,fun e f => ?_,fun e => ?_⟩
 ·have e1 : inL (hdrC k) f = fldC (hdrC k) 12 2 ++ (fldC (hdrC k) 13 2 ++ nul 16) := by
   unfold inL; rw [e,← List.append_assoc]; rfl
  rw [e1]
  refine ⟨?_,?_,?_⟩
  ·rw [nv_first (f2 12)]; exact v 12 2 rfl rfl (by decide) (by decide)
  ·rw [nv_skip (o := 0) (f2 12) rfl,nv_first (f2 13)]; exact v 13 2 rfl rfl (by decide) (by decide)
  ·rfl
 ·have e1 : inL (hdrC k) f = fldC (hdrC k) 14 2 ++ (fldC (hdrC k) 15 2 ++ [.int .u8 0,.int .u8 8,.int .u8 0,.int .u8 0]) := by
   unfold inL; rw [e,← List.append_assoc]; rfl
  rw [e1]
  refine ⟨?_,?_,?_⟩
  ·rw [nv_first (f2 14)]; exact v 14 2 rfl rfl (by decide) (by decide)
  ·rw [nv_skip (o := 0) (f2 14) rfl,nv_first (f2 15)]; exact v 15 2 rfl rfl (by decide) (by decide)
  ·rfl
 ·have e1 : inL (hdrC k) true = fldC (hdrC k) 16 1 ++ (fldC (hdrC k) 17 1 ++ nul 6) := by
   unfold inL; rw [e,← List.append_assoc]; rfl
  rw [e1]
  refine ⟨?_,?_,?_⟩
  ·rw [nv_first (f1 16)]; exact v 16 1 rfl rfl (by decide) (by decide)
  ·rw [nv_skip (o := 0) (f1 16) rfl,nv_first (f1 17)]; exact v 17 1 rfl rfl (by decide) (by decide)
  ·rfl
theorem four_eq (hs : List AV) : ∃ s : Int,s = sumV (ip4N hs (inL hs true).length) ∧ ip4L hs (inL hs true).length = [bt 69,bt (IntKind.u8.wrap (clsI hs))] ++ (numL (20 + ((inL hs true).length : Int)) 2 ++ ([bt 0,bt 0,bt 0,bt 0,bt 64] ++ (fldC hs 9 1 ++ (numL s 2 ++ (fldC hs 10 4 ++ fldC hs 11 4))))) := by
 refine ⟨_,rfl,?_⟩
 unfold ip4L
 generalize sumV (ip4N hs (inL hs true).length) = s
 have e : ip4N hs (inL hs true).length = ((([bt 69,bt (IntKind.u8.wrap (clsI hs))] ++ numL (20 + ((inL hs true).length : Int)) 2) ++ [bt 0,bt 0,bt 0,bt 0,bt 64]) ++ fldC hs 9 1) ++ (nul 2 ++ (fldC hs 10 4 ++ fldC hs 11 4)) := by
  unfold ip4N
  simp only [List.append_assoc]; rfl
 rw [e,show (10 : Nat) = (((([bt 69,bt (IntKind.u8.wrap (clsI hs))] ++ numL (20 + ((inL hs true).length : Int)) 2) ++ [bt 0,bt 0,bt 0,bt 0,bt 64]) ++ fldC hs 9 1).length + 0) from rfl,setAt_app]
 show _ ++ (numL s 2 ++ (fldC hs 10 4 ++ fldC hs 11 4)) = _
 simp only [List.append_assoc]
theorem sum4 (hs : List AV) (n : Int) : sumV (ip4L hs n) = 0 := by
 have hb : byteL (ip4N hs n) := bytB_iff.1 (by
  unfold ip4N
  simp only [bytB_app,fld_byt,nul_byt,num_byt,Bool.and_true]
  show ((true && (isB (bt (IntKind.u8.wrap (clsI hs))) && true)) && _) = true
  rw [show isB (bt (IntKind.u8.wrap (clsI hs))) = true from isB_wrap _]; rfl)
 have hr := oc_range (sumN (ip4N hs n) 0)
 obtain ⟨m,hm⟩ : ∃ m : Nat,sumV (ip4N hs n) = m := ⟨(sumV (ip4N hs n)).toNat,by unfold sumV; omega⟩
 have hm2 : m < 65536 := by unfold sumV at hm; omega
 have z : ((ip4N hs n).set (2 * 5) (.int .u8 ((0 : Nat) : Int))).set (2 * 5 + 1) (.int .u8 ((0 : Nat) : Int)) = ip4N hs n := rfl
 have := sum_zero hb (q := 5) (by show 11 < 20; decide) m hm2 (by rw [z]; exact hm.symm)
 rw [z] at this
 unfold ip4L
 rw [hm]
 have e : numL (m : Int) 2 = [.int .u8 ((m / 256 : Nat) : Int),.int .u8 ((m % 256 : Nat) : Int)] := by
  rw [show (2 : Int) = ((2 : Nat) : Int) from rfl,num_eq (.inl rfl),bytesBE_get]
  show [AV.int .u8 ((m / 256 ^ 1 % 256 : Nat) : Int),AV.int .u8 ((m / 256 ^ 0 % 256 : Nat) : Int)] = _
  rw [Nat.pow_one,Nat.pow_zero,Nat.div_one,Nat.mod_eq_of_lt (show m / 256 < 256 by omega)]
 rw [e]
 exact this
end Go.Proofs.Ytdcijmigoefnjaa
set_option linter.unusedVariables false
set_option linter.unusedSimpArgs false
set_option maxRecDepth 100000
set_option maxHeartbeats 0
namespace Go.Proofs.Ytdcijmigoefnjaa
open Go Go.Ev
theorem bf {x y : Bool} (h : (bif x then false else y) = true) : x = false ∧ y = true := by
 cases x
 ·exact ⟨rfl,h⟩
 ·cases h
theorem bo {e f : Bool} (h : (bif !e then !f else false) = false) : e = true ∨ f = true := by cases e <;> cases f <;> simp_all
theorem right_inv {k : Nat → Int} (hu : hdrU (hdrC k) = true) (h : rightH (hdrC k) = true) :
  FitN k ∧ ilt (lowH (hdrC k) 0) 1 = false ∧ ilt 4294967040 (lowH (hdrC k) 0) = false ∧ allZ (hdrC k) (nI [1]) = true ∧ (ieq (lowH (hdrC k) 4) 2054 = true ∨ allZ (hdrC k) (nI [18,19,20]) = true) ∧
  ((bif !ieq (lowH (hdrC k) 4) 34887 then !ieq (lowH (hdrC k) 4) 34888 else false) = false ∨ allZ (hdrC k) (nI [23]) = true) ∧ taggedH (hdrC k) = true ∧ routedH (hdrC k) = true := by
 have hf := fitN_of hu (right_fits h)
 unfold rightH at h
 obtain ⟨_,h⟩ := bf h
 obtain ⟨h1,h⟩ := bf h
 obtain ⟨h2,h⟩ := bf h
 obtain ⟨h3,h⟩ := bf h
 obtain ⟨h4,h⟩ := bf h
 obtain ⟨h5,h⟩ := bf h
 refine ⟨hf,h1,h2,by simpa using h3,bo h4,?_,?_,?_⟩
 ·cases hx : (bif !ieq (lowH (hdrC k) 4) 34887 then !ieq (lowH (hdrC k) 4) 34888 else false)
  ·exact .inl rfl
  ·rw [hx] at h5; right; simpa using h5
 ·cases ht : taggedH (hdrC k) <;> rw [ht] at h
  ·cases h
 ·cases ht : taggedH (hdrC k) <;> rw [ht] at h
  ·cases h
  ·exact h
theorem allZ_get {k : Nat → Int} {l : List Int} (h : allZ (hdrC k) (nI l) = true) {i : Int} (hi : i ∈ l) (hf : isF i = true) : k (i.toNat * 2) = 0 ∧ k (i.toNat * 2 + 1) = 0 := by
 unfold allZ at h
 have := List.all_eq_true.1 h (.int .i64 i) (List.mem_map_of_mem hi)
 unfold zeroH1 at this
 rw [show (AV.int IntKind.i64 i).asInt = i from rfl,getH_hdr k hf] at this
 simpa [zeroW,ieq] using this
theorem and4096 (n : Nat) (h : n < 4096) : n &&& 4096 = 0 := by
 apply Nat.eq_of_testBit_eq
 intro i
 rw [Nat.testBit_and,Nat.zero_testBit,show (4096 : Nat) = 2 ^ 12 from rfl,Nat.testBit_two_pow]
 by_cases e : 12 = i
 ·subst e
  rw [Nat.testBit_lt_two_pow h]; rfl
 ·simp [e]
theorem bit12_of {k : Nat → Int} (h : FitN k) (hb : bit12 (getH (hdrC k) 5) = true) : 4096 ≤ k 11 ∧ k 11 ≤ 8191 := by
 have h1 := h 11 (by decide)
 rw [show maskTab.getD 11 0 = 8191 from rfl] at h1
 refine ⟨?_,h1.2⟩
 rw [getH_hdr k rfl] at hb
 apply Int.not_lt.1
 intro hlt
 have e0 : k 10 = 0 := fitZ h (by decide) rfl
 obtain ⟨n,hn⟩ : ∃ n : Nat,k 11 = n := ⟨(k 11).toNat,by omega⟩
 have z : ibits .and .u64 (k 11) 4096 = 0 := by
  rw [hn,ibits_eq]
  show IntKind.u64.wrap ((BitVec.ofInt 64 (n : Int) &&& BitVec.ofInt 64 ((4096 : Nat) : Int)).toNat : Int) = 0
  rw [BitVec.toNat_and,BitVec.ofInt_natCast,BitVec.ofInt_natCast,BitVec.toNat_ofNat,BitVec.toNat_ofNat,Nat.mod_eq_of_lt (by omega),Nat.mod_eq_of_lt (by omega)]
  rw [and4096 n (by omega)]
  rfl
 have hb : (!zeroW (ibits .and .u64 (k 10) 0,ibits .and .u64 (k 11) 4096)) = true := hb
 rw [e0,z] at hb
 cases hb
structure Head (k : Nat → Int) : Prop where
 b : frmB (k 1) (layH (hdrC k)) = (k 1,(0,k 5),(0,k 7),(0,k 9),k 11,k 13)
 t : typN (layH (hdrC k)) = k 9
 r : restX (layH (hdrC k)) = bodyH (hdrC k)
 l1 : ilt ((layH (hdrC k)).length : Int) 14 = false
 l2 : (tagB (layH (hdrC k)) && ilt ((layH (hdrC k)).length : Int) 18) = false
theorem low4 {k : Nat → Int} (h : FitN k) : lowH (hdrC k) 4 = k 9 := lowF_of h rfl (by decide)
theorem head46 {k : Nat → Int} (hf : FitN k) (ht : taggedH (hdrC k) = true) : Head k := by
 have f6 : ∀ i,(fldC (hdrC k) i 6).length = 6 := fun _ => rfl
 have f2 : ∀ i,(fldC (hdrC k) i 2).length = 2 := fun _ => rfl
 have v : ∀ (i : Int) (n : Nat),isF i = true → maskTab.getD (i.toNat * 2) 0 = 0 → n ≤ 8 → maskTab.getD (i.toNat * 2 + 1) 0 < ((256 ^ n : Nat) : Int) → (valB (fldC (hdrC k) i (n : Int)) : Int) = k (i.toNat * 2 + 1) := fun i n hi hm hn hv =>
  val_fld hf hi (fitZ hf (by have := isF_in' hi; omega) hm) hn hv
 have v2 : (valB (fldC (hdrC k) 2 6) : Int) = k 5 := v 2 6 rfl rfl (by decide) (by decide)
 have v3 : (valB (fldC (hdrC k) 3 6) : Int) = k 7 := v 3 6 rfl rfl (by decide) (by decide)
 have v4 : (valB (fldC (hdrC k) 4 2) : Int) = k 9 := v 4 2 rfl rfl (by decide) (by decide)
 unfold taggedH at ht
 cases hv : allZ (hdrC k) (nI [5]) <;> rw [hv] at ht <;> simp only [cond_true,cond_false] at ht
 ·
  obtain ⟨b1,b2⟩ := bit12_of hf ht
  have hp := hf 13 (by decide)
  rw [show maskTab.getD 13 0 = 7 from rfl] at hp
  have e : layH (hdrC k) = fldC (hdrC k) 2 6 ++ (fldC (hdrC k) 3 6 ++ ([bt 129,bt 0] ++ (numL (tagN (hdrC k)) 2 ++ (fldC (hdrC k) 4 2 ++ bodyH (hdrC k))))) := by
   unfold layH tagL
   rw [hv]
   simp only [Bool.not_false,cond_true,List.append_assoc]; rfl
  have n0 : nv (layH (hdrC k)) 0 6 = k 5 := by rw [e,nv_first (f6 2),v2]
  have n6 : nv (layH (hdrC k)) 6 6 = k 7 := by rw [e,nv_skip (o := 0) (f6 2) rfl,nv_first (f6 3),v3]
  have n12 : nv (layH (hdrC k)) 12 2 = 33024 := by rw [e,nv_skip (o := 6) (f6 2) rfl,nv_skip (o := 0) (f6 3) rfl,nv_first (n := 2) rfl]; rfl
  have n14 : nv (layH (hdrC k)) 14 2 = k 13 * 8192 + k 11 % 4096 := by
   rw [e,nv_skip (o := 8) (f6 2) rfl,nv_skip (o := 2) (f6 3) rfl,nv_skip (o := 0) (m := 2) rfl rfl,nv_first (n := 2) rfl,show (2 : Int) = ((2 : Nat) : Int) from rfl,val_num (by rw [tag_of hf]; omega) (.inl rfl) (by rw [tag_of hf]; omega),tag_of hf]
  have n16 : nv (layH (hdrC k)) 16 2 = k 9 := by
   rw [e,nv_skip (o := 10) (f6 2) rfl,nv_skip (o := 4) (f6 3) rfl,nv_skip (o := 2) (m := 2) rfl rfl,nv_skip (o := 0) (m := 2) rfl rfl,nv_first (f2 4),v4]
  have hl : (layH (hdrC k)).length = 18 + (bodyH (hdrC k)).length := by
   rw [e]
   simp only [List.length_append,f6,f2,List.length_cons,List.length_nil]
   rw [num_len.1]; omega
  have hT : tagB (layH (hdrC k)) = true := by unfold tagB; rw [n12]; rfl
  refine ⟨?_,?_,?_,ilt_no.2 (by omega),?_⟩
  ·unfold frmB typN
   rw [hT,n0,n6]
   simp only [cond_true]
   rw [n16,n14]
   simp only [Prod.mk.injEq,true_and]
   omega
  ·unfold typN; rw [hT]; exact n16
  ·unfold restX
   rw [hT,e]
   show List.drop 18 (fldC (hdrC k) 2 6 ++ (fldC (hdrC k) 3 6 ++ ([bt 129,bt 0] ++ (numL (tagN (hdrC k)) 2 ++ (fldC (hdrC k) 4 2 ++ bodyH (hdrC k)))))) = _
   rfl
  ·rw [hT,ilt_no.2 (by omega)]; rfl
 ·
  have hz := allZ_get hv (i := 5) (by simp) rfl
  cases hv6 : allZ (hdrC k) (nI [6]) <;> rw [hv6] at ht <;> simp only [cond_true,cond_false] at ht
  ·cases ht
  have hz6 := allZ_get hv6 (i := 6) (by simp) rfl
  have z11 : k 11 = 0 := hz.2
  have z13 : k 13 = 0 := hz6.2
  rw [low4 hf] at ht
  have ne : ieq (k 9) 33024 = false ∧ ieq (k 9) 34984 = false := by
   cases h1 : ieq (k 9) 33024 <;> cases h2 : ieq (k 9) 34984 <;> rw [h1,h2] at ht <;> first | exact ⟨rfl,rfl⟩ | cases ht
  have e : layH (hdrC k) = fldC (hdrC k) 2 6 ++ (fldC (hdrC k) 3 6 ++ (fldC (hdrC k) 4 2 ++ bodyH (hdrC k))) := by
   unfold layH tagL
   rw [hv]
   simp only [Bool.not_true,cond_false,List.append_assoc,List.nil_append,List.append_nil]
  have n0 : nv (layH (hdrC k)) 0 6 = k 5 := by rw [e,nv_first (f6 2),v2]
  have n6 : nv (layH (hdrC k)) 6 6 = k 7 := by rw [e,nv_skip (o := 0) (f6 2) rfl,nv_first (f6 3),v3]
  have n12 : nv (layH (hdrC k)) 12 2 = k 9 := by rw [e,nv_skip (o := 6) (f6 2) rfl,nv_skip (o := 0) (f6 3) rfl,nv_first (f2 4),v4]
  have hl : (layH (hdrC k)).length = 14 + (bodyH (hdrC k)).length := by
   rw [e]
   simp only [List.length_append,f6,f2]; omega
  have hT : tagB (layH (hdrC k)) = false := by unfold tagB; rw [n12,ne.1,ne.2]; rfl
  refine ⟨?_,?_,?_,ilt_no.2 (by omega),?_⟩
  ·unfold frmB typN
   rw [hT,n0,n6]
   simp only [cond_false]
   rw [n12,z11,z13]
  ·unfold typN; rw [hT]; exact n12
  ·unfold restX
   rw [hT,e]
   rfl
  ·rw [hT]; rfl
end Go.Proofs.Ytdcijmigoefnjaa
set_option linter.unusedVariables false
set_option linter.unusedSimpArgs false
set_option maxRecDepth 100000
set_option maxHeartbeats 0
namespace Go.Proofs.Ytdcijmigoefnjaa
open Go Go.Ev
def SetQ (g k : Nat → Int) (L : List Nat) : Prop := ∀ c,(c / 2 ∈ L → g c = k c) ∧ (c / 2 ∉ L → g c = 0)
theorem SetQ.zero (k : Nat → Int) : SetQ zeroK k [] := fun c => ⟨fun h => absurd h (by simp),fun _ => rfl⟩
theorem SetQ.set {g k : Nat → Int} {L : List Nat} (h : SetQ g k L) {f : Nat} {v : Int × Int} (e1 : v.1 = k (2 * f)) (e2 : v.2 = k (2 * f + 1)) : SetQ (setK g f v) k (f :: L) := by
 intro c
 unfold setK
 cases hb : Nat.beq (c / 2) f with
 | true =>
  have e : c / 2 = f := Nat.eq_of_beq_eq_true hb
  refine ⟨fun _ => ?_,fun hn => absurd (by rw [e]; exact List.mem_cons_self) hn⟩
  simp only [cond_true]
  cases h2 : Nat.beq (c % 2) 0 with
  | true =>
   have e2 : c % 2 = 0 := Nat.eq_of_beq_eq_true h2
   obtain rfl : c = 2 * f := by omega
   exact e1
  | false =>
   have e3 : c % 2 ≠ 0 := Nat.ne_of_beq_eq_false h2
   obtain rfl : c = 2 * f + 1 := by omega
   exact e2
 | false =>
  have e : c / 2 ≠ f := Nat.ne_of_beq_eq_false hb
  simp only [cond_false]
  refine ⟨fun hm => (h c).1 ?_,fun hn => (h c).2 (fun hm => hn (List.mem_cons_of_mem _ hm))⟩
  rcases List.mem_cons.1 hm with he | hm
  ·exact absurd he e
  ·exact hm
def ZF (k : Nat → Int) (f : Nat) : Prop := k (2 * f) = 0 ∧ k (2 * f + 1) = 0
theorem SetQ.hdr {g k : Nat → Int} {L : List Nat} (h : SetQ g k L) (hz : ∀ f,f < 24 → f ∉ L → ZF k f) : hdrC g = hdrC k := by
 refine hdrC_congr fun c hc => ?_
 by_cases hm : c / 2 ∈ L
 ·exact (h c).1 hm
 ·rw [(h c).2 hm]
  have := hz (c / 2) (by omega) hm
  rcases Nat.mod_two_eq_zero_or_one c with e | e
  ·have e2 : c = 2 * (c / 2) := by omega
   rw [e2]; exact this.1.symm
  ·have e2 : c = 2 * (c / 2) + 1 := by omega
   rw [e2]; exact this.2.symm
theorem zf_get {k : Nat → Int} {l : List Int} (h : allZ (hdrC k) (nI l) = true) (f : Nat) (hi : (f : Int) ∈ l) (hf : isF (f : Int) = true) : ZF k f := by
 have := allZ_get h hi hf
 rw [Int.toNat_natCast,Nat.mul_comm] at this
 exact this
structure Rt (k : Nat → Int) : Prop where
 z1 : ZF k 1
 ip : noIp (hdrC k) = true → ZF k 7 ∧ ZF k 8 ∧ ZF k 9
 f4 : four46 (hdrC k) = false → ZF k 10 ∧ ZF k 11
 f6 : six46 (hdrC k) = false → ZF k 21 ∧ ZF k 22
 t : (lowH (hdrC k) 9 ≠ 6 ∨ noIp (hdrC k) = true) → ZF k 12 ∧ ZF k 13
 u : (lowH (hdrC k) 9 ≠ 17 ∨ noIp (hdrC k) = true) → ZF k 14 ∧ ZF k 15
 i : (lowH (hdrC k) 9 ≠ 1 ∨ four46 (hdrC k) = false) → ZF k 16 ∧ ZF k 17
 a : lowH (hdrC k) 4 ≠ 2054 → ZF k 18 ∧ ZF k 19 ∧ ZF k 20
 l : lowH (hdrC k) 4 ≠ 34887 → lowH (hdrC k) 4 ≠ 34888 → ZF k 23
theorem bx {b z x : Bool} (h : (bif (bif b then !z else false) then false else x) = true) : (b = true → z = true) ∧ x = true := by
 cases b <;> cases z <;> simp_all
theorem ie {a b : Int} (h : a ≠ b) : ieq a b = false := by
 cases e : ieq a b with
 | false => rfl
 | true => exact absurd (by simpa [ieq] using e) h
theorem ie' {a b : Int} (h : ieq a b = false) : a ≠ b := by
 rintro rfl
 simp [ieq] at h
theorem ie1 {a b : Int} (h : ieq a b = true) : a = b := by simpa [ieq] using h
theorem rt_of {k : Nat → Int} (hu : hdrU (hdrC k) = true) (h : rightH (hdrC k) = true) : Rt k := by
 obtain ⟨hf,_,_,hz1,ha,hl,_,hr⟩ := right_inv hu h
 unfold routedH at hr
 obtain ⟨r1,hr⟩ := bx hr
 obtain ⟨r2,hr⟩ := bx hr
 obtain ⟨r3,hr⟩ := bx hr
 obtain ⟨r4,hr⟩ := bx hr
 obtain ⟨r5,hr⟩ := bx hr
 refine ⟨zf_get hz1 1 (by simp) rfl,fun e => ?_,fun e => ?_,fun e => ?_,fun e => ?_,fun e => ?_,fun e => ?_,fun e => ?_,fun e e2 => ?_⟩
 ·have := r1 e
  exact ⟨zf_get this 7 (by simp) rfl,zf_get this 8 (by simp) rfl,zf_get this 9 (by simp) rfl⟩
 ·have := r2 (by rw [e]; rfl)
  exact ⟨zf_get this 10 (by simp) rfl,zf_get this 11 (by simp) rfl⟩
 ·have := r3 (by rw [e]; rfl)
  exact ⟨zf_get this 21 (by simp) rfl,zf_get this 22 (by simp) rfl⟩
 ·have := r4 (by
   rcases e with e | e
   ·rw [ie e]; rfl
   ·rw [e]; cases ieq (lowH (hdrC k) 9) 6 <;> rfl)
  exact ⟨zf_get this 12 (by simp) rfl,zf_get this 13 (by simp) rfl⟩
 ·have := r5 (by
   rcases e with e | e
   ·rw [ie e]; rfl
   ·rw [e]; cases ieq (lowH (hdrC k) 9) 17 <;> rfl)
  exact ⟨zf_get this 14 (by simp) rfl,zf_get this 15 (by simp) rfl⟩
 ·have hc : (bif ieq (lowH (hdrC k) 9) 1 then four46 (hdrC k) else false) = false := by
   rcases e with e | e
   ·rw [ie e]; rfl
   ·rw [e]; cases ieq (lowH (hdrC k) 9) 1 <;> rfl
  rw [hc] at hr
  have hr : allZ (hdrC k) (nI [16,17]) = true := hr
  exact ⟨zf_get hr 16 (by simp) rfl,zf_get hr 17 (by simp) rfl⟩
 ·have : allZ (hdrC k) (nI [18,19,20]) = true := by
   rcases ha with ha | ha
   ·exact absurd (ie1 ha) e
   ·exact ha
  exact ⟨zf_get this 18 (by simp) rfl,zf_get this 19 (by simp) rfl,zf_get this 20 (by simp) rfl⟩
 ·have : allZ (hdrC k) (nI [23]) = true := by
   rcases hl with hl | hl
   ·rw [ie e,ie e2] at hl; cases hl
   ·exact hl
  exact zf_get this 23 (by simp) rfl
def baseS : List Nat := [6,5,4,3,2,0]
theorem base_set {k : Nat → Int} (h : FitN k) : SetQ (baseK (k 1,(0,k 5),(0,k 7),(0,k 9),k 11,k 13)) k baseS := by
 have z : ∀ c,c < 48 → maskTab.getD c 0 = 0 → 0 = k c := fun c hc hm => (fitZ h hc hm).symm
 unfold baseK
 exact (((((SetQ.zero k).set (f := 0) (z 0 (by decide) rfl) rfl).set (f := 2) (z 4 (by decide) rfl) rfl).set (f := 3) (z 6 (by decide) rfl) rfl).set (f := 4) (z 8 (by decide) rfl) rfl).set (f := 5) (z 10 (by decide) rfl) rfl |>.set (f := 6) (z 12 (by decide) rfl) rfl
theorem low9 {k : Nat → Int} (h : FitN k) : lowH (hdrC k) 9 = k 19 := lowF_of h rfl (by decide)
theorem within_back {k g : Nat → Int} {L : List Nat} (h : FitN k) (r : Rt k) (hq : SetQ g k L) (f : Bool) (h4 : f = four46 (hdrC k)) (hn : noIp (hdrC k) = false)
  (hz : ∀ i,i < 24 → i ∉ L → i ∉ [12,13,14,15,16,17] → ZF k i) :
  withinE f (k 19) (inL (hdrC k) f) = 0 ∧ hdrC (withinK g f (k 19) (inL (hdrC k) f)) = hdrC k := by
 have z : ∀ c,c < 48 → maskTab.getD c 0 = 0 → 0 = k c := fun c hc hm => (fitZ h hc hm).symm
 obtain ⟨v1,v2,v3⟩ := in_val h
 rw [low9 h] at v1 v2 v3
 have rt := r.t; have ru := r.u; have ri := r.i
 rw [low9 h] at rt ru ri
 have fin : ∀ (g : Nat → Int) (M : List Nat),SetQ g k M → (∀ i,i ∈ L → i ∈ M) → (∀ i,i ∈ [12,13,14,15,16,17] → i ∉ M → ZF k i) → hdrC g = hdrC k := fun g M hg hL h6 =>
  hg.hdr fun i hi hm => by
   by_cases h7 : i ∈ [12,13,14,15,16,17]
   ·exact h6 i h7 hm
   ·exact hz i hi (fun h => hm (hL i h)) h7
 have c6 : ∀ {P : Nat → Prop},P 12 → P 13 → P 14 → P 15 → P 16 → P 17 → ∀ i,i ∈ [12,13,14,15,16,17] → P i := fun a b c d e f i hi => by
  simp only [List.mem_cons,List.not_mem_nil,or_false] at hi
  rcases hi with rfl | rfl | rfl | rfl | rfl | rfl <;> assumption
 unfold withinE withinK needN
 by_cases e6 : k 19 = 6
 ·obtain ⟨a,b,c⟩ := v1 e6 f
  rw [e6] at ru ri ⊢
  refine ⟨by rw [c]; rfl,?_⟩
  have u := ru (.inl (by decide)); have i := ri (.inl (by decide))
  show hdrC (setK (setK g 12 _) 13 _) = _
  refine fin _ _ ((hq.set (f := 12) (z 24 (by decide) rfl) a).set (f := 13) (z 26 (by decide) rfl) b) (fun i hi => .tail _ (.tail _ hi)) ?_
  exact c6 (fun h => absurd (.tail _ (.head _)) h) (fun h => absurd (.head _) h) (fun _ => u.1) (fun _ => u.2) (fun _ => i.1) (fun _ => i.2)
 by_cases e17 : k 19 = 17
 ·obtain ⟨a,b,c⟩ := v2 e17 f
  rw [e17] at rt ri ⊢
  refine ⟨by rw [c]; rfl,?_⟩
  have t := rt (.inl (by decide)); have i := ri (.inl (by decide))
  show hdrC (setK (setK g 14 _) 15 _) = _
  refine fin _ _ ((hq.set (f := 14) (z 28 (by decide) rfl) a).set (f := 15) (z 30 (by decide) rfl) b) (fun i hi => .tail _ (.tail _ hi)) ?_
  exact c6 (fun _ => t.1) (fun _ => t.2) (fun h => absurd (.tail _ (.head _)) h) (fun h => absurd (.head _) h) (fun _ => i.1) (fun _ => i.2)
 have t := rt (.inl e6); have u := ru (.inl e17)
 rw [ie e6,ie e17]
 simp only [cond_false]
 by_cases e1 : k 19 = 1
 ·cases f with
  | true =>
   obtain ⟨a,b,c⟩ := v3 e1
   rw [e1]
   refine ⟨by rw [c]; rfl,?_⟩
   show hdrC (setK (setK g 16 _) 17 _) = _
   refine fin _ _ ((hq.set (f := 16) (z 32 (by decide) rfl) a).set (f := 17) (z 34 (by decide) rfl) b) (fun i hi => .tail _ (.tail _ hi)) ?_
   exact c6 (fun _ => t.1) (fun _ => t.2) (fun _ => u.1) (fun _ => u.2) (fun h => absurd (.tail _ (.head _)) h) (fun h => absurd (.head _) h)
  | false =>
   have i := ri (.inr h4.symm)
   have q : (bif ieq (k 19) 1 then false else false) = false := by cases ieq (k 19) 1 <;> rfl
   rw [q]
   refine ⟨?_,fin g L hq (fun _ h => h) (c6 (fun _ => t.1) (fun _ => t.2) (fun _ => u.1) (fun _ => u.2) (fun _ => i.1) (fun _ => i.2))⟩
   simp only [cond_false]
   rw [ilt_no.2 (by omega)]; rfl
 ·have i := ri (.inl e1)
  rw [ie e1]
  refine ⟨?_,fin g L hq (fun _ h => h) (c6 (fun _ => t.1) (fun _ => t.2) (fun _ => u.1) (fun _ => u.2) (fun _ => i.1) (fun _ => i.2))⟩
  simp only [cond_false]
  rw [ilt_no.2 (by omega)]; rfl
end Go.Proofs.Ytdcijmigoefnjaa
