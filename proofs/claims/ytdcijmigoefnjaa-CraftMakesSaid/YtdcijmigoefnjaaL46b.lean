import Derived.Test.YtdcijmigoefnjaaP46b
import Derived.Test.YtdcijmigoefnjaaL10a
import Derived.Test.YtdcijmigoefnjaaL45a
import Derived.Test.YtdcijmigoefnjaaL10b
import Derived.Test.YtdcijmigoefnjaaP46c
import Derived.Test.YtdcijmigoefnjaaD46c
set_option linter.unusedVariables false
set_option linter.unusedSimpArgs false
set_option maxRecDepth 100000
set_option maxHeartbeats 0
namespace Go.Proofs.Ytdcijmigoefnjaa
open Go Go.Ev
theorem spF_ok : SpecTL Try.prog spF := ⟨s117o,s133,s153,s72,trivial⟩
theorem noO_ok : SpecOL Try.prog [] := trivial
theorem tinyB_iff {xs : List AV} : tinyB xs = true ↔ xs.length ≤ 1000 := by unfold tinyB; rw [Nat.ble_eq]
theorem tiny_small {xs : List AV} (h : tinyB xs = true) : smallB xs = true := by
 rw [tinyB_iff] at h
 unfold smallB
 rw [Nat.ble_eq]; omega
theorem pair1_at (k : Nat → Int) (v : AV) {j : Nat} (hj : j < 24) : List.take 2 (List.drop (0 + j * 2) (hdr1 k v)) = List.take 2 (List.drop (0 + j * 2) (hdrC k)) := by
 have hl : (hdrC k).length = 48 := rfl
 unfold hdr1
 rw [List.drop_append_of_le_length (by omega),List.take_append_of_le_length (by rw [List.length_drop]; omega)]
theorem s149 : SumOOk Try.prog 149 S149 := sumO_ok (fun _ _ _ _ h => h.shO 1) fun x hx => by
 obtain ⟨⟨hs,xs⟩,i,n⟩ := x
 simp only [Bool.and_eq_true] at hx
 obtain ⟨hh,hi,hn,ht⟩ := hx
 have hb := isF_in' hi
 show CallsO Try.prog 149 [.ptr 1000 0,.int .i64 i,.int .i64 n] (shut hs xs) (.tup []) (grown hs (xs ++ fldC hs i n) [0])
 rw [isHdr_eq hh]
 generalize (fun j => (hs.getD j .unk).asInt) = k
 have e := pair_at k i.toNat (by omega)
 have e1 := pair1_at k (AV.sl 1 xs St.sh) (j := i.toNat) (by omega)
 refine book_ok.goO (by kernel_rfl) spF_ok noO_ok (p149 k xs i n _ (inR_iff.2 ⟨hb.1,hb.2⟩) ?_ ?_ ?_ ?_)
 ·show ((List.take 2 (List.drop (0 + i.toNat * 2) (hdr1 k (AV.sl 1 xs St.sh)))).length == 2) = true
  rw [e1]; exact len_at k (by omega)
 ·show AV.has _ (AV.agg (List.map AV.flat (List.take 2 (List.drop (0 + i.toNat * 2) (hdr1 k (AV.sl 1 xs St.sh)))))) = true
  rw [e1,e]; rfl
 ·rw [show sizeOk n = true from hn,tiny_small ht]; rfl
 ·rw [e1,e]
  unfold fldC
  rw [getH_hdr k hi]; rfl
theorem s152 : SumOOk Try.prog 152 S152 := sumO_ok (fun _ _ _ _ h => h.shO 1) fun x hx => by
 obtain ⟨⟨hs,xs⟩,i,n⟩ := x
 simp only [Bool.and_eq_true] at hx
 obtain ⟨hh,hn,ht⟩ := hx
 show CallsO Try.prog 152 [.ptr 1000 0,.int .i64 i,.int .i64 n] (shut hs xs) (.tup []) (grown hs (xs ++ numL i n) [0])
 rw [isHdr_eq hh]
 generalize (fun j => (hs.getD j .unk).asInt) = k
 refine book_ok.goO (by kernel_rfl) spF_ok noO_ok (p152 k xs i n _ ?_ rfl)
 rw [show numOk i n = true from hn,tiny_small ht]; rfl
theorem s151 : SumOOk Try.prog 151 S151 := sumO_ok (fun _ _ _ _ h => h) fun x hx => by
 obtain ⟨⟨hs,xs⟩,ys⟩ := x
 simp only [Bool.and_eq_true] at hx
 obtain ⟨hh,ht,hy⟩ := hx
 rw [tinyB_iff] at ht hy
 have ht : xs.length ≤ 1000 := ht
 have hy : ys.length ≤ 1000 := hy
 show CallsO Try.prog 151 [.ptr 1000 0,.sl 1 ys .sh] (grown hs xs []) (.tup []) (grown hs (xs ++ ys) [])
 rw [isHdr_eq hh]
 generalize (fun j => (hs.getD j .unk).asInt) = k
 exact book_ok.goO (by kernel_rfl) spF_ok noO_ok (p151 k xs ys _ (by rw [Nat.ble_eq]; omega) (by rw [Nat.ble_eq]; omega) rfl)
theorem s185 : SumOOk Try.prog 185 S185 := sumO_ok (fun _ _ _ _ h => h) fun x hx => by
 obtain ⟨⟨hs,xs⟩,n⟩ := x
 simp only [Bool.and_eq_true] at hx
 obtain ⟨hh,ht,h0,h1⟩ := hx
 rw [tinyB_iff] at ht
 have ht : xs.length ≤ 1000 := ht
 simp only [ile,decide_eq_true_eq] at h0 h1
 show CallsO Try.prog 185 [.ptr 1000 0,.int .i64 n] (grown hs xs []) (.tup []) (grown hs (xs ++ nul n.toNat) [])
 rw [isHdr_eq hh]
 generalize (fun j => (hs.getD j .unk).asInt) = k
 exact book_ok.goO (by kernel_rfl) spF_ok noO_ok (p185 k xs n _ (by simp [ile]; omega) (by simp [ile]; omega) (by simp [ile]; omega) (by rw [Nat.ble_eq,List.length_replicate]; omega) (by rw [Nat.ble_eq,List.length_replicate]; omega) rfl)
theorem s184 : SumOOk Try.prog 184 S184 := sumO_ok (fun _ _ _ _ h => h) fun x hx => by
 obtain ⟨hs,xs⟩ := x
 have hh : isHdr hs = true := hx
 show CallsO Try.prog 184 [.ptr 1000 0] (grown hs xs []) (.int .i64 (clsI hs)) (grown hs xs [])
 rw [isHdr_eq hh]
 generalize (fun j => (hs.getD j .unk).asInt) = k
 exact book_ok.goO (by kernel_rfl) spF_ok noO_ok (p184 k xs _ rfl)
theorem spO0_ok : SpecOL Try.prog spO0 := ⟨s149,s151,s152,s184,s185,trivial⟩
theorem s183l : SumTOk Try.prog 183 (S183l true) := sum0_ok fun x hx => by
 obtain ⟨hs,four⟩ := x
 have hh : isHdr hs = true := hx
 show CallsA Try.prog 183 [.agg hs,.bool four] [] (Tree.ite (hasIn hs four) (.leaf (.sl 1 (inL hs four) (.own []))) (.leaf (.sl 0 [] .nil))).val []
 rw [isHdr_eq hh]
 generalize (fun j => (hs.getD j .unk).asInt) = k
 refine book_ok.goW (by kernel_rfl) spF_ok spO0_ok (p183 k four _ (fun e => ?_) (fun e e1 => ?_) (fun e e1 e2 e3 => ?_) (fun e e1 e2 e3 => ?_) (fun e e1 e2 => ?_))
 ·have e : ieq (lowH (hdrC k) 9) 6 = true := e
  unfold hasIn inL
  simp only [e,cond_true,Tree.val]; rfl
 ·have e : ieq (lowH (hdrC k) 9) 6 = false := e
  have e1 : ieq (lowH (hdrC k) 9) 17 = true := e1
  unfold hasIn inL
  simp only [e,e1,cond_true,cond_false,Tree.val]; rfl
 ·have e : ieq (lowH (hdrC k) 9) 6 = false := e
  have e1 : ieq (lowH (hdrC k) 9) 17 = false := e1
  have e2 : ieq (lowH (hdrC k) 9) 1 = true := e2
  unfold hasIn inL
  simp only [e,e1,e2,e3,cond_true,cond_false,Tree.val]; rfl
 ·have e : ieq (lowH (hdrC k) 9) 6 = false := e
  have e1 : ieq (lowH (hdrC k) 9) 17 = false := e1
  have e2 : ieq (lowH (hdrC k) 9) 1 = true := e2
  unfold hasIn
  simp only [e,e1,e2,e3,cond_true,cond_false,Tree.val]
 ·have e : ieq (lowH (hdrC k) 9) 6 = false := e
  have e1 : ieq (lowH (hdrC k) 9) 17 = false := e1
  have e2 : ieq (lowH (hdrC k) 9) 1 = false := e2
  unfold hasIn
  simp only [e,e1,e2,cond_true,cond_false,Tree.val]
theorem spG_ok : SpecTL Try.prog (spG true) := ⟨s183l,spF_ok⟩
theorem in_len (hs : List AV) (four : Bool) : (inL hs four).length ≤ 20 := by
 have h1 : ∀ i,(fldC hs i 2).length = 2 := fun _ => rfl
 have h2 : ∀ i,(fldC hs i 1).length = 1 := fun _ => rfl
 unfold inL nul
 cases ieq (lowH hs 9) 6 <;> cases ieq (lowH hs 9) 17 <;> cases (bif ieq (lowH hs 9) 1 then four else false) <;> simp [h1,h2]
theorem in_no {hs : List AV} {four : Bool} (h : hasIn hs four = false) : inL hs four = [] := by
 unfold hasIn at h
 unfold inL
 cases e1 : ieq (lowH hs 9) 6 <;> rw [e1] at h <;> simp only [cond_true,cond_false] at h ⊢
 ·cases e2 : ieq (lowH hs 9) 17 <;> rw [e2] at h <;> simp only [cond_true,cond_false] at h ⊢
  ·rw [h]; rfl
  ·cases h
 ·cases h
end Go.Proofs.Ytdcijmigoefnjaa
set_option linter.unusedVariables false
set_option linter.unusedSimpArgs false
set_option maxRecDepth 100000
set_option maxHeartbeats 0
namespace Go.Proofs.Ytdcijmigoefnjaa
open Go Go.Ev
def bt (n : Int) : AV := .int .u8 n
def L4 (hs b xs : List AV) : List AV := ((((((xs ++ [bt 69,bt (IntKind.u8.wrap (clsI hs))]) ++ b) ++ [bt 0,bt 0,bt 0,bt 0,bt 64]) ++ fldC hs 9 1) ++ nul 2) ++ fldC hs 10 4) ++ fldC hs 11 4
theorem L4_app (hs b xs : List AV) : L4 hs b xs = xs ++ L4 hs b [] := by
 unfold L4
 simp only [List.append_assoc,List.nil_append]
theorem fld_len (hs : List AV) {i n : Int} (h0 : 0 ≤ n) (h : n ≤ 16) : (fldC hs i n).length = n.toNat := by
 unfold fldC putL
 rw [List.length_drop,show (all16 (getH hs i)).length = 16 from rfl]; omega
theorem isB_wrap (n : Int) : isB (.int .u8 (IntKind.u8.wrap n)) = true := by
 have h : ∀ m : Int,(0 ≤ m % 256 ∧ m % 256 < 256) := fun m => ⟨Int.emod_nonneg _ (by decide),Int.emod_lt_of_pos _ (by decide)⟩
 show inR (IntKind.u8.wrap n) 256 = true
 rw [inR_iff,IntKind.wrap_u8]
 have := h n
 omega
theorem all16_byt (v : Int × Int) : bytB (all16 v) = true := by
 rw [bytB,List.all_eq_true]
 intro x hx
 unfold all16 at hx
 simp only [List.mem_cons,List.not_mem_nil,or_false] at hx
 rcases hx with rfl | rfl | rfl | rfl | rfl | rfl | rfl | rfl | rfl | rfl | rfl | rfl | rfl | rfl | rfl | rfl <;> exact isB_wrap _
theorem bytB_app {xs ys : List AV} : bytB (xs ++ ys) = (bytB xs && bytB ys) := by unfold bytB; rw [List.all_append]
theorem fld_byt (hs : List AV) (i n : Int) : bytB (fldC hs i n) = true := by
 have := all16_byt (getH hs i)
 unfold bytB at this ⊢
 unfold fldC putL
 rw [List.all_eq_true] at this ⊢
 exact fun x hx => this x (List.mem_of_mem_drop hx)
theorem nul_byt (n : Nat) : bytB (nul n) = true := by
 unfold bytB nul
 rw [List.all_eq_true]
 intro x hx
 rw [List.eq_of_mem_replicate hx]; rfl
theorem num_byt (n s : Int) : bytB (numL n s) = true := by
 have : bytB [nbyte n 24,nbyte n 16,nbyte n 8,nbyte n 0] = true := by
  unfold bytB nbyte
  simp only [List.all_cons,List.all_nil,isB_wrap,Bool.and_self]
 unfold bytB at this ⊢
 unfold numL
 rw [List.all_eq_true] at this ⊢
 exact fun x hx => this x (List.mem_of_mem_drop hx)
theorem in_byt (hs : List AV) (four : Bool) : bytB (inL hs four) = true := by
 unfold inL
 cases ieq (lowH hs 9) 6 <;> cases ieq (lowH hs 9) 17 <;> cases (bif ieq (lowH hs 9) 1 then four else false) <;> simp only [cond_true,cond_false,bytB_app,fld_byt,nul_byt,Bool.and_self] <;> rfl
theorem byt_scal {xs : List AV} (h : bytB xs = true) : xs.all AV.scal = true := by
 unfold bytB at h
 rw [List.all_eq_true] at h ⊢
 intro x hx
 have := h x hx
 unfold isB at this
 split at this
 ·rfl
 ·cases this
theorem L4_len {hs b xs : List AV} (hb : b.length = 2) : (L4 hs b xs).length = xs.length + 20 := by
 unfold L4
 simp only [List.length_append,fld_len hs (show (0 : Int) ≤ 1 by decide) (by decide),fld_len hs (show (0 : Int) ≤ 4 by decide) (by decide),hb,nul,List.length_replicate,List.length_cons,List.length_nil]
 rfl
theorem L4_byt {hs b : List AV} (hb : bytB b = true) : bytB (L4 hs b []) = true := by
 unfold L4
 simp only [bytB_app,fld_byt,nul_byt,hb,List.nil_append,Bool.and_true]
 show (true && (isB (bt (IntKind.u8.wrap (clsI hs))) && true) && _) = true
 rw [show isB (bt (IntKind.u8.wrap (clsI hs))) = true from isB_wrap _]; rfl
theorem num2_ok {n : Int} (h0 : 0 ≤ n) (h1 : n < 65536) : numOk n 2 = true := by
 have a : ile 0 n = true := by simp [ile]; omega
 have b : ilt n 65536 = true := ilt_iff.2 h1
 unfold numOk
 rw [a,b]
 cases ilt n 256 <;> cases ilt n 4294967296 <;> rfl
theorem sum_ok (xs : List AV) : numOk (sumV xs) 2 = true := by
 have := oc_range (sumN xs 0)
 refine num2_ok ?_ ?_ <;> unfold sumV <;> omega
theorem setAt_app (xs h ys : List AV) (n : Nat) : setAt (xs ++ h) (xs.length + n) ys = xs ++ setAt h n ys := by
 apply List.ext_getElem?
 intro j
 rw [setAt_get]
 by_cases hj : j < xs.length
 ·rw [if_neg (by omega),List.getElem?_append_left hj,List.getElem?_append_left hj]
 ·rw [List.getElem?_append_right (l₁ := xs) (l₂ := setAt h n ys) (by omega),List.getElem?_append_right (l₁ := xs) (l₂ := h) (by omega),setAt_get,List.length_append]
  by_cases h1 : xs.length + n ≤ j ∧ j < xs.length + n + ys.length ∧ j < xs.length + h.length
  ·rw [if_pos h1,if_pos ⟨by omega,by omega,by omega⟩]
   congr 1; omega
  ·rw [if_neg h1,if_neg (by omega)]
theorem iadd_sm {a b : Int} (h0 : 0 ≤ a + b) (h1 : a + b < 9223372036854775808) : iadd .i64 a b = a + b := by
 unfold iadd; rw [IntKind.wrap_i64]; omega
structure Frm4 (hs b xs : List AV) : Prop where
 n7 : inR (iadd .i64 (xs.length : Int) 10) ((L4 hs b xs).length + 1) = true
 n8 : inR (xs.length : Int) ((L4 hs b xs).length + 1) = true
 n9 : (bytB (List.drop (xs.length : Int).toNat (L4 hs b xs)) && shortB (List.drop (xs.length : Int).toNat (L4 hs b xs))) = true
 drop : List.drop (xs.length : Int).toNat (L4 hs b xs) = L4 hs b []
 set : ∀ ys : List AV,ys.length = 2 → setAt (L4 hs b xs) (iadd .i64 (xs.length : Int) 10).toNat (List.take (List.drop (iadd .i64 (xs.length : Int) 10).toNat (L4 hs b xs)).length ys) = xs ++ setAt (L4 hs b []) 10 ys
theorem four_of {hs b xs : List AV} (hx : xs.length ≤ 100) (hb : b.length = 2) (hbb : bytB b = true) : Frm4 hs b xs := by
 have hl := L4_len (hs := hs) (xs := xs) hb
 have hl0 := L4_len (hs := hs) (xs := []) hb
 have hi : iadd .i64 (xs.length : Int) 10 = ((xs.length + 10 : Nat) : Int) := by rw [iadd_sm (by omega) (by omega)]; omega
 have hd : List.drop (xs.length : Int).toNat (L4 hs b xs) = L4 hs b [] := by
  rw [L4_app,show ((xs.length : Int)).toNat = xs.length by omega,List.drop_left]
 refine ⟨?_,?_,?_,hd,fun ys hy => ?_⟩
 ·rw [hi,inR_iff,hl]; omega
 ·rw [inR_iff,hl]; omega
 ·rw [hd,L4_byt hbb]
  show Nat.ble (L4 hs b []).length 65536 = true
  rw [hl0]; rfl
 ·rw [hi,show (((xs.length + 10 : Nat) : Int)).toNat = xs.length + 10 by omega]
  rw [show List.take (List.drop (xs.length + 10) (L4 hs b xs)).length ys = ys from List.take_of_length_le (by rw [List.length_drop,hl,hy]; omega)]
  rw [L4_app,setAt_app]
theorem tinyR_iff {xs : List AV} : tinyR xs = true ↔ xs.length ≤ 100 := by unfold tinyR; rw [Nat.ble_eq]
theorem tl {l : List AV} (h : l.length ≤ 1000) : tinyB l = true := tinyB_iff.2 h
theorem tl2 {l : List AV} (h : l.length ≤ 1000) : (true && (tinyB l && true)) = true := by rw [tl h]; rfl
theorem tl3 {l : List AV} (h : l.length ≤ 1000) : (true && (true && (true && tinyB l))) = true := by rw [tl h]; rfl
theorem all_c {c : AV} {cs : List AV} (h : c.ownOk = true) (h2 : cs.all AV.ownOk = true) : (c :: cs).all AV.ownOk = true := by rw [List.all_cons,h,h2]; rfl
theorem hdr1_own {k : Nat → Int} {v : AV} (h : v.ownOk = true) : (hdr1 k v).all AV.ownOk = true := by
 unfold hdr1
 rw [List.all_append,show (hdrC k).all AV.ownOk = true from rfl,List.all_cons,h]; rfl
theorem own_of {ts : List AV} {m : Mem} (h1 : ts.all AV.ownOk = true) (h2 : (m.all fun p => p.2.all AV.ownOk) = true) : (AS.mk ts m).ownOk = true := by unfold AS.ownOk; rw [h1,h2]; rfl
theorem one_own {i : Nat} {cs : List AV} (h : cs.all AV.ownOk = true) : (([(i,cs)] : Mem).all fun p => p.2.all AV.ownOk) = true := by rw [List.all_cons,h]; rfl
theorem s154 : SumOOk Try.prog 154 (S154 true) := sumO_ok (fun _ _ _ _ h => h) fun x hx => by
 obtain ⟨hs,xs⟩ := x
 simp only [bytR,Bool.and_eq_true] at hx
 obtain ⟨hh,hxb,hxl⟩ := hx
 rw [tinyR_iff] at hxl
 have hxl : xs.length ≤ 100 := hxl
 have hxb : bytB xs = true := hxb
 show CallsO Try.prog 154 [.ptr 1000 0] (grown hs xs []) (.tup []) (grown hs (xs ++ fourL hs) [0])
 rw [isHdr_eq hh]
 generalize (fun j => (hs.getD j .unk).asInt) = k
 have hin := in_len (hdrC k) true
 have hib := in_byt (hdrC k) true
 have fl : ∀ i n,0 ≤ n → n ≤ 16 → (fldC (hdrC k) i n).length = n.toNat := fun i n h0 h => fld_len _ h0 h
 have key : ∀ (b : List AV),b.length = 2 → bytB b = true → Frm4 (hdrC k) b xs := fun b hb hbb => four_of hxl hb hbb
 have hi : iadd .i64 20 ((inL (hdrC k) true).length : Int) = 20 + ((inL (hdrC k) true).length : Int) := iadd_sm (by omega) (by omega)
 have fin : ∀ b : List AV,b = numL (20 + ((inL (hdrC k) true).length : Int)) 2 → (xs ++ setAt (L4 (hdrC k) b []) 10 (numL (sumV (L4 (hdrC k) b [])) 2)) ++ inL (hdrC k) true = xs ++ fourL (hdrC k) := by
  rintro b rfl
  rw [List.append_assoc]; rfl
 have f11 : ∀ i,(fldC (hdrC k) i 1).length = 1 := fun i => fl i 1 (by decide) (by decide)
 have f14 : ∀ i,(fldC (hdrC k) i 4).length = 4 := fun i => fl i 4 (by decide) (by decide)
 have h48 : (hdrC k).all AV.ownOk = true := rfl
 have hbl : (numL (iadd .i64 20 ((inL (hdrC k) true).length : Int)) 2).length = 2 := rfl
 have K := key (numL (iadd .i64 20 ((inL (hdrC k) true).length : Int)) 2) rfl (num_byt _ _)
 have hb2 : ([bt 0,bt 20]).length = 2 := rfl
 have K2 := key ([bt 0,bt 20]) rfl rfl
 refine book_ok.goO (by kernel_rfl) spG_ok spO0_ok (p154 true k xs _ ?_ ?_ ?_ ?_ ?_ ?_ ?_ ?_ ?_ ?_ ?_ ?_ ?_ ?_ ?_ ?_ ?_ ?_ ?_ ?_ ?_ ?_ ?_ ?_ ?_ ?_ ?_ ?_)
 ·
  exact tl2 (by omega)
 ·
  show (true && (numOk (iadd .i64 20 ((inL (hdrC k) true).length : Int)) 2 && tinyB (xs ++ [bt 69,bt (IntKind.u8.wrap (clsI (hdrC k)))]))) = true
  rw [hi,num2_ok (by omega) (by omega),tl (by simp only [List.length_append,List.length_cons,List.length_nil,nul,List.length_replicate,f14,f11,hbl]; omega)]; rfl
 ·
  exact tl2 (by simp only [AV.elems,List.length_append,List.length_cons,List.length_nil,nul,List.length_replicate,f14,f11,hbl]; omega)
 ·
  exact tl3 (by simp only [AV.elems,List.length_append,List.length_cons,List.length_nil,nul,List.length_replicate,f14,f11,hbl]; omega)
 ·
  exact tl2 (by simp only [AV.elems,List.length_append,List.length_cons,List.length_nil,nul,List.length_replicate,f14,f11,hbl]; omega)
 ·
  exact tl3 (by simp only [AV.elems,List.length_append,List.length_cons,List.length_nil,nul,List.length_replicate,f14,f11,hbl]; omega)
 ·
  exact tl3 (by simp only [AV.elems,List.length_append,List.length_cons,List.length_nil,nul,List.length_replicate,f14,f11,hbl]; omega)
 ·
  exact K.n7
 ·
  exact K.n8
 ·
  exact K.n9
 ·
  show (numOk (sumV (List.drop (xs.length : Int).toNat (L4 (hdrC k) (numL (iadd .i64 20 ((inL (hdrC k) true).length : Int)) 2) xs))) 2 && true) = true
  rw [sum_ok]; rfl
 ·
  have q1 : (inL (hdrC k) true).all AV.scal = true := byt_scal hib
  have q2 : (L4 (hdrC k) (numL (iadd .i64 20 ((inL (hdrC k) true).length : Int)) 2) xs).all AV.scal = true := by
   rw [L4_app]; exact byt_scal (by rw [bytB_app,hxb,L4_byt (num_byt _ _)]; rfl)
  refine own_of ?_ (one_own (hdr1_own q2))
  repeat' (first | exact q1 | exact q2 | rfl | apply all_c)
 ·
  show (true && (tinyB (setAt (L4 (hdrC k) (numL (iadd .i64 20 ((inL (hdrC k) true).length : Int)) 2) xs) (iadd .i64 (xs.length : Int) 10).toNat (List.take (List.drop (iadd .i64 (xs.length : Int) 10).toNat (L4 (hdrC k) (numL (iadd .i64 20 ((inL (hdrC k) true).length : Int)) 2) xs)).length (numL (sumV (List.drop (xs.length : Int).toNat (L4 (hdrC k) (numL (iadd .i64 20 ((inL (hdrC k) true).length : Int)) 2) xs))) 2))) && tinyB (inL (hdrC k) true))) = true
  rw [K.set _ rfl,tl (by rw [List.length_append,setAt_length,L4_len hbl,List.length_nil]; omega),tl (by omega)]; rfl
 ·
  show (AV.tup [],[hdr1 k (AV.sl 1 ((setAt (L4 (hdrC k) (numL (iadd .i64 20 ((inL (hdrC k) true).length : Int)) 2) xs) (iadd .i64 (xs.length : Int) 10).toNat (List.take (List.drop (iadd .i64 (xs.length : Int) 10).toNat (L4 (hdrC k) (numL (iadd .i64 20 ((inL (hdrC k) true).length : Int)) 2) xs)).length (numL (sumV (List.drop (xs.length : Int).toNat (L4 (hdrC k) (numL (iadd .i64 20 ((inL (hdrC k) true).length : Int)) 2) xs))) 2))) ++ inL (hdrC k) true) (.own [0]))]) = (AV.tup [],[grown (hdrC k) (xs ++ fourL (hdrC k)) [0]])
  rw [K.set _ rfl,K.drop]
  rw [fin _ (by rw [hi])]; rfl
 ·intro e
  have hno := in_no e
  exact tl2 (by omega)
 ·intro e
  have hno := in_no e
  show (true && (true && tinyB (xs ++ [bt 69,bt (IntKind.u8.wrap (clsI (hdrC k)))]))) = true
  rw [tl (by simp only [List.length_append,List.length_cons,List.length_nil,nul,List.length_replicate,f14,f11,hb2]; omega)]; rfl
 ·intro e
  have hno := in_no e
  exact tl2 (by simp only [AV.elems,List.length_append,List.length_cons,List.length_nil,nul,List.length_replicate,f14,f11,hb2]; omega)
 ·intro e
  have hno := in_no e
  exact tl3 (by simp only [AV.elems,List.length_append,List.length_cons,List.length_nil,nul,List.length_replicate,f14,f11,hb2]; omega)
 ·intro e
  have hno := in_no e
  exact tl2 (by simp only [AV.elems,List.length_append,List.length_cons,List.length_nil,nul,List.length_replicate,f14,f11,hb2]; omega)
 ·intro e
  have hno := in_no e
  exact tl3 (by simp only [AV.elems,List.length_append,List.length_cons,List.length_nil,nul,List.length_replicate,f14,f11,hb2]; omega)
 ·intro e
  have hno := in_no e
  exact tl3 (by simp only [AV.elems,List.length_append,List.length_cons,List.length_nil,nul,List.length_replicate,f14,f11,hb2]; omega)
 ·intro e
  have hno := in_no e
  exact K2.n7
 ·intro e
  have hno := in_no e
  exact K2.n8
 ·intro e
  have hno := in_no e
  exact K2.n9
 ·intro e
  have hno := in_no e
  show (numOk (sumV (List.drop (xs.length : Int).toNat (L4 (hdrC k) ([bt 0,bt 20]) xs))) 2 && true) = true
  rw [sum_ok]; rfl
 ·intro e
  have hno := in_no e
  have q1 : True := trivial
  have q2 : (L4 (hdrC k) ([bt 0,bt 20]) xs).all AV.scal = true := by
   rw [L4_app]; exact byt_scal (by rw [bytB_app,hxb,L4_byt rfl]; rfl)
  refine own_of ?_ (one_own (hdr1_own q2))
  repeat' (first | exact q1 | exact q2 | rfl | apply all_c)
 ·intro e
  have hno := in_no e
  show (true && (tinyB (setAt (L4 (hdrC k) ([bt 0,bt 20]) xs) (iadd .i64 (xs.length : Int) 10).toNat (List.take (List.drop (iadd .i64 (xs.length : Int) 10).toNat (L4 (hdrC k) ([bt 0,bt 20]) xs)).length (numL (sumV (List.drop (xs.length : Int).toNat (L4 (hdrC k) ([bt 0,bt 20]) xs))) 2))) && true)) = true
  rw [K2.set _ rfl,tl (by rw [List.length_append,setAt_length,L4_len hb2,List.length_nil]; omega)]; rfl
 ·intro e
  have hno := in_no e
  show (AV.tup [],[hdr1 k (AV.sl 1 ((setAt (L4 (hdrC k) ([bt 0,bt 20]) xs) (iadd .i64 (xs.length : Int) 10).toNat (List.take (List.drop (iadd .i64 (xs.length : Int) 10).toNat (L4 (hdrC k) ([bt 0,bt 20]) xs)).length (numL (sumV (List.drop (xs.length : Int).toNat (L4 (hdrC k) ([bt 0,bt 20]) xs))) 2))) ++ []) (.own [0]))]) = (AV.tup [],[grown (hdrC k) (xs ++ fourL (hdrC k)) [0]])
  rw [K2.set _ rfl,K2.drop]
  have q := fin [bt 0,bt 20] (by rw [hno]; kernel_rfl)
  rw [hno] at q
  rw [q]; rfl
end Go.Proofs.Ytdcijmigoefnjaa
