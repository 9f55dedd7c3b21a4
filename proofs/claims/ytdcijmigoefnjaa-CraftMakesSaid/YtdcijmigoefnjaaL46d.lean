import Derived.Test.YtdcijmigoefnjaaL46b
import Derived.Test.YtdcijmigoefnjaaP46d
import Derived.Test.YtdcijmigoefnjaaL45b
import Derived.Test.YtdcijmigoefnjaaP46e
import Derived.Test.YtdcijmigoefnjaaPlK5
import Derived.Test.YtdcijmigoefnjaaL45e
import Derived.Test.YtdcijmigoefnjaaD03
import Derived.Test.YtdcijmigoefnjaaL10h
import Derived.Test.YtdcijmigoefnjaaP46f
import Derived.Test.YtdcijmigoefnjaaP46g
import Derived.Test.YtdcijmigoefnjaaL10a
import Derived.Test.YtdcijmigoefnjaaL04b
set_option linter.unusedVariables false
set_option linter.unusedSimpArgs false
set_option maxRecDepth 100000
set_option maxHeartbeats 0
namespace Go.Proofs.Ytdcijmigoefnjaa
open Go Go.Ev
theorem s155 : SumOOk Try.prog 155 (S155 true) := sumO_ok (fun _ _ _ _ h => h) fun x hx => by
 obtain ⟨hs,xs⟩ := x
 simp only [Bool.and_eq_true] at hx
 obtain ⟨hh,hc,hxl⟩ := hx
 rw [tinyR_iff] at hxl
 have hxl : xs.length ≤ 100 := hxl
 have hc : clsB hs = true := hc
 show CallsO Try.prog 155 [.ptr 1000 0] (grown hs xs []) (.tup []) (grown hs (xs ++ sixL hs) [0])
 rw [isHdr_eq hh] at hc ⊢
 generalize (fun j => (hs.getD j .unk).asInt) = k at hc ⊢
 have hc : numOk (ishl .i64 (ibits .or .i64 1536 (clsI (hdrC k))) 20) 4 = true := hc
 have hin := in_len (hdrC k) false
 have fl : ∀ i n,0 ≤ n → n ≤ 16 → (fldC (hdrC k) i n).length = n.toNat := fun i n h0 h => fld_len _ h0 h
 have f1 : ∀ i,(fldC (hdrC k) i 1).length = 1 := fun i => fl i 1 (by decide) (by decide)
 have f2 : ∀ i,(fldC (hdrC k) i 2).length = 2 := fun i => fl i 2 (by decide) (by decide)
 have f4 : ∀ i,(fldC (hdrC k) i 4).length = 4 := fun i => fl i 4 (by decide) (by decide)
 have f16 : ∀ i,(fldC (hdrC k) i 16).length = 16 := fun i => fl i 16 (by decide) (by decide)
 have hm : (numL ((inL (hdrC k) false).length : Int) 2).length = 2 := rfl
 have hm2 : ([bt 0,bt 0]).length = 2 := rfl
 have hnl : (numL (ishl .i64 (ibits .or .i64 1536 (clsI (hdrC k))) 20) 4).length = 4 := rfl
 refine book_ok.goO (by kernel_rfl) spG_ok spO0_ok (p155 true k xs _ ?_ ?_ ?_ ?_ ?_ ?_ ?_ ?_ ?_ ?_ ?_ ?_ ?_ ?_ ?_ ?_)
 ·
  show (true && (numOk (ishl .i64 (ibits .or .i64 1536 (clsI (hdrC k))) 20) 4 && tinyB xs)) = true
  rw [hc,tl (by omega)]; rfl
 ·
  show (true && (numOk ((inL (hdrC k) false).length : Int) 2 && tinyB ((xs) ++ numL (ishl .i64 (ibits .or .i64 1536 (clsI (hdrC k))) 20) 4))) = true
  rw [num2_ok (by omega) (by omega),tl (by simp only [List.length_append,List.length_cons,List.length_nil,nul,List.length_replicate,f1,f2,f4,f16,hm,hm2,hnl]; omega)]; rfl
 ·
  exact tl3 (by simp only [AV.elems,List.length_append,List.length_cons,List.length_nil,nul,List.length_replicate,f1,f2,f4,f16,hm,hm2,hnl]; omega)
 ·
  exact tl2 (by simp only [AV.elems,List.length_append,List.length_cons,List.length_nil,nul,List.length_replicate,f1,f2,f4,f16,hm,hm2,hnl]; omega)
 ·
  exact tl3 (by simp only [AV.elems,List.length_append,List.length_cons,List.length_nil,nul,List.length_replicate,f1,f2,f4,f16,hm,hm2,hnl]; omega)
 ·
  exact tl3 (by simp only [AV.elems,List.length_append,List.length_cons,List.length_nil,nul,List.length_replicate,f1,f2,f4,f16,hm,hm2,hnl]; omega)
 ·
  show (true && (tinyB (((((((xs) ++ numL (ishl .i64 (ibits .or .i64 1536 (clsI (hdrC k))) 20) 4) ++ numL ((inL (hdrC k) false).length : Int) 2) ++ fldC (hdrC k) 9 1) ++ [bt 64]) ++ fldC (hdrC k) 21 16) ++ fldC (hdrC k) 22 16) && tinyB (inL (hdrC k) false))) = true
  rw [tl (by simp only [List.length_append,List.length_cons,List.length_nil,nul,List.length_replicate,f1,f2,f4,f16,hm,hm2,hnl]; omega),tl (by omega)]; rfl
 ·
  show (AV.tup [],[hdr1 k (AV.sl 1 ((((((((xs) ++ numL (ishl .i64 (ibits .or .i64 1536 (clsI (hdrC k))) 20) 4) ++ numL ((inL (hdrC k) false).length : Int) 2) ++ fldC (hdrC k) 9 1) ++ [bt 64]) ++ fldC (hdrC k) 21 16) ++ fldC (hdrC k) 22 16) ++ inL (hdrC k) false) (.own [0]))]) = (AV.tup [],[grown (hdrC k) (xs ++ sixL (hdrC k)) [0]])
  have q : (((((((xs) ++ numL (ishl .i64 (ibits .or .i64 1536 (clsI (hdrC k))) 20) 4) ++ numL ((inL (hdrC k) false).length : Int) 2) ++ fldC (hdrC k) 9 1) ++ [bt 64]) ++ fldC (hdrC k) 21 16) ++ fldC (hdrC k) 22 16) ++ inL (hdrC k) false = xs ++ sixL (hdrC k) := by
   unfold sixL
   simp only [List.append_assoc]; rfl
  rw [q]; rfl
 ·intro e
  have hno := in_no e
  show (true && (numOk (ishl .i64 (ibits .or .i64 1536 (clsI (hdrC k))) 20) 4 && tinyB xs)) = true
  rw [hc,tl (by omega)]; rfl
 ·intro e
  have hno := in_no e
  show (true && (true && tinyB ((xs) ++ numL (ishl .i64 (ibits .or .i64 1536 (clsI (hdrC k))) 20) 4))) = true
  rw [tl (by simp only [List.length_append,List.length_cons,List.length_nil,nul,List.length_replicate,f1,f2,f4,f16,hm,hm2,hnl]; omega)]; rfl
 ·intro e
  have hno := in_no e
  exact tl3 (by simp only [AV.elems,List.length_append,List.length_cons,List.length_nil,nul,List.length_replicate,f1,f2,f4,f16,hm,hm2,hnl]; omega)
 ·intro e
  have hno := in_no e
  exact tl2 (by simp only [AV.elems,List.length_append,List.length_cons,List.length_nil,nul,List.length_replicate,f1,f2,f4,f16,hm,hm2,hnl]; omega)
 ·intro e
  have hno := in_no e
  exact tl3 (by simp only [AV.elems,List.length_append,List.length_cons,List.length_nil,nul,List.length_replicate,f1,f2,f4,f16,hm,hm2,hnl]; omega)
 ·intro e
  have hno := in_no e
  exact tl3 (by simp only [AV.elems,List.length_append,List.length_cons,List.length_nil,nul,List.length_replicate,f1,f2,f4,f16,hm,hm2,hnl]; omega)
 ·intro e
  have hno := in_no e
  exact tl2 (by simp only [AV.elems,List.length_append,List.length_cons,List.length_nil,nul,List.length_replicate,f1,f2,f4,f16,hm,hm2,hnl]; omega)
 ·intro e
  have hno := in_no e
  show (AV.tup [],[hdr1 k (AV.sl 1 ((((((((xs) ++ numL (ishl .i64 (ibits .or .i64 1536 (clsI (hdrC k))) 20) 4) ++ [bt 0,bt 0]) ++ fldC (hdrC k) 9 1) ++ [bt 64]) ++ fldC (hdrC k) 21 16) ++ fldC (hdrC k) 22 16) ++ []) (.own [0]))]) = (AV.tup [],[grown (hdrC k) (xs ++ sixL (hdrC k)) [0]])
  have q : (((((((xs) ++ numL (ishl .i64 (ibits .or .i64 1536 (clsI (hdrC k))) 20) 4) ++ [bt 0,bt 0]) ++ fldC (hdrC k) 9 1) ++ [bt 64]) ++ fldC (hdrC k) 21 16) ++ fldC (hdrC k) 22 16) ++ [] = xs ++ sixL (hdrC k) := by
   unfold sixL
   rw [hno]
   simp only [List.append_assoc]; rfl
  rw [q]; rfl
theorem s156 : SumOOk Try.prog 156 (S156 true) := sumO_ok (fun _ _ _ _ h => h) fun x hx => by
 obtain ⟨hs,xs⟩ := x
 simp only [Bool.and_eq_true] at hx
 obtain ⟨hh,hxl⟩ := hx
 rw [tinyR_iff] at hxl
 have hxl : xs.length ≤ 100 := hxl
 show CallsO Try.prog 156 [.ptr 1000 0] (grown hs xs []) (.tup []) (grown hs (xs ++ arpL hs) [0])
 rw [isHdr_eq hh]
 generalize (fun j => (hs.getD j .unk).asInt) = k
 have hm : True := trivial
 have hnl : True := trivial
 have fl : ∀ i n,0 ≤ n → n ≤ 16 → (fldC (hdrC k) i n).length = n.toNat := fun i n h0 h => fld_len _ h0 h
 have f1 : ∀ i,(fldC (hdrC k) i 1).length = 1 := fun i => fl i 1 (by decide) (by decide)
 have f2 : ∀ i,(fldC (hdrC k) i 2).length = 2 := fun i => fl i 2 (by decide) (by decide)
 have f4 : ∀ i,(fldC (hdrC k) i 4).length = 4 := fun i => fl i 4 (by decide) (by decide)
 have f16 : ∀ i,(fldC (hdrC k) i 16).length = 16 := fun i => fl i 16 (by decide) (by decide)
 refine book_ok.goO (by kernel_rfl) spF_ok spO0_ok (p156 k xs _ ?_ ?_ ?_ ?_ ?_ ?_ ?_)
 ·
  exact tl2 (by omega)
 ·
  exact tl3 (by simp only [AV.elems,List.length_append,List.length_cons,List.length_nil,nul,List.length_replicate,f1,f2,f4,f16,hm,hnl]; omega)
 ·
  exact tl2 (by simp only [AV.elems,List.length_append,List.length_cons,List.length_nil,nul,List.length_replicate,f1,f2,f4,f16,hm,hnl]; omega)
 ·
  exact tl3 (by simp only [AV.elems,List.length_append,List.length_cons,List.length_nil,nul,List.length_replicate,f1,f2,f4,f16,hm,hnl]; omega)
 ·
  exact tl2 (by simp only [AV.elems,List.length_append,List.length_cons,List.length_nil,nul,List.length_replicate,f1,f2,f4,f16,hm,hnl]; omega)
 ·
  exact tl3 (by simp only [AV.elems,List.length_append,List.length_cons,List.length_nil,nul,List.length_replicate,f1,f2,f4,f16,hm,hnl]; omega)
 ·
  show (AV.tup [],[hdr1 k (AV.sl 1 (((((((xs) ++ [bt 0,bt 1,bt 8,bt 0,bt 6,bt 4]) ++ fldC (hdrC k) 18 2) ++ nul 6) ++ fldC (hdrC k) 19 4) ++ nul 6) ++ fldC (hdrC k) 20 4) (.own [0]))]) = (AV.tup [],[grown (hdrC k) (xs ++ arpL (hdrC k)) [0]])
  have q : (((((((xs) ++ [bt 0,bt 1,bt 8,bt 0,bt 6,bt 4]) ++ fldC (hdrC k) 18 2) ++ nul 6) ++ fldC (hdrC k) 19 4) ++ nul 6) ++ fldC (hdrC k) 20 4) = xs ++ arpL (hdrC k) := by
   unfold arpL
   simp only [List.append_assoc]; rfl
  rw [q]; rfl
end Go.Proofs.Ytdcijmigoefnjaa
set_option linter.unusedVariables false
set_option linter.unusedSimpArgs false
set_option maxRecDepth 10000000
set_option maxHeartbeats 0
namespace Go.Proofs.Ytdcijmigoefnjaa
open Go Go.Ev
theorem sp98_ok : SpecTL Try.prog sp98 := ⟨s99,s150,spF_ok⟩
theorem spO98_ok : SpecOL Try.prog (spO98 true) := ⟨s154,s155,s156,spO0_ok⟩
theorem bytR_of {xs : List AV} (h : bytB xs = true) (hl : xs.length ≤ 100) : bytR xs = true := by unfold bytR; rw [h,tinyR_iff.2 hl]; rfl
theorem s98 : SumTOk Try.prog 98 (S98 true) := sum0_ok fun cs hx => by
 have hu : hdrU cs = true := hx
 show CallsA Try.prog 98 [.agg cs] [] (Tree.ite (rightH cs) (.leaf (.tup [.sl 1 (layH cs) .sh,.int .i64 0])) (.leaf (.tup [.sl 0 [] .nil,.int .i64 7]))).val []
 have hh := (hdrU_iff.1 hu).1
 rw [isHdr_eq hh] at hu ⊢
 generalize (fun j => (cs.getD j .unk).asInt) = k at hu ⊢
 have fit : (!rightH (hdrC k)) = false → FitN k := fun e => fitN_of hu (right_fits (by simpa using e))
 have val : ∀ l,(!rightH (hdrC k)) = false → layH (hdrC k) = l → (Tree.ite (rightH (hdrC k)) (.leaf (AV.tup [.sl 1 (layH (hdrC k)) .sh,.int .i64 0])) (.leaf (.tup [.sl 0 [] .nil,.int .i64 7]))).val = AV.tup [.sl 1 l .sh,.int .i64 0] := by
  intro l e e2
  have e : rightH (hdrC k) = true := by simpa using e
  rw [e2,e]; rfl
 have T : ∀ b,(!allZ (hdrC k) [AV.int IntKind.i64 5]) = b → allZ (hdrC k) (nI [5]) = !b := fun b e => by
  rw [← e,Bool.not_not]; rfl
 have bt1 : bytB (((fldC (hdrC k) 2 6 ++ fldC (hdrC k) 3 6) ++ ([.int .u8 129,.int .u8 0] ++ numL (tagN (hdrC k)) 2)) ++ fldC (hdrC k) 4 2) = true := by
  simp only [bytB_app,fld_byt,num_byt]; rfl
 have bt2 : bytB ((fldC (hdrC k) 2 6 ++ fldC (hdrC k) 3 6) ++ fldC (hdrC k) 4 2) = true := by
  simp only [bytB_app,fld_byt]; rfl
 refine book_ok.goW (by kernel_rfl) sp98_ok spO98_ok (p98 true k _ ?_ ?_ ?_ ?_ ?_ ?_ ?_ ?_ ?_ ?_ ?_ ?_ ?_ ?_ ?_ ?_ ?_ ?_ ?_ ?_ ?_ ?_ ?_ ?_)
 ·exact hu
 ·intro e
  have e : rightH (hdrC k) = false := by simpa using e
  rw [e]; rfl
 ·
  show (hdrU (hdrC k) && true) = true
  rw [hu]; rfl
 ·intro e
  show (true && (numOk (tagN (hdrC k)) 2 && true)) = true
  rw [tag_ok (fit e)]; rfl
 ·
  show (true && bytR (((fldC (hdrC k) 2 6 ++ fldC (hdrC k) 3 6) ++ ([.int .u8 129,.int .u8 0] ++ numL (tagN (hdrC k)) 2)) ++ fldC (hdrC k) 4 2)) = true
  rw [bytR_of bt1 (by show (18 : Nat) ≤ 100; decide)]; rfl
 ·intro e t c0
  have t := T _ t
  rw [val ((((fldC (hdrC k) 2 6 ++ fldC (hdrC k) 3 6) ++ ([.int .u8 129,.int .u8 0] ++ numL (tagN (hdrC k)) 2)) ++ fldC (hdrC k) 4 2) ++ fourL (hdrC k)) e (by
   unfold layH tagL bodyH
   simp only [t,c0,Bool.not_true,Bool.not_false,cond_true,cond_false])]; rfl
 ·intro e
  show (true && (clsB (hdrC k) && true)) = true
  rw [cls_ok (fit e)]; rfl
 ·intro e t c0 c1
  have t := T _ t
  rw [val ((((fldC (hdrC k) 2 6 ++ fldC (hdrC k) 3 6) ++ ([.int .u8 129,.int .u8 0] ++ numL (tagN (hdrC k)) 2)) ++ fldC (hdrC k) 4 2) ++ sixL (hdrC k)) e (by
   unfold layH tagL bodyH
   simp only [t,c0,c1,Bool.not_true,Bool.not_false,cond_true,cond_false])]; rfl
 ·intro e t c0 c1 c2
  have t := T _ t
  rw [val ((((fldC (hdrC k) 2 6 ++ fldC (hdrC k) 3 6) ++ ([.int .u8 129,.int .u8 0] ++ numL (tagN (hdrC k)) 2)) ++ fldC (hdrC k) 4 2) ++ arpL (hdrC k)) e (by
   unfold layH tagL bodyH
   simp only [t,c0,c1,c2,Bool.not_true,Bool.not_false,cond_true,cond_false])]; rfl
 ·intro e
  show (true && (numOk (labN (hdrC k)) 4 && true)) = true
  rw [lab_ok (fit e)]; rfl
 ·intro e t c0 c1 c2 c3
  have t := T _ t
  rw [val ((((fldC (hdrC k) 2 6 ++ fldC (hdrC k) 3 6) ++ ([.int .u8 129,.int .u8 0] ++ numL (tagN (hdrC k)) 2)) ++ fldC (hdrC k) 4 2) ++ numL (labN (hdrC k)) 4) e (by
   unfold layH tagL bodyH
   simp only [t,c0,c1,c2,c3,Bool.not_true,Bool.not_false,cond_true,cond_false])]; rfl
 ·intro e
  show (true && (numOk (labN (hdrC k)) 4 && true)) = true
  rw [lab_ok (fit e)]; rfl
 ·intro e t c0 c1 c2 c3 c4
  have t := T _ t
  rw [val ((((fldC (hdrC k) 2 6 ++ fldC (hdrC k) 3 6) ++ ([.int .u8 129,.int .u8 0] ++ numL (tagN (hdrC k)) 2)) ++ fldC (hdrC k) 4 2) ++ numL (labN (hdrC k)) 4) e (by
   unfold layH tagL bodyH
   simp only [t,c0,c1,c2,c3,c4,Bool.not_true,Bool.not_false,cond_true,cond_false])]; rfl
 ·intro e t c0 c1 c2 c3 c4
  have t := T _ t
  rw [val ((((fldC (hdrC k) 2 6 ++ fldC (hdrC k) 3 6) ++ ([.int .u8 129,.int .u8 0] ++ numL (tagN (hdrC k)) 2)) ++ fldC (hdrC k) 4 2) ++ []) e (by
   unfold layH tagL bodyH
   simp only [t,c0,c1,c2,c3,c4,Bool.not_true,Bool.not_false,cond_true,cond_false])]; rfl
 ·
  show (true && bytR ((fldC (hdrC k) 2 6 ++ fldC (hdrC k) 3 6) ++ fldC (hdrC k) 4 2)) = true
  rw [bytR_of bt2 (by show (14 : Nat) ≤ 100; decide)]; rfl
 ·intro e t c0
  have t := T _ t
  rw [val ((((fldC (hdrC k) 2 6 ++ fldC (hdrC k) 3 6) ++ []) ++ fldC (hdrC k) 4 2) ++ fourL (hdrC k)) e (by
   unfold layH tagL bodyH
   simp only [t,c0,Bool.not_true,Bool.not_false,cond_true,cond_false])]; rfl
 ·intro e
  show (true && (clsB (hdrC k) && true)) = true
  rw [cls_ok (fit e)]; rfl
 ·intro e t c0 c1
  have t := T _ t
  rw [val ((((fldC (hdrC k) 2 6 ++ fldC (hdrC k) 3 6) ++ []) ++ fldC (hdrC k) 4 2) ++ sixL (hdrC k)) e (by
   unfold layH tagL bodyH
   simp only [t,c0,c1,Bool.not_true,Bool.not_false,cond_true,cond_false])]; rfl
 ·intro e t c0 c1 c2
  have t := T _ t
  rw [val ((((fldC (hdrC k) 2 6 ++ fldC (hdrC k) 3 6) ++ []) ++ fldC (hdrC k) 4 2) ++ arpL (hdrC k)) e (by
   unfold layH tagL bodyH
   simp only [t,c0,c1,c2,Bool.not_true,Bool.not_false,cond_true,cond_false])]; rfl
 ·intro e
  show (true && (numOk (labN (hdrC k)) 4 && true)) = true
  rw [lab_ok (fit e)]; rfl
 ·intro e t c0 c1 c2 c3
  have t := T _ t
  rw [val ((((fldC (hdrC k) 2 6 ++ fldC (hdrC k) 3 6) ++ []) ++ fldC (hdrC k) 4 2) ++ numL (labN (hdrC k)) 4) e (by
   unfold layH tagL bodyH
   simp only [t,c0,c1,c2,c3,Bool.not_true,Bool.not_false,cond_true,cond_false])]; rfl
 ·intro e
  show (true && (numOk (labN (hdrC k)) 4 && true)) = true
  rw [lab_ok (fit e)]; rfl
 ·intro e t c0 c1 c2 c3 c4
  have t := T _ t
  rw [val ((((fldC (hdrC k) 2 6 ++ fldC (hdrC k) 3 6) ++ []) ++ fldC (hdrC k) 4 2) ++ numL (labN (hdrC k)) 4) e (by
   unfold layH tagL bodyH
   simp only [t,c0,c1,c2,c3,c4,Bool.not_true,Bool.not_false,cond_true,cond_false])]; rfl
 ·intro e t c0 c1 c2 c3 c4
  have t := T _ t
  rw [val ((((fldC (hdrC k) 2 6 ++ fldC (hdrC k) 3 6) ++ []) ++ fldC (hdrC k) 4 2) ++ []) e (by
   unfold layH tagL bodyH
   simp only [t,c0,c1,c2,c3,c4,Bool.not_true,Bool.not_false,cond_true,cond_false])]; rfl
end Go.Proofs.Ytdcijmigoefnjaa
set_option linter.unusedVariables false
set_option linter.unusedSimpArgs false
set_option maxRecDepth 100000
set_option maxHeartbeats 0
namespace Go.Proofs.Ytdcijmigoefnjaa
open Go Go.Ev
theorem four_byt (hs : List AV) : bytB (fourL hs) = true := by
 obtain ⟨s,_,e⟩ := four_eq hs
 have h0 : isB (bt (IntKind.u8.wrap (clsI hs))) = true := isB_wrap _
 unfold fourL
 rw [e]
 simp only [bytB_app,fld_byt,num_byt,in_byt,Bool.and_true]
 show ((true && (isB (bt (IntKind.u8.wrap (clsI hs))) && true)) && _) = true
 rw [h0]; rfl
theorem lay_ok (hs : List AV) : okL (layH hs) = true := by
 have h1 : bytB (layH hs) = true := by
  unfold layH tagL bodyH
  simp only [bytB_app,fld_byt,Bool.true_and,Bool.and_true,Bool.and_eq_true]
  refine ⟨?_,?_⟩
  ·cases allZ hs (nI [5])
   ·simp only [Bool.not_false,cond_true,bytB_app,num_byt]; rfl
   ·rfl
  ·cases ieq (lowH hs 4) 2048
   ·cases ieq (lowH hs 4) 34525
    ·cases ieq (lowH hs 4) 2054
     ·cases (bif ieq (lowH hs 4) 34887 then true else ieq (lowH hs 4) 34888)
      ·rfl
      ·simp only [cond_true,cond_false,num_byt]
     ·simp only [cond_true,cond_false]
      unfold arpL
      simp only [bytB_app,fld_byt,nul_byt,Bool.and_true]; rfl
    ·simp only [cond_true,cond_false]
     unfold sixL
     simp only [bytB_app,fld_byt,num_byt,in_byt,Bool.and_true]; rfl
   ·exact four_byt hs
 have h2 : (layH hs).length ≤ 300 := by
  have a := in_len hs true; have b := in_len hs false
  have hb : (bodyH hs).length ≤ 100 := by
   unfold bodyH
   cases ieq (lowH hs 4) 2048
   ·cases ieq (lowH hs 4) 34525
    ·cases ieq (lowH hs 4) 2054
     ·cases (bif ieq (lowH hs 4) 34887 then true else ieq (lowH hs 4) 34888)
      ·show (0 : Nat) ≤ 100; decide
      ·show (4 : Nat) ≤ 100; decide
     ·show (28 : Nat) ≤ 100; decide
    ·show (sixL hs).length ≤ 100
     unfold sixL
     rw [List.length_append]
     show 40 + (inL hs false).length ≤ 100
     omega
   ·show (fourL hs).length ≤ 100
    obtain ⟨s,_,e⟩ := four_eq hs
    unfold fourL
    rw [e,List.length_append]
    show 20 + (inL hs true).length ≤ 100
    omega
  unfold layH tagL
  rw [List.length_append]
  cases allZ hs (nI [5])
  ·show 18 + (bodyH hs).length ≤ 300; omega
  ·show 14 + (bodyH hs).length ≤ 300; omega
 exact okL_iff.2 ⟨bytB_iff.1 h1,by omega⟩
theorem wrap1 {k : Nat → Int} (h : FitN k) : IntKind.i64.wrap (k 1) = k 1 := lowF_of h (i := 0) rfl (by decide)
theorem fno {P : Prop} {x : Bool} (c : x = false) (h : x = true) : P := Bool.noConfusion (c.symm.trans h)
theorem sp100_ok : SpecTL Try.prog [(98,S98 true),(99,S99),(70,S70 true)] := ⟨s98,s99,s70,trivial⟩
theorem s100 : SumTOk Try.prog 100 (sumOf (g0 (.bool true))) := g0_ok (by
 refine book_ok.pth (by kernel_rfl) sp100_ok (p100 true _ ?_ ?_ ?_ ?_ ?_ ?_ ?_ ?_ ?_ ?_ ?_ ?_ ?_)
 ·kernel_rfl
 ·kernel_rfl
 ·kernel_rfl
 ·kernel_rfl
 ·kernel_rfl
 ·kernel_rfl
 ·kernel_rfl
 ·kernel_rfl
 ·intro c; exact fno c (by kernel_rfl)
 ·kernel_rfl
 ·intro c; exact fno c (by kernel_rfl)
 ·intro c; exact fno c (by kernel_rfl)
 ·intro c; exact fno c (by kernel_rfl))
end Go.Proofs.Ytdcijmigoefnjaa
set_option linter.unusedVariables false
set_option linter.unusedSimpArgs false
set_option maxRecDepth 100000
set_option maxHeartbeats 0
namespace Go.Proofs.Ytdcijmigoefnjaa
open Go Go.Ev
theorem spQ_ok : SpecTL Try.prog spQ := ⟨s118o,s134,s73,trivial⟩
theorem fitH_iff {hs : List AV} : fitH hs = true ↔ hdrU hs = true ∧ fitsC hs = true := by unfold fitH; rw [Bool.and_eq_true]
theorem fitH_hdr {k : Nat → Int} (h : fitH (hdrC k) = true) : FitN k := fitN_of (fitH_iff.1 h).1 (fitH_iff.1 h).2
theorem fitH_to {hs : List AV} (h : fitH hs = true) : fitH (hdrC fun j => (hs.getD j .unk).asInt) = true := by rw [← isHdr_eq (hdrU_iff.1 (fitH_iff.1 h).1).1]; exact h
theorem s187 : SumTOk Try.prog 187 (S187 true) := sumW_ok fun x hx => by
 obtain ⟨xs,hs,i,n⟩ := x
 simp only [Bool.and_eq_true] at hx
 obtain ⟨hh,hi,hn,ht⟩ := hx
 have hb := isF_in' hi
 show CallsA Try.prog 187 [.sl 1 xs .sh,.agg hs,.int .i64 i,.int .i64 n] [] (.sl 1 (xs ++ fldC hs i n) (.own [])) []
 rw [isHdr_eq hh]
 generalize (fun j => (hs.getD j .unk).asInt) = k
 have e := pair_at k i.toNat (by omega)
 refine book_ok.goW (by kernel_rfl) spQ_ok noO_ok (p187 k xs i n _ (inR_iff.2 ⟨hb.1,hb.2⟩) ?_ ?_ ?_ ?_)
 ·exact len_at k (by omega)
 ·show AV.has _ (AV.agg (List.map AV.flat (List.take 2 (List.drop (0 + i.toNat * 2) (hdrC k))))) = true
  rw [e]; rfl
 ·rw [show sizeOk n = true from hn,tiny_small ht]; rfl
 ·rw [e]
  unfold fldC
  rw [getH_hdr k hi]; rfl
theorem few_cases {n : Int} (h : few n = true) : n = 2 ∨ n = 6 ∨ n = 16 := by
 unfold few ieq at h
 by_cases h2 : n = 2
 ·exact .inl h2
 by_cases h6 : n = 6
 ·exact .inr (.inl h6)
 refine .inr (.inr ?_)
 simpa [h2,h6] using h
theorem s199 : SumOOk Try.prog 199 (S199 true) := Go.Ev.sumV_ok fun x hx => by
 obtain ⟨xs,n⟩ := x
 simp only [Bool.and_eq_true] at hx
 obtain ⟨ht,hf⟩ := hx
 rw [tinyB_iff] at ht
 have ht : xs.length ≤ 1000 := ht
 rcases few_cases hf with rfl | rfl | rfl
 ·refine book_ok.goV (by kernel_rfl) (spec := []) (ps := []) trivial noO_ok (p199a xs _ ?_ ?_ ?_ ?_ ?_)
  iterate 4 (show Nat.ble _ _ = true; rw [Nat.ble_eq]; (try simp only [List.length_append,List.length_cons,List.length_nil]); omega)
  show (AV.sl 1 (xs ++ [bt 0] ++ [bt 0]) (.own []),([] : List (List AV))) = (AV.sl 1 (xs ++ nul 2) (.own []),[])
  simp only [List.append_assoc]; rfl
 ·refine book_ok.goV (by kernel_rfl) (spec := []) (ps := []) trivial noO_ok (p199b xs _ ?_ ?_ ?_ ?_ ?_ ?_ ?_ ?_ ?_ ?_ ?_ ?_ ?_)
  iterate 12 (show Nat.ble _ _ = true; rw [Nat.ble_eq]; (try simp only [List.length_append,List.length_cons,List.length_nil]); omega)
  show (AV.sl 1 (xs ++ [bt 0] ++ [bt 0] ++ [bt 0] ++ [bt 0] ++ [bt 0] ++ [bt 0]) (.own []),([] : List (List AV))) = (AV.sl 1 (xs ++ nul 6) (.own []),[])
  simp only [List.append_assoc]; rfl
 ·refine book_ok.goV (by kernel_rfl) (spec := []) (ps := []) trivial noO_ok (p199c xs _ ?_ ?_ ?_ ?_ ?_ ?_ ?_ ?_ ?_ ?_ ?_ ?_ ?_ ?_ ?_ ?_ ?_ ?_ ?_ ?_ ?_ ?_ ?_ ?_ ?_ ?_ ?_ ?_ ?_ ?_ ?_ ?_ ?_)
  iterate 32 (show Nat.ble _ _ = true; rw [Nat.ble_eq]; (try simp only [List.length_append,List.length_cons,List.length_nil]); omega)
  show (AV.sl 1 (xs ++ [bt 0] ++ [bt 0] ++ [bt 0] ++ [bt 0] ++ [bt 0] ++ [bt 0] ++ [bt 0] ++ [bt 0] ++ [bt 0] ++ [bt 0] ++ [bt 0] ++ [bt 0] ++ [bt 0] ++ [bt 0] ++ [bt 0] ++ [bt 0]) (.own []),([] : List (List AV))) = (AV.sl 1 (xs ++ nul 16) (.own []),[])
  simp only [List.append_assoc]; rfl
theorem spV_ok : SpecOL Try.prog (spV true) := ⟨s199,trivial⟩
theorem s198 : SumTOk Try.prog 198 S198 := sum0_ok fun x hx => by
 have hf := fitH_to hx
 have hh := (hdrU_iff.1 (fitH_iff.1 (show fitH x = true from hx)).1).1
 show CallsA Try.prog 198 [.agg x] [] (.int .i64 (clsI x)) []
 rw [isHdr_eq hh]
 generalize (fun j => (x.getD j .unk).asInt) = k at hf ⊢
 have f := fitH_hdr hf
 have h1 := f 15 (by decide); have h2 := f 17 (by decide)
 have e1 : maskTab.getD 15 0 = 63 := rfl
 have e2 : maskTab.getD 17 0 = 3 := rfl
 rw [e1] at h1; rw [e2] at h2
 refine book_ok.goW (by kernel_rfl) (spec := []) trivial noO_ok (p198 k _ ?_)
 have e : IntKind.i64.wrap (iadd .u64 (imul .u64 (irem (k 15) 64) 4) (irem (k 17) 4)) = clsI (hdrC k) := by
  rw [cls_of f]
  unfold iadd imul irem
  rw [Int.tmod_eq_emod_of_nonneg h1.1,Int.tmod_eq_emod_of_nonneg h2.1,IntKind.wrap_u64,IntKind.wrap_u64,IntKind.wrap_i64]; omega
 rw [e]
theorem spQ1_ok : SpecTL Try.prog (spQ1 true) := ⟨s187,spQ_ok⟩
theorem s197 : SumTOk Try.prog 197 (S197 true) := sum0_ok fun x hx => by
 obtain ⟨hs,four⟩ := x
 have hx : fitH hs = true := hx
 have hf := fitH_to hx
 have hh := (hdrU_iff.1 (fitH_iff.1 hx).1).1
 show CallsA Try.prog 197 [.agg hs,.bool four] [] (Tree.ite (hasIn hs four) (.leaf (.sl 1 (inL hs four) (.own []))) (.leaf (.sl 0 [] .nil))).val []
 rw [isHdr_eq hh]
 generalize (fun j => (hs.getD j .unk).asInt) = k at hf ⊢
 have f := fitH_hdr hf
 have e9 : lowH (hdrC k) 9 = k 19 := lowF_of f rfl (by decide)
 refine book_ok.goW (by kernel_rfl) spQ1_ok spV_ok (p197 true k four _ ?_ ?_ (fun e => ?_) ?_ ?_ ?_ (fun e e1 => ?_) ?_ ?_ (fun e e1 e2 e3 => ?_) (fun e e1 e2 e3 => ?_) (fun e e1 e2 => ?_))
 ·kernel_rfl
 ·kernel_rfl
 ·rw [← e9] at e
  unfold hasIn inL
  simp only [e,cond_true,Tree.val]; rfl
 ·kernel_rfl
 ·kernel_rfl
 ·kernel_rfl
 ·rw [← e9] at e e1
  unfold hasIn inL
  simp only [e,e1,cond_true,cond_false,Tree.val]; rfl
 ·kernel_rfl
 ·kernel_rfl
 ·rw [← e9] at e e1 e2
  unfold hasIn inL
  simp only [e,e1,e2,e3,cond_true,cond_false,Tree.val]; rfl
 ·rw [← e9] at e e1 e2
  unfold hasIn
  simp only [e,e1,e2,e3,cond_true,cond_false,Tree.val]
 ·rw [← e9] at e e1 e2
  unfold hasIn
  simp only [e,e1,e2,cond_true,cond_false,Tree.val]
theorem sB {n : FuncId} {F : Bool → List AV → List AV} (h : ∀ k,fitH (hdrC k) = true → CallsA Try.prog n [.agg (hdrC k)] [] (.sl 1 (F true (hdrC k)) (.own [])) []) : SumTOk Try.prog n (SB true F) := sum0_ok fun x hx => by
 have hf := fitH_to hx
 have hh := (hdrU_iff.1 (fitH_iff.1 (show fitH x = true from hx)).1).1
 show CallsA Try.prog n [.agg x] [] (.sl 1 (F true x) (.own [])) []
 rw [isHdr_eq hh]
 exact h _ hf
theorem s190 : SumTOk Try.prog 190 (SB true arpX) := sB fun k hf => by
 refine book_ok.goW (by kernel_rfl) spQ1_ok spV_ok (p190 true k _ ?_ ?_ ?_ ?_ ?_)
 ·kernel_rfl
 ·kernel_rfl
 ·kernel_rfl
 ·kernel_rfl
 ·kernel_rfl
theorem spQ2_ok : SpecTL Try.prog (spQ2 true) := ⟨s187,s197,s198,spQ_ok⟩
theorem spQ4_ok : SpecTL Try.prog (spQ4 true) := ⟨s187,s197,s198,spQ_ok⟩
theorem six_num : ∀ c : Nat,c < 256 → numL (24576 + (c : Int) * 16) 2 ++ [bt 0,bt 0] = numL ((1536 + (c : Int)) * 1048576) 4 := all_of_map (by kernel_rfl)
theorem s189 : SumTOk Try.prog 189 (SB true sixX) := sB fun k hf => by
 have f := fitH_hdr hf
 have h1 := f 15 (by decide); have h2 := f 17 (by decide)
 have e1 : maskTab.getD 15 0 = 63 := rfl
 have e2 : maskTab.getD 17 0 = 3 := rfl
 rw [e1] at h1; rw [e2] at h2
 have hc := cls_of f
 have hin := in_len (hdrC k) false
 have ea : iadd .i64 24576 (imul .i64 (clsI (hdrC k)) 16) = 24576 + clsI (hdrC k) * 16 := by
  unfold iadd imul
  rw [IntKind.wrap_i64,IntKind.wrap_i64]; omega
 have en : numL (iadd .i64 24576 (imul .i64 (clsI (hdrC k)) 16)) 2 ++ [bt 0,bt 0] = numL (ishl .i64 (ibits .or .i64 1536 (clsI (hdrC k))) 20) 4 := by
  rw [ea,six_of f,← hc]
  have := six_num (clsI (hdrC k)).toNat (by omega)
  rw [show (((clsI (hdrC k)).toNat : Nat) : Int) = clsI (hdrC k) by omega] at this
  exact this
 have hn : numOk (iadd .i64 24576 (imul .i64 (clsI (hdrC k)) 16)) 2 = true := by rw [ea]; exact num2_ok (by omega) (by omega)
 have hm : numOk ((inL (hdrC k) false).length : Int) 2 = true := num2_ok (by omega) (by omega)
 have ble : ∀ m : Nat,m ≤ 1000 → ((m + (inL (hdrC k) false).length) * 1).ble 140737488355328 = true ∧ (m + (inL (hdrC k) false).length).ble 140737488355328 = true := fun m hm => by
  rw [Nat.ble_eq,Nat.ble_eq]; exact ⟨by omega,by omega⟩
 have val : ∀ l,l = inL (hdrC k) false → (AV.sl 1 (((((numL (iadd .i64 24576 (imul .i64 (clsI (hdrC k)) 16)) 2 ++ [bt 0,bt 0] ++ numL (l.length : Int) 2) ++ fldC (hdrC k) 9 1) ++ [bt 64]) ++ fldC (hdrC k) 21 16) ++ fldC (hdrC k) 22 16 ++ l) (.own []),([] : List (List AV))) = (AV.sl 1 (sixX true (hdrC k)) (.own []),[]) := by
  rintro l rfl
  rw [en]; rfl
 refine book_ok.goW (by kernel_rfl) spQ2_ok spV_ok (p189 true k _ ?_ ?_ ?_ ?_ ?_ ?_ ?_ ?_ ?_ ?_ ?_ ?_ ?_ ?_ ?_ ?_ ?_ ?_)
 ·exact hf
 ·show (numOk (iadd .i64 24576 (imul .i64 (clsI (hdrC k)) 16)) 2 && _) = true; rw [hn]; kernel_rfl
 ·show (numOk ((inL (hdrC k) false).length : Int) 2 && _) = true; rw [hm]; kernel_rfl
 ·kernel_rfl
 ·kernel_rfl
 ·kernel_rfl
 ·kernel_rfl
 ·exact Eq.trans (b := ((40 + (inL (hdrC k) false).length) * 1).ble 140737488355328) (by kernel_rfl) (ble 40 (by decide)).1
 ·exact Eq.trans (b := (40 + (inL (hdrC k) false).length).ble 140737488355328) (by kernel_rfl) (ble 40 (by decide)).2
 ·exact Eq.trans (by kernel_rfl) (val _ rfl)
 ·show (numOk (iadd .i64 24576 (imul .i64 (clsI (hdrC k)) 16)) 2 && _) = true; rw [hn]; kernel_rfl
 ·kernel_rfl
 ·kernel_rfl
 ·kernel_rfl
 ·kernel_rfl
 ·kernel_rfl
 ·kernel_rfl
 ·intro e; exact Eq.trans (by kernel_rfl) (val [] (in_no e).symm)
theorem sum_bytes {s : Int} (h0 : 0 ≤ s) (h1 : s < 65536) : [AV.int .u8 (IntKind.u8.wrap (iquo .i64 s 256)),AV.int .u8 (IntKind.u8.wrap (irem s 256))] = numL s 2 := by
 have e : numL s 2 = [AV.int .u8 (IntKind.u8.wrap (ishr .i64 s 8)),AV.int .u8 (IntKind.u8.wrap (ishr .i64 s 0))] := rfl
 rw [e]
 have a : iquo .i64 s 256 = ishr .i64 s 8 := by
  unfold iquo ishr
  rw [Int.tdiv_eq_ediv_of_nonneg h0,IntKind.wrap_i64,Int.fdiv_eq_ediv_of_nonneg _ (by decide)]; simp [IntKind.bits]; omega
 have b : IntKind.u8.wrap (irem s 256) = IntKind.u8.wrap (ishr .i64 s 0) := by
  unfold irem ishr
  rw [Int.tmod_eq_emod_of_nonneg h0,IntKind.wrap_u8,IntKind.wrap_u8,Int.fdiv_eq_ediv_of_nonneg _ (by decide)]; simp
 rw [a,b]
theorem s188 : SumTOk Try.prog 188 (SB true fourX) := sB fun k hf => by
 have hin := in_len (hdrC k) true
 have q1 : (inL (hdrC k) true).all AV.scal = true := byt_scal (in_byt (hdrC k) true)
 have hi : iadd .i64 20 ((inL (hdrC k) true).length : Int) = 20 + ((inL (hdrC k) true).length : Int) := iadd_sm (by omega) (by omega)
 have hn : numOk (iadd .i64 20 ((inL (hdrC k) true).length : Int)) 2 = true := by rw [hi]; exact num2_ok (by omega) (by omega)
 have rng : ∀ ys : List AV,0 ≤ sumV ys ∧ sumV ys < 65536 := fun ys => by have := oc_range (sumN ys 0); unfold sumV; omega
 have byt : ∀ b : List AV,bytB b = true → b.length = 2 → (bytB (L4 (hdrC k) b []) && shortB (L4 (hdrC k) b [])) = true := fun b hb hl => by
  rw [L4_byt hb]
  show Nat.ble (L4 (hdrC k) b []).length 65536 = true
  rw [Nat.ble_eq,L4_len hl,List.length_nil]; omega
 have val : ∀ b l : List AV,b = numL (20 + ((inL (hdrC k) true).length : Int)) 2 → l = inL (hdrC k) true → (AV.sl 1 (setAt (L4 (hdrC k) b []) 10 [AV.int .u8 (IntKind.u8.wrap (iquo .i64 (sumV (L4 (hdrC k) b [])) 256)),AV.int .u8 (IntKind.u8.wrap (irem (sumV (L4 (hdrC k) b [])) 256))] ++ l) (.own []),([] : List (List AV))) = (AV.sl 1 (fourX true (hdrC k)) (.own []),[]) := by
  rintro b l rfl rfl
  rw [sum_bytes (rng _).1 (rng _).2]; rfl
 refine book_ok.goW (by kernel_rfl) spQ4_ok spV_ok (p188 true k _ ?_ ?_ ?_ ?_ ?_ ?_ ?_ ?_ ?_ ?_)
 ·exact hf
 ·show (numOk (iadd .i64 20 ((inL (hdrC k) true).length : Int)) 2 && _) = true; rw [hn]; rfl
 ·exact Eq.trans (b := (bytB (L4 (hdrC k) (numL (iadd .i64 20 ((inL (hdrC k) true).length : Int)) 2) []) && shortB (L4 (hdrC k) (numL (iadd .i64 20 ((inL (hdrC k) true).length : Int)) 2) []))) (by kernel_rfl) (byt _ (num_byt _ _) rfl)
 ·
  refine own_of ?_ ?_
  ·repeat' (first | exact q1 | rfl | apply all_c)
  ·repeat' (first | exact q1 | rfl | apply one_own | apply all_c)
 ·
  refine own_of ?_ ?_
  ·repeat' (first | exact q1 | rfl | apply all_c)
  ·repeat' (first | exact q1 | rfl | apply one_own | apply all_c)
 ·show Nat.ble ((20 + (inL (hdrC k) true).length) * 1) 140737488355328 = true; rw [Nat.ble_eq]; omega
 ·show Nat.ble (20 + (inL (hdrC k) true).length) 140737488355328 = true; rw [Nat.ble_eq]; omega
 ·exact Eq.trans (by kernel_rfl) (val (numL (iadd .i64 20 ((inL (hdrC k) true).length : Int)) 2) _ (by rw [hi]) rfl)
 ·exact Eq.trans (b := (bytB (L4 (hdrC k) [bt 0,bt 20] []) && shortB (L4 (hdrC k) [bt 0,bt 20] []))) (by kernel_rfl) (byt _ rfl rfl)
 ·intro e; exact Eq.trans (by kernel_rfl) (val [bt 0,bt 20] [] (by rw [in_no e]; kernel_rfl) (in_no e).symm)
theorem spQ3_ok : SpecTL Try.prog (spQ3 true) := ⟨s188,s189,s190,spQ2_ok⟩
end Go.Proofs.Ytdcijmigoefnjaa
set_option linter.unusedVariables false
set_option linter.unusedSimpArgs false
set_option maxRecDepth 100000
set_option maxHeartbeats 0
namespace Go.Proofs.Ytdcijmigoefnjaa
open Go Go.Ev
def Fit (k : Nat → Int) : Prop := ∀ c,c < 48 → ibits .and .u64 (k c) (maskTab.getD c 0) = k c
def FitV (f : Nat) (v : Int × Int) : Prop := ibits .and .u64 v.1 (maskTab.getD (2 * f) 0) = v.1 ∧ ibits .and .u64 v.2 (maskTab.getD (2 * f + 1) 0) = v.2
theorem fit_set {k : Nat → Int} {f : Nat} {v : Int × Int} (hk : Fit k) (hv : FitV f v) : Fit (setK k f v) := by
 intro c hc
 unfold setK
 cases h : Nat.beq (c / 2) f with
 | false => exact hk c hc
 | true =>
  have e : c / 2 = f := Nat.eq_of_beq_eq_true h
  simp only [cond_true]
  cases h2 : Nat.beq (c % 2) 0 with
  | true =>
   have e2 : c % 2 = 0 := Nat.eq_of_beq_eq_true h2
   obtain rfl : c = 2 * f := by omega
   exact hv.1
  | false =>
   have e2 : c % 2 ≠ 0 := Nat.ne_of_beq_eq_false h2
   obtain rfl : c = 2 * f + 1 := by omega
   exact hv.2
theorem andU {n : Int} {m : Nat} (hm : m ≤ 64) (h0 : 0 ≤ n) (h1 : n < ((2 ^ m : Nat) : Int)) : ibits .and .u64 n ((2 ^ m - 1 : Nat) : Int) = n := by
 obtain ⟨k,rfl⟩ : ∃ k : Nat,n = k := ⟨n.toNat,by omega⟩
 have hp : 2 ^ m ≤ 2 ^ 64 := Nat.pow_le_pow_right (by decide) hm
 have hp0 := Nat.two_pow_pos m
 have hk : k < 2 ^ m := by exact_mod_cast h1
 have hk2 : k < 2 ^ 64 := by omega
 rw [ibits_eq]
 show IntKind.u64.wrap _ = _
 have e : (BitVec.ofInt IntKind.u64.bits (k : Int) &&& BitVec.ofInt IntKind.u64.bits ((2 ^ m - 1 : Nat) : Int)).toNat = k := by
  show (BitVec.ofInt 64 (k : Int) &&& BitVec.ofInt 64 ((2 ^ m - 1 : Nat) : Int)).toNat = _
  rw [BitVec.toNat_and,BitVec.ofInt_natCast,BitVec.ofInt_natCast,BitVec.toNat_ofNat,BitVec.toNat_ofNat,Nat.mod_eq_of_lt hk2,Nat.mod_eq_of_lt (by omega),Nat.and_two_pow_sub_one_eq_mod k m,Nat.mod_eq_of_lt hk]
 rw [e,IntKind.wrap_u64]; omega
theorem and0 : ibits .and .u64 0 0 = 0 := by kernel_rfl
theorem fitv {f m : Nat} {v : Int} (e1 : maskTab.getD (2 * f) 0 = 0) (e2 : maskTab.getD (2 * f + 1) 0 = ((2 ^ m - 1 : Nat) : Int)) (hm : m ≤ 64) (h0 : 0 ≤ v) (h1 : v < ((2 ^ m : Nat) : Int)) : FitV f (0,v) := by
 refine ⟨?_,?_⟩
 ·rw [e1]; exact and0
 ·rw [e2]; exact andU hm h0 h1
theorem fit_zero : Fit zeroK := fun c hc => by
 obtain ⟨m,q1,q2⟩ : ∃ m : Nat,maskTab.getD c 0 = m ∧ m < 2 ^ 64 := by
  have h : ((List.range 48).all fun c => ile 0 (maskTab.getD c 0) && ilt (maskTab.getD c 0) 18446744073709551616) = true := by kernel_rfl
  have := List.all_eq_true.1 h c (List.mem_range.2 hc)
  simp only [Bool.and_eq_true,ile_iff',ilt_iff] at this
  exact ⟨(maskTab.getD c 0).toNat,by omega,by omega⟩
 show ibits .and .u64 0 _ = 0
 rw [q1,ibits_eq]
 show IntKind.u64.wrap _ = _
 have e : (BitVec.ofInt IntKind.u64.bits (0 : Int) &&& BitVec.ofInt IntKind.u64.bits (m : Int)).toNat = 0 := by
  show (BitVec.ofInt 64 ((0 : Nat) : Int) &&& BitVec.ofInt 64 (m : Int)).toNat = _
  rw [BitVec.toNat_and,BitVec.ofInt_natCast,BitVec.ofInt_natCast,BitVec.toNat_ofNat,BitVec.toNat_ofNat]
  simp
 rw [e]; rfl
structure FitB (b : B6) : Prop where
 p : 0 ≤ b.1 ∧ b.1 < 4294967296
 t : FitV 2 b.2.1
 f : FitV 3 b.2.2.1
 y : FitV 4 b.2.2.2.1
 v : 0 ≤ b.2.2.2.2.1 ∧ b.2.2.2.2.1 < 8192
 r : 0 ≤ b.2.2.2.2.2 ∧ b.2.2.2.2.2 < 8
theorem fit_base {b : B6} (h : FitB b) : Fit (baseK b) := by
 unfold baseK
 refine fit_set (fit_set (fit_set (fit_set (fit_set (fit_set fit_zero ?_) h.t) h.f) h.y) ?_) ?_
 ·exact fitv (m := 32) (by kernel_rfl) (by kernel_rfl) (by omega) h.p.1 (by have := h.p; omega)
 ·exact fitv (m := 13) (by kernel_rfl) (by kernel_rfl) (by omega) h.v.1 (by have := h.v; omega)
 ·exact fitv (m := 3) (by kernel_rfl) (by kernel_rfl) (by omega) h.r.1 (by have := h.r; omega)
structure FitP (four : Bool) (p : P5) : Prop where
 a : 0 ≤ p.1 ∧ p.1 < 64
 b : 0 ≤ p.2.1 ∧ p.2.1 < 4
 c : 0 ≤ p.2.2.1 ∧ p.2.2.1 < 256
 d : FitV (bif four then 10 else 21) p.2.2.2.1
 e : FitV (bif four then 11 else 22) p.2.2.2.2
theorem fit_ip {b : B6} {four : Bool} {p : P5} (h : FitB b) (hp : FitP four p) : Fit (ipK b four p) := by
 unfold ipK
 refine fit_set (fit_set (fit_set (fit_set (fit_set (fit_base h) ?_) ?_) ?_) hp.d) hp.e
 ·exact fitv (m := 6) (by kernel_rfl) (by kernel_rfl) (by omega) hp.a.1 (by have := hp.a; omega)
 ·exact fitv (m := 2) (by kernel_rfl) (by kernel_rfl) (by omega) hp.b.1 (by have := hp.b; omega)
 ·exact fitv (m := 8) (by kernel_rfl) (by kernel_rfl) (by omega) hp.c.1 (by have := hp.c; omega)
theorem fit_within {k : Nat → Int} {four : Bool} {pr : Int} {xs : List AV} (h : okL xs = true) (hk : Fit k) : Fit (withinK k four pr xs) := by
 have a0 := nv2 h 0
 have a1 := nv2 h 2
 have a2 := nv1 h 0
 have a3 := nv1 h 1
 unfold withinK
 cases ieq pr 6 with
 | true => exact fit_set (fit_set hk (fitv (m := 16) (by kernel_rfl) (by kernel_rfl) (by omega) (by omega) (by omega))) (fitv (m := 16) (by kernel_rfl) (by kernel_rfl) (by omega) (by omega) (by omega))
 | false =>
  cases ieq pr 17 with
  | true => exact fit_set (fit_set hk (fitv (m := 16) (by kernel_rfl) (by kernel_rfl) (by omega) (by omega) (by omega))) (fitv (m := 16) (by kernel_rfl) (by kernel_rfl) (by omega) (by omega) (by omega))
  | false =>
   cases (bif ieq pr 1 then four else false) with
   | true => exact fit_set (fit_set hk (fitv (m := 8) (by kernel_rfl) (by kernel_rfl) (by omega) (by omega) (by omega))) (fitv (m := 8) (by kernel_rfl) (by kernel_rfl) (by omega) (by omega) (by omega))
   | false => exact hk
theorem fit_four {b : B6} {xs : List AV} (hb : FitB b) (h : okL xs = true) : Fit (fourK b xs) := by
 have a0 := nv1 h 1
 have a1 := nv1 h 9
 have a2 := nv4 h 12
 have a3 := nv4 h 16
 have hp : FitP true (fourP xs) := ⟨by unfold fourP; simp only; omega,by unfold fourP; simp only; omega,by unfold fourP; simp only; omega,
  fitv (m := 32) (by kernel_rfl) (by kernel_rfl) (by omega) (by omega) (by omega),fitv (m := 32) (by kernel_rfl) (by kernel_rfl) (by omega) (by omega) (by omega)⟩
 unfold fourK
 cases pieceB xs with
 | true => exact fit_ip hb hp
 | false => exact fit_within (okL_take (okL_drop h _) _) (fit_ip hb hp)
theorem wv_in (xs : List AV) (n : Nat) (h : okL xs = true) (hn : n ≤ 16) : (0 ≤ wvH xs n ∧ wvH xs n < 18446744073709551616) ∧ 0 ≤ wvL xs n ∧ wvL xs n < 18446744073709551616 := by
 have hb := (okL_iff.1 (okL_take h n)).1
 have := valB_lt _ hb
 have h2 : 256 ^ ((xs.take n).length) ≤ 256 ^ 16 := Nat.pow_le_pow_right (by decide) (by rw [List.length_take]; omega)
 have h3 : valB (xs.take n) < 256 ^ 16 := by omega
 unfold wvH wvL
 have h4 : valB (xs.take n) / 18446744073709551616 < 18446744073709551616 := by
  have : (256 : Nat) ^ 16 = 18446744073709551616 * 18446744073709551616 := by decide
  rw [this] at h3
  exact Nat.div_lt_of_lt_mul h3
 have h5 : valB (xs.take n) % 18446744073709551616 < 18446744073709551616 := Nat.mod_lt _ (by decide)
 omega
theorem fit_wide {f : Nat} {xs : List AV} (h : okL xs = true) (e1 : maskTab.getD (2 * f) 0 = ((2 ^ 64 - 1 : Nat) : Int)) (e2 : maskTab.getD (2 * f + 1) 0 = ((2 ^ 64 - 1 : Nat) : Int)) : FitV f (wv xs 16) := by
 obtain ⟨⟨a,b⟩,c,d⟩ := wv_in xs 16 h (by omega)
 unfold wv
 exact ⟨by rw [e1]; exact andU (by omega) a (by omega),by rw [e2]; exact andU (by omega) c (by omega)⟩
theorem fit_six {b : B6} {xs : List AV} (hb : FitB b) (h : okL xs = true) : Fit (sixK b xs) := by
 have a1 := nv1 h 6
 have q0 : 0 ≤ clsN xs ∧ clsN xs < 256 := by unfold clsN; omega
 have hp : FitP false (sixP xs) := ⟨by unfold sixP; simp only; omega,by unfold sixP; simp only; omega,by unfold sixP; simp only; omega,
  fit_wide (okL_drop h 8) (by kernel_rfl) (by kernel_rfl),fit_wide (okL_drop h 24) (by kernel_rfl) (by kernel_rfl)⟩
 exact fit_within (okL_take (okL_drop h _) _) (fit_ip hb hp)
theorem fit_arp {b : B6} {xs : List AV} (hb : FitB b) (h : okL xs = true) : Fit (arpK b xs) := by
 have a0 := nv2 h 6
 have a1 := nv4 h 14
 have a2 := nv4 h 24
 exact fit_set (fit_set (fit_set (fit_base hb) (fitv (m := 16) (by kernel_rfl) (by kernel_rfl) (by omega) (by omega) (by omega))) (fitv (m := 32) (by kernel_rfl) (by kernel_rfl) (by omega) (by omega) (by omega)))
  (fitv (m := 32) (by kernel_rfl) (by kernel_rfl) (by omega) (by omega) (by omega))
theorem fit_lab {b : B6} {xs : List AV} (hb : FitB b) (h : okL xs = true) : Fit (labK b xs) := by
 have a0 := nv4 h 0
 exact fit_set (fit_base hb) (fitv (m := 20) (by kernel_rfl) (by kernel_rfl) (by omega) (by omega) (by omega))
theorem fit_frm {b : B6} {xs : List AV} (hb : FitB b) (h : okL xs = true) : Fit (frmK b xs) := by
 have hr : okL (restX xs) = true := okL_drop h _
 unfold frmK
 cases ieq (typN xs) 2048 with
 | true => exact fit_four hb hr
 | false =>
 cases ieq (typN xs) 34525 with
 | true => exact fit_six hb hr
 | false =>
 cases ieq (typN xs) 2054 with
 | true => exact fit_arp hb hr
 | false =>
 cases (bif ieq (typN xs) 34887 then true else ieq (typN xs) 34888) with
 | true => exact fit_lab hb hr
 | false => exact fit_base hb
theorem port_in {n : Int} (hp : portB n = false) : 1 ≤ n ∧ n ≤ 4294967040 := by
 unfold portB at hp
 cases h1 : ilt n 1 with
 | true => rw [h1] at hp; cases hp
 | false =>
  rw [h1] at hp
  simp only [cond_false] at hp
  rw [ilt_no] at h1 hp; omega
theorem fit_par {n : Int} {xs : List AV} (hp : portB n = false) (h : okL xs = true) : Fit (parK n xs) := by
 have hn := port_in hp
 have a0 := nv6 h 0
 have a1 := nv6 h 6
 have a2 := nv2 h 14
 have ty : 0 ≤ typN xs ∧ typN xs < 65536 := by unfold typN; cases tagB xs <;> exact nv2 h _
 refine fit_frm ⟨by unfold frmB; simp only; omega,fitv (m := 48) (by kernel_rfl) (by kernel_rfl) (by omega) (by omega) (by omega),fitv (m := 48) (by kernel_rfl) (by kernel_rfl) (by omega) (by omega) (by omega),
  fitv (m := 16) (by kernel_rfl) (by kernel_rfl) (by omega) (by omega) (by omega),?_,?_⟩ h
 ·unfold frmB; cases tagB xs <;> simp only [cond_true,cond_false] <;> omega
 ·unfold frmB; cases tagB xs <;> simp only [cond_true,cond_false] <;> omega
end Go.Proofs.Ytdcijmigoefnjaa
set_option linter.unusedVariables false
set_option linter.unusedSimpArgs false
set_option maxRecDepth 100000
set_option maxHeartbeats 0
namespace Go.Proofs.Ytdcijmigoefnjaa
open Go Go.Ev
theorem setK_other {k : Nat → Int} {f : Nat} {v : Int × Int} {c : Nat} (h : c / 2 ≠ f) : setK k f v c = k c := by
 unfold setK
 have : Nat.beq (c / 2) f = false := by
  cases h2 : Nat.beq (c / 2) f with
  | false => rfl
  | true => exact absurd (Nat.eq_of_beq_eq_true h2) h
 rw [this]; rfl
theorem low_within {k : Nat → Int} {four : Bool} {pr : Int} {xs : List AV} {c : Nat} (hc : c < 14) : withinK k four pr xs c = k c := by
 unfold withinK
 cases ieq pr 6 with
 | true => exact (setK_other (by omega)).trans (setK_other (by omega))
 | false =>
 cases ieq pr 17 with
 | true => exact (setK_other (by omega)).trans (setK_other (by omega))
 | false =>
 cases (bif ieq pr 1 then four else false) with
 | true => exact (setK_other (by omega)).trans (setK_other (by omega))
 | false => rfl
theorem low_ip {b : B6} {four : Bool} {p : P5} {c : Nat} (hc : c < 14) : ipK b four p c = baseK b c := by
 unfold ipK
 rw [setK_other (by cases four <;> simp only [cond_true,cond_false] <;> omega),setK_other (by cases four <;> simp only [cond_true,cond_false] <;> omega),setK_other (by omega),setK_other (by omega),setK_other (by omega)]
theorem low_frm {b : B6} {xs : List AV} {c : Nat} (hc : c < 14) : frmK b xs c = baseK b c := by
 unfold frmK
 cases ieq (typN xs) 2048 with
 | true =>
  show fourK b (restX xs) c = _
  unfold fourK
  cases pieceB (restX xs) with
  | true => exact low_ip hc
  | false => exact (low_within hc).trans (low_ip hc)
 | false =>
 cases ieq (typN xs) 34525 with
 | true => exact (low_within hc).trans (low_ip hc)
 | false =>
 cases ieq (typN xs) 2054 with
 | true =>
  show arpK b (restX xs) c = _
  unfold arpK; rw [setK_other (by omega),setK_other (by omega),setK_other (by omega)]
 | false =>
 cases (bif ieq (typN xs) 34887 then true else ieq (typN xs) 34888) with
 | true => exact setK_other (by omega)
 | false => rfl
theorem port_ok {n : Int} {xs : List AV} (hz : ieq (parE n xs) 0 = true) : portB n = false := by
 cases hp : portB n with
 | false => rfl
 | true => unfold parE at hz; rw [hp] at hz; cases hz
theorem fits_par {n : Int} {xs : List AV} (h : okL xs = true) (hz : ieq (parE n xs) 0 = true) : fitsC (parC n xs) = true := by
 have hf := fit_par (port_ok hz) h
 unfold fitsC
 have e : clipC (parC n xs) = hdrC (fun c => ibits .and .u64 (parK n xs c) (maskTab.getD c 0)) := rfl
 rw [e]
 have e2 : hdrC (fun c => ibits .and .u64 (parK n xs c) (maskTab.getD c 0)) = parC n xs := hdrC_congr fun c hc => hf c hc
 rw [e2]; exact pairEq_same _
end Go.Proofs.Ytdcijmigoefnjaa
