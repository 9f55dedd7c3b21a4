import Derived.Test.YtdcijmigoefnjaaL46c
import Derived.Test.YtdcijmigoefnjaaP46d
import Derived.Test.YtdcijmigoefnjaaL45b
import Derived.Test.YtdcijmigoefnjaaP46e
import Derived.Test.YtdcijmigoefnjaaPlK5
import Derived.Test.YtdcijmigoefnjaaL45e
import Derived.Test.YtdcijmigoefnjaaL10h
import Derived.Test.YtdcijmigoefnjaaD03
import Derived.Test.YtdcijmigoefnjaaL04b
/- Chapter 46: packets of the other kinds: contracts. -/
set_option linter.unusedVariables false
set_option linter.unusedSimpArgs false
set_option maxRecDepth 100000
set_option maxHeartbeats 0
namespace Go.Proofs.Ytdcijmigoefnjaa
open Go Go.Ev

theorem s155 : SumOOk Try.prog 155 (S155 true) := sumO_ok (fun _ _ _ _ h => h) fun x hx => by
  obtain ⟨hs, xs⟩ := x
  simp only [Bool.and_eq_true] at hx
  obtain ⟨hh, hc, hxl⟩ := hx
  rw [tinyR_iff] at hxl
  have hxl : xs.length ≤ 100 := hxl
  have hc : clsB hs = true := hc
  show CallsO Try.prog 155 [.ptr 1000 0] (grown hs xs []) (.tup []) (grown hs (xs ++ sixL hs) [0])
  rw [isHdr_eq hh] at hc ⊢
  generalize (fun j => (hs.getD j .unk).asInt) = k at hc ⊢
  have hc : numOk (ishl .i64 (ibits .or .i64 1536 (clsI (hdrC k))) 20) 4 = true := hc
  have hin := in_len (hdrC k) false
  have fl : ∀ i n, 0 ≤ n → n ≤ 16 → (fldC (hdrC k) i n).length = n.toNat := fun i n h0 h => fld_len _ h0 h
  have f1 : ∀ i, (fldC (hdrC k) i 1).length = 1 := fun i => fl i 1 (by decide) (by decide)
  have f2 : ∀ i, (fldC (hdrC k) i 2).length = 2 := fun i => fl i 2 (by decide) (by decide)
  have f4 : ∀ i, (fldC (hdrC k) i 4).length = 4 := fun i => fl i 4 (by decide) (by decide)
  have f16 : ∀ i, (fldC (hdrC k) i 16).length = 16 := fun i => fl i 16 (by decide) (by decide)
  refine book_ok.goO (by kernel_rfl) spG_ok spO0_ok (p155 true k xs _ ?_ ?_ ?_ ?_ ?_ ?_ ?_ ?_ ?_ ?_ ?_ ?_ ?_ ?_ ?_ ?_)
  · intro e
    have hm : (numL ((inL (hdrC k) false).length : Int) 2).length = 2 := rfl
    have hnl : (numL (ishl .i64 (ibits .or .i64 1536 (clsI (hdrC k))) 20) 4).length = 4 := rfl
    show (true && (numOk (ishl .i64 (ibits .or .i64 1536 (clsI (hdrC k))) 20) 4 && tinyB xs)) = true
    rw [hc, tl (by omega)]; rfl
  · intro e
    have hm : (numL ((inL (hdrC k) false).length : Int) 2).length = 2 := rfl
    have hnl : (numL (ishl .i64 (ibits .or .i64 1536 (clsI (hdrC k))) 20) 4).length = 4 := rfl
    show (true && (numOk ((inL (hdrC k) false).length : Int) 2 && tinyB ((xs) ++ numL (ishl .i64 (ibits .or .i64 1536 (clsI (hdrC k))) 20) 4))) = true
    rw [num2_ok (by omega) (by omega), tl (by simp only [List.length_append, List.length_cons, List.length_nil, nul, List.length_replicate, f1, f2, f4, f16, hm, hnl]; omega)]; rfl
  · intro e
    have hm : (numL ((inL (hdrC k) false).length : Int) 2).length = 2 := rfl
    have hnl : (numL (ishl .i64 (ibits .or .i64 1536 (clsI (hdrC k))) 20) 4).length = 4 := rfl
    show (true && (true && (true && tinyB (((xs) ++ numL (ishl .i64 (ibits .or .i64 1536 (clsI (hdrC k))) 20) 4) ++ numL ((inL (hdrC k) false).length : Int) 2)))) = true
    rw [tl (by simp only [List.length_append, List.length_cons, List.length_nil, nul, List.length_replicate, f1, f2, f4, f16, hm, hnl]; omega)]; rfl
  · intro e
    have hm : (numL ((inL (hdrC k) false).length : Int) 2).length = 2 := rfl
    have hnl : (numL (ishl .i64 (ibits .or .i64 1536 (clsI (hdrC k))) 20) 4).length = 4 := rfl
    show (true && (tinyB ((((xs) ++ numL (ishl .i64 (ibits .or .i64 1536 (clsI (hdrC k))) 20) 4) ++ numL ((inL (hdrC k) false).length : Int) 2) ++ fldC (hdrC k) 9 1) && true)) = true
    rw [tl (by simp only [List.length_append, List.length_cons, List.length_nil, nul, List.length_replicate, f1, f2, f4, f16, hm, hnl]; omega)]; rfl
  · intro e
    have hm : (numL ((inL (hdrC k) false).length : Int) 2).length = 2 := rfl
    have hnl : (numL (ishl .i64 (ibits .or .i64 1536 (clsI (hdrC k))) 20) 4).length = 4 := rfl
    show (true && (true && (true && tinyB (((((xs) ++ numL (ishl .i64 (ibits .or .i64 1536 (clsI (hdrC k))) 20) 4) ++ numL ((inL (hdrC k) false).length : Int) 2) ++ fldC (hdrC k) 9 1) ++ [bt 64])))) = true
    rw [tl (by simp only [List.length_append, List.length_cons, List.length_nil, nul, List.length_replicate, f1, f2, f4, f16, hm, hnl]; omega)]; rfl
  · intro e
    have hm : (numL ((inL (hdrC k) false).length : Int) 2).length = 2 := rfl
    have hnl : (numL (ishl .i64 (ibits .or .i64 1536 (clsI (hdrC k))) 20) 4).length = 4 := rfl
    show (true && (true && (true && tinyB ((((((xs) ++ numL (ishl .i64 (ibits .or .i64 1536 (clsI (hdrC k))) 20) 4) ++ numL ((inL (hdrC k) false).length : Int) 2) ++ fldC (hdrC k) 9 1) ++ [bt 64]) ++ fldC (hdrC k) 21 16)))) = true
    rw [tl (by simp only [List.length_append, List.length_cons, List.length_nil, nul, List.length_replicate, f1, f2, f4, f16, hm, hnl]; omega)]; rfl
  · intro e
    have hm : (numL ((inL (hdrC k) false).length : Int) 2).length = 2 := rfl
    have hnl : (numL (ishl .i64 (ibits .or .i64 1536 (clsI (hdrC k))) 20) 4).length = 4 := rfl
    show (true && (tinyB (((((((xs) ++ numL (ishl .i64 (ibits .or .i64 1536 (clsI (hdrC k))) 20) 4) ++ numL ((inL (hdrC k) false).length : Int) 2) ++ fldC (hdrC k) 9 1) ++ [bt 64]) ++ fldC (hdrC k) 21 16) ++ fldC (hdrC k) 22 16) && tinyB (inL (hdrC k) false))) = true
    rw [tl (by simp only [List.length_append, List.length_cons, List.length_nil, nul, List.length_replicate, f1, f2, f4, f16, hm, hnl]; omega), tl (by omega)]; rfl
  · intro e
    have hm : (numL ((inL (hdrC k) false).length : Int) 2).length = 2 := rfl
    have hnl : (numL (ishl .i64 (ibits .or .i64 1536 (clsI (hdrC k))) 20) 4).length = 4 := rfl
    show (AV.tup [], [hdr1 k (AV.sl 1 ((((((((xs) ++ numL (ishl .i64 (ibits .or .i64 1536 (clsI (hdrC k))) 20) 4) ++ numL ((inL (hdrC k) false).length : Int) 2) ++ fldC (hdrC k) 9 1) ++ [bt 64]) ++ fldC (hdrC k) 21 16) ++ fldC (hdrC k) 22 16) ++ inL (hdrC k) false) (.own [0]))]) = (AV.tup [], [grown (hdrC k) (xs ++ sixL (hdrC k)) [0]])
    have q : (((((((xs) ++ numL (ishl .i64 (ibits .or .i64 1536 (clsI (hdrC k))) 20) 4) ++ numL ((inL (hdrC k) false).length : Int) 2) ++ fldC (hdrC k) 9 1) ++ [bt 64]) ++ fldC (hdrC k) 21 16) ++ fldC (hdrC k) 22 16) ++ inL (hdrC k) false = xs ++ sixL (hdrC k) := by
      unfold sixL
      simp only [List.append_assoc]; rfl
    rw [q]; rfl
  · intro e
    have hno := in_no e
    have hm : ([bt 0, bt 0]).length = 2 := rfl
    have hnl : (numL (ishl .i64 (ibits .or .i64 1536 (clsI (hdrC k))) 20) 4).length = 4 := rfl
    show (true && (numOk (ishl .i64 (ibits .or .i64 1536 (clsI (hdrC k))) 20) 4 && tinyB xs)) = true
    rw [hc, tl (by omega)]; rfl
  · intro e
    have hno := in_no e
    have hm : ([bt 0, bt 0]).length = 2 := rfl
    have hnl : (numL (ishl .i64 (ibits .or .i64 1536 (clsI (hdrC k))) 20) 4).length = 4 := rfl
    show (true && (true && tinyB ((xs) ++ numL (ishl .i64 (ibits .or .i64 1536 (clsI (hdrC k))) 20) 4))) = true
    rw [tl (by simp only [List.length_append, List.length_cons, List.length_nil, nul, List.length_replicate, f1, f2, f4, f16, hm, hnl]; omega)]; rfl
  · intro e
    have hno := in_no e
    have hm : ([bt 0, bt 0]).length = 2 := rfl
    have hnl : (numL (ishl .i64 (ibits .or .i64 1536 (clsI (hdrC k))) 20) 4).length = 4 := rfl
    show (true && (true && (true && tinyB (((xs) ++ numL (ishl .i64 (ibits .or .i64 1536 (clsI (hdrC k))) 20) 4) ++ [bt 0, bt 0])))) = true
    rw [tl (by simp only [List.length_append, List.length_cons, List.length_nil, nul, List.length_replicate, f1, f2, f4, f16, hm, hnl]; omega)]; rfl
  · intro e
    have hno := in_no e
    have hm : ([bt 0, bt 0]).length = 2 := rfl
    have hnl : (numL (ishl .i64 (ibits .or .i64 1536 (clsI (hdrC k))) 20) 4).length = 4 := rfl
    show (true && (tinyB ((((xs) ++ numL (ishl .i64 (ibits .or .i64 1536 (clsI (hdrC k))) 20) 4) ++ [bt 0, bt 0]) ++ fldC (hdrC k) 9 1) && true)) = true
    rw [tl (by simp only [List.length_append, List.length_cons, List.length_nil, nul, List.length_replicate, f1, f2, f4, f16, hm, hnl]; omega)]; rfl
  · intro e
    have hno := in_no e
    have hm : ([bt 0, bt 0]).length = 2 := rfl
    have hnl : (numL (ishl .i64 (ibits .or .i64 1536 (clsI (hdrC k))) 20) 4).length = 4 := rfl
    show (true && (true && (true && tinyB (((((xs) ++ numL (ishl .i64 (ibits .or .i64 1536 (clsI (hdrC k))) 20) 4) ++ [bt 0, bt 0]) ++ fldC (hdrC k) 9 1) ++ [bt 64])))) = true
    rw [tl (by simp only [List.length_append, List.length_cons, List.length_nil, nul, List.length_replicate, f1, f2, f4, f16, hm, hnl]; omega)]; rfl
  · intro e
    have hno := in_no e
    have hm : ([bt 0, bt 0]).length = 2 := rfl
    have hnl : (numL (ishl .i64 (ibits .or .i64 1536 (clsI (hdrC k))) 20) 4).length = 4 := rfl
    show (true && (true && (true && tinyB ((((((xs) ++ numL (ishl .i64 (ibits .or .i64 1536 (clsI (hdrC k))) 20) 4) ++ [bt 0, bt 0]) ++ fldC (hdrC k) 9 1) ++ [bt 64]) ++ fldC (hdrC k) 21 16)))) = true
    rw [tl (by simp only [List.length_append, List.length_cons, List.length_nil, nul, List.length_replicate, f1, f2, f4, f16, hm, hnl]; omega)]; rfl
  · intro e
    have hno := in_no e
    have hm : ([bt 0, bt 0]).length = 2 := rfl
    have hnl : (numL (ishl .i64 (ibits .or .i64 1536 (clsI (hdrC k))) 20) 4).length = 4 := rfl
    show (true && (tinyB (((((((xs) ++ numL (ishl .i64 (ibits .or .i64 1536 (clsI (hdrC k))) 20) 4) ++ [bt 0, bt 0]) ++ fldC (hdrC k) 9 1) ++ [bt 64]) ++ fldC (hdrC k) 21 16) ++ fldC (hdrC k) 22 16) && true)) = true
    rw [tl (by simp only [List.length_append, List.length_cons, List.length_nil, nul, List.length_replicate, f1, f2, f4, f16, hm, hnl]; omega)]; rfl
  · intro e
    have hno := in_no e
    have hm : ([bt 0, bt 0]).length = 2 := rfl
    have hnl : (numL (ishl .i64 (ibits .or .i64 1536 (clsI (hdrC k))) 20) 4).length = 4 := rfl
    show (AV.tup [], [hdr1 k (AV.sl 1 ((((((((xs) ++ numL (ishl .i64 (ibits .or .i64 1536 (clsI (hdrC k))) 20) 4) ++ [bt 0, bt 0]) ++ fldC (hdrC k) 9 1) ++ [bt 64]) ++ fldC (hdrC k) 21 16) ++ fldC (hdrC k) 22 16) ++ []) (.own [0]))]) = (AV.tup [], [grown (hdrC k) (xs ++ sixL (hdrC k)) [0]])
    have q : (((((((xs) ++ numL (ishl .i64 (ibits .or .i64 1536 (clsI (hdrC k))) 20) 4) ++ [bt 0, bt 0]) ++ fldC (hdrC k) 9 1) ++ [bt 64]) ++ fldC (hdrC k) 21 16) ++ fldC (hdrC k) 22 16) ++ [] = xs ++ sixL (hdrC k) := by
      unfold sixL
      rw [hno]
      simp only [List.append_assoc]; rfl
    rw [q]; rfl
theorem s156 : SumOOk Try.prog 156 (S156 true) := sumO_ok (fun _ _ _ _ h => h) fun x hx => by
  obtain ⟨hs, xs⟩ := x
  simp only [Bool.and_eq_true] at hx
  obtain ⟨hh, hxl⟩ := hx
  rw [tinyR_iff] at hxl
  have hxl : xs.length ≤ 100 := hxl
  show CallsO Try.prog 156 [.ptr 1000 0] (grown hs xs []) (.tup []) (grown hs (xs ++ arpL hs) [0])
  rw [isHdr_eq hh]
  generalize (fun j => (hs.getD j .unk).asInt) = k
  have hm : True := trivial
  have hnl : True := trivial
  have fl : ∀ i n, 0 ≤ n → n ≤ 16 → (fldC (hdrC k) i n).length = n.toNat := fun i n h0 h => fld_len _ h0 h
  have f1 : ∀ i, (fldC (hdrC k) i 1).length = 1 := fun i => fl i 1 (by decide) (by decide)
  have f2 : ∀ i, (fldC (hdrC k) i 2).length = 2 := fun i => fl i 2 (by decide) (by decide)
  have f4 : ∀ i, (fldC (hdrC k) i 4).length = 4 := fun i => fl i 4 (by decide) (by decide)
  have f16 : ∀ i, (fldC (hdrC k) i 16).length = 16 := fun i => fl i 16 (by decide) (by decide)
  refine book_ok.goO (by kernel_rfl) spF_ok spO0_ok (p156 k xs _ ?_ ?_ ?_ ?_ ?_ ?_ ?_)
  ·
    show (true && (tinyB xs && true)) = true
    rw [tl (by omega)]; rfl
  ·
    show (true && (true && (true && tinyB ((xs) ++ [bt 0, bt 1, bt 8, bt 0, bt 6, bt 4])))) = true
    rw [tl (by simp only [List.length_append, List.length_cons, List.length_nil, nul, List.length_replicate, f1, f2, f4, f16, hm, hnl]; omega)]; rfl
  ·
    show (true && (tinyB (((xs) ++ [bt 0, bt 1, bt 8, bt 0, bt 6, bt 4]) ++ fldC (hdrC k) 18 2) && true)) = true
    rw [tl (by simp only [List.length_append, List.length_cons, List.length_nil, nul, List.length_replicate, f1, f2, f4, f16, hm, hnl]; omega)]; rfl
  ·
    show (true && (true && (true && tinyB ((((xs) ++ [bt 0, bt 1, bt 8, bt 0, bt 6, bt 4]) ++ fldC (hdrC k) 18 2) ++ nul 6)))) = true
    rw [tl (by simp only [List.length_append, List.length_cons, List.length_nil, nul, List.length_replicate, f1, f2, f4, f16, hm, hnl]; omega)]; rfl
  ·
    show (true && (tinyB (((((xs) ++ [bt 0, bt 1, bt 8, bt 0, bt 6, bt 4]) ++ fldC (hdrC k) 18 2) ++ nul 6) ++ fldC (hdrC k) 19 4) && true)) = true
    rw [tl (by simp only [List.length_append, List.length_cons, List.length_nil, nul, List.length_replicate, f1, f2, f4, f16, hm, hnl]; omega)]; rfl
  ·
    show (true && (true && (true && tinyB ((((((xs) ++ [bt 0, bt 1, bt 8, bt 0, bt 6, bt 4]) ++ fldC (hdrC k) 18 2) ++ nul 6) ++ fldC (hdrC k) 19 4) ++ nul 6)))) = true
    rw [tl (by simp only [List.length_append, List.length_cons, List.length_nil, nul, List.length_replicate, f1, f2, f4, f16, hm, hnl]; omega)]; rfl
  ·
    show (AV.tup [], [hdr1 k (AV.sl 1 (((((((xs) ++ [bt 0, bt 1, bt 8, bt 0, bt 6, bt 4]) ++ fldC (hdrC k) 18 2) ++ nul 6) ++ fldC (hdrC k) 19 4) ++ nul 6) ++ fldC (hdrC k) 20 4) (.own [0]))]) = (AV.tup [], [grown (hdrC k) (xs ++ arpL (hdrC k)) [0]])
    have q : (((((((xs) ++ [bt 0, bt 1, bt 8, bt 0, bt 6, bt 4]) ++ fldC (hdrC k) 18 2) ++ nul 6) ++ fldC (hdrC k) 19 4) ++ nul 6) ++ fldC (hdrC k) 20 4) = xs ++ arpL (hdrC k) := by
      unfold arpL
      simp only [List.append_assoc]; rfl
    rw [q]; rfl
end Go.Proofs.Ytdcijmigoefnjaa

/- Chapter 46: a header's frame: the contract. -/
set_option linter.unusedVariables false
set_option linter.unusedSimpArgs false
set_option maxRecDepth 10000000
set_option maxHeartbeats 0
namespace Go.Proofs.Ytdcijmigoefnjaa
open Go Go.Ev

theorem sp98_ok : SpecTL Try.prog sp98 := ⟨s99, s150, spF_ok⟩
theorem spO98_ok : SpecOL Try.prog (spO98 true) := ⟨s154, s155, s156, spO0_ok⟩
theorem bytR_of {xs : List AV} (h : bytB xs = true) (hl : xs.length ≤ 100) : bytR xs = true := by unfold bytR; rw [h, tinyR_iff.2 hl]; rfl
theorem s98 : SumTOk Try.prog 98 (S98 true) := sum0_ok fun cs hx => by
  have hu : hdrU cs = true := hx
  show CallsA Try.prog 98 [.agg cs] [] (Tree.ite (rightH cs) (.leaf (.tup [.sl 1 (layH cs) .sh, .int .i64 0])) (.leaf (.tup [.sl 0 [] .nil, .int .i64 7]))).val []
  have hh := (hdrU_iff.1 hu).1
  rw [isHdr_eq hh] at hu ⊢
  generalize (fun j => (cs.getD j .unk).asInt) = k at hu ⊢
  have fit : (!rightH (hdrC k)) = false → FitN k := fun e => fitN_of hu (right_fits (by simpa using e))
  have val : ∀ l, (!rightH (hdrC k)) = false → layH (hdrC k) = l → (Tree.ite (rightH (hdrC k)) (.leaf (AV.tup [.sl 1 (layH (hdrC k)) .sh, .int .i64 0])) (.leaf (.tup [.sl 0 [] .nil, .int .i64 7]))).val = AV.tup [.sl 1 l .sh, .int .i64 0] := by
    intro l e e2
    have e : rightH (hdrC k) = true := by simpa using e
    rw [e2, e]; rfl
  have T : ∀ b, (!allZ (hdrC k) [AV.int IntKind.i64 5]) = b → allZ (hdrC k) (nI [5]) = !b := fun b e => by
    rw [← e, Bool.not_not]; rfl
  have bt1 : bytB (((fldC (hdrC k) 2 6 ++ fldC (hdrC k) 3 6) ++ ([.int .u8 129, .int .u8 0] ++ numL (tagN (hdrC k)) 2)) ++ fldC (hdrC k) 4 2) = true := by
    simp only [bytB_app, fld_byt, num_byt]; rfl
  have bt2 : bytB ((fldC (hdrC k) 2 6 ++ fldC (hdrC k) 3 6) ++ fldC (hdrC k) 4 2) = true := by
    simp only [bytB_app, fld_byt]; rfl
  refine book_ok.goW (by kernel_rfl) sp98_ok spO98_ok (p98 true k _ ?_ ?_ ?_ ?_ ?_ ?_ ?_ ?_ ?_ ?_ ?_ ?_ ?_ ?_ ?_ ?_ ?_ ?_ ?_ ?_ ?_ ?_ ?_ ?_)
  · exact hu
  · intro e
    have e : rightH (hdrC k) = false := by simpa using e
    rw [e]; rfl
  · intro _
    show (hdrU (hdrC k) && true) = true
    rw [hu]; rfl
  · intro e _
    show (true && (numOk (tagN (hdrC k)) 2 && true)) = true
    rw [tag_ok (fit e)]; rfl
  · intro e _ _
    show (true && bytR (((fldC (hdrC k) 2 6 ++ fldC (hdrC k) 3 6) ++ ([.int .u8 129, .int .u8 0] ++ numL (tagN (hdrC k)) 2)) ++ fldC (hdrC k) 4 2)) = true
    rw [bytR_of bt1 (by show (18 : Nat) ≤ 100; decide)]; rfl
  · intro e t c0
    have t := T _ t
    rw [val ((((fldC (hdrC k) 2 6 ++ fldC (hdrC k) 3 6) ++ ([.int .u8 129, .int .u8 0] ++ numL (tagN (hdrC k)) 2)) ++ fldC (hdrC k) 4 2) ++ fourL (hdrC k)) e (by
      unfold layH tagL bodyH
      simp only [t, c0, Bool.not_true, Bool.not_false, cond_true, cond_false])]; rfl
  · intro e _ _ _
    show (true && (clsB (hdrC k) && true)) = true
    rw [cls_ok (fit e)]; rfl
  · intro e t c0 c1
    have t := T _ t
    rw [val ((((fldC (hdrC k) 2 6 ++ fldC (hdrC k) 3 6) ++ ([.int .u8 129, .int .u8 0] ++ numL (tagN (hdrC k)) 2)) ++ fldC (hdrC k) 4 2) ++ sixL (hdrC k)) e (by
      unfold layH tagL bodyH
      simp only [t, c0, c1, Bool.not_true, Bool.not_false, cond_true, cond_false])]; rfl
  · intro e t c0 c1 c2
    have t := T _ t
    rw [val ((((fldC (hdrC k) 2 6 ++ fldC (hdrC k) 3 6) ++ ([.int .u8 129, .int .u8 0] ++ numL (tagN (hdrC k)) 2)) ++ fldC (hdrC k) 4 2) ++ arpL (hdrC k)) e (by
      unfold layH tagL bodyH
      simp only [t, c0, c1, c2, Bool.not_true, Bool.not_false, cond_true, cond_false])]; rfl
  · intro e _ _ _ _ _
    show (true && (numOk (labN (hdrC k)) 4 && true)) = true
    rw [lab_ok (fit e)]; rfl
  · intro e t c0 c1 c2 c3
    have t := T _ t
    rw [val ((((fldC (hdrC k) 2 6 ++ fldC (hdrC k) 3 6) ++ ([.int .u8 129, .int .u8 0] ++ numL (tagN (hdrC k)) 2)) ++ fldC (hdrC k) 4 2) ++ numL (labN (hdrC k)) 4) e (by
      unfold layH tagL bodyH
      simp only [t, c0, c1, c2, c3, Bool.not_true, Bool.not_false, cond_true, cond_false])]; rfl
  · intro e _ _ _ _ _ _
    show (true && (numOk (labN (hdrC k)) 4 && true)) = true
    rw [lab_ok (fit e)]; rfl
  · intro e t c0 c1 c2 c3 c4
    have t := T _ t
    rw [val ((((fldC (hdrC k) 2 6 ++ fldC (hdrC k) 3 6) ++ ([.int .u8 129, .int .u8 0] ++ numL (tagN (hdrC k)) 2)) ++ fldC (hdrC k) 4 2) ++ numL (labN (hdrC k)) 4) e (by
      unfold layH tagL bodyH
      simp only [t, c0, c1, c2, c3, c4, Bool.not_true, Bool.not_false, cond_true, cond_false])]; rfl
  · intro e t c0 c1 c2 c3 c4
    have t := T _ t
    rw [val ((((fldC (hdrC k) 2 6 ++ fldC (hdrC k) 3 6) ++ ([.int .u8 129, .int .u8 0] ++ numL (tagN (hdrC k)) 2)) ++ fldC (hdrC k) 4 2) ++ []) e (by
      unfold layH tagL bodyH
      simp only [t, c0, c1, c2, c3, c4, Bool.not_true, Bool.not_false, cond_true, cond_false])]; rfl
  · intro e _ _
    show (true && bytR ((fldC (hdrC k) 2 6 ++ fldC (hdrC k) 3 6) ++ fldC (hdrC k) 4 2)) = true
    rw [bytR_of bt2 (by show (14 : Nat) ≤ 100; decide)]; rfl
  · intro e t c0
    have t := T _ t
    rw [val ((((fldC (hdrC k) 2 6 ++ fldC (hdrC k) 3 6) ++ []) ++ fldC (hdrC k) 4 2) ++ fourL (hdrC k)) e (by
      unfold layH tagL bodyH
      simp only [t, c0, Bool.not_true, Bool.not_false, cond_true, cond_false])]; rfl
  · intro e _ _ _
    show (true && (clsB (hdrC k) && true)) = true
    rw [cls_ok (fit e)]; rfl
  · intro e t c0 c1
    have t := T _ t
    rw [val ((((fldC (hdrC k) 2 6 ++ fldC (hdrC k) 3 6) ++ []) ++ fldC (hdrC k) 4 2) ++ sixL (hdrC k)) e (by
      unfold layH tagL bodyH
      simp only [t, c0, c1, Bool.not_true, Bool.not_false, cond_true, cond_false])]; rfl
  · intro e t c0 c1 c2
    have t := T _ t
    rw [val ((((fldC (hdrC k) 2 6 ++ fldC (hdrC k) 3 6) ++ []) ++ fldC (hdrC k) 4 2) ++ arpL (hdrC k)) e (by
      unfold layH tagL bodyH
      simp only [t, c0, c1, c2, Bool.not_true, Bool.not_false, cond_true, cond_false])]; rfl
  · intro e _ _ _ _ _
    show (true && (numOk (labN (hdrC k)) 4 && true)) = true
    rw [lab_ok (fit e)]; rfl
  · intro e t c0 c1 c2 c3
    have t := T _ t
    rw [val ((((fldC (hdrC k) 2 6 ++ fldC (hdrC k) 3 6) ++ []) ++ fldC (hdrC k) 4 2) ++ numL (labN (hdrC k)) 4) e (by
      unfold layH tagL bodyH
      simp only [t, c0, c1, c2, c3, Bool.not_true, Bool.not_false, cond_true, cond_false])]; rfl
  · intro e _ _ _ _ _ _
    show (true && (numOk (labN (hdrC k)) 4 && true)) = true
    rw [lab_ok (fit e)]; rfl
  · intro e t c0 c1 c2 c3 c4
    have t := T _ t
    rw [val ((((fldC (hdrC k) 2 6 ++ fldC (hdrC k) 3 6) ++ []) ++ fldC (hdrC k) 4 2) ++ numL (labN (hdrC k)) 4) e (by
      unfold layH tagL bodyH
      simp only [t, c0, c1, c2, c3, c4, Bool.not_true, Bool.not_false, cond_true, cond_false])]; rfl
  · intro e t c0 c1 c2 c3 c4
    have t := T _ t
    rw [val ((((fldC (hdrC k) 2 6 ++ fldC (hdrC k) 3 6) ++ []) ++ fldC (hdrC k) 4 2) ++ []) e (by
      unfold layH tagL bodyH
      simp only [t, c0, c1, c2, c3, c4, Bool.not_true, Bool.not_false, cond_true, cond_false])]; rfl
end Go.Proofs.Ytdcijmigoefnjaa

/- Chapter 46: the laws' calls. -/
set_option linter.unusedVariables false
set_option linter.unusedSimpArgs false
set_option maxRecDepth 100000
set_option maxHeartbeats 0
namespace Go.Proofs.Ytdcijmigoefnjaa
open Go Go.Ev

theorem four_byt (hs : List AV) : bytB (fourL hs) = true := by
  obtain ⟨s, _, e⟩ := four_eq hs
  have h0 : isB (bt (IntKind.u8.wrap (clsI hs))) = true := isB_wrap _
  unfold fourL
  rw [e]
  simp only [bytB_app, fld_byt, num_byt, in_byt, Bool.and_true]
  show ((true && (isB (bt (IntKind.u8.wrap (clsI hs))) && true)) && _) = true
  rw [h0]; rfl
theorem lay_ok (hs : List AV) : okL (layH hs) = true := by
  have h1 : bytB (layH hs) = true := by
    unfold layH tagL bodyH
    simp only [bytB_app, fld_byt, Bool.true_and, Bool.and_true, Bool.and_eq_true]
    refine ⟨?_, ?_⟩
    · cases allZ hs (nI [5])
      · simp only [Bool.not_false, cond_true, bytB_app, num_byt]; rfl
      · rfl
    · cases ieq (lowH hs 4) 2048
      · cases ieq (lowH hs 4) 34525
        · cases ieq (lowH hs 4) 2054
          · cases (bif ieq (lowH hs 4) 34887 then true else ieq (lowH hs 4) 34888)
            · rfl
            · simp only [cond_true, cond_false, num_byt]
          · simp only [cond_true, cond_false]
            unfold arpL
            simp only [bytB_app, fld_byt, nul_byt, Bool.and_true]; rfl
        · simp only [cond_true, cond_false]
          unfold sixL
          simp only [bytB_app, fld_byt, num_byt, in_byt, Bool.and_true]; rfl
      · exact four_byt hs
  have h2 : (layH hs).length ≤ 300 := by
    have a := in_len hs true; have b := in_len hs false
    have hb : (bodyH hs).length ≤ 100 := by
      unfold bodyH
      cases ieq (lowH hs 4) 2048
      · cases ieq (lowH hs 4) 34525
        · cases ieq (lowH hs 4) 2054
          · cases (bif ieq (lowH hs 4) 34887 then true else ieq (lowH hs 4) 34888)
            · show (0 : Nat) ≤ 100; decide
            · show (4 : Nat) ≤ 100; decide
          · show (28 : Nat) ≤ 100; decide
        · show (sixL hs).length ≤ 100
          unfold sixL
          rw [List.length_append]
          show 40 + (inL hs false).length ≤ 100
          omega
      · show (fourL hs).length ≤ 100
        obtain ⟨s, _, e⟩ := four_eq hs
        unfold fourL
        rw [e, List.length_append]
        show 20 + (inL hs true).length ≤ 100
        omega
    unfold layH tagL
    rw [List.length_append]
    cases allZ hs (nI [5])
    · show 18 + (bodyH hs).length ≤ 300; omega
    · show 14 + (bodyH hs).length ≤ 300; omega
  exact okL_iff.2 ⟨bytB_iff.1 h1, by omega⟩
theorem fno {P : Prop} {x : Bool} (c : x = false) (h : x = true) : P := Bool.noConfusion (c.symm.trans h)
theorem sp100_ok : SpecTL Try.prog [(98, S98 true), (99, S99), (70, S70 true)] := ⟨s98, s99, s70, trivial⟩
theorem s100 : SumTOk Try.prog 100 (sumOf (g0 (.bool true))) := g0_ok (by
  refine book_ok.pth (by kernel_rfl) sp100_ok (p100 true _ ?_ ?_ ?_ ?_ ?_ ?_ ?_ ?_ ?_ ?_ ?_ ?_ ?_)
  · kernel_rfl
  · intro _; kernel_rfl
  · intro _; kernel_rfl
  · intro _ _; kernel_rfl
  · intro _ _; kernel_rfl
  · intro _ _ _; kernel_rfl
  · intro _ _ _; kernel_rfl
  · intro _ _ _; kernel_rfl
  · intro _ _ c; exact fno c (by kernel_rfl)
  · intro _ _; kernel_rfl
  · intro _ c; exact fno c (by kernel_rfl)
  · intro c _; exact fno c (by kernel_rfl)
  · intro c _; exact fno c (by kernel_rfl))
theorem sp23_ok : SpecTL Try.prog (sp23 true) := ⟨s98, s99, s70, s37, s100, trivial⟩
end Go.Proofs.Ytdcijmigoefnjaa

/- Chapter 45: what a frame tells fits its fields. -/
set_option linter.unusedVariables false
set_option linter.unusedSimpArgs false
set_option maxRecDepth 100000
set_option maxHeartbeats 0
namespace Go.Proofs.Ytdcijmigoefnjaa
open Go Go.Ev

/-- no bits beyond the mask -/
def Fit (k : Nat → Int) : Prop := ∀ c, c < 48 → ibits .and .u64 (k c) (maskTab.getD c 0) = k c
def FitV (f : Nat) (v : Int × Int) : Prop := ibits .and .u64 v.1 (maskTab.getD (2 * f) 0) = v.1 ∧ ibits .and .u64 v.2 (maskTab.getD (2 * f + 1) 0) = v.2
theorem fit_set {k : Nat → Int} {f : Nat} {v : Int × Int} (hk : Fit k) (hv : FitV f v) : Fit (setK k f v) := by
  intro c hc
  unfold setK
  cases h : Nat.beq (c / 2) f with
  | false => exact hk c hc
  | true =>
    have e : c / 2 = f := Nat.eq_of_beq_eq_true h
    simp only [cond_true]
    cases h2 : Nat.beq (c % 2) 0 with
    | true =>
      have e2 : c % 2 = 0 := Nat.eq_of_beq_eq_true h2
      obtain rfl : c = 2 * f := by omega
      exact hv.1
    | false =>
      have e2 : c % 2 ≠ 0 := Nat.ne_of_beq_eq_false h2
      obtain rfl : c = 2 * f + 1 := by omega
      exact hv.2
theorem andU {n : Int} {m : Nat} (hm : m ≤ 64) (h0 : 0 ≤ n) (h1 : n < ((2 ^ m : Nat) : Int)) : ibits .and .u64 n ((2 ^ m - 1 : Nat) : Int) = n := by
  obtain ⟨k, rfl⟩ : ∃ k : Nat, n = k := ⟨n.toNat, by omega⟩
  have hp : 2 ^ m ≤ 2 ^ 64 := Nat.pow_le_pow_right (by decide) hm
  have hp0 := Nat.two_pow_pos m
  have hk : k < 2 ^ m := by exact_mod_cast h1
  have hk2 : k < 2 ^ 64 := by omega
  rw [ibits_eq]
  show IntKind.u64.wrap _ = _
  have e : (BitVec.ofInt IntKind.u64.bits (k : Int) &&& BitVec.ofInt IntKind.u64.bits ((2 ^ m - 1 : Nat) : Int)).toNat = k := by
    show (BitVec.ofInt 64 (k : Int) &&& BitVec.ofInt 64 ((2 ^ m - 1 : Nat) : Int)).toNat = _
    rw [BitVec.toNat_and, BitVec.ofInt_natCast, BitVec.ofInt_natCast, BitVec.toNat_ofNat, BitVec.toNat_ofNat, Nat.mod_eq_of_lt hk2, Nat.mod_eq_of_lt (by omega), Nat.and_two_pow_sub_one_eq_mod k m, Nat.mod_eq_of_lt hk]
  rw [e, IntKind.wrap_u64]; omega
theorem and0 : ibits .and .u64 0 0 = 0 := by kernel_rfl
theorem fitv {f m : Nat} {v : Int} (e1 : maskTab.getD (2 * f) 0 = 0) (e2 : maskTab.getD (2 * f + 1) 0 = ((2 ^ m - 1 : Nat) : Int)) (hm : m ≤ 64) (h0 : 0 ≤ v) (h1 : v < ((2 ^ m : Nat) : Int)) : FitV f (0, v) := by
  refine ⟨?_, ?_⟩
  · rw [e1]; exact and0
  · rw [e2]; exact andU hm h0 h1
theorem fit_zero : Fit zeroK := fun c hc => by
  obtain ⟨m, q1, q2⟩ : ∃ m : Nat, maskTab.getD c 0 = m ∧ m < 2 ^ 64 := by
    have h : ((List.range 48).all fun c => ile 0 (maskTab.getD c 0) && ilt (maskTab.getD c 0) 18446744073709551616) = true := by kernel_rfl
    have := List.all_eq_true.1 h c (List.mem_range.2 hc)
    simp only [Bool.and_eq_true, ile_iff', ilt_iff] at this
    exact ⟨(maskTab.getD c 0).toNat, by omega, by omega⟩
  show ibits .and .u64 0 _ = 0
  rw [q1, ibits_eq]
  show IntKind.u64.wrap _ = _
  have e : (BitVec.ofInt IntKind.u64.bits (0 : Int) &&& BitVec.ofInt IntKind.u64.bits (m : Int)).toNat = 0 := by
    show (BitVec.ofInt 64 ((0 : Nat) : Int) &&& BitVec.ofInt 64 (m : Int)).toNat = _
    rw [BitVec.toNat_and, BitVec.ofInt_natCast, BitVec.ofInt_natCast, BitVec.toNat_ofNat, BitVec.toNat_ofNat]
    simp
  rw [e]; rfl

structure FitB (b : B6) : Prop where
  p : 0 ≤ b.1 ∧ b.1 < 4294967296
  t : FitV 2 b.2.1
  f : FitV 3 b.2.2.1
  y : FitV 4 b.2.2.2.1
  v : 0 ≤ b.2.2.2.2.1 ∧ b.2.2.2.2.1 < 8192
  r : 0 ≤ b.2.2.2.2.2 ∧ b.2.2.2.2.2 < 8
theorem fit_base {b : B6} (h : FitB b) : Fit (baseK b) := by
  unfold baseK
  refine fit_set (fit_set (fit_set (fit_set (fit_set (fit_set fit_zero ?_) h.t) h.f) h.y) ?_) ?_
  · exact fitv (m := 32) (by kernel_rfl) (by kernel_rfl) (by omega) h.p.1 (by have := h.p; omega)
  · exact fitv (m := 13) (by kernel_rfl) (by kernel_rfl) (by omega) h.v.1 (by have := h.v; omega)
  · exact fitv (m := 3) (by kernel_rfl) (by kernel_rfl) (by omega) h.r.1 (by have := h.r; omega)
structure FitP (four : Bool) (p : P5) : Prop where
  a : 0 ≤ p.1 ∧ p.1 < 64
  b : 0 ≤ p.2.1 ∧ p.2.1 < 4
  c : 0 ≤ p.2.2.1 ∧ p.2.2.1 < 256
  d : FitV (bif four then 10 else 21) p.2.2.2.1
  e : FitV (bif four then 11 else 22) p.2.2.2.2
theorem fit_ip {b : B6} {four : Bool} {p : P5} (h : FitB b) (hp : FitP four p) : Fit (ipK b four p) := by
  unfold ipK
  refine fit_set (fit_set (fit_set (fit_set (fit_set (fit_base h) ?_) ?_) ?_) hp.d) hp.e
  · exact fitv (m := 6) (by kernel_rfl) (by kernel_rfl) (by omega) hp.a.1 (by have := hp.a; omega)
  · exact fitv (m := 2) (by kernel_rfl) (by kernel_rfl) (by omega) hp.b.1 (by have := hp.b; omega)
  · exact fitv (m := 8) (by kernel_rfl) (by kernel_rfl) (by omega) hp.c.1 (by have := hp.c; omega)
theorem fit_within {k : Nat → Int} {four : Bool} {pr : Int} {xs : List AV} (h : okL xs = true) (hk : Fit k) : Fit (withinK k four pr xs) := by
  have a0 := nv2 h 0
  have a1 := nv2 h 2
  have a2 := nv1 h 0
  have a3 := nv1 h 1
  unfold withinK
  cases ieq pr 6 with
  | true => exact fit_set (fit_set hk (fitv (m := 16) (by kernel_rfl) (by kernel_rfl) (by omega) (by omega) (by omega))) (fitv (m := 16) (by kernel_rfl) (by kernel_rfl) (by omega) (by omega) (by omega))
  | false =>
    cases ieq pr 17 with
    | true => exact fit_set (fit_set hk (fitv (m := 16) (by kernel_rfl) (by kernel_rfl) (by omega) (by omega) (by omega))) (fitv (m := 16) (by kernel_rfl) (by kernel_rfl) (by omega) (by omega) (by omega))
    | false =>
      cases (bif ieq pr 1 then four else false) with
      | true => exact fit_set (fit_set hk (fitv (m := 8) (by kernel_rfl) (by kernel_rfl) (by omega) (by omega) (by omega))) (fitv (m := 8) (by kernel_rfl) (by kernel_rfl) (by omega) (by omega) (by omega))
      | false => exact hk
theorem fit_four {b : B6} {xs : List AV} (hb : FitB b) (h : okL xs = true) : Fit (fourK b xs) := by
  have a0 := nv1 h 1
  have a1 := nv1 h 9
  have a2 := nv4 h 12
  have a3 := nv4 h 16
  have hp : FitP true (fourP xs) := ⟨by unfold fourP; simp only; omega, by unfold fourP; simp only; omega, by unfold fourP; simp only; omega,
    fitv (m := 32) (by kernel_rfl) (by kernel_rfl) (by omega) (by omega) (by omega), fitv (m := 32) (by kernel_rfl) (by kernel_rfl) (by omega) (by omega) (by omega)⟩
  unfold fourK
  cases pieceB xs with
  | true => exact fit_ip hb hp
  | false => exact fit_within (okL_take (okL_drop h _) _) (fit_ip hb hp)
theorem wv_in (xs : List AV) (n : Nat) (h : okL xs = true) (hn : n ≤ 16) : (0 ≤ wvH xs n ∧ wvH xs n < 18446744073709551616) ∧ 0 ≤ wvL xs n ∧ wvL xs n < 18446744073709551616 := by
  have hb := (okL_iff.1 (okL_take h n)).1
  have := valB_lt _ hb
  have h2 : 256 ^ ((xs.take n).length) ≤ 256 ^ 16 := Nat.pow_le_pow_right (by decide) (by rw [List.length_take]; omega)
  have h3 : valB (xs.take n) < 256 ^ 16 := by omega
  unfold wvH wvL
  have h4 : valB (xs.take n) / 18446744073709551616 < 18446744073709551616 := by
    have : (256 : Nat) ^ 16 = 18446744073709551616 * 18446744073709551616 := by decide
    rw [this] at h3
    exact Nat.div_lt_of_lt_mul h3
  have h5 : valB (xs.take n) % 18446744073709551616 < 18446744073709551616 := Nat.mod_lt _ (by decide)
  omega
theorem fit_wide {f : Nat} {xs : List AV} (h : okL xs = true) (e1 : maskTab.getD (2 * f) 0 = ((2 ^ 64 - 1 : Nat) : Int)) (e2 : maskTab.getD (2 * f + 1) 0 = ((2 ^ 64 - 1 : Nat) : Int)) : FitV f (wv xs 16) := by
  obtain ⟨⟨a, b⟩, c, d⟩ := wv_in xs 16 h (by omega)
  unfold wv
  exact ⟨by rw [e1]; exact andU (by omega) a (by omega), by rw [e2]; exact andU (by omega) c (by omega)⟩
theorem fit_six {b : B6} {xs : List AV} (hb : FitB b) (h : okL xs = true) : Fit (sixK b xs) := by
  have a1 := nv1 h 6
  have q0 : 0 ≤ clsN xs ∧ clsN xs < 256 := by unfold clsN; omega
  have hp : FitP false (sixP xs) := ⟨by unfold sixP; simp only; omega, by unfold sixP; simp only; omega, by unfold sixP; simp only; omega,
    fit_wide (okL_drop h 8) (by kernel_rfl) (by kernel_rfl), fit_wide (okL_drop h 24) (by kernel_rfl) (by kernel_rfl)⟩
  exact fit_within (okL_take (okL_drop h _) _) (fit_ip hb hp)
theorem fit_arp {b : B6} {xs : List AV} (hb : FitB b) (h : okL xs = true) : Fit (arpK b xs) := by
  have a0 := nv2 h 6
  have a1 := nv4 h 14
  have a2 := nv4 h 24
  exact fit_set (fit_set (fit_set (fit_base hb) (fitv (m := 16) (by kernel_rfl) (by kernel_rfl) (by omega) (by omega) (by omega))) (fitv (m := 32) (by kernel_rfl) (by kernel_rfl) (by omega) (by omega) (by omega)))
    (fitv (m := 32) (by kernel_rfl) (by kernel_rfl) (by omega) (by omega) (by omega))
theorem fit_lab {b : B6} {xs : List AV} (hb : FitB b) (h : okL xs = true) : Fit (labK b xs) := by
  have a0 := nv4 h 0
  exact fit_set (fit_base hb) (fitv (m := 20) (by kernel_rfl) (by kernel_rfl) (by omega) (by omega) (by omega))
theorem fit_frm {b : B6} {xs : List AV} (hb : FitB b) (h : okL xs = true) : Fit (frmK b xs) := by
  have hr : okL (restX xs) = true := okL_drop h _
  unfold frmK
  cases ieq (typN xs) 2048 with
  | true => exact fit_four hb hr
  | false =>
  cases ieq (typN xs) 34525 with
  | true => exact fit_six hb hr
  | false =>
  cases ieq (typN xs) 2054 with
  | true => exact fit_arp hb hr
  | false =>
  cases (bif ieq (typN xs) 34887 then true else ieq (typN xs) 34888) with
  | true => exact fit_lab hb hr
  | false => exact fit_base hb
theorem port_in {n : Int} (hp : portB n = false) : 1 ≤ n ∧ n ≤ 4294967040 := by
  unfold portB at hp
  cases h1 : ilt n 1 with
  | true => rw [h1] at hp; cases hp
  | false =>
    rw [h1] at hp
    simp only [cond_false] at hp
    rw [ilt_no] at h1 hp; omega
theorem fit_par {n : Int} {xs : List AV} (hp : portB n = false) (h : okL xs = true) : Fit (parK n xs) := by
  have hn := port_in hp
  have a0 := nv6 h 0
  have a1 := nv6 h 6
  have a2 := nv2 h 14
  have ty : 0 ≤ typN xs ∧ typN xs < 65536 := by unfold typN; cases tagB xs <;> exact nv2 h _
  refine fit_frm ⟨by unfold frmB; simp only; omega, fitv (m := 48) (by kernel_rfl) (by kernel_rfl) (by omega) (by omega) (by omega), fitv (m := 48) (by kernel_rfl) (by kernel_rfl) (by omega) (by omega) (by omega),
    fitv (m := 16) (by kernel_rfl) (by kernel_rfl) (by omega) (by omega) (by omega), ?_, ?_⟩ h
  · unfold frmB; cases tagB xs <;> simp only [cond_true, cond_false] <;> omega
  · unfold frmB; cases tagB xs <;> simp only [cond_true, cond_false] <;> omega
end Go.Proofs.Ytdcijmigoefnjaa

/- Chapter 45: what a frame tells fits: the law's call. -/
set_option linter.unusedVariables false
set_option linter.unusedSimpArgs false
set_option maxRecDepth 100000
set_option maxHeartbeats 0
namespace Go.Proofs.Ytdcijmigoefnjaa
open Go Go.Ev

theorem setK_other {k : Nat → Int} {f : Nat} {v : Int × Int} {c : Nat} (h : c / 2 ≠ f) : setK k f v c = k c := by
  unfold setK
  have : Nat.beq (c / 2) f = false := by
    cases h2 : Nat.beq (c / 2) f with
    | false => rfl
    | true => exact absurd (Nat.eq_of_beq_eq_true h2) h
  rw [this]; rfl
theorem low_within {k : Nat → Int} {four : Bool} {pr : Int} {xs : List AV} {c : Nat} (hc : c < 14) : withinK k four pr xs c = k c := by
  unfold withinK
  cases ieq pr 6 with
  | true => exact (setK_other (by omega)).trans (setK_other (by omega))
  | false =>
  cases ieq pr 17 with
  | true => exact (setK_other (by omega)).trans (setK_other (by omega))
  | false =>
  cases (bif ieq pr 1 then four else false) with
  | true => exact (setK_other (by omega)).trans (setK_other (by omega))
  | false => rfl
theorem low_ip {b : B6} {four : Bool} {p : P5} {c : Nat} (hc : c < 14) : ipK b four p c = baseK b c := by
  unfold ipK
  rw [setK_other (by cases four <;> simp only [cond_true, cond_false] <;> omega), setK_other (by cases four <;> simp only [cond_true, cond_false] <;> omega), setK_other (by omega), setK_other (by omega), setK_other (by omega)]
theorem low_frm {b : B6} {xs : List AV} {c : Nat} (hc : c < 14) : frmK b xs c = baseK b c := by
  unfold frmK
  cases ieq (typN xs) 2048 with
  | true =>
    show fourK b (restX xs) c = _
    unfold fourK
    cases pieceB (restX xs) with
    | true => exact low_ip hc
    | false => exact (low_within hc).trans (low_ip hc)
  | false =>
  cases ieq (typN xs) 34525 with
  | true => exact (low_within hc).trans (low_ip hc)
  | false =>
  cases ieq (typN xs) 2054 with
  | true =>
    show arpK b (restX xs) c = _
    unfold arpK; rw [setK_other (by omega), setK_other (by omega), setK_other (by omega)]
  | false =>
  cases (bif ieq (typN xs) 34887 then true else ieq (typN xs) 34888) with
  | true => exact setK_other (by omega)
  | false => rfl
theorem port_ok {n : Int} {xs : List AV} (hz : ieq (parE n xs) 0 = true) : portB n = false := by
  cases hp : portB n with
  | false => rfl
  | true => unfold parE at hz; rw [hp] at hz; cases hz
theorem fits_par {n : Int} {xs : List AV} (h : okL xs = true) (hz : ieq (parE n xs) 0 = true) : fitsC (parC n xs) = true := by
  have hf := fit_par (port_ok hz) h
  unfold fitsC
  have e : clipC (parC n xs) = hdrC (fun c => ibits .and .u64 (parK n xs c) (maskTab.getD c 0)) := rfl
  rw [e]
  have e2 : hdrC (fun c => ibits .and .u64 (parK n xs c) (maskTab.getD c 0)) = parC n xs := hdrC_congr fun c hc => hf c hc
  rw [e2]; exact pairEq_same _
end Go.Proofs.Ytdcijmigoefnjaa

/- Chapter 46: what frames tell may be laid: no program in sight. -/
set_option linter.unusedVariables false
set_option linter.unusedSimpArgs false
set_option maxRecDepth 100000
set_option maxHeartbeats 0
namespace Go.Proofs.Ytdcijmigoefnjaa
open Go Go.Ev

/-- cells beyond some fields are nought -/
def OnlyK (g : Nat → Int) (L : List Nat) : Prop := ∀ c, c / 2 ∉ L → g c = 0
theorem OnlyK.zero : OnlyK zeroK [] := fun _ _ => rfl
theorem OnlyK.set {g : Nat → Int} {L : List Nat} (h : OnlyK g L) {f : Nat} {v : Int × Int} : OnlyK (setK g f v) (f :: L) := fun c hc =>
  (setK_other (fun e => hc (by rw [e]; exact List.mem_cons_self))).trans (h c (fun hm => hc (List.mem_cons_of_mem _ hm)))
theorem OnlyK.zf {g : Nat → Int} {L : List Nat} (h : OnlyK g L) {f : Nat} (hf : f ∉ L) : ZF g f := ⟨h _ (by rw [show 2 * f / 2 = f by omega]; exact hf), h _ (by rw [show (2 * f + 1) / 2 = f by omega]; exact hf)⟩
theorem OnlyK.mono {g : Nat → Int} {L M : List Nat} (h : OnlyK g L) (hm : ∀ i, i ∈ L → i ∈ M) : OnlyK g M := fun c hc => h c (fun h => hc (hm _ h))
def baseT : List Nat := [6, 5, 4, 3, 2, 0]
def ipT (f : Bool) : List Nat := (bif f then 11 else 22) :: (bif f then 10 else 21) :: 9 :: 8 :: 7 :: baseT
def wT (four : Bool) (pr : Int) : List Nat := bif ieq pr 6 then [13, 12] else bif ieq pr 17 then [15, 14] else bif (bif ieq pr 1 then four else false) then [17, 16] else []
theorem only_base (b : B6) : OnlyK (baseK b) baseT := OnlyK.zero.set.set.set.set.set.set
theorem only_ip (b : B6) (f : Bool) (p : P5) : OnlyK (ipK b f p) (ipT f) := (only_base b).set.set.set.set.set
theorem only_within {k : Nat → Int} {L : List Nat} (h : OnlyK k L) (four : Bool) (pr : Int) (xs : List AV) : OnlyK (withinK k four pr xs) (wT four pr ++ L) := by
  unfold withinK wT
  cases ieq pr 6 with
  | true => exact h.set.set
  | false =>
  cases ieq pr 17 with
  | true => exact h.set.set
  | false =>
  cases (bif ieq pr 1 then four else false) with
  | true => exact h.set.set
  | false => exact h
theorem only_four (b : B6) (xs : List AV) : OnlyK (fourK b xs) (wT true (nv xs 9 1) ++ ipT true) := by
  unfold fourK
  cases pieceB xs with
  | true => exact (only_ip b true _).mono fun i hi => List.mem_append_right _ hi
  | false => exact only_within (only_ip b true _) _ _ _
theorem only_six (b : B6) (xs : List AV) : OnlyK (sixK b xs) (wT false (nv xs 6 1) ++ ipT false) := only_within (only_ip b false _) _ _ _
theorem only_arp (b : B6) (xs : List AV) : OnlyK (arpK b xs) (20 :: 19 :: 18 :: baseT) := (only_base b).set.set.set
theorem only_lab (b : B6) (xs : List AV) : OnlyK (labK b xs) (23 :: baseT) := (only_base b).set
theorem keep_within {k : Nat → Int} {four : Bool} {pr : Int} {xs : List AV} {c : Nat} (hc : c < 24) : withinK k four pr xs c = k c := by
  unfold withinK
  cases ieq pr 6 with
  | true => exact (setK_other (by omega)).trans (setK_other (by omega))
  | false =>
  cases ieq pr 17 with
  | true => exact (setK_other (by omega)).trans (setK_other (by omega))
  | false =>
  cases (bif ieq pr 1 then four else false) with
  | true => exact (setK_other (by omega)).trans (setK_other (by omega))
  | false => rfl
theorem pr_ip (b : B6) (f : Bool) (p : P5) : ipK b f p 19 = p.2.2.1 := by cases f <;> rfl
theorem pr_four (b : B6) (xs : List AV) : fourK b xs 19 = nv xs 9 1 := by
  unfold fourK
  cases pieceB xs with
  | true => exact pr_ip ..
  | false => exact (keep_within (by decide)).trans (pr_ip ..)
theorem pr_six (b : B6) (xs : List AV) : sixK b xs 19 = nv xs 6 1 := (keep_within (by decide)).trans (pr_ip ..)
theorem wT_mem {f : Bool} {pr : Int} {i : Nat} (h : i ∈ wT f pr) : (pr = 6 ∧ (i = 12 ∨ i = 13)) ∨ (pr = 17 ∧ (i = 14 ∨ i = 15)) ∨ (pr = 1 ∧ f = true ∧ (i = 16 ∨ i = 17)) := by
  unfold wT at h
  cases h6 : ieq pr 6 with
  | true => rw [h6] at h; have := ie1 h6; simp at h; exact .inl ⟨this, by omega⟩
  | false =>
  rw [h6] at h
  cases h17 : ieq pr 17 with
  | true => rw [h17] at h; have := ie1 h17; simp at h; exact .inr (.inl ⟨this, by omega⟩)
  | false =>
  rw [h17] at h
  cases h1 : ieq pr 1 with
  | true =>
    rw [h1] at h
    cases f with
    | true => have := ie1 h1; simp at h; exact .inr (.inr ⟨this, rfl, by omega⟩)
    | false => simp at h
  | false => rw [h1] at h; simp at h
/-- numbers in range -/
theorem fitN_fit {k : Nat → Int} (h : Fit k) : FitN k := by
  intro c hc
  have e := h c hc
  have hi : inU (k c) = true := by
    rw [inU_iff, ← e, ibits_eq]
    show 0 ≤ IntKind.u64.wrap _ ∧ IntKind.u64.wrap _ < _
    rw [IntKind.wrap_u64]; omega
  obtain ⟨m, hm, hm2⟩ := mask_at hc
  refine ⟨(inU_iff.1 hi).1, ?_⟩
  have := and_le hi (m := maskTab.getD c 0) (by rw [hm, inU_iff]; omega)
  rw [e] at this; exact this
theorem hdrU_fit {k : Nat → Int} (h : FitN k) : hdrU (hdrC k) = true := by
  refine hdrU_iff.2 ⟨rfl, fun v hv => ?_⟩
  obtain ⟨c, hc, rfl⟩ := List.mem_iff_getElem.1 hv
  have hc : c < 48 := hc
  have e := hdr_get k hc
  rw [List.getElem?_eq_getElem (show c < (hdrC k).length from hc)] at e
  rw [Option.some.inj e]
  obtain ⟨m, hm, hm2⟩ := mask_at hc
  have := h c hc
  show inU (k c) = true
  rw [inU_iff]; omega
/-- zero fields -/
theorem allZ_of {k : Nat → Int} {l : List Int} (h : ∀ i ∈ l, isF i = true ∧ ZF k i.toNat) : allZ (hdrC k) (nI l) = true := by
  unfold allZ nI
  rw [List.all_eq_true]
  intro v hv
  obtain ⟨i, hi, rfl⟩ := List.mem_map.1 hv
  obtain ⟨hf, z1, z2⟩ := h i hi
  unfold zeroH1
  rw [show (AV.int IntKind.i64 i).asInt = i from rfl, getH_hdr k hf, Nat.mul_comm, z1, z2]; rfl
theorem bm {b z x : Bool} (h1 : b = true → z = true) (h2 : x = true) : (bif (bif b then !z else false) then false else x) = true := by
  cases b <;> cases z <;> simp_all
theorem right_of {k : Nat → Int} (hf : FitN k) (hc : fitsC (hdrC k) = true) (r : Rt k) (h0 : ilt (lowH (hdrC k) 0) 1 = false) (h1 : ilt 4294967040 (lowH (hdrC k) 0) = false) (ht : taggedH (hdrC k) = true) : rightH (hdrC k) = true := by
  have one : ∀ {a : Nat} , isF (a : Int) = true → ZF k a → ∀ i : Int, i = (a : Int) → isF i = true ∧ ZF k i.toNat := fun ha hz i e => by subst e; exact ⟨ha, hz⟩
  have l2 : ∀ {a b : Nat}, isF (a : Int) = true → isF (b : Int) = true → ZF k a → ZF k b → allZ (hdrC k) (nI [(a : Int), (b : Int)]) = true := fun ha hb za zb => allZ_of fun i hi => by
    simp only [List.mem_cons, List.not_mem_nil, or_false] at hi
    rcases hi with e | e
    · exact one ha za i e
    · exact one hb zb i e
  have l3 : ∀ {a b c : Nat}, isF (a : Int) = true → isF (b : Int) = true → isF (c : Int) = true → ZF k a → ZF k b → ZF k c → allZ (hdrC k) (nI [(a : Int), (b : Int), (c : Int)]) = true := fun ha hb hc za zb zc => allZ_of fun i hi => by
    simp only [List.mem_cons, List.not_mem_nil, or_false] at hi
    rcases hi with e | e | e
    · exact one ha za i e
    · exact one hb zb i e
    · exact one hc zc i e
  have l1 : ∀ {a : Nat}, isF (a : Int) = true → ZF k a → allZ (hdrC k) (nI [(a : Int)]) = true := fun ha za => allZ_of fun i hi => by
    simp only [List.mem_cons, List.not_mem_nil, or_false] at hi
    exact one ha za i hi
  have ru : routedH (hdrC k) = true := by
    unfold routedH
    refine bm (fun e => ?_) (bm (fun e => ?_) (bm (fun e => ?_) (bm (fun e => ?_) (bm (fun e => ?_) ?_))))
    · have := r.ip e
      exact l3 (a := 7) (b := 8) (c := 9) rfl rfl rfl this.1 this.2.1 this.2.2
    · have := r.f4 (by simpa using e)
      exact l2 (a := 10) (b := 11) rfl rfl this.1 this.2
    · have := r.f6 (by simpa using e)
      exact l2 (a := 21) (b := 22) rfl rfl this.1 this.2
    · have := r.t (by
        cases h6 : ieq (lowH (hdrC k) 9) 6 with
        | true => rw [h6] at e; exact .inr e
        | false => exact .inl (ie' h6))
      exact l2 (a := 12) (b := 13) rfl rfl this.1 this.2
    · have := r.u (by
        cases h6 : ieq (lowH (hdrC k) 9) 17 with
        | true => rw [h6] at e; exact .inr e
        | false => exact .inl (ie' h6))
      exact l2 (a := 14) (b := 15) rfl rfl this.1 this.2
    · cases h6 : ieq (lowH (hdrC k) 9) 1 with
      | true =>
        cases h4 : four46 (hdrC k) with
        | true => rfl
        | false => have := r.i (.inr h4); exact l2 (a := 16) (b := 17) rfl rfl this.1 this.2
      | false => have := r.i (.inl (ie' h6)); exact l2 (a := 16) (b := 17) rfl rfl this.1 this.2
  have z1 : allZ (hdrC k) (nI [1]) = true := l1 (a := 1) rfl r.z1
  unfold rightH
  rw [hc, h0, h1, z1, ht, ru]
  simp only [Bool.not_true, cond_false, cond_true]
  refine bm (fun e => ?_) (bm (fun e => ?_) rfl)
  · have := r.a (ie' (by simpa using e))
    exact l3 (a := 18) (b := 19) (c := 20) rfl rfl rfl this.1 this.2.1 this.2.2
  · have hh : ieq (lowH (hdrC k) 4) 34887 = false ∧ ieq (lowH (hdrC k) 4) 34888 = false := by
      generalize ieq (lowH (hdrC k) 4) 34887 = x at e
      generalize ieq (lowH (hdrC k) 4) 34888 = y at e
      cases x <;> cases y <;> first | exact ⟨rfl, rfl⟩ | exact absurd e (by decide)
    have := r.l (ie' hh.1) (ie' hh.2)
    exact l1 (a := 23) rfl this
end Go.Proofs.Ytdcijmigoefnjaa
