import Derived.Test.YtdcijmigoefnjaaL46c
import Derived.Test.YtdcijmigoefnjaaP46d
import Derived.Test.YtdcijmigoefnjaaL45b
import Derived.Test.YtdcijmigoefnjaaP46e
import Derived.Test.YtdcijmigoefnjaaPlK5
import Derived.Test.YtdcijmigoefnjaaL45e
import Derived.Test.YtdcijmigoefnjaaD03
import Derived.Test.YtdcijmigoefnjaaL10h
import Derived.Test.YtdcijmigoefnjaaL04b
import Derived.Test.YtdcijmigoefnjaaEvLa
/- Chapter 46: packets of the other kinds: contracts. -/
set_option linter.unusedVariables false
set_option linter.unusedSimpArgs false
set_option maxRecDepth 100000
set_option maxHeartbeats 0
namespace Go.Proofs.Ytdcijmigoefnjaa
open Go Go.Ev

theorem s155 : SumOOk Try.prog 155 (S155 true) := sumO_ok (fun _ _ _ _ h => h) fun x hx => by
  obtain ⟨hs, xs⟩ := x
  simp only [Bool.and_eq_true] at hx
  obtain ⟨hh, hc, hxl⟩ := hx
  rw [tinyR_iff] at hxl
  have hxl : xs.length ≤ 100 := hxl
  have hc : clsB hs = true := hc
  show CallsO Try.prog 155 [.ptr 1000 0] (grown hs xs []) (.tup []) (grown hs (xs ++ sixL hs) [0])
  rw [isHdr_eq hh] at hc ⊢
  generalize (fun j => (hs.getD j .unk).asInt) = k at hc ⊢
  have hc : numOk (ishl .i64 (ibits .or .i64 1536 (clsI (hdrC k))) 20) 4 = true := hc
  have hin := in_len (hdrC k) false
  have fl : ∀ i n, 0 ≤ n → n ≤ 16 → (fldC (hdrC k) i n).length = n.toNat := fun i n h0 h => fld_len _ h0 h
  have f1 : ∀ i, (fldC (hdrC k) i 1).length = 1 := fun i => fl i 1 (by decide) (by decide)
  have f2 : ∀ i, (fldC (hdrC k) i 2).length = 2 := fun i => fl i 2 (by decide) (by decide)
  have f4 : ∀ i, (fldC (hdrC k) i 4).length = 4 := fun i => fl i 4 (by decide) (by decide)
  have f16 : ∀ i, (fldC (hdrC k) i 16).length = 16 := fun i => fl i 16 (by decide) (by decide)
  refine book_ok.goO (by kernel_rfl) spG_ok spO0_ok (p155 true k xs _ ?_ ?_ ?_ ?_ ?_ ?_ ?_ ?_ ?_ ?_ ?_ ?_ ?_ ?_ ?_ ?_)
  · intro e
    have hm : (numL ((inL (hdrC k) false).length : Int) 2).length = 2 := rfl
    have hnl : (numL (ishl .i64 (ibits .or .i64 1536 (clsI (hdrC k))) 20) 4).length = 4 := rfl
    show (true && (numOk (ishl .i64 (ibits .or .i64 1536 (clsI (hdrC k))) 20) 4 && tinyB xs)) = true
    rw [hc, tl (by omega)]; rfl
  · intro e
    have hm : (numL ((inL (hdrC k) false).length : Int) 2).length = 2 := rfl
    have hnl : (numL (ishl .i64 (ibits .or .i64 1536 (clsI (hdrC k))) 20) 4).length = 4 := rfl
    show (true && (numOk ((inL (hdrC k) false).length : Int) 2 && tinyB ((xs) ++ numL (ishl .i64 (ibits .or .i64 1536 (clsI (hdrC k))) 20) 4))) = true
    rw [num2_ok (by omega) (by omega), tl (by simp only [List.length_append, List.length_cons, List.length_nil, nul, List.length_replicate, f1, f2, f4, f16, hm, hnl]; omega)]; rfl
  · intro e
    have hm : (numL ((inL (hdrC k) false).length : Int) 2).length = 2 := rfl
    have hnl : (numL (ishl .i64 (ibits .or .i64 1536 (clsI (hdrC k))) 20) 4).length = 4 := rfl
    show (true && (true && (true && tinyB (((xs) ++ numL (ishl .i64 (ibits .or .i64 1536 (clsI (hdrC k))) 20) 4) ++ numL ((inL (hdrC k) false).length : Int) 2)))) = true
    rw [tl (by simp only [List.length_append, List.length_cons, List.length_nil, nul, List.length_replicate, f1, f2, f4, f16, hm, hnl]; omega)]; rfl
  · intro e
    have hm : (numL ((inL (hdrC k) false).length : Int) 2).length = 2 := rfl
    have hnl : (numL (ishl .i64 (ibits .or .i64 1536 (clsI (hdrC k))) 20) 4).length = 4 := rfl
    show (true && (tinyB ((((xs) ++ numL (ishl .i64 (ibits .or .i64 1536 (clsI (hdrC k))) 20) 4) ++ numL ((inL (hdrC k) false).length : Int) 2) ++ fldC (hdrC k) 9 1) && true)) = true
    rw [tl (by simp only [List.length_append, List.length_cons, List.length_nil, nul, List.length_replicate, f1, f2, f4, f16, hm, hnl]; omega)]; rfl
  · intro e
    have hm : (numL ((inL (hdrC k) false).length : Int) 2).length = 2 := rfl
    have hnl : (numL (ishl .i64 (ibits .or .i64 1536 (clsI (hdrC k))) 20) 4).length = 4 := rfl
    show (true && (true && (true && tinyB (((((xs) ++ numL (ishl .i64 (ibits .or .i64 1536 (clsI (hdrC k))) 20) 4) ++ numL ((inL (hdrC k) false).length : Int) 2) ++ fldC (hdrC k) 9 1) ++ [bt 64])))) = true
    rw [tl (by simp only [List.length_append, List.length_cons, List.length_nil, nul, List.length_replicate, f1, f2, f4, f16, hm, hnl]; omega)]; rfl
  · intro e
    have hm : (numL ((inL (hdrC k) false).length : Int) 2).length = 2 := rfl
    have hnl : (numL (ishl .i64 (ibits .or .i64 1536 (clsI (hdrC k))) 20) 4).length = 4 := rfl
    show (true && (true && (true && tinyB ((((((xs) ++ numL (ishl .i64 (ibits .or .i64 1536 (clsI (hdrC k))) 20) 4) ++ numL ((inL (hdrC k) false).length : Int) 2) ++ fldC (hdrC k) 9 1) ++ [bt 64]) ++ fldC (hdrC k) 21 16)))) = true
    rw [tl (by simp only [List.length_append, List.length_cons, List.length_nil, nul, List.length_replicate, f1, f2, f4, f16, hm, hnl]; omega)]; rfl
  · intro e
    have hm : (numL ((inL (hdrC k) false).length : Int) 2).length = 2 := rfl
    have hnl : (numL (ishl .i64 (ibits .or .i64 1536 (clsI (hdrC k))) 20) 4).length = 4 := rfl
    show (true && (tinyB (((((((xs) ++ numL (ishl .i64 (ibits .or .i64 1536 (clsI (hdrC k))) 20) 4) ++ numL ((inL (hdrC k) false).length : Int) 2) ++ fldC (hdrC k) 9 1) ++ [bt 64]) ++ fldC (hdrC k) 21 16) ++ fldC (hdrC k) 22 16) && tinyB (inL (hdrC k) false))) = true
    rw [tl (by simp only [List.length_append, List.length_cons, List.length_nil, nul, List.length_replicate, f1, f2, f4, f16, hm, hnl]; omega), tl (by omega)]; rfl
  · intro e
    have hm : (numL ((inL (hdrC k) false).length : Int) 2).length = 2 := rfl
    have hnl : (numL (ishl .i64 (ibits .or .i64 1536 (clsI (hdrC k))) 20) 4).length = 4 := rfl
    show (AV.tup [], [hdr1 k (AV.sl 1 ((((((((xs) ++ numL (ishl .i64 (ibits .or .i64 1536 (clsI (hdrC k))) 20) 4) ++ numL ((inL (hdrC k) false).length : Int) 2) ++ fldC (hdrC k) 9 1) ++ [bt 64]) ++ fldC (hdrC k) 21 16) ++ fldC (hdrC k) 22 16) ++ inL (hdrC k) false) (.own [0]))]) = (AV.tup [], [grown (hdrC k) (xs ++ sixL (hdrC k)) [0]])
    have q : (((((((xs) ++ numL (ishl .i64 (ibits .or .i64 1536 (clsI (hdrC k))) 20) 4) ++ numL ((inL (hdrC k) false).length : Int) 2) ++ fldC (hdrC k) 9 1) ++ [bt 64]) ++ fldC (hdrC k) 21 16) ++ fldC (hdrC k) 22 16) ++ inL (hdrC k) false = xs ++ sixL (hdrC k) := by
      unfold sixL
      simp only [List.append_assoc]; rfl
    rw [q]; rfl
  · intro e
    have hno := in_no e
    have hm : ([bt 0, bt 0]).length = 2 := rfl
    have hnl : (numL (ishl .i64 (ibits .or .i64 1536 (clsI (hdrC k))) 20) 4).length = 4 := rfl
    show (true && (numOk (ishl .i64 (ibits .or .i64 1536 (clsI (hdrC k))) 20) 4 && tinyB xs)) = true
    rw [hc, tl (by omega)]; rfl
  · intro e
    have hno := in_no e
    have hm : ([bt 0, bt 0]).length = 2 := rfl
    have hnl : (numL (ishl .i64 (ibits .or .i64 1536 (clsI (hdrC k))) 20) 4).length = 4 := rfl
    show (true && (true && tinyB ((xs) ++ numL (ishl .i64 (ibits .or .i64 1536 (clsI (hdrC k))) 20) 4))) = true
    rw [tl (by simp only [List.length_append, List.length_cons, List.length_nil, nul, List.length_replicate, f1, f2, f4, f16, hm, hnl]; omega)]; rfl
  · intro e
    have hno := in_no e
    have hm : ([bt 0, bt 0]).length = 2 := rfl
    have hnl : (numL (ishl .i64 (ibits .or .i64 1536 (clsI (hdrC k))) 20) 4).length = 4 := rfl
    show (true && (true && (true && tinyB (((xs) ++ numL (ishl .i64 (ibits .or .i64 1536 (clsI (hdrC k))) 20) 4) ++ [bt 0, bt 0])))) = true
    rw [tl (by simp only [List.length_append, List.length_cons, List.length_nil, nul, List.length_replicate, f1, f2, f4, f16, hm, hnl]; omega)]; rfl
  · intro e
    have hno := in_no e
    have hm : ([bt 0, bt 0]).length = 2 := rfl
    have hnl : (numL (ishl .i64 (ibits .or .i64 1536 (clsI (hdrC k))) 20) 4).length = 4 := rfl
    show (true && (tinyB ((((xs) ++ numL (ishl .i64 (ibits .or .i64 1536 (clsI (hdrC k))) 20) 4) ++ [bt 0, bt 0]) ++ fldC (hdrC k) 9 1) && true)) = true
    rw [tl (by simp only [List.length_append, List.length_cons, List.length_nil, nul, List.length_replicate, f1, f2, f4, f16, hm, hnl]; omega)]; rfl
  · intro e
    have hno := in_no e
    have hm : ([bt 0, bt 0]).length = 2 := rfl
    have hnl : (numL (ishl .i64 (ibits .or .i64 1536 (clsI (hdrC k))) 20) 4).length = 4 := rfl
    show (true && (true && (true && tinyB (((((xs) ++ numL (ishl .i64 (ibits .or .i64 1536 (clsI (hdrC k))) 20) 4) ++ [bt 0, bt 0]) ++ fldC (hdrC k) 9 1) ++ [bt 64])))) = true
    rw [tl (by simp only [List.length_append, List.length_cons, List.length_nil, nul, List.length_replicate, f1, f2, f4, f16, hm, hnl]; omega)]; rfl
  · intro e
    have hno := in_no e
    have hm : ([bt 0, bt 0]).length = 2 := rfl
    have hnl : (numL (ishl .i64 (ibits .or .i64 1536 (clsI (hdrC k))) 20) 4).length = 4 := rfl
    show (true && (true && (true && tinyB ((((((xs) ++ numL (ishl .i64 (ibits .or .i64 1536 (clsI (hdrC k))) 20) 4) ++ [bt 0, bt 0]) ++ fldC (hdrC k) 9 1) ++ [bt 64]) ++ fldC (hdrC k) 21 16)))) = true
    rw [tl (by simp only [List.length_append, List.length_cons, List.length_nil, nul, List.length_replicate, f1, f2, f4, f16, hm, hnl]; omega)]; rfl
  · intro e
    have hno := in_no e
    have hm : ([bt 0, bt 0]).length = 2 := rfl
    have hnl : (numL (ishl .i64 (ibits .or .i64 1536 (clsI (hdrC k))) 20) 4).length = 4 := rfl
    show (true && (tinyB (((((((xs) ++ numL (ishl .i64 (ibits .or .i64 1536 (clsI (hdrC k))) 20) 4) ++ [bt 0, bt 0]) ++ fldC (hdrC k) 9 1) ++ [bt 64]) ++ fldC (hdrC k) 21 16) ++ fldC (hdrC k) 22 16) && true)) = true
    rw [tl (by simp only [List.length_append, List.length_cons, List.length_nil, nul, List.length_replicate, f1, f2, f4, f16, hm, hnl]; omega)]; rfl
  · intro e
    have hno := in_no e
    have hm : ([bt 0, bt 0]).length = 2 := rfl
    have hnl : (numL (ishl .i64 (ibits .or .i64 1536 (clsI (hdrC k))) 20) 4).length = 4 := rfl
    show (AV.tup [], [hdr1 k (AV.sl 1 ((((((((xs) ++ numL (ishl .i64 (ibits .or .i64 1536 (clsI (hdrC k))) 20) 4) ++ [bt 0, bt 0]) ++ fldC (hdrC k) 9 1) ++ [bt 64]) ++ fldC (hdrC k) 21 16) ++ fldC (hdrC k) 22 16) ++ []) (.own [0]))]) = (AV.tup [], [grown (hdrC k) (xs ++ sixL (hdrC k)) [0]])
    have q : (((((((xs) ++ numL (ishl .i64 (ibits .or .i64 1536 (clsI (hdrC k))) 20) 4) ++ [bt 0, bt 0]) ++ fldC (hdrC k) 9 1) ++ [bt 64]) ++ fldC (hdrC k) 21 16) ++ fldC (hdrC k) 22 16) ++ [] = xs ++ sixL (hdrC k) := by
      unfold sixL
      rw [hno]
      simp only [List.append_assoc]; rfl
    rw [q]; rfl
theorem s156 : SumOOk Try.prog 156 (S156 true) := sumO_ok (fun _ _ _ _ h => h) fun x hx => by
  obtain ⟨hs, xs⟩ := x
  simp only [Bool.and_eq_true] at hx
  obtain ⟨hh, hxl⟩ := hx
  rw [tinyR_iff] at hxl
  have hxl : xs.length ≤ 100 := hxl
  show CallsO Try.prog 156 [.ptr 1000 0] (grown hs xs []) (.tup []) (grown hs (xs ++ arpL hs) [0])
  rw [isHdr_eq hh]
  generalize (fun j => (hs.getD j .unk).asInt) = k
  have hm : True := trivial
  have hnl : True := trivial
  have fl : ∀ i n, 0 ≤ n → n ≤ 16 → (fldC (hdrC k) i n).length = n.toNat := fun i n h0 h => fld_len _ h0 h
  have f1 : ∀ i, (fldC (hdrC k) i 1).length = 1 := fun i => fl i 1 (by decide) (by decide)
  have f2 : ∀ i, (fldC (hdrC k) i 2).length = 2 := fun i => fl i 2 (by decide) (by decide)
  have f4 : ∀ i, (fldC (hdrC k) i 4).length = 4 := fun i => fl i 4 (by decide) (by decide)
  have f16 : ∀ i, (fldC (hdrC k) i 16).length = 16 := fun i => fl i 16 (by decide) (by decide)
  refine book_ok.goO (by kernel_rfl) spF_ok spO0_ok (p156 k xs _ ?_ ?_ ?_ ?_ ?_ ?_ ?_)
  ·
    show (true && (tinyB xs && true)) = true
    rw [tl (by omega)]; rfl
  ·
    show (true && (true && (true && tinyB ((xs) ++ [bt 0, bt 1, bt 8, bt 0, bt 6, bt 4])))) = true
    rw [tl (by simp only [List.length_append, List.length_cons, List.length_nil, nul, List.length_replicate, f1, f2, f4, f16, hm, hnl]; omega)]; rfl
  ·
    show (true && (tinyB (((xs) ++ [bt 0, bt 1, bt 8, bt 0, bt 6, bt 4]) ++ fldC (hdrC k) 18 2) && true)) = true
    rw [tl (by simp only [List.length_append, List.length_cons, List.length_nil, nul, List.length_replicate, f1, f2, f4, f16, hm, hnl]; omega)]; rfl
  ·
    show (true && (true && (true && tinyB ((((xs) ++ [bt 0, bt 1, bt 8, bt 0, bt 6, bt 4]) ++ fldC (hdrC k) 18 2) ++ nul 6)))) = true
    rw [tl (by simp only [List.length_append, List.length_cons, List.length_nil, nul, List.length_replicate, f1, f2, f4, f16, hm, hnl]; omega)]; rfl
  ·
    show (true && (tinyB (((((xs) ++ [bt 0, bt 1, bt 8, bt 0, bt 6, bt 4]) ++ fldC (hdrC k) 18 2) ++ nul 6) ++ fldC (hdrC k) 19 4) && true)) = true
    rw [tl (by simp only [List.length_append, List.length_cons, List.length_nil, nul, List.length_replicate, f1, f2, f4, f16, hm, hnl]; omega)]; rfl
  ·
    show (true && (true && (true && tinyB ((((((xs) ++ [bt 0, bt 1, bt 8, bt 0, bt 6, bt 4]) ++ fldC (hdrC k) 18 2) ++ nul 6) ++ fldC (hdrC k) 19 4) ++ nul 6)))) = true
    rw [tl (by simp only [List.length_append, List.length_cons, List.length_nil, nul, List.length_replicate, f1, f2, f4, f16, hm, hnl]; omega)]; rfl
  ·
    show (AV.tup [], [hdr1 k (AV.sl 1 (((((((xs) ++ [bt 0, bt 1, bt 8, bt 0, bt 6, bt 4]) ++ fldC (hdrC k) 18 2) ++ nul 6) ++ fldC (hdrC k) 19 4) ++ nul 6) ++ fldC (hdrC k) 20 4) (.own [0]))]) = (AV.tup [], [grown (hdrC k) (xs ++ arpL (hdrC k)) [0]])
    have q : (((((((xs) ++ [bt 0, bt 1, bt 8, bt 0, bt 6, bt 4]) ++ fldC (hdrC k) 18 2) ++ nul 6) ++ fldC (hdrC k) 19 4) ++ nul 6) ++ fldC (hdrC k) 20 4) = xs ++ arpL (hdrC k) := by
      unfold arpL
      simp only [List.append_assoc]; rfl
    rw [q]; rfl
end Go.Proofs.Ytdcijmigoefnjaa

/- Chapter 46: a header's frame: the contract. -/
set_option linter.unusedVariables false
set_option linter.unusedSimpArgs false
set_option maxRecDepth 10000000
set_option maxHeartbeats 0
namespace Go.Proofs.Ytdcijmigoefnjaa
open Go Go.Ev

theorem sp98_ok : SpecTL Try.prog sp98 := ⟨s99, s150, spF_ok⟩
theorem spO98_ok : SpecOL Try.prog (spO98 true) := ⟨s154, s155, s156, spO0_ok⟩
theorem bytR_of {xs : List AV} (h : bytB xs = true) (hl : xs.length ≤ 100) : bytR xs = true := by unfold bytR; rw [h, tinyR_iff.2 hl]; rfl
theorem s98 : SumTOk Try.prog 98 (S98 true) := sum0_ok fun cs hx => by
  have hu : hdrU cs = true := hx
  show CallsA Try.prog 98 [.agg cs] [] (Tree.ite (rightH cs) (.leaf (.tup [.sl 1 (layH cs) .sh, .int .i64 0])) (.leaf (.tup [.sl 0 [] .nil, .int .i64 7]))).val []
  have hh := (hdrU_iff.1 hu).1
  rw [isHdr_eq hh] at hu ⊢
  generalize (fun j => (cs.getD j .unk).asInt) = k at hu ⊢
  have fit : (!rightH (hdrC k)) = false → FitN k := fun e => fitN_of hu (right_fits (by simpa using e))
  have val : ∀ l, (!rightH (hdrC k)) = false → layH (hdrC k) = l → (Tree.ite (rightH (hdrC k)) (.leaf (AV.tup [.sl 1 (layH (hdrC k)) .sh, .int .i64 0])) (.leaf (.tup [.sl 0 [] .nil, .int .i64 7]))).val = AV.tup [.sl 1 l .sh, .int .i64 0] := by
    intro l e e2
    have e : rightH (hdrC k) = true := by simpa using e
    rw [e2, e]; rfl
  have T : ∀ b, (!allZ (hdrC k) [AV.int IntKind.i64 5]) = b → allZ (hdrC k) (nI [5]) = !b := fun b e => by
    rw [← e, Bool.not_not]; rfl
  have bt1 : bytB (((fldC (hdrC k) 2 6 ++ fldC (hdrC k) 3 6) ++ ([.int .u8 129, .int .u8 0] ++ numL (tagN (hdrC k)) 2)) ++ fldC (hdrC k) 4 2) = true := by
    simp only [bytB_app, fld_byt, num_byt]; rfl
  have bt2 : bytB ((fldC (hdrC k) 2 6 ++ fldC (hdrC k) 3 6) ++ fldC (hdrC k) 4 2) = true := by
    simp only [bytB_app, fld_byt]; rfl
  refine book_ok.goW (by kernel_rfl) sp98_ok spO98_ok (p98 true k _ ?_ ?_ ?_ ?_ ?_ ?_ ?_ ?_ ?_ ?_ ?_ ?_ ?_ ?_ ?_ ?_ ?_ ?_ ?_ ?_ ?_ ?_ ?_ ?_)
  · exact hu
  · intro e
    have e : rightH (hdrC k) = false := by simpa using e
    rw [e]; rfl
  · intro _
    show (hdrU (hdrC k) && true) = true
    rw [hu]; rfl
  · intro e _
    show (true && (numOk (tagN (hdrC k)) 2 && true)) = true
    rw [tag_ok (fit e)]; rfl
  · intro e _ _
    show (true && bytR (((fldC (hdrC k) 2 6 ++ fldC (hdrC k) 3 6) ++ ([.int .u8 129, .int .u8 0] ++ numL (tagN (hdrC k)) 2)) ++ fldC (hdrC k) 4 2)) = true
    rw [bytR_of bt1 (by show (18 : Nat) ≤ 100; decide)]; rfl
  · intro e t c0
    have t := T _ t
    rw [val ((((fldC (hdrC k) 2 6 ++ fldC (hdrC k) 3 6) ++ ([.int .u8 129, .int .u8 0] ++ numL (tagN (hdrC k)) 2)) ++ fldC (hdrC k) 4 2) ++ fourL (hdrC k)) e (by
      unfold layH tagL bodyH
      simp only [t, c0, Bool.not_true, Bool.not_false, cond_true, cond_false])]; rfl
  · intro e _ _ _
    show (true && (clsB (hdrC k) && true)) = true
    rw [cls_ok (fit e)]; rfl
  · intro e t c0 c1
    have t := T _ t
    rw [val ((((fldC (hdrC k) 2 6 ++ fldC (hdrC k) 3 6) ++ ([.int .u8 129, .int .u8 0] ++ numL (tagN (hdrC k)) 2)) ++ fldC (hdrC k) 4 2) ++ sixL (hdrC k)) e (by
      unfold layH tagL bodyH
      simp only [t, c0, c1, Bool.not_true, Bool.not_false, cond_true, cond_false])]; rfl
  · intro e t c0 c1 c2
    have t := T _ t
    rw [val ((((fldC (hdrC k) 2 6 ++ fldC (hdrC k) 3 6) ++ ([.int .u8 129, .int .u8 0] ++ numL (tagN (hdrC k)) 2)) ++ fldC (hdrC k) 4 2) ++ arpL (hdrC k)) e (by
      unfold layH tagL bodyH
      simp only [t, c0, c1, c2, Bool.not_true, Bool.not_false, cond_true, cond_false])]; rfl
  · intro e _ _ _ _ _
    show (true && (numOk (labN (hdrC k)) 4 && true)) = true
    rw [lab_ok (fit e)]; rfl
  · intro e t c0 c1 c2 c3
    have t := T _ t
    rw [val ((((fldC (hdrC k) 2 6 ++ fldC (hdrC k) 3 6) ++ ([.int .u8 129, .int .u8 0] ++ numL (tagN (hdrC k)) 2)) ++ fldC (hdrC k) 4 2) ++ numL (labN (hdrC k)) 4) e (by
      unfold layH tagL bodyH
      simp only [t, c0, c1, c2, c3, Bool.not_true, Bool.not_false, cond_true, cond_false])]; rfl
  · intro e _ _ _ _ _ _
    show (true && (numOk (labN (hdrC k)) 4 && true)) = true
    rw [lab_ok (fit e)]; rfl
  · intro e t c0 c1 c2 c3 c4
    have t := T _ t
    rw [val ((((fldC (hdrC k) 2 6 ++ fldC (hdrC k) 3 6) ++ ([.int .u8 129, .int .u8 0] ++ numL (tagN (hdrC k)) 2)) ++ fldC (hdrC k) 4 2) ++ numL (labN (hdrC k)) 4) e (by
      unfold layH tagL bodyH
      simp only [t, c0, c1, c2, c3, c4, Bool.not_true, Bool.not_false, cond_true, cond_false])]; rfl
  · intro e t c0 c1 c2 c3 c4
    have t := T _ t
    rw [val ((((fldC (hdrC k) 2 6 ++ fldC (hdrC k) 3 6) ++ ([.int .u8 129, .int .u8 0] ++ numL (tagN (hdrC k)) 2)) ++ fldC (hdrC k) 4 2) ++ []) e (by
      unfold layH tagL bodyH
      simp only [t, c0, c1, c2, c3, c4, Bool.not_true, Bool.not_false, cond_true, cond_false])]; rfl
  · intro e _ _
    show (true && bytR ((fldC (hdrC k) 2 6 ++ fldC (hdrC k) 3 6) ++ fldC (hdrC k) 4 2)) = true
    rw [bytR_of bt2 (by show (14 : Nat) ≤ 100; decide)]; rfl
  · intro e t c0
    have t := T _ t
    rw [val ((((fldC (hdrC k) 2 6 ++ fldC (hdrC k) 3 6) ++ []) ++ fldC (hdrC k) 4 2) ++ fourL (hdrC k)) e (by
      unfold layH tagL bodyH
      simp only [t, c0, Bool.not_true, Bool.not_false, cond_true, cond_false])]; rfl
  · intro e _ _ _
    show (true && (clsB (hdrC k) && true)) = true
    rw [cls_ok (fit e)]; rfl
  · intro e t c0 c1
    have t := T _ t
    rw [val ((((fldC (hdrC k) 2 6 ++ fldC (hdrC k) 3 6) ++ []) ++ fldC (hdrC k) 4 2) ++ sixL (hdrC k)) e (by
      unfold layH tagL bodyH
      simp only [t, c0, c1, Bool.not_true, Bool.not_false, cond_true, cond_false])]; rfl
  · intro e t c0 c1 c2
    have t := T _ t
    rw [val ((((fldC (hdrC k) 2 6 ++ fldC (hdrC k) 3 6) ++ []) ++ fldC (hdrC k) 4 2) ++ arpL (hdrC k)) e (by
      unfold layH tagL bodyH
      simp only [t, c0, c1, c2, Bool.not_true, Bool.not_false, cond_true, cond_false])]; rfl
  · intro e _ _ _ _ _
    show (true && (numOk (labN (hdrC k)) 4 && true)) = true
    rw [lab_ok (fit e)]; rfl
  · intro e t c0 c1 c2 c3
    have t := T _ t
    rw [val ((((fldC (hdrC k) 2 6 ++ fldC (hdrC k) 3 6) ++ []) ++ fldC (hdrC k) 4 2) ++ numL (labN (hdrC k)) 4) e (by
      unfold layH tagL bodyH
      simp only [t, c0, c1, c2, c3, Bool.not_true, Bool.not_false, cond_true, cond_false])]; rfl
  · intro e _ _ _ _ _ _
    show (true && (numOk (labN (hdrC k)) 4 && true)) = true
    rw [lab_ok (fit e)]; rfl
  · intro e t c0 c1 c2 c3 c4
    have t := T _ t
    rw [val ((((fldC (hdrC k) 2 6 ++ fldC (hdrC k) 3 6) ++ []) ++ fldC (hdrC k) 4 2) ++ numL (labN (hdrC k)) 4) e (by
      unfold layH tagL bodyH
      simp only [t, c0, c1, c2, c3, c4, Bool.not_true, Bool.not_false, cond_true, cond_false])]; rfl
  · intro e t c0 c1 c2 c3 c4
    have t := T _ t
    rw [val ((((fldC (hdrC k) 2 6 ++ fldC (hdrC k) 3 6) ++ []) ++ fldC (hdrC k) 4 2) ++ []) e (by
      unfold layH tagL bodyH
      simp only [t, c0, c1, c2, c3, c4, Bool.not_true, Bool.not_false, cond_true, cond_false])]; rfl
end Go.Proofs.Ytdcijmigoefnjaa

/- Chapter 46: the laws' calls. -/
set_option linter.unusedVariables false
set_option linter.unusedSimpArgs false
set_option maxRecDepth 100000
set_option maxHeartbeats 0
namespace Go.Proofs.Ytdcijmigoefnjaa
open Go Go.Ev

theorem four_byt (hs : List AV) : bytB (fourL hs) = true := by
  obtain ⟨s, _, e⟩ := four_eq hs
  have h0 : isB (bt (IntKind.u8.wrap (clsI hs))) = true := isB_wrap _
  unfold fourL
  rw [e]
  simp only [bytB_app, fld_byt, num_byt, in_byt, Bool.and_true]
  show ((true && (isB (bt (IntKind.u8.wrap (clsI hs))) && true)) && _) = true
  rw [h0]; rfl
theorem lay_ok (hs : List AV) : okL (layH hs) = true := by
  have h1 : bytB (layH hs) = true := by
    unfold layH tagL bodyH
    simp only [bytB_app, fld_byt, Bool.true_and, Bool.and_true, Bool.and_eq_true]
    refine ⟨?_, ?_⟩
    · cases allZ hs (nI [5])
      · simp only [Bool.not_false, cond_true, bytB_app, num_byt]; rfl
      · rfl
    · cases ieq (lowH hs 4) 2048
      · cases ieq (lowH hs 4) 34525
        · cases ieq (lowH hs 4) 2054
          · cases (bif ieq (lowH hs 4) 34887 then true else ieq (lowH hs 4) 34888)
            · rfl
            · simp only [cond_true, cond_false, num_byt]
          · simp only [cond_true, cond_false]
            unfold arpL
            simp only [bytB_app, fld_byt, nul_byt, Bool.and_true]; rfl
        · simp only [cond_true, cond_false]
          unfold sixL
          simp only [bytB_app, fld_byt, num_byt, in_byt, Bool.and_true]; rfl
      · exact four_byt hs
  have h2 : (layH hs).length ≤ 300 := by
    have a := in_len hs true; have b := in_len hs false
    have hb : (bodyH hs).length ≤ 100 := by
      unfold bodyH
      cases ieq (lowH hs 4) 2048
      · cases ieq (lowH hs 4) 34525
        · cases ieq (lowH hs 4) 2054
          · cases (bif ieq (lowH hs 4) 34887 then true else ieq (lowH hs 4) 34888)
            · show (0 : Nat) ≤ 100; decide
            · show (4 : Nat) ≤ 100; decide
          · show (28 : Nat) ≤ 100; decide
        · show (sixL hs).length ≤ 100
          unfold sixL
          rw [List.length_append]
          show 40 + (inL hs false).length ≤ 100
          omega
      · show (fourL hs).length ≤ 100
        obtain ⟨s, _, e⟩ := four_eq hs
        unfold fourL
        rw [e, List.length_append]
        show 20 + (inL hs true).length ≤ 100
        omega
    unfold layH tagL
    rw [List.length_append]
    cases allZ hs (nI [5])
    · show 18 + (bodyH hs).length ≤ 300; omega
    · show 14 + (bodyH hs).length ≤ 300; omega
  exact okL_iff.2 ⟨bytB_iff.1 h1, by omega⟩
theorem wrap1 {k : Nat → Int} (h : FitN k) : IntKind.i64.wrap (k 1) = k 1 := lowF_of h (i := 0) rfl (by decide)
theorem fno {P : Prop} {x : Bool} (c : x = false) (h : x = true) : P := Bool.noConfusion (c.symm.trans h)
theorem sp100_ok : SpecTL Try.prog [(98, S98 true), (99, S99), (70, S70 true)] := ⟨s98, s99, s70, trivial⟩
theorem s100 : SumTOk Try.prog 100 (sumOf (g0 (.bool true))) := g0_ok (by
  refine book_ok.pth (by kernel_rfl) sp100_ok (p100 true _ ?_ ?_ ?_ ?_ ?_ ?_ ?_ ?_ ?_ ?_ ?_ ?_ ?_)
  · kernel_rfl
  · intro _; kernel_rfl
  · intro _; kernel_rfl
  · intro _ _; kernel_rfl
  · intro _ _; kernel_rfl
  · intro _ _ _; kernel_rfl
  · intro _ _ _; kernel_rfl
  · intro _ _ _; kernel_rfl
  · intro _ _ c; exact fno c (by kernel_rfl)
  · intro _ _; kernel_rfl
  · intro _ c; exact fno c (by kernel_rfl)
  · intro c _; exact fno c (by kernel_rfl)
  · intro c _; exact fno c (by kernel_rfl))
theorem sp23_ok : SpecTL Try.prog (sp23 true) := ⟨s98, s99, s70, s37, s100, trivial⟩
theorem c23 {k : Nat → Int} (hu : hdrU (hdrC k) = true) : CallsA Try.prog 23 [.agg (hdrC k)] [] (.bool true) [] := by
  have hw : rightH (hdrC k) = true → IntKind.i64.wrap (k 1) = k 1 := fun h => wrap1 (fitN_of hu (right_fits h))
  have hb : rightH (hdrC k) = true → (ieq (parE (IntKind.i64.wrap (k 1)) (layH (hdrC k))) 0 = true ∧ pairEq (parC (IntKind.i64.wrap (k 1)) (layH (hdrC k))) (hdrC k) = true) := fun h => by
    obtain ⟨a, b⟩ := back46 hu h
    rw [hw h, a, b]
    exact ⟨rfl, pairEq_same _⟩
  refine book_ok.pth (by kernel_rfl) sp23_ok (p23 true k _ ?_ ?_ ?_ ?_ ?_ ?_ ?_ ?_ ?_ ?_ ?_ ?_ ?_ ?_)
  · exact hu
  · intro _; exact lay_ok _
  · intro _ _; kernel_rfl
  · intro _ _; kernel_rfl
  · intro _ _; kernel_rfl
  · intro _ _ _; kernel_rfl
  · intro _ _ _; kernel_rfl
  · intro _ _ a b; rw [a, b]; kernel_rfl
  · intro h _ _ c; exact fno c (right_fits h)
  · intro h _ c; exact fno c (Eq.trans (by kernel_rfl) (hb h).2)
  · intro h _ c; exact fno c (Eq.trans (by kernel_rfl) (hb h).2)
  · intro h _ c; exact fno c (Eq.trans (by kernel_rfl) (hb h).2)
  · intro h c; exact Bool.noConfusion (c.symm.trans (hb h).1)
  · intro h; rw [h]; rfl
end Go.Proofs.Ytdcijmigoefnjaa

/- Chapter 04: the law's call, its arguments as they come. -/
set_option linter.unusedVariables false
set_option maxRecDepth 100000
namespace Go.Proofs.Ytdcijmigoefnjaa
open Go Go.Ev

theorem tyl_ints {k : IntKind} : ∀ {ls : List Lf} {l : List AV}, TyL ls l → (∀ x ∈ ls, x = .int k) → intsA k l = true
  | [], [], _, _ => rfl
  | x :: ls, a :: l, h, hk => by
    have e := hk x (by simp)
    subst e
    obtain ⟨⟨n, rfl, _⟩, h2⟩ := h
    have := tyl_ints h2 (fun y hy => hk y (List.mem_cons_of_mem _ hy))
    simp only [intsA, List.all_cons, isI, decide_true, Bool.true_and]
    exact this
  | [], _ :: _, h, _ => h.elim
  | _ :: _, [], h, _ => h.elim

theorem hdr_of {l : List AV} (h : TyL (repL 24 [.int .u64, .int .u64]) l) : isHdr l = true := by
  have h1 := TyL.length h
  have h2 := tyl_ints (k := .u64) h (by decide)
  have h3 : (repL 24 [Lf.int .u64, Lf.int .u64]).length = 48 := rfl
  simp only [isHdr, h2, Bool.and_true, beq_iff_eq]
  omega

end Go.Proofs.Ytdcijmigoefnjaa

/- Chapter 46: frames are read back: the law. -/
set_option linter.unusedVariables false
set_option maxRecDepth 100000
namespace Go.Proofs.Ytdcijmigoefnjaa
open Go Go.Ev

theorem tyl_inU : ∀ {ls : List Lf} {l : List AV}, TyL ls l → (∀ x ∈ ls, x = .int .u64) → ∀ v ∈ l, inU v.asInt = true
  | [], [], _, _, v, hv => absurd hv (by simp)
  | x :: ls, a :: l, h, hk, v, hv => by
    have e := hk x (by simp)
    subst e
    obtain ⟨⟨n, rfl, n1, n2⟩, h2⟩ := h
    rcases List.mem_cons.1 hv with rfl | hv
    · exact tyu n1 n2
    · exact tyl_inU h2 (fun y hy => hk y (List.mem_cons_of_mem _ hy)) v hv
  | [], _ :: _, h, _, _, _ => h.elim
  | _ :: _, [], h, _, _, _ => h.elim
theorem hdrU_ty {a : List AV} (ha : TyL (repL 24 [.int .u64, .int .u64]) a) : hdrU a = true := hdrU_iff.2 ⟨hdr_of ha, tyl_inU ha (by decide)⟩
theorem cCraftBack {a : List AV} (ha : TyL (repL 24 [.int .u64, .int .u64]) a) : CallsA Try.prog 23 [.agg a] [] (.bool true) [] := by
  have hu := hdrU_ty ha
  rw [isHdr_eq (hdr_of ha)] at hu ⊢
  exact c23 hu
end Go.Proofs.Ytdcijmigoefnjaa
