import Derived.Test.YtdcijmigoefnjaaP46c
import Derived.Test.YtdcijmigoefnjaaD03
import Derived.Test.YtdcijmigoefnjaaL46b
/- Chapter 46: packets that are laid: contracts. -/
set_option linter.unusedVariables false
set_option linter.unusedSimpArgs false
set_option maxRecDepth 100000
set_option maxHeartbeats 0
namespace Go.Proofs.Ytdcijmigoefnjaa
open Go Go.Ev

def bt (n : Int) : AV := .int .u8 n
/-- a packet's first bytes behind others -/
def L4 (hs b xs : List AV) : List AV := ((((((xs ++ [bt 69, bt (IntKind.u8.wrap (clsI hs))]) ++ b) ++ [bt 0, bt 0, bt 0, bt 0, bt 64]) ++ fldC hs 9 1) ++ nul 2) ++ fldC hs 10 4) ++ fldC hs 11 4
theorem L4_app (hs b xs : List AV) : L4 hs b xs = xs ++ L4 hs b [] := by
  unfold L4
  simp only [List.append_assoc, List.nil_append]
theorem fld_len (hs : List AV) {i n : Int} (h0 : 0 ≤ n) (h : n ≤ 16) : (fldC hs i n).length = n.toNat := by
  unfold fldC putL
  rw [List.length_drop, show (all16 (getH hs i)).length = 16 from rfl]; omega
theorem isB_wrap (n : Int) : isB (.int .u8 (IntKind.u8.wrap n)) = true := by
  have h : ∀ m : Int, (0 ≤ m % 256 ∧ m % 256 < 256) := fun m => ⟨Int.emod_nonneg _ (by decide), Int.emod_lt_of_pos _ (by decide)⟩
  show inR (IntKind.u8.wrap n) 256 = true
  rw [inR_iff, IntKind.wrap_u8]
  have := h n
  omega
theorem all16_byt (v : Int × Int) : bytB (all16 v) = true := by
  rw [bytB, List.all_eq_true]
  intro x hx
  unfold all16 at hx
  simp only [List.mem_cons, List.not_mem_nil, or_false] at hx
  rcases hx with rfl | rfl | rfl | rfl | rfl | rfl | rfl | rfl | rfl | rfl | rfl | rfl | rfl | rfl | rfl | rfl <;> exact isB_wrap _
theorem bytB_app {xs ys : List AV} : bytB (xs ++ ys) = (bytB xs && bytB ys) := by unfold bytB; rw [List.all_append]
theorem fld_byt (hs : List AV) (i n : Int) : bytB (fldC hs i n) = true := by
  have := all16_byt (getH hs i)
  unfold bytB at this ⊢
  unfold fldC putL
  rw [List.all_eq_true] at this ⊢
  exact fun x hx => this x (List.mem_of_mem_drop hx)
theorem nul_byt (n : Nat) : bytB (nul n) = true := by
  unfold bytB nul
  rw [List.all_eq_true]
  intro x hx
  rw [List.eq_of_mem_replicate hx]; rfl
theorem num_byt (n s : Int) : bytB (numL n s) = true := by
  have : bytB [nbyte n 24, nbyte n 16, nbyte n 8, nbyte n 0] = true := by
    unfold bytB nbyte
    simp only [List.all_cons, List.all_nil, isB_wrap, Bool.and_self]
  unfold bytB at this ⊢
  unfold numL
  rw [List.all_eq_true] at this ⊢
  exact fun x hx => this x (List.mem_of_mem_drop hx)
theorem in_byt (hs : List AV) (four : Bool) : bytB (inL hs four) = true := by
  unfold inL
  cases ieq (lowH hs 9) 6 <;> cases ieq (lowH hs 9) 17 <;> cases (bif ieq (lowH hs 9) 1 then four else false) <;> simp only [cond_true, cond_false, bytB_app, fld_byt, nul_byt, Bool.and_self] <;> rfl
theorem byt_scal {xs : List AV} (h : bytB xs = true) : xs.all AV.scal = true := by
  unfold bytB at h
  rw [List.all_eq_true] at h ⊢
  intro x hx
  have := h x hx
  unfold isB at this
  split at this
  · rfl
  · cases this
theorem L4_len {hs b xs : List AV} (hb : b.length = 2) : (L4 hs b xs).length = xs.length + 20 := by
  unfold L4
  simp only [List.length_append, fld_len hs (show (0 : Int) ≤ 1 by decide) (by decide), fld_len hs (show (0 : Int) ≤ 4 by decide) (by decide), hb, nul, List.length_replicate, List.length_cons, List.length_nil]
  rfl
theorem L4_byt {hs b : List AV} (hb : bytB b = true) : bytB (L4 hs b []) = true := by
  unfold L4
  simp only [bytB_app, fld_byt, nul_byt, hb, List.nil_append, Bool.and_true]
  show (true && (isB (bt (IntKind.u8.wrap (clsI hs))) && true) && _) = true
  rw [show isB (bt (IntKind.u8.wrap (clsI hs))) = true from isB_wrap _]; rfl
theorem num2_ok {n : Int} (h0 : 0 ≤ n) (h1 : n < 65536) : numOk n 2 = true := by
  have a : ile 0 n = true := by simp [ile]; omega
  have b : ilt n 65536 = true := ilt_iff.2 h1
  unfold numOk
  rw [a, b]
  cases ilt n 256 <;> cases ilt n 4294967296 <;> rfl
theorem sum_ok (xs : List AV) : numOk (sumV xs) 2 = true := by
  have := oc_range (sumN xs 0)
  refine num2_ok ?_ ?_ <;> unfold sumV <;> omega
theorem setAt_app (xs h ys : List AV) (n : Nat) : setAt (xs ++ h) (xs.length + n) ys = xs ++ setAt h n ys := by
  apply List.ext_getElem?
  intro j
  rw [setAt_get]
  by_cases hj : j < xs.length
  · rw [if_neg (by omega), List.getElem?_append_left hj, List.getElem?_append_left hj]
  · rw [List.getElem?_append_right (l₁ := xs) (l₂ := setAt h n ys) (by omega), List.getElem?_append_right (l₁ := xs) (l₂ := h) (by omega), setAt_get, List.length_append]
    by_cases h1 : xs.length + n ≤ j ∧ j < xs.length + n + ys.length ∧ j < xs.length + h.length
    · rw [if_pos h1, if_pos ⟨by omega, by omega, by omega⟩]
      congr 1; omega
    · rw [if_neg h1, if_neg (by omega)]
theorem iadd_sm {a b : Int} (h0 : 0 ≤ a + b) (h1 : a + b < 9223372036854775808) : iadd .i64 a b = a + b := by
  unfold iadd; rw [IntKind.wrap_i64]; omega

/-- what is laid for a packet of the first kind -/
structure Frm4 (hs b xs : List AV) : Prop where
  n7 : inR (iadd .i64 (xs.length : Int) 10) ((L4 hs b xs).length + 1) = true
  n8 : inR (xs.length : Int) ((L4 hs b xs).length + 1) = true
  n9 : (bytB (List.drop (xs.length : Int).toNat (L4 hs b xs)) && shortB (List.drop (xs.length : Int).toNat (L4 hs b xs))) = true
  drop : List.drop (xs.length : Int).toNat (L4 hs b xs) = L4 hs b []
  set : ∀ ys : List AV, ys.length = 2 → setAt (L4 hs b xs) (iadd .i64 (xs.length : Int) 10).toNat (List.take (List.drop (iadd .i64 (xs.length : Int) 10).toNat (L4 hs b xs)).length ys) = xs ++ setAt (L4 hs b []) 10 ys
theorem four_of {hs b xs : List AV} (hx : xs.length ≤ 100) (hb : b.length = 2) (hbb : bytB b = true) : Frm4 hs b xs := by
  have hl := L4_len (hs := hs) (xs := xs) hb
  have hl0 := L4_len (hs := hs) (xs := []) hb
  have hi : iadd .i64 (xs.length : Int) 10 = ((xs.length + 10 : Nat) : Int) := by rw [iadd_sm (by omega) (by omega)]; omega
  have hd : List.drop (xs.length : Int).toNat (L4 hs b xs) = L4 hs b [] := by
    rw [L4_app, show ((xs.length : Int)).toNat = xs.length by omega, List.drop_left]
  refine ⟨?_, ?_, ?_, hd, fun ys hy => ?_⟩
  · rw [hi, inR_iff, hl]; omega
  · rw [inR_iff, hl]; omega
  · rw [hd, L4_byt hbb]
    show Nat.ble (L4 hs b []).length 65536 = true
    rw [hl0]; rfl
  · rw [hi, show (((xs.length + 10 : Nat) : Int)).toNat = xs.length + 10 by omega]
    rw [show List.take (List.drop (xs.length + 10) (L4 hs b xs)).length ys = ys from List.take_of_length_le (by rw [List.length_drop, hl, hy]; omega)]
    rw [L4_app, setAt_app]
theorem tinyR_iff {xs : List AV} : tinyR xs = true ↔ xs.length ≤ 100 := by unfold tinyR; rw [Nat.ble_eq]
theorem tl {l : List AV} (h : l.length ≤ 1000) : tinyB l = true := tinyB_iff.2 h
theorem all_c {c : AV} {cs : List AV} (h : c.ownOk = true) (h2 : cs.all AV.ownOk = true) : (c :: cs).all AV.ownOk = true := by rw [List.all_cons, h, h2]; rfl
theorem hdr1_own {k : Nat → Int} {v : AV} (h : v.ownOk = true) : (hdr1 k v).all AV.ownOk = true := by
  unfold hdr1
  rw [List.all_append, show (hdrC k).all AV.ownOk = true from rfl, List.all_cons, h]; rfl
theorem own_of {ts : List AV} {m : Mem} (h1 : ts.all AV.ownOk = true) (h2 : (m.all fun p => p.2.all AV.ownOk) = true) : (AS.mk ts m).ownOk = true := by unfold AS.ownOk; rw [h1, h2]; rfl
theorem one_own {i : Nat} {cs : List AV} (h : cs.all AV.ownOk = true) : (([(i, cs)] : Mem).all fun p => p.2.all AV.ownOk) = true := by rw [List.all_cons, h]; rfl
theorem s154 : SumOOk Try.prog 154 (S154 true) := sumO_ok (fun _ _ _ _ h => h) fun x hx => by
  obtain ⟨hs, xs⟩ := x
  simp only [bytR, Bool.and_eq_true] at hx
  obtain ⟨hh, hxb, hxl⟩ := hx
  rw [tinyR_iff] at hxl
  have hxl : xs.length ≤ 100 := hxl
  have hxb : bytB xs = true := hxb
  show CallsO Try.prog 154 [.ptr 1000 0] (grown hs xs []) (.tup []) (grown hs (xs ++ fourL hs) [0])
  rw [isHdr_eq hh]
  generalize (fun j => (hs.getD j .unk).asInt) = k
  have hin := in_len (hdrC k) true
  have hib := in_byt (hdrC k) true
  have fl : ∀ i n, 0 ≤ n → n ≤ 16 → (fldC (hdrC k) i n).length = n.toNat := fun i n h0 h => fld_len _ h0 h
  -- for both
  have key : ∀ (b : List AV), b.length = 2 → bytB b = true → Frm4 (hdrC k) b xs := fun b hb hbb => four_of hxl hb hbb
  have hi : iadd .i64 20 ((inL (hdrC k) true).length : Int) = 20 + ((inL (hdrC k) true).length : Int) := iadd_sm (by omega) (by omega)
  have fin : ∀ b : List AV, b = numL (20 + ((inL (hdrC k) true).length : Int)) 2 → (xs ++ setAt (L4 (hdrC k) b []) 10 (numL (sumV (L4 (hdrC k) b [])) 2)) ++ inL (hdrC k) true = xs ++ fourL (hdrC k) := by
    rintro b rfl
    rw [List.append_assoc]; rfl
  have f11 : ∀ i, (fldC (hdrC k) i 1).length = 1 := fun i => fl i 1 (by decide) (by decide)
  have f14 : ∀ i, (fldC (hdrC k) i 4).length = 4 := fun i => fl i 4 (by decide) (by decide)
  have h48 : (hdrC k).all AV.ownOk = true := rfl
  refine book_ok.goO (by kernel_rfl) spG_ok spO0_ok (p154 true k xs _ ?_ ?_ ?_ ?_ ?_ ?_ ?_ ?_ ?_ ?_ ?_ ?_ ?_ ?_ ?_ ?_ ?_ ?_ ?_ ?_ ?_ ?_ ?_ ?_ ?_ ?_ ?_ ?_)
  · intro e
    have hbl : (numL (iadd .i64 20 ((inL (hdrC k) true).length : Int)) 2).length = 2 := rfl
    have K := key (numL (iadd .i64 20 ((inL (hdrC k) true).length : Int)) 2) rfl (num_byt _ _)
    show (true && (tinyB xs && true)) = true
    rw [tl (by omega)]; rfl
  · intro e
    have hbl : (numL (iadd .i64 20 ((inL (hdrC k) true).length : Int)) 2).length = 2 := rfl
    have K := key (numL (iadd .i64 20 ((inL (hdrC k) true).length : Int)) 2) rfl (num_byt _ _)
    show (true && (numOk (iadd .i64 20 ((inL (hdrC k) true).length : Int)) 2 && tinyB (xs ++ [bt 69, bt (IntKind.u8.wrap (clsI (hdrC k)))]))) = true
    rw [hi, num2_ok (by omega) (by omega), tl (by simp only [List.length_append, List.length_cons, List.length_nil, nul, List.length_replicate, f14, f11, hbl]; omega)]; rfl
  · intro e
    have hbl : (numL (iadd .i64 20 ((inL (hdrC k) true).length : Int)) 2).length = 2 := rfl
    have K := key (numL (iadd .i64 20 ((inL (hdrC k) true).length : Int)) 2) rfl (num_byt _ _)
    show (true && (tinyB ((xs ++ [bt 69, bt (IntKind.u8.wrap (clsI (hdrC k)))]) ++ numL (iadd .i64 20 ((inL (hdrC k) true).length : Int)) 2) && true)) = true
    rw [tl (by simp only [List.length_append, List.length_cons, List.length_nil, nul, List.length_replicate, f14, f11, hbl]; omega)]; rfl
  · intro e
    have hbl : (numL (iadd .i64 20 ((inL (hdrC k) true).length : Int)) 2).length = 2 := rfl
    have K := key (numL (iadd .i64 20 ((inL (hdrC k) true).length : Int)) 2) rfl (num_byt _ _)
    show (true && (true && (true && tinyB (((xs ++ [bt 69, bt (IntKind.u8.wrap (clsI (hdrC k)))]) ++ numL (iadd .i64 20 ((inL (hdrC k) true).length : Int)) 2) ++ [bt 0, bt 0, bt 0, bt 0, bt 64])))) = true
    rw [tl (by simp only [List.length_append, List.length_cons, List.length_nil, nul, List.length_replicate, f14, f11, hbl]; omega)]; rfl
  · intro e
    have hbl : (numL (iadd .i64 20 ((inL (hdrC k) true).length : Int)) 2).length = 2 := rfl
    have K := key (numL (iadd .i64 20 ((inL (hdrC k) true).length : Int)) 2) rfl (num_byt _ _)
    show (true && (tinyB ((((xs ++ [bt 69, bt (IntKind.u8.wrap (clsI (hdrC k)))]) ++ numL (iadd .i64 20 ((inL (hdrC k) true).length : Int)) 2) ++ [bt 0, bt 0, bt 0, bt 0, bt 64]) ++ fldC (hdrC k) 9 1) && true)) = true
    rw [tl (by simp only [List.length_append, List.length_cons, List.length_nil, nul, List.length_replicate, f14, f11, hbl]; omega)]; rfl
  · intro e
    have hbl : (numL (iadd .i64 20 ((inL (hdrC k) true).length : Int)) 2).length = 2 := rfl
    have K := key (numL (iadd .i64 20 ((inL (hdrC k) true).length : Int)) 2) rfl (num_byt _ _)
    show (true && (true && (true && tinyB (((((xs ++ [bt 69, bt (IntKind.u8.wrap (clsI (hdrC k)))]) ++ numL (iadd .i64 20 ((inL (hdrC k) true).length : Int)) 2) ++ [bt 0, bt 0, bt 0, bt 0, bt 64]) ++ fldC (hdrC k) 9 1) ++ nul 2)))) = true
    rw [tl (by simp only [List.length_append, List.length_cons, List.length_nil, nul, List.length_replicate, f14, f11, hbl]; omega)]; rfl
  · intro e
    have hbl : (numL (iadd .i64 20 ((inL (hdrC k) true).length : Int)) 2).length = 2 := rfl
    have K := key (numL (iadd .i64 20 ((inL (hdrC k) true).length : Int)) 2) rfl (num_byt _ _)
    show (true && (true && (true && tinyB ((((((xs ++ [bt 69, bt (IntKind.u8.wrap (clsI (hdrC k)))]) ++ numL (iadd .i64 20 ((inL (hdrC k) true).length : Int)) 2) ++ [bt 0, bt 0, bt 0, bt 0, bt 64]) ++ fldC (hdrC k) 9 1) ++ nul 2) ++ fldC (hdrC k) 10 4)))) = true
    rw [tl (by simp only [List.length_append, List.length_cons, List.length_nil, nul, List.length_replicate, f14, f11, hbl]; omega)]; rfl
  · intro e
    have hbl : (numL (iadd .i64 20 ((inL (hdrC k) true).length : Int)) 2).length = 2 := rfl
    have K := key (numL (iadd .i64 20 ((inL (hdrC k) true).length : Int)) 2) rfl (num_byt _ _)
    exact K.n7
  · intro e
    have hbl : (numL (iadd .i64 20 ((inL (hdrC k) true).length : Int)) 2).length = 2 := rfl
    have K := key (numL (iadd .i64 20 ((inL (hdrC k) true).length : Int)) 2) rfl (num_byt _ _)
    exact K.n8
  · intro e
    have hbl : (numL (iadd .i64 20 ((inL (hdrC k) true).length : Int)) 2).length = 2 := rfl
    have K := key (numL (iadd .i64 20 ((inL (hdrC k) true).length : Int)) 2) rfl (num_byt _ _)
    exact K.n9
  · intro e
    have hbl : (numL (iadd .i64 20 ((inL (hdrC k) true).length : Int)) 2).length = 2 := rfl
    have K := key (numL (iadd .i64 20 ((inL (hdrC k) true).length : Int)) 2) rfl (num_byt _ _)
    show (numOk (sumV (List.drop (xs.length : Int).toNat (L4 (hdrC k) (numL (iadd .i64 20 ((inL (hdrC k) true).length : Int)) 2) xs))) 2 && true) = true
    rw [sum_ok]; rfl
  · intro e
    have hbl : (numL (iadd .i64 20 ((inL (hdrC k) true).length : Int)) 2).length = 2 := rfl
    have K := key (numL (iadd .i64 20 ((inL (hdrC k) true).length : Int)) 2) rfl (num_byt _ _)
    have q1 : (inL (hdrC k) true).all AV.scal = true := byt_scal hib
    have q2 : (L4 (hdrC k) (numL (iadd .i64 20 ((inL (hdrC k) true).length : Int)) 2) xs).all AV.scal = true := by
      rw [L4_app]; exact byt_scal (by rw [bytB_app, hxb, L4_byt (num_byt _ _)]; rfl)
    refine own_of ?_ (one_own (hdr1_own q2))
    repeat' (first | exact q1 | exact q2 | rfl | apply all_c)
  · intro e
    have hbl : (numL (iadd .i64 20 ((inL (hdrC k) true).length : Int)) 2).length = 2 := rfl
    have K := key (numL (iadd .i64 20 ((inL (hdrC k) true).length : Int)) 2) rfl (num_byt _ _)
    show (true && (tinyB (setAt (L4 (hdrC k) (numL (iadd .i64 20 ((inL (hdrC k) true).length : Int)) 2) xs) (iadd .i64 (xs.length : Int) 10).toNat (List.take (List.drop (iadd .i64 (xs.length : Int) 10).toNat (L4 (hdrC k) (numL (iadd .i64 20 ((inL (hdrC k) true).length : Int)) 2) xs)).length (numL (sumV (List.drop (xs.length : Int).toNat (L4 (hdrC k) (numL (iadd .i64 20 ((inL (hdrC k) true).length : Int)) 2) xs))) 2))) && tinyB (inL (hdrC k) true))) = true
    rw [K.set _ rfl, tl (by rw [List.length_append, setAt_length, L4_len hbl, List.length_nil]; omega), tl (by omega)]; rfl
  · intro e
    have hbl : (numL (iadd .i64 20 ((inL (hdrC k) true).length : Int)) 2).length = 2 := rfl
    have K := key (numL (iadd .i64 20 ((inL (hdrC k) true).length : Int)) 2) rfl (num_byt _ _)
    show (AV.tup [], [hdr1 k (AV.sl 1 ((setAt (L4 (hdrC k) (numL (iadd .i64 20 ((inL (hdrC k) true).length : Int)) 2) xs) (iadd .i64 (xs.length : Int) 10).toNat (List.take (List.drop (iadd .i64 (xs.length : Int) 10).toNat (L4 (hdrC k) (numL (iadd .i64 20 ((inL (hdrC k) true).length : Int)) 2) xs)).length (numL (sumV (List.drop (xs.length : Int).toNat (L4 (hdrC k) (numL (iadd .i64 20 ((inL (hdrC k) true).length : Int)) 2) xs))) 2))) ++ inL (hdrC k) true) (.own [0]))]) = (AV.tup [], [grown (hdrC k) (xs ++ fourL (hdrC k)) [0]])
    rw [K.set _ rfl, K.drop]
    rw [fin _ (by rw [hi])]; rfl
  · intro e
    have hno := in_no e
    have hbl : ([bt 0, bt 20]).length = 2 := rfl
    have K := key ([bt 0, bt 20]) rfl rfl
    show (true && (tinyB xs && true)) = true
    rw [tl (by omega)]; rfl
  · intro e
    have hno := in_no e
    have hbl : ([bt 0, bt 20]).length = 2 := rfl
    have K := key ([bt 0, bt 20]) rfl rfl
    show (true && (true && tinyB (xs ++ [bt 69, bt (IntKind.u8.wrap (clsI (hdrC k)))]))) = true
    rw [tl (by simp only [List.length_append, List.length_cons, List.length_nil, nul, List.length_replicate, f14, f11, hbl]; omega)]; rfl
  · intro e
    have hno := in_no e
    have hbl : ([bt 0, bt 20]).length = 2 := rfl
    have K := key ([bt 0, bt 20]) rfl rfl
    show (true && (tinyB ((xs ++ [bt 69, bt (IntKind.u8.wrap (clsI (hdrC k)))]) ++ [bt 0, bt 20]) && true)) = true
    rw [tl (by simp only [List.length_append, List.length_cons, List.length_nil, nul, List.length_replicate, f14, f11, hbl]; omega)]; rfl
  · intro e
    have hno := in_no e
    have hbl : ([bt 0, bt 20]).length = 2 := rfl
    have K := key ([bt 0, bt 20]) rfl rfl
    show (true && (true && (true && tinyB (((xs ++ [bt 69, bt (IntKind.u8.wrap (clsI (hdrC k)))]) ++ [bt 0, bt 20]) ++ [bt 0, bt 0, bt 0, bt 0, bt 64])))) = true
    rw [tl (by simp only [List.length_append, List.length_cons, List.length_nil, nul, List.length_replicate, f14, f11, hbl]; omega)]; rfl
  · intro e
    have hno := in_no e
    have hbl : ([bt 0, bt 20]).length = 2 := rfl
    have K := key ([bt 0, bt 20]) rfl rfl
    show (true && (tinyB ((((xs ++ [bt 69, bt (IntKind.u8.wrap (clsI (hdrC k)))]) ++ [bt 0, bt 20]) ++ [bt 0, bt 0, bt 0, bt 0, bt 64]) ++ fldC (hdrC k) 9 1) && true)) = true
    rw [tl (by simp only [List.length_append, List.length_cons, List.length_nil, nul, List.length_replicate, f14, f11, hbl]; omega)]; rfl
  · intro e
    have hno := in_no e
    have hbl : ([bt 0, bt 20]).length = 2 := rfl
    have K := key ([bt 0, bt 20]) rfl rfl
    show (true && (true && (true && tinyB (((((xs ++ [bt 69, bt (IntKind.u8.wrap (clsI (hdrC k)))]) ++ [bt 0, bt 20]) ++ [bt 0, bt 0, bt 0, bt 0, bt 64]) ++ fldC (hdrC k) 9 1) ++ nul 2)))) = true
    rw [tl (by simp only [List.length_append, List.length_cons, List.length_nil, nul, List.length_replicate, f14, f11, hbl]; omega)]; rfl
  · intro e
    have hno := in_no e
    have hbl : ([bt 0, bt 20]).length = 2 := rfl
    have K := key ([bt 0, bt 20]) rfl rfl
    show (true && (true && (true && tinyB ((((((xs ++ [bt 69, bt (IntKind.u8.wrap (clsI (hdrC k)))]) ++ [bt 0, bt 20]) ++ [bt 0, bt 0, bt 0, bt 0, bt 64]) ++ fldC (hdrC k) 9 1) ++ nul 2) ++ fldC (hdrC k) 10 4)))) = true
    rw [tl (by simp only [List.length_append, List.length_cons, List.length_nil, nul, List.length_replicate, f14, f11, hbl]; omega)]; rfl
  · intro e
    have hno := in_no e
    have hbl : ([bt 0, bt 20]).length = 2 := rfl
    have K := key ([bt 0, bt 20]) rfl rfl
    exact K.n7
  · intro e
    have hno := in_no e
    have hbl : ([bt 0, bt 20]).length = 2 := rfl
    have K := key ([bt 0, bt 20]) rfl rfl
    exact K.n8
  · intro e
    have hno := in_no e
    have hbl : ([bt 0, bt 20]).length = 2 := rfl
    have K := key ([bt 0, bt 20]) rfl rfl
    exact K.n9
  · intro e
    have hno := in_no e
    have hbl : ([bt 0, bt 20]).length = 2 := rfl
    have K := key ([bt 0, bt 20]) rfl rfl
    show (numOk (sumV (List.drop (xs.length : Int).toNat (L4 (hdrC k) ([bt 0, bt 20]) xs))) 2 && true) = true
    rw [sum_ok]; rfl
  · intro e
    have hno := in_no e
    have hbl : ([bt 0, bt 20]).length = 2 := rfl
    have K := key ([bt 0, bt 20]) rfl rfl
    have q1 : True := trivial
    have q2 : (L4 (hdrC k) ([bt 0, bt 20]) xs).all AV.scal = true := by
      rw [L4_app]; exact byt_scal (by rw [bytB_app, hxb, L4_byt rfl]; rfl)
    refine own_of ?_ (one_own (hdr1_own q2))
    repeat' (first | exact q1 | exact q2 | rfl | apply all_c)
  · intro e
    have hno := in_no e
    have hbl : ([bt 0, bt 20]).length = 2 := rfl
    have K := key ([bt 0, bt 20]) rfl rfl
    show (true && (tinyB (setAt (L4 (hdrC k) ([bt 0, bt 20]) xs) (iadd .i64 (xs.length : Int) 10).toNat (List.take (List.drop (iadd .i64 (xs.length : Int) 10).toNat (L4 (hdrC k) ([bt 0, bt 20]) xs)).length (numL (sumV (List.drop (xs.length : Int).toNat (L4 (hdrC k) ([bt 0, bt 20]) xs))) 2))) && true)) = true
    rw [K.set _ rfl, tl (by rw [List.length_append, setAt_length, L4_len hbl, List.length_nil]; omega)]; rfl
  · intro e
    have hno := in_no e
    have hbl : ([bt 0, bt 20]).length = 2 := rfl
    have K := key ([bt 0, bt 20]) rfl rfl
    show (AV.tup [], [hdr1 k (AV.sl 1 ((setAt (L4 (hdrC k) ([bt 0, bt 20]) xs) (iadd .i64 (xs.length : Int) 10).toNat (List.take (List.drop (iadd .i64 (xs.length : Int) 10).toNat (L4 (hdrC k) ([bt 0, bt 20]) xs)).length (numL (sumV (List.drop (xs.length : Int).toNat (L4 (hdrC k) ([bt 0, bt 20]) xs))) 2))) ++ []) (.own [0]))]) = (AV.tup [], [grown (hdrC k) (xs ++ fourL (hdrC k)) [0]])
    rw [K.set _ rfl, K.drop]
    have q := fin [bt 0, bt 20] (by rw [hno]; kernel_rfl)
    rw [hno] at q
    rw [q]; rfl
end Go.Proofs.Ytdcijmigoefnjaa
