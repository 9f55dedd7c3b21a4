import Derived.Test.YtdcijmigoefnjaaP10b
import Derived.Test.YtdcijmigoefnjaaL04f
import Derived.Test.YtdcijmigoefnjaaL10g
/- Chapter 10: parts as bytes, and back: contracts. -/
set_option linter.unusedVariables false
set_option linter.unusedSimpArgs false
set_option maxRecDepth 100000
set_option maxHeartbeats 0
namespace Go.Proofs.Ytdcijmigoefnjaa
open Go Go.Ev

/-- what the first bytes are -/
structure Four (xs : List AV) (z0 z1 z2 z3 : Nat) : Prop where
  l : 4 ≤ xs.length
  h0 : z0 < 256
  h1 : z1 < 256
  h2 : z2 < 256
  h3 : z3 < 256
  e0 : xs.getD 0 .unk = .int .u8 (z0 : Int)
  e1 : xs.getD 1 .unk = .int .u8 (z1 : Int)
  e2 : xs.getD 2 .unk = .int .u8 (z2 : Int)
  e3 : xs.getD 3 .unk = .int .u8 (z3 : Int)
theorem four {xs : List AV} (hb : byteL xs) (h : ilt (xs.length : Int) 4 = false) : ∃ z0 z1 z2 z3, Four xs z0 z1 z2 z3 := by
  rw [ilt_no] at h
  obtain ⟨z0, a0, b0⟩ := byteL_get hb (i := 0) (by omega)
  obtain ⟨z1, a1, b1⟩ := byteL_get hb (i := 1) (by omega)
  obtain ⟨z2, a2, b2⟩ := byteL_get hb (i := 2) (by omega)
  obtain ⟨z3, a3, b3⟩ := byteL_get hb (i := 3) (by omega)
  exact ⟨z0, z1, z2, z3, by omega, a0, a1, a2, a3, b0, b1, b2, b3⟩
theorem ix_step (b : Bool) (k : Int) (r : Int × Bool) (h : isF k = true) (h2 : isF r.1 = true) : isF (bif b then (k, true) else r).1 = true := by cases b <;> assumption
theorem ix_isF (n : Int) : isF (ixOf n).1 = true := by
  unfold ixOf
  iterate 24 (refine ix_step _ _ _ rfl ?_)
  rfl
theorem num_all : ((List.range 24).all fun j => (ieq (imul .i64 (sizeOf (j : Int)) 2) (2 * sizeOf (j : Int)) && ieq (imul .i64 2 (sizeOf (j : Int))) (2 * sizeOf (j : Int))) && (ieq (ibits .or .i64 (ishl .i64 (idOf (j : Int)) 1) 1) (idNum (j : Int) true) &&
    (ieq (ishl .i64 (idOf (j : Int)) 1) (idNum (j : Int) false) && (ieq (iadd .i64 (imul .i64 2 (idOf (j : Int))) 1) (idNum (j : Int) true) && (ieq (imul .i64 2 (idOf (j : Int))) (idNum (j : Int) false) &&
    (numOk (idNum (j : Int) true) 1 && (numOk (idNum (j : Int) false) 1 && (numOk (2 * sizeOf (j : Int)) 1 && numOk (sizeOf (j : Int)) 1)))))))) = true := by kernel_rfl
structure Num (f : Int) : Prop where
  a : imul .i64 (sizeOf f) 2 = 2 * sizeOf f
  b : imul .i64 2 (sizeOf f) = 2 * sizeOf f
  c : ibits .or .i64 (ishl .i64 (idOf f) 1) 1 = idNum f true
  d : ishl .i64 (idOf f) 1 = idNum f false
  e : iadd .i64 (imul .i64 2 (idOf f)) 1 = idNum f true
  g : imul .i64 2 (idOf f) = idNum f false
  n1 : numOk (idNum f true) 1 = true
  n2 : numOk (idNum f false) 1 = true
  n3 : numOk (2 * sizeOf f) 1 = true
  n4 : numOk (sizeOf f) 1 = true
theorem num_f {f : Int} (h : isF f = true) : Num f := by
  obtain ⟨j, hj, rfl⟩ := isF_cases h
  have := List.all_eq_true.1 num_all j (List.mem_range.2 hj)
  simp only [Bool.and_eq_true, ieq, beq_iff_eq] at this
  obtain ⟨⟨a, b⟩, c, d, e, f, g, h, i, k⟩ := this
  exact ⟨a, b, c, d, e, f, g, h, i, k⟩
theorem i10 : ieq 1 0 = false := rfl
theorem i60 : ieq 6 0 = false := rfl
theorem s119 : SumTOk Try.prog 119 S119 := sumW_ok fun xs h => by
  simp only [Bool.and_eq_true] at h
  have hb := bytB_iff.1 h.1
  refine book_ok.pth (by kernel_rfl) spW_ok (p119 xs _ ?_ ?_ ?_ ?_ ?_ ?_ ?_ ?_ ?_ ?_ ?_ ?_ ?_ ?_ ?_ ?_ ?_ ?_ ?_ ?_ ?_ ?_ ?_ ?_ ?_ ?_)
  · intro h0
    simp [hdCode, h0, Tree.val, ieq]
  all_goals
    intro h0
    obtain ⟨z0, z1, z2, z3, F⟩ := four hb h0
    have nm := num_f (ix_isF ((z2 : Int) / 2))
    have b0 : byN xs 0 = z0 := by unfold byN; rw [F.e0]; rfl
    have b1 : byN xs 1 = z1 := by unfold byN; rw [F.e1]; rfl
    have b2 : byN xs 2 = z2 := by unfold byN; rw [F.e2]; rfl
    have b3 : byN xs 3 = z3 := by unfold byN; rw [F.e3]; rfl
    try simp only [nm.a, F.e0, F.e1, F.e2, F.e3, AV.asInt, wrapI F.h3, addI F.h3, and1 F.h2, shr1 F.h2, half F.h2, nm.a]
    intros
    first
      | exact inR_iff.2 ⟨by omega, by have := F.l; omega⟩
      | rfl
      | simp_all [hdCode, hdF, hdIs, hdM, Tree.val, bodyN, i00, i10, i60, i80]

/-- what is so where the first bytes are right -/
structure HdOk (xs : List AV) : Prop where
  l : 4 ≤ xs.length
  n : 4 + byN xs 3 ≤ xs.length
  b0 : byN xs 0 = 128
  b1 : byN xs 1 = 0
  is : hdIs xs = true
  m : hdM xs = true → masksOf (hdF xs) = true
  z : byN xs 3 = bodyN (hdF xs) (hdM xs)
theorem bif_zero {c : Bool} {k : Int} {r : Int} (hk : ieq k 0 = false) (h : ieq (bif c then k else r) 0 = true) : c = false ∧ ieq r 0 = true := by
  cases c with
  | true => rw [cond_true] at h; rw [hk] at h; cases h
  | false => exact ⟨rfl, h⟩
theorem hd_ok {xs : List AV} (h : ieq (hdCode xs) 0 = true) : HdOk xs := by
  unfold hdCode at h
  obtain ⟨h1, h⟩ := bif_zero rfl h
  obtain ⟨h2, h⟩ := bif_zero rfl h
  obtain ⟨h3, h⟩ := bif_zero rfl h
  obtain ⟨h4, h⟩ := bif_zero rfl h
  obtain ⟨h5, h⟩ := bif_zero rfl h
  rw [ilt_no] at h1 h2
  have q0 : (!ieq (byN xs 0) 128) = false := by cases hq : (!ieq (byN xs 0) 128) <;> simp_all
  have q1 : (!ieq (byN xs 1) 0) = false := by cases hq : (!ieq (byN xs 1) 0) <;> simp_all
  have q2 : (!hdIs xs) = false := by cases hq : (!hdIs xs) <;> simp_all
  simp only [Bool.not_eq_false', ieq, beq_iff_eq] at q0 q1 q2 h5
  refine ⟨by omega, h2, q0, q1, q2, fun hm => ?_, h5⟩
  rw [hm] at h4
  simpa using h4
theorem szr_all : ((List.range 24).all fun j => ile 1 (sizeOf (j : Int)) && ile (sizeOf (j : Int)) 16) = true := by kernel_rfl
theorem sz_range {f : Int} (h : isF f = true) : 1 ≤ sizeOf f ∧ sizeOf f ≤ 16 := by
  obtain ⟨j, hj, rfl⟩ := isF_cases h
  have := List.all_eq_true.1 szr_all j (List.mem_range.2 hj)
  rw [Bool.and_eq_true, ile_iff', ile_iff'] at this; exact this
/-- what Get asks -/
theorem get_pre {xs : List AV} (hb : byteL xs) (hl : lenB xs = true) {f : Int} (hf : isF f = true) {o : Nat} (h : (o : Int) + sizeOf f ≤ xs.length) :
    (sizeOk (sizeOf f) && (intsA .u8 (xs.drop o) && (lenB (xs.drop o) && ile (sizeOf f) (xs.drop o).length))) = true := by
  have := sz_range hf
  rw [sizeOk_f hf, intsA_drop' (byteL_int hb), lenB_drop' hl]
  simp only [Bool.true_and, ile_iff', List.length_drop]; omega
theorem spD_ok : SpecTL Try.prog spD := ⟨s119, s121, s115t s115, s115t s116, Sum.T_ok (Book.all_ok book_ok 100 3 120), Sum.T_ok (Book.all_ok book_ok 100 3 122), spW_ok⟩

theorem s62 : SumTOk Try.prog 62 S62 := sumW_ok fun xs h => by
  simp only [Bool.and_eq_true] at h
  have hb := bytB_iff.1 h.1
  have hl : lenB xs = true := h.2
  have hf : isF (hdF xs) = true := ix_isF _
  have hz := sz_range hf
  have e4 : iadd .i64 4 (sizeOf (hdF xs)) = 4 + sizeOf (hdF xs) := iadd_small (by omega) (by omega)
  have bm : hdM xs = true → bodyN (hdF xs) (hdM xs) = 2 * sizeOf (hdF xs) := fun hm => by rw [hm]; rfl
  have bn : hdM xs = false → bodyN (hdF xs) (hdM xs) = sizeOf (hdF xs) := fun hm => by rw [hm]; rfl
  have gp : ieq (hdCode xs) 0 = true → (4 : Int) + sizeOf (hdF xs) ≤ xs.length := fun h0 => by
    have k := hd_ok h0
    have := k.n
    rw [k.z] at this
    cases hm : hdM xs with
    | true => rw [bm hm] at this; omega
    | false => rw [bn hm] at this; omega
  have gm : ieq (hdCode xs) 0 = true → hdM xs = true → (4 : Int) + 2 * sizeOf (hdF xs) ≤ xs.length := fun h0 hm => by
    have k := hd_ok h0
    have := k.n
    rw [k.z, bm hm] at this; omega
  have e3 : ieq (hdCode xs) 0 = true → iadd .i64 4 (byN xs 3) = 4 + byN xs 3 := fun h0 => by
    have k := hd_ok h0
    have := k.z
    refine iadd_small ?_ ?_ <;> rw [this] <;> cases hm : hdM xs <;> simp only [bodyN, cond_true, cond_false] <;> omega
  refine book_ok.pth (by kernel_rfl) spD_ok (p62 xs _ (by rw [h.1, hl]; rfl) ?_ ?_ ?_ ?_ ?_ ?_ ?_ ?_ ?_ ?_ ?_)
  · exact fun h0 => inR_iff.2 ⟨by omega, by have := (hd_ok h0).l; omega⟩
  · exact fun h0 => get_pre hb hl hf (gp h0)
  · exact fun h0 hm => inR_iff.2 ⟨by rw [e4]; omega, by rw [e4]; have := gm h0 hm; omega⟩
  · intro h0 hm
    rw [e4]
    exact get_pre hb hl hf (by have := gm h0 hm; omega)
  · intro h0 hm
    simp only [hf, inO, Bool.true_and, AV.elems]
    rw [inW_get, inW_get]; rfl
  · intro h0 hm hq
    simp only [AV.elems, e4] at hq ⊢
    have : decX xs = (hdF xs, hdM xs, (getHi (xs.drop 4) (sizeOf (hdF xs)), getLo (xs.drop 4) (sizeOf (hdF xs))), getHi (xs.drop (4 + sizeOf (hdF xs)).toNat) (sizeOf (hdF xs)), getLo (xs.drop (4 + sizeOf (hdF xs)).toNat) (sizeOf (hdF xs))) := by
      unfold decX; rw [hm]; rfl
    rw [← this] at hq ⊢
    simp_all [decR, Tree.val, decCode]; rfl
  · intro h0 hm hq
    simp only [AV.elems, e4, e3 h0] at hq ⊢
    have : decX xs = (hdF xs, hdM xs, (getHi (xs.drop 4) (sizeOf (hdF xs)), getLo (xs.drop 4) (sizeOf (hdF xs))), getHi (xs.drop (4 + sizeOf (hdF xs)).toNat) (sizeOf (hdF xs)), getLo (xs.drop (4 + sizeOf (hdF xs)).toNat) (sizeOf (hdF xs))) := by
      unfold decX; rw [hm]; rfl
    rw [← this] at hq
    simp only [Bool.not_eq_false'] at hq
    simp only [decR, Tree.val, decCode, h0, hq, cond_true]
    rw [this]; rfl
  · intro h0 hm
    simp only [hf, inO, Bool.true_and, AV.elems]
    rw [inW_get]; rfl
  · intro h0 hm hq
    simp only [AV.elems] at hq ⊢
    have : decX xs = (hdF xs, hdM xs, (getHi (xs.drop 4) (sizeOf (hdF xs)), getLo (xs.drop 4) (sizeOf (hdF xs))), 0, 0) := by
      unfold decX; rw [hm]; rfl
    rw [← this] at hq ⊢
    simp_all [decR, Tree.val, decCode]; rfl
  · intro h0 hm hq
    simp only [AV.elems, e3 h0] at hq ⊢
    have : decX xs = (hdF xs, hdM xs, (getHi (xs.drop 4) (sizeOf (hdF xs)), getLo (xs.drop 4) (sizeOf (hdF xs))), 0, 0) := by
      unfold decX; rw [hm]; rfl
    rw [← this] at hq
    simp only [Bool.not_eq_false'] at hq
    simp only [decR, Tree.val, decCode, h0, hq, cond_true]
    rw [this]; rfl
  · intro h0
    simp_all [decR, Tree.val, decCode]; rfl

theorem s78 : SumTOk Try.prog 78 S78 := sum0_ok fun x _ => by
  obtain ⟨⟨f, m, ⟨a, b⟩, c, d⟩, f', m', ⟨a', b'⟩, c', d'⟩ := x
  refine book_ok.pth (by kernel_rfl) noSpec_ok (p78 f a b c d f' a' b' c' d' m m' _ ?_)
  show _ = (AV.bool (sameO (f, m, (a, b), c, d) (f', m', (a', b'), c', d')), [])
  simp only [sameO, Bool.and_true, Bool.and_assoc]
theorem s79 : SumTOk Try.prog 79 S78 := sum0_ok fun x _ => by
  obtain ⟨⟨f, m, ⟨a, b⟩, c, d⟩, f', m', ⟨a', b'⟩, c', d'⟩ := x
  refine book_ok.pth (by kernel_rfl) noSpec_ok (p79 f a b c d f' a' b' c' d' m m' _ ?_ ?_ ?_ ?_)
  all_goals (intros; show _ = (AV.bool (sameO (f, m, (a, b), c, d) (f', m', (a', b'), c', d')), []); simp_all [sameO])

theorem putL_lenI {f : Int} (h : isF f = true) (v : Int × Int) : ((putL v (sizeOf f)).length : Int) = sizeOf f := by
  have := sz_range h
  unfold putL
  rw [List.length_drop, show (all16 v).length = 16 from rfl]; omega
theorem s117o : SumTOk Try.prog 117 S117o := sumW_ok fun x hx => by
  obtain ⟨xs, ⟨a, b⟩, n⟩ := x
  simp only [Bool.and_eq_true, sizeOk, List.any_eq_true, ieq, beq_iff_eq, smallB, Nat.ble_eq] at hx
  obtain ⟨⟨m, hm, rfl⟩, hl⟩ := hx
  exact put117 xs a b hl n hm
theorem s118o : SumTOk Try.prog 118 S117o := sumW_ok fun x hx => by
  obtain ⟨xs, ⟨a, b⟩, n⟩ := x
  simp only [Bool.and_eq_true, sizeOk, List.any_eq_true, ieq, beq_iff_eq, smallB, Nat.ble_eq] at hx
  obtain ⟨⟨m, hm, rfl⟩, hl⟩ := hx
  exact put118 xs a b hl n hm
theorem spE_ok : SpecTL Try.prog spE := ⟨s65, s76, s117o, s118o, s133, s134, spW_ok⟩
theorem enc_yes {x : XO} (h : rightO x = true) {l : List AV} (e : l = encL x) : (AV.tup [.sl 1 l .sh, .int .i64 0], ([] : List (List AV))) = ((encR x).val, []) := by
  unfold encR; rw [e]; simp only [Tree.val, h]; rfl
theorem enc_no {x : XO} (h : rightO x = false) : (AV.tup [.sl 0 [] .nil, .int .i64 1], ([] : List (List AV))) = ((encR x).val, []) := by
  unfold encR; simp only [Tree.val, h]; rfl
theorem right_f {x : XO} (h : rightO x = true) : isF x.1 = true := by
  unfold rightO at h; rw [Bool.and_eq_true] at h; exact h.1
theorem s74 : SumTOk Try.prog 74 S74 := sum0_ok fun x h => by
  obtain ⟨f, m, ⟨a, b⟩, c, d⟩ := x
  have h0 : inO (f, m, (a, b), c, d) = true := h
  have le : ∀ {n : Nat}, (n : Int) ≤ 100 → Nat.ble (n * 1) 140737488355328 = true ∧ Nat.ble n 140737488355328 = true := fun h => ⟨bleB' (by omega), bleB' (by omega)⟩
  cases m with
  | true =>
    have gx : (!rightO (f, true, (a, b), c, d)) = false → isF f = true := fun k => right_f (x := (f, true, (a, b), c, d)) (by simpa using k)
    have ln : (!rightO (f, true, (a, b), c, d)) = false → ((putL (a, b) (sizeOf f) ++ putL (c, d) (sizeOf f)).length : Int) = 2 * sizeOf f := fun k => by
      rw [List.length_append]; have := putL_lenI (gx k) (a, b); have := putL_lenI (gx k) (c, d); omega
    refine book_ok.pth (by kernel_rfl) spE_ok (p74t f a b c d _ h0 (fun k => enc_no (by simpa using k)) ?_ ?_ ?_ ?_ ?_ ?_ ?_)
    all_goals
      intro k
      have hf := gx k
      have nm := num_f hf
      have hz := sz_range hf
      have l := ln k
      have l1 := putL_lenI hf (a, b)
      try simp only [AV.elems, nm.c, l]
    · rw [sizeOk_f hf]; rfl
    · rw [sizeOk_f hf]; simp only [smallB, Bool.true_and, Nat.ble_eq]; omega
    · rw [nm.n1]; rfl
    · rw [nm.n3]; rfl
    · exact (le (n := 4 + (putL (a, b) (sizeOf f) ++ putL (c, d) (sizeOf f)).length) (by omega)).1
    · exact (le (n := 4 + (putL (a, b) (sizeOf f) ++ putL (c, d) (sizeOf f)).length) (by omega)).2
    · exact enc_yes (by simpa using k) (by kernel_rfl)
  | false =>
    have gx : (!rightO (f, false, (a, b), c, d)) = false → isF f = true := fun k => right_f (x := (f, false, (a, b), c, d)) (by simpa using k)
    refine book_ok.pth (by kernel_rfl) spE_ok (p74f f a b c d _ h0 (fun k => enc_no (by simpa using k)) ?_ ?_ ?_ ?_ ?_ ?_)
    all_goals
      intro k
      have hf := gx k
      have nm := num_f hf
      have hz := sz_range hf
      have l1 := putL_lenI hf (a, b)
      try simp only [AV.elems, nm.d, l1]
    · rw [sizeOk_f hf]; rfl
    · rw [nm.n2]; rfl
    · rw [nm.n4]; rfl
    · exact (le (n := 4 + (putL (a, b) (sizeOf f)).length) (by omega)).1
    · exact (le (n := 4 + (putL (a, b) (sizeOf f)).length) (by omega)).2
    · refine enc_yes (by simpa using k) ?_
      have e : numL 32768 2 ++ (numL (idNum f false) 1 ++ (numL (sizeOf f) 1 ++ putL (a, b) (sizeOf f))) = encL (f, false, (a, b), c, d) := by
        show _ = numL 32768 2 ++ (numL (idNum f false) 1 ++ (numL (sizeOf f) 1 ++ (putL (a, b) (sizeOf f) ++ [])))
        rw [List.append_nil]
      exact Eq.trans (by kernel_rfl) e
end Go.Proofs.Ytdcijmigoefnjaa
