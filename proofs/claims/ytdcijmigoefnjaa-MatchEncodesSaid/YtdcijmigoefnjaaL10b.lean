import Derived.Test.YtdcijmigoefnjaaP10b
import Derived.Test.YtdcijmigoefnjaaL04f
import Derived.Test.YtdcijmigoefnjaaL10g
/- Chapter 10: parts as bytes, and back: contracts. -/
set_option linter.unusedVariables false
set_option linter.unusedSimpArgs false
set_option maxRecDepth 100000
set_option maxHeartbeats 0
namespace Go.Proofs.Ytdcijmigoefnjaa
open Go Go.Ev

/-- what the first bytes are -/
structure Four (xs : List AV) (z0 z1 z2 z3 : Nat) : Prop where
  l : 4 ≤ xs.length
  h0 : z0 < 256
  h1 : z1 < 256
  h2 : z2 < 256
  h3 : z3 < 256
  e0 : xs.getD 0 .unk = .int .u8 (z0 : Int)
  e1 : xs.getD 1 .unk = .int .u8 (z1 : Int)
  e2 : xs.getD 2 .unk = .int .u8 (z2 : Int)
  e3 : xs.getD 3 .unk = .int .u8 (z3 : Int)
theorem num_all : ((List.range 24).all fun j => (ieq (imul .i64 (sizeOf (j : Int)) 2) (2 * sizeOf (j : Int)) && ieq (imul .i64 2 (sizeOf (j : Int))) (2 * sizeOf (j : Int))) && (ieq (ibits .or .i64 (ishl .i64 (idOf (j : Int)) 1) 1) (idNum (j : Int) true) &&
    (ieq (ishl .i64 (idOf (j : Int)) 1) (idNum (j : Int) false) && (ieq (iadd .i64 (imul .i64 2 (idOf (j : Int))) 1) (idNum (j : Int) true) && (ieq (imul .i64 2 (idOf (j : Int))) (idNum (j : Int) false) &&
    (numOk (idNum (j : Int) true) 1 && (numOk (idNum (j : Int) false) 1 && (numOk (2 * sizeOf (j : Int)) 1 && numOk (sizeOf (j : Int)) 1)))))))) = true := by kernel_rfl
structure Num (f : Int) : Prop where
  a : imul .i64 (sizeOf f) 2 = 2 * sizeOf f
  b : imul .i64 2 (sizeOf f) = 2 * sizeOf f
  c : ibits .or .i64 (ishl .i64 (idOf f) 1) 1 = idNum f true
  d : ishl .i64 (idOf f) 1 = idNum f false
  e : iadd .i64 (imul .i64 2 (idOf f)) 1 = idNum f true
  g : imul .i64 2 (idOf f) = idNum f false
  n1 : numOk (idNum f true) 1 = true
  n2 : numOk (idNum f false) 1 = true
  n3 : numOk (2 * sizeOf f) 1 = true
  n4 : numOk (sizeOf f) 1 = true
theorem num_f {f : Int} (h : isF f = true) : Num f := by
  obtain ⟨j, hj, rfl⟩ := isF_cases h
  have := List.all_eq_true.1 num_all j (List.mem_range.2 hj)
  simp only [Bool.and_eq_true, ieq, beq_iff_eq] at this
  obtain ⟨⟨a, b⟩, c, d, e, f, g, h, i, k⟩ := this
  exact ⟨a, b, c, d, e, f, g, h, i, k⟩
/-- what is so where the first bytes are right -/
structure HdOk (xs : List AV) : Prop where
  l : 4 ≤ xs.length
  n : 4 + byN xs 3 ≤ xs.length
  b0 : byN xs 0 = 128
  b1 : byN xs 1 = 0
  is : hdIs xs = true
  m : hdM xs = true → masksOf (hdF xs) = true
  z : byN xs 3 = bodyN (hdF xs) (hdM xs)
theorem szr_all : ((List.range 24).all fun j => ile 1 (sizeOf (j : Int)) && ile (sizeOf (j : Int)) 16) = true := by kernel_rfl
theorem sz_range {f : Int} (h : isF f = true) : 1 ≤ sizeOf f ∧ sizeOf f ≤ 16 := by
  obtain ⟨j, hj, rfl⟩ := isF_cases h
  have := List.all_eq_true.1 szr_all j (List.mem_range.2 hj)
  rw [Bool.and_eq_true, ile_iff', ile_iff'] at this; exact this
theorem s78 : SumTOk Try.prog 78 S78 := sum0_ok fun x _ => by
  obtain ⟨⟨f, m, ⟨a, b⟩, c, d⟩, f', m', ⟨a', b'⟩, c', d'⟩ := x
  refine book_ok.pth (by kernel_rfl) noSpec_ok (p78 f a b c d f' a' b' c' d' m m' _ ?_)
  show _ = (AV.bool (sameO (f, m, (a, b), c, d) (f', m', (a', b'), c', d')), [])
  simp only [sameO, Bool.and_true, Bool.and_assoc]
theorem s79 : SumTOk Try.prog 79 S78 := sum0_ok fun x _ => by
  obtain ⟨⟨f, m, ⟨a, b⟩, c, d⟩, f', m', ⟨a', b'⟩, c', d'⟩ := x
  refine book_ok.pth (by kernel_rfl) noSpec_ok (p79 f a b c d f' a' b' c' d' m m' _ ?_ ?_ ?_ ?_)
  all_goals (intros; show _ = (AV.bool (sameO (f, m, (a, b), c, d) (f', m', (a', b'), c', d')), []); simp_all [sameO])

theorem putL_lenI {f : Int} (h : isF f = true) (v : Int × Int) : ((putL v (sizeOf f)).length : Int) = sizeOf f := by
  have := sz_range h
  unfold putL
  rw [List.length_drop, show (all16 v).length = 16 from rfl]; omega
theorem s117o : SumTOk Try.prog 117 S117o := sumW_ok fun x hx => by
  obtain ⟨xs, ⟨a, b⟩, n⟩ := x
  simp only [Bool.and_eq_true, sizeOk, List.any_eq_true, ieq, beq_iff_eq, smallB, Nat.ble_eq] at hx
  obtain ⟨⟨m, hm, rfl⟩, hl⟩ := hx
  exact put117 xs a b hl n hm
theorem s118o : SumTOk Try.prog 118 S117o := sumW_ok fun x hx => by
  obtain ⟨xs, ⟨a, b⟩, n⟩ := x
  simp only [Bool.and_eq_true, sizeOk, List.any_eq_true, ieq, beq_iff_eq, smallB, Nat.ble_eq] at hx
  obtain ⟨⟨m, hm, rfl⟩, hl⟩ := hx
  exact put118 xs a b hl n hm
theorem spE_ok : SpecTL Try.prog spE := ⟨s65, s76, s117o, s118o, s133, s134, spW_ok⟩
theorem enc_yes {x : XO} (h : rightO x = true) {l : List AV} (e : l = encL x) : (AV.tup [.sl 1 l .sh, .int .i64 0], ([] : List (List AV))) = ((encR x).val, []) := by
  unfold encR; rw [e]; simp only [Tree.val, h]; rfl
theorem enc_no {x : XO} (h : rightO x = false) : (AV.tup [.sl 0 [] .nil, .int .i64 1], ([] : List (List AV))) = ((encR x).val, []) := by
  unfold encR; simp only [Tree.val, h]; rfl
theorem right_f {x : XO} (h : rightO x = true) : isF x.1 = true := by
  unfold rightO at h; rw [Bool.and_eq_true] at h; exact h.1
theorem s74 : SumTOk Try.prog 74 S74 := sum0_ok fun x h => by
  obtain ⟨f, m, ⟨a, b⟩, c, d⟩ := x
  have h0 : inO (f, m, (a, b), c, d) = true := h
  have le : ∀ {n : Nat}, (n : Int) ≤ 100 → Nat.ble (n * 1) 140737488355328 = true ∧ Nat.ble n 140737488355328 = true := fun h => ⟨bleB' (by omega), bleB' (by omega)⟩
  cases m with
  | true =>
    have gx : (!rightO (f, true, (a, b), c, d)) = false → isF f = true := fun k => right_f (x := (f, true, (a, b), c, d)) (by simpa using k)
    have ln : (!rightO (f, true, (a, b), c, d)) = false → ((putL (a, b) (sizeOf f) ++ putL (c, d) (sizeOf f)).length : Int) = 2 * sizeOf f := fun k => by
      rw [List.length_append]; have := putL_lenI (gx k) (a, b); have := putL_lenI (gx k) (c, d); omega
    refine book_ok.pth (by kernel_rfl) spE_ok (p74t f a b c d _ h0 (fun k => enc_no (by simpa using k)) ?_ ?_ ?_ ?_ ?_ ?_ ?_)
    all_goals
      intro k
      have hf := gx k
      have nm := num_f hf
      have hz := sz_range hf
      have l := ln k
      have l1 := putL_lenI hf (a, b)
      try simp only [AV.elems, nm.c, l]
    · rw [sizeOk_f hf]; rfl
    · rw [sizeOk_f hf]; simp only [smallB, Bool.true_and, Nat.ble_eq]; omega
    · rw [nm.n1]; rfl
    · rw [nm.n3]; rfl
    · exact (le (n := 4 + (putL (a, b) (sizeOf f) ++ putL (c, d) (sizeOf f)).length) (by omega)).1
    · exact (le (n := 4 + (putL (a, b) (sizeOf f) ++ putL (c, d) (sizeOf f)).length) (by omega)).2
    · exact enc_yes (by simpa using k) (by kernel_rfl)
  | false =>
    have gx : (!rightO (f, false, (a, b), c, d)) = false → isF f = true := fun k => right_f (x := (f, false, (a, b), c, d)) (by simpa using k)
    refine book_ok.pth (by kernel_rfl) spE_ok (p74f f a b c d _ h0 (fun k => enc_no (by simpa using k)) ?_ ?_ ?_ ?_ ?_ ?_)
    all_goals
      intro k
      have hf := gx k
      have nm := num_f hf
      have hz := sz_range hf
      have l1 := putL_lenI hf (a, b)
      try simp only [AV.elems, nm.d, l1]
    · rw [sizeOk_f hf]; rfl
    · rw [nm.n2]; rfl
    · rw [nm.n4]; rfl
    · exact (le (n := 4 + (putL (a, b) (sizeOf f)).length) (by omega)).1
    · exact (le (n := 4 + (putL (a, b) (sizeOf f)).length) (by omega)).2
    · refine enc_yes (by simpa using k) ?_
      have e : numL 32768 2 ++ (numL (idNum f false) 1 ++ (numL (sizeOf f) 1 ++ putL (a, b) (sizeOf f))) = encL (f, false, (a, b), c, d) := by
        show _ = numL 32768 2 ++ (numL (idNum f false) 1 ++ (numL (sizeOf f) 1 ++ (putL (a, b) (sizeOf f) ++ [])))
        rw [List.append_nil]
      exact Eq.trans (by kernel_rfl) e
theorem s75 : SumTOk Try.prog 75 S74 := sum0_ok fun x h => by
  obtain ⟨f, m, ⟨a, b⟩, c, d⟩ := x
  have h0 : inO (f, m, (a, b), c, d) = true := h
  cases m with
  | true =>
    have gx : (!rightO (f, true, (a, b), c, d)) = false → isF f = true := fun k => right_f (x := (f, true, (a, b), c, d)) (by simpa using k)
    refine book_ok.pth (by kernel_rfl) spE_ok (p75t f a b c d _ h0 (fun k => enc_no (by simpa using k)) ?_ ?_ ?_ ?_ ?_)
    all_goals
      intro k
      have hf := gx k
      have nm := num_f hf
      have hz := sz_range hf
      have l1 := putL_lenI hf (a, b)
      try simp only [AV.elems, nm.e, nm.b]
    · rw [nm.n1]; rfl
    · rw [nm.n3]; rfl
    · rw [sizeOk_f hf]; rfl
    · rw [sizeOk_f hf]; simp only [smallB, Bool.true_and, Nat.ble_eq, List.length_cons]; omega
    · exact enc_yes (by simpa using k) (by kernel_rfl)
  | false =>
    have gx : (!rightO (f, false, (a, b), c, d)) = false → isF f = true := fun k => right_f (x := (f, false, (a, b), c, d)) (by simpa using k)
    refine book_ok.pth (by kernel_rfl) spE_ok (p75f f a b c d _ h0 (fun k => enc_no (by simpa using k)) ?_ ?_ ?_ ?_)
    all_goals
      intro k
      have hf := gx k
      have nm := num_f hf
      have hz := sz_range hf
      have l1 := putL_lenI hf (a, b)
      try simp only [AV.elems, nm.g]
    · rw [nm.n2]; rfl
    · rw [nm.n4]; rfl
    · rw [sizeOk_f hf]; rfl
    · refine enc_yes (by simpa using k) ?_
      have e : numL 32768 2 ++ (numL (idNum f false) 1 ++ (numL (sizeOf f) 1 ++ putL (a, b) (sizeOf f))) = encL (f, false, (a, b), c, d) := by
        show _ = numL 32768 2 ++ (numL (idNum f false) 1 ++ (numL (sizeOf f) 1 ++ (putL (a, b) (sizeOf f) ++ [])))
        rw [List.append_nil]
      exact Eq.trans (by kernel_rfl) e

end Go.Proofs.Ytdcijmigoefnjaa
