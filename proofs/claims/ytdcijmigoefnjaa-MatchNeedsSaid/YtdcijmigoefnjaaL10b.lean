import Derived.Test.YtdcijmigoefnjaaP10b
import Derived.Test.YtdcijmigoefnjaaL10g
/- Chapter 10: parts as bytes, and back: contracts. -/
set_option linter.unusedVariables false
set_option linter.unusedSimpArgs false
set_option maxRecDepth 100000
set_option maxHeartbeats 0
namespace Go.Proofs.Ytdcijmigoefnjaa
open Go Go.Ev

/-- what the first bytes are -/
structure Four (xs : List AV) (z0 z1 z2 z3 : Nat) : Prop where
  l : 4 ≤ xs.length
  h0 : z0 < 256
  h1 : z1 < 256
  h2 : z2 < 256
  h3 : z3 < 256
  e0 : xs.getD 0 .unk = .int .u8 (z0 : Int)
  e1 : xs.getD 1 .unk = .int .u8 (z1 : Int)
  e2 : xs.getD 2 .unk = .int .u8 (z2 : Int)
  e3 : xs.getD 3 .unk = .int .u8 (z3 : Int)
theorem four {xs : List AV} (hb : byteL xs) (h : ilt (xs.length : Int) 4 = false) : ∃ z0 z1 z2 z3, Four xs z0 z1 z2 z3 := by
  rw [ilt_no] at h
  obtain ⟨z0, a0, b0⟩ := byteL_get hb (i := 0) (by omega)
  obtain ⟨z1, a1, b1⟩ := byteL_get hb (i := 1) (by omega)
  obtain ⟨z2, a2, b2⟩ := byteL_get hb (i := 2) (by omega)
  obtain ⟨z3, a3, b3⟩ := byteL_get hb (i := 3) (by omega)
  exact ⟨z0, z1, z2, z3, by omega, a0, a1, a2, a3, b0, b1, b2, b3⟩
theorem ix_step (b : Bool) (k : Int) (r : Int × Bool) (h : isF k = true) (h2 : isF r.1 = true) : isF (bif b then (k, true) else r).1 = true := by cases b <;> assumption
theorem ix_isF (n : Int) : isF (ixOf n).1 = true := by
  unfold ixOf
  iterate 24 (refine ix_step _ _ _ rfl ?_)
  rfl
theorem num_all : ((List.range 24).all fun j => (ieq (imul .i64 (sizeOf (j : Int)) 2) (2 * sizeOf (j : Int)) && ieq (imul .i64 2 (sizeOf (j : Int))) (2 * sizeOf (j : Int))) && (ieq (ibits .or .i64 (ishl .i64 (idOf (j : Int)) 1) 1) (idNum (j : Int) true) &&
    (ieq (ishl .i64 (idOf (j : Int)) 1) (idNum (j : Int) false) && (ieq (iadd .i64 (imul .i64 2 (idOf (j : Int))) 1) (idNum (j : Int) true) && (ieq (imul .i64 2 (idOf (j : Int))) (idNum (j : Int) false) &&
    (numOk (idNum (j : Int) true) 1 && (numOk (idNum (j : Int) false) 1 && (numOk (2 * sizeOf (j : Int)) 1 && numOk (sizeOf (j : Int)) 1)))))))) = true := by kernel_rfl
structure Num (f : Int) : Prop where
  a : imul .i64 (sizeOf f) 2 = 2 * sizeOf f
  b : imul .i64 2 (sizeOf f) = 2 * sizeOf f
  c : ibits .or .i64 (ishl .i64 (idOf f) 1) 1 = idNum f true
  d : ishl .i64 (idOf f) 1 = idNum f false
  e : iadd .i64 (imul .i64 2 (idOf f)) 1 = idNum f true
  g : imul .i64 2 (idOf f) = idNum f false
  n1 : numOk (idNum f true) 1 = true
  n2 : numOk (idNum f false) 1 = true
  n3 : numOk (2 * sizeOf f) 1 = true
  n4 : numOk (sizeOf f) 1 = true
theorem num_f {f : Int} (h : isF f = true) : Num f := by
  obtain ⟨j, hj, rfl⟩ := isF_cases h
  have := List.all_eq_true.1 num_all j (List.mem_range.2 hj)
  simp only [Bool.and_eq_true, ieq, beq_iff_eq] at this
  obtain ⟨⟨a, b⟩, c, d, e, f, g, h, i, k⟩ := this
  exact ⟨a, b, c, d, e, f, g, h, i, k⟩
theorem i10 : ieq 1 0 = false := rfl
theorem i60 : ieq 6 0 = false := rfl
theorem s119 : SumTOk Try.prog 119 S119 := sumW_ok fun xs h => by
  simp only [Bool.and_eq_true] at h
  have hb := bytB_iff.1 h.1
  refine book_ok.pth (by kernel_rfl) spW_ok (p119 xs _ ?_ ?_ ?_ ?_ ?_ ?_ ?_ ?_ ?_ ?_ ?_ ?_ ?_ ?_ ?_ ?_ ?_ ?_ ?_ ?_ ?_ ?_ ?_ ?_ ?_ ?_)
  · intro h0
    simp [hdCode, h0, Tree.val, ieq]
  all_goals
    intro h0
    obtain ⟨z0, z1, z2, z3, F⟩ := four hb h0
    have nm := num_f (ix_isF ((z2 : Int) / 2))
    have b0 : byN xs 0 = z0 := by unfold byN; rw [F.e0]; rfl
    have b1 : byN xs 1 = z1 := by unfold byN; rw [F.e1]; rfl
    have b2 : byN xs 2 = z2 := by unfold byN; rw [F.e2]; rfl
    have b3 : byN xs 3 = z3 := by unfold byN; rw [F.e3]; rfl
    try simp only [nm.a, F.e0, F.e1, F.e2, F.e3, AV.asInt, wrapI F.h3, addI F.h3, and1 F.h2, shr1 F.h2, half F.h2, nm.a]
    intros
    first
      | exact inR_iff.2 ⟨by omega, by have := F.l; omega⟩
      | rfl
      | simp_all [hdCode, hdF, hdIs, hdM, Tree.val, bodyN, i00, i10, i60, i80]

/-- what is so where the first bytes are right -/
structure HdOk (xs : List AV) : Prop where
  l : 4 ≤ xs.length
  n : 4 + byN xs 3 ≤ xs.length
  b0 : byN xs 0 = 128
  b1 : byN xs 1 = 0
  is : hdIs xs = true
  m : hdM xs = true → masksOf (hdF xs) = true
  z : byN xs 3 = bodyN (hdF xs) (hdM xs)
theorem spD_ok : SpecTL Try.prog spD := ⟨s119, s121, s115t s115, s115t s116, Sum.T_ok (Book.all_ok book_ok 100 3 120), Sum.T_ok (Book.all_ok book_ok 100 3 122), spW_ok⟩

theorem s66 : SumTOk Try.prog 66 S66 := sum0_ok fun x _ => by
  obtain ⟨f, m, ⟨a, b⟩, c, d⟩ := x
  refine book_ok.pth (by kernel_rfl) spD_ok (p66 f a b c d m _ ?_ ?_ ?_ ?_)
  all_goals intros
  all_goals first
    | (rw [lowOk_f (by simp_all)]; rfl)
    | (show _ = (ternA (ternO (f, m, (a, b), c, d)), []); simp_all [ternA, ternO, allW, lowW])
theorem s77 : SumTOk Try.prog 77 S66 := sum0_ok fun x _ => by
  obtain ⟨f, m, ⟨a, b⟩, c, d⟩ := x
  refine book_ok.pth (by kernel_rfl) spD_ok (p77 f a b c d m _ ?_ ?_ ?_ ?_)
  all_goals intros
  all_goals first
    | (rw [lowOk_f (by simp_all)]; rfl)
    | (show _ = (ternA (ternO (f, m, (a, b), c, d)), []); simp_all [ternA, ternO, allW, lowW])
end Go.Proofs.Ytdcijmigoefnjaa
