/- Chapter 04: Parse keeps its contract. -/
import Derived.Test.YtdcijmigoefnjaaL04i
import Derived.Test.YtdcijmigoefnjaaL04h
import Derived.Test.YtdcijmigoefnjaaL04b
import Derived.Test.YtdcijmigoefnjaaP04k
set_option linter.unusedVariables false
set_option linter.unusedSimpArgs false
set_option maxRecDepth 100000
set_option maxHeartbeats 0
namespace Go.Proofs.Ytdcijmigoefnjaa
open Go Go.Ev

theorem sp57_ok : SpecTL Try.prog (sp57 true) := ⟨s115, s48, s37, trivial⟩
theorem sp58_ok : SpecTL Try.prog (sp58 true) := ⟨s116, s49, s38, trivial⟩

theorem parse_no {xs : List AV} (h : parseOk xs = false) : (AV.tup [.agg zeroH, .int .i64 4], ([] : List (List AV))) = ((parseT true xs).val, []) := by
  unfold parseT; simp only [Tree.val, h]; rfl
theorem parse_yes {xs : List AV} (h : parseOk xs = true) : (AV.tup [.agg (parseC xs), .int .i64 0], ([] : List (List AV))) = ((parseT true xs).val, []) := by
  unfold parseT; simp only [Tree.val, h]; rfl
theorem ok_iff {xs : List AV} : parseOk xs = true ↔ xs.length = 95 ∧ fitsC (parseC xs) = true := by
  unfold parseOk; rw [Bool.and_eq_true, Nat.beq_eq]
theorem ok_no {xs : List AV} (h : ¬ (xs.length = 95 ∧ fitsC (parseC xs) = true)) : parseOk xs = false := by
  cases hb : parseOk xs with
  | false => rfl
  | true => exact (h (ok_iff.1 hb)).elim

theorem s57 : SumTOk Try.prog 57 (S57 true) := sumW_ok fun x hx => by
  simp only [Bool.and_eq_true] at hx
  obtain ⟨h1, h2⟩ := hx
  have e : eqA x x = true := eqA_self x
  have e2 : isHdr zeroC && pairEq zeroC zeroC = true := by kernel_rfl
  have e3 : preP x zeroC = true := by
    unfold preP; rw [h1, h2]; exact e2
  have e4 : pre57 x (0, x, zeroC) = true := by unfold pre57; simp only [e, h1, e3]; rfl
  refine book_ok.run1 (k := 3) (l := lp57 x) (by kernel_rfl) sp57_ok (by kernel_rfl) (lok57 x h1 h2) (p57 x _ e4 (fun h a => ?_) (fun h a b => ?_) (fun h a b => ?_) (fun h => ?_))
  · refine parse_no (ok_no fun k => ?_)
    rw [ilt_iff, List.length_drop] at a; omega
  · have b' : (!fitsC (parseC x)) = true := b
    refine parse_no (ok_no fun k => ?_)
    rw [k.2] at b'; cases b'
  · have b' : (!fitsC (parseC x)) = false := b
    have b2 : fitsC (parseC x) = true := by simpa using b'
    rw [ile_iff] at h
    rw [ilt_no, List.length_drop] at a
    exact parse_yes (ok_iff.2 ⟨by omega, b2⟩)
  · refine parse_no (ok_no fun k => ?_)
    rw [ile_no] at h; omega
theorem s58 : SumTOk Try.prog 58 (S57 true) := sumW_ok fun x hx => by
  simp only [Bool.and_eq_true] at hx
  obtain ⟨h1, h2⟩ := hx
  have e2 : isHdr zeroC && pairEq zeroC zeroC = true := by kernel_rfl
  have e3 : preP x zeroC = true := by
    unfold preP; rw [h1, h2]; exact e2
  have e4 : pre58 x (0, 0, zeroC) = true := by unfold pre58; simp only [e3]; rfl
  refine book_ok.run1 (k := 4) (l := lp58 x) (by kernel_rfl) sp58_ok (by kernel_rfl) (lok58 x h1 h2) (p58 x _ e4 (fun h a => ?_) (fun h a b => ?_) (fun h a b => ?_) (fun h => ?_))
  · refine parse_no (ok_no fun k => ?_)
    rw [k.1] at a; simp [ieq] at a
  · have b' : (!fitsC (parseC x)) = true := b
    refine parse_no (ok_no fun k => ?_)
    rw [k.2] at b'; cases b'
  · have b' : (!fitsC (parseC x)) = false := b
    have b2 : fitsC (parseC x) = true := by simpa using b'
    refine parse_yes (ok_iff.2 ⟨?_, b2⟩)
    simp only [Bool.not_eq_false', ieq, beq_iff_eq] at a; omega
  · refine parse_no (ok_no fun k => ?_)
    rw [ile_no] at h; omega

end Go.Proofs.Ytdcijmigoefnjaa
