/- Chapter 04: the loops of Parse, by induction. -/
import Derived.Test.YtdcijmigoefnjaaD04i
import Derived.Test.YtdcijmigoefnjaaL04b
import Derived.Test.YtdcijmigoefnjaaHdrU
import Derived.Test.YtdcijmigoefnjaaP04i
import Derived.Test.YtdcijmigoefnjaaP04j
import Derived.Test.YtdcijmigoefnjaaL04g
set_option linter.unusedVariables false
set_option linter.unusedSimpArgs false
set_option maxRecDepth 100000
set_option maxHeartbeats 0
namespace Go.Proofs.Ytdcijmigoefnjaa
open Go Go.Ev

theorem off_mono : ∀ {j k : Nat}, j ≤ k → offOf j ≤ offOf k := by
  intro j k h
  induction h with
  | refl => exact Nat.le_refl _
  | step _ ih => exact Nat.le_trans ih (Nat.le_add_right _ _)
theorem off24 : offOf 24 = 95 := by kernel_rfl
theorem shortJ_eq {xs : List AV} {j : Nat} (hj : j < 24) (h1 : offOf j ≤ xs.length) (h2 : xs.length < offOf (j + 1)) : shortJ xs = j := by
  have : (List.range 24).find? (fun j => Nat.blt xs.length (offOf (j + 1))) = some j := by
    rw [List.find?_range_eq_some]
    refine ⟨by rw [Nat.blt_eq]; exact h2, List.mem_range.2 hj, fun k hk => ?_⟩
    have := off_mono (show k + 1 ≤ j by omega)
    simp only [Bool.not_eq_true', ← Bool.not_eq_true, Nat.blt_eq]
    omega
  unfold shortJ; rw [this]; rfl
theorem ile_iff {a b : Int} : ile a b = true ↔ a ≤ b := by simp [ile]
theorem ile_no {a b : Int} : ile a b = false ↔ b < a := by simp [ile]
theorem intsA_drop {k : IntKind} {xs : List AV} (h : intsA k xs = true) (n : Nat) : intsA k (xs.drop n) = true := by
  unfold intsA at h ⊢
  rw [List.all_eq_true] at h ⊢
  exact fun x hx => h x (List.mem_of_mem_drop hx)
theorem lenB_drop {xs : List AV} (h : lenB xs = true) (n : Nat) : lenB (xs.drop n) = true := by
  unfold lenB at h ⊢
  rw [Nat.ble_eq] at h ⊢
  rw [List.length_drop]; omega
theorem eqA_eq {k : IntKind} : ∀ {xs ys : List AV}, intsA k xs = true → intsA k ys = true → eqA xs ys = true → xs = ys
  | [], [], _, _, _ => rfl
  | [], _ :: _, _, _, h => by cases h
  | _ :: _, [], _, _, h => by cases h
  | x :: xs, y :: ys, h1, h2, h => by
    simp only [intsA, List.all_cons, Bool.and_eq_true] at h1 h2
    simp only [eqA, Bool.and_eq_true, ieq, beq_iff_eq] at h
    rw [eqA_eq (k := k) h1.2 h2.2 h.2]
    obtain ⟨h3, _⟩ := h1
    obtain ⟨h4, _⟩ := h2
    cases x <;> try (cases h3; done)
    cases y <;> try (cases h4; done)
    simp only [isI, decide_eq_true_eq] at h3 h4
    have := h.1
    simp only [AV.asInt] at this
    rw [h3, h4, this]

structure P57 (xs : List AV) (x : X57) : Prop where
  at_ : ∃ j : Nat, j ≤ 24 ∧ offOf j ≤ xs.length ∧ x = ((j : Int), xs.drop (offOf j), hdrC (pc xs j))
structure P58 (xs : List AV) (x : X58) : Prop where
  at_ : ∃ j : Nat, j ≤ 24 ∧ offOf j ≤ xs.length ∧ x = ((j : Int), (offOf j : Int), hdrC (pc xs j))

theorem pre_u8 {xs : List AV} (h1 : intsA .u8 xs = true) (h2 : lenB xs = true) (n : Nat) : (true && (intsA .u8 (xs.drop n) && lenB (xs.drop n))) = true := by
  rw [intsA_drop h1, lenB_drop h2]; rfl
theorem on57 {xs : List AV} {j o n : Nat} {c : List AV} (hj : j < 24) (ho : offOf j = o) (hn : offOf (j + 1) = o + n) (hl : offOf j ≤ xs.length) (h : ile (n : Int) (xs.drop o).length = true) (hc : c = hdrC (pc xs (j + 1))) {x : X57} :
    OnOk (P57 xs) (fun x => (F57 xs x).val) (fun x => (24 - x.1).toNat) ((j : Int), x.2) (((j + 1 : Nat) : Int), (AV.sl 1 (List.drop n (xs.drop o)) St.sh).elems, c) := by
  rw [ile_iff, List.length_drop] at h
  refine ⟨⟨j + 1, by omega, by omega, ?_⟩, rfl, by simp only; omega⟩
  rw [hc, List.drop_drop, hn]; rfl
theorem on58 {xs : List AV} {j o n : Nat} {c : List AV} (hj : j < 24) (ho : offOf j = o) (hn : offOf (j + 1) = o + n) (hl : offOf j ≤ xs.length) (h : ile (n : Int) (xs.drop o).length = true) (hc : c = hdrC (pc xs (j + 1))) {x : X58} :
    OnOk (P58 xs) (fun x => (F58 xs x).val) (fun x => (24 - x.1).toNat) ((j : Int), x.2) (((j + 1 : Nat) : Int), ((o + n : Nat) : Int), c) := by
  rw [ile_iff, List.length_drop] at h
  refine ⟨⟨j + 1, by omega, by omega, ?_⟩, rfl, by simp only; omega⟩
  rw [hc, hn]
theorem out57 {xs : List AV} {j o n : Nat} (hj : j < 24) (ho : offOf j = o) (hn : offOf (j + 1) = o + n) (hl : offOf j ≤ xs.length) (h : ile (n : Int) (xs.drop o).length = false) (x : X57) :
    (F57 xs x).val = (.ret, stA 40 [(0, .sl 1 (xs.drop (offOf j)) .sh), (2, .ptr 2 0), (3, .int .i64 4), (4, .ptr 4 0)] [(2, zeroC), (4, hdrC (pc xs j))]) := by
  rw [ile_no, List.length_drop] at h
  have := off_mono (show j + 1 ≤ 24 by omega)
  rw [off24] at this
  have e : ile 95 (xs.length : Int) = false := ile_no.2 (by omega)
  unfold F57
  rw [shortJ_eq hj hl (by omega), e]; rfl
theorem out58 {xs : List AV} {j o n : Nat} (hj : j < 24) (ho : offOf j = o) (hn : offOf (j + 1) = o + n) (hl : offOf j ≤ xs.length) (h : ile (n : Int) (xs.drop o).length = false) (x : X58) :
    (F58 xs x).val = (.ret, stA 44 [(0, .sl 1 xs .sh), (2, .ptr 2 0), (3, .int .i64 4), (4, .ptr 4 0), (5, .int .i64 (offOf j : Nat))] [(2, zeroC), (4, hdrC (pc xs j))]) := by
  rw [ile_no, List.length_drop] at h
  have := off_mono (show j + 1 ≤ 24 by omega)
  rw [off24] at this
  have e : ile 95 (xs.length : Int) = false := ile_no.2 (by omega)
  unfold F58
  rw [shortJ_eq hj hl (by omega), e]; rfl
theorem k57_0 {xs : List AV} (h1 : intsA .u8 xs = true) (h2 : lenB xs = true) (hl : offOf 0 ≤ xs.length) : Round (book.envP 57 (sp57 true) big noLoops) (loopBody Try.f57 3) (book.clean 57 3) (book.clean 57 (3 + 500)) st57 pr57 (P57 xs) (fun x => (F57 xs x).val) (fun x => (24 - x.1).toNat) ((0 : Int), xs.drop 0, hdrC (pc xs 0)) :=
  have ho : offOf 0 = 0 := by kernel_rfl
  have hn : offOf (0 + 1) = 0 + 4 := by kernel_rfl
  r57_0 (pc xs 0) (xs.drop 0) _ _ _ (pre_u8 h1 h2 _) (fun h => inR_iff.2 ⟨by omega, by rw [ile_iff] at h; omega⟩) (fun h => on57 (j := 0) (o := 0) (n := 4) (x := (0, xs.drop 0, hdrC (pc xs 0))) (by omega) ho hn hl h (by kernel_rfl))
    (fun h => (out57 (j := 0) (o := 0) (n := 4) (by omega) ho hn hl h _).trans (by rw [ho]; kernel_rfl))
theorem k57_1 {xs : List AV} (h1 : intsA .u8 xs = true) (h2 : lenB xs = true) (hl : offOf 1 ≤ xs.length) : Round (book.envP 57 (sp57 true) big noLoops) (loopBody Try.f57 3) (book.clean 57 3) (book.clean 57 (3 + 500)) st57 pr57 (P57 xs) (fun x => (F57 xs x).val) (fun x => (24 - x.1).toNat) ((1 : Int), xs.drop 4, hdrC (pc xs 1)) :=
  have ho : offOf 1 = 4 := by kernel_rfl
  have hn : offOf (1 + 1) = 4 + 8 := by kernel_rfl
  r57_1 (pc xs 1) (xs.drop 4) _ _ _ (pre_u8 h1 h2 _) (fun h => inR_iff.2 ⟨by omega, by rw [ile_iff] at h; omega⟩) (fun h => on57 (j := 1) (o := 4) (n := 8) (x := (0, xs.drop 4, hdrC (pc xs 1))) (by omega) ho hn hl h (by kernel_rfl))
    (fun h => (out57 (j := 1) (o := 4) (n := 8) (by omega) ho hn hl h _).trans (by rw [ho]; kernel_rfl))
theorem k57_2 {xs : List AV} (h1 : intsA .u8 xs = true) (h2 : lenB xs = true) (hl : offOf 2 ≤ xs.length) : Round (book.envP 57 (sp57 true) big noLoops) (loopBody Try.f57 3) (book.clean 57 3) (book.clean 57 (3 + 500)) st57 pr57 (P57 xs) (fun x => (F57 xs x).val) (fun x => (24 - x.1).toNat) ((2 : Int), xs.drop 12, hdrC (pc xs 2)) :=
  have ho : offOf 2 = 12 := by kernel_rfl
  have hn : offOf (2 + 1) = 12 + 6 := by kernel_rfl
  r57_2 (pc xs 2) (xs.drop 12) _ _ _ (pre_u8 h1 h2 _) (fun h => inR_iff.2 ⟨by omega, by rw [ile_iff] at h; omega⟩) (fun h => on57 (j := 2) (o := 12) (n := 6) (x := (0, xs.drop 12, hdrC (pc xs 2))) (by omega) ho hn hl h (by kernel_rfl))
    (fun h => (out57 (j := 2) (o := 12) (n := 6) (by omega) ho hn hl h _).trans (by rw [ho]; kernel_rfl))
theorem k57_3 {xs : List AV} (h1 : intsA .u8 xs = true) (h2 : lenB xs = true) (hl : offOf 3 ≤ xs.length) : Round (book.envP 57 (sp57 true) big noLoops) (loopBody Try.f57 3) (book.clean 57 3) (book.clean 57 (3 + 500)) st57 pr57 (P57 xs) (fun x => (F57 xs x).val) (fun x => (24 - x.1).toNat) ((3 : Int), xs.drop 18, hdrC (pc xs 3)) :=
  have ho : offOf 3 = 18 := by kernel_rfl
  have hn : offOf (3 + 1) = 18 + 6 := by kernel_rfl
  r57_3 (pc xs 3) (xs.drop 18) _ _ _ (pre_u8 h1 h2 _) (fun h => inR_iff.2 ⟨by omega, by rw [ile_iff] at h; omega⟩) (fun h => on57 (j := 3) (o := 18) (n := 6) (x := (0, xs.drop 18, hdrC (pc xs 3))) (by omega) ho hn hl h (by kernel_rfl))
    (fun h => (out57 (j := 3) (o := 18) (n := 6) (by omega) ho hn hl h _).trans (by rw [ho]; kernel_rfl))
theorem k57_4 {xs : List AV} (h1 : intsA .u8 xs = true) (h2 : lenB xs = true) (hl : offOf 4 ≤ xs.length) : Round (book.envP 57 (sp57 true) big noLoops) (loopBody Try.f57 3) (book.clean 57 3) (book.clean 57 (3 + 500)) st57 pr57 (P57 xs) (fun x => (F57 xs x).val) (fun x => (24 - x.1).toNat) ((4 : Int), xs.drop 24, hdrC (pc xs 4)) :=
  have ho : offOf 4 = 24 := by kernel_rfl
  have hn : offOf (4 + 1) = 24 + 2 := by kernel_rfl
  r57_4 (pc xs 4) (xs.drop 24) _ _ _ (pre_u8 h1 h2 _) (fun h => inR_iff.2 ⟨by omega, by rw [ile_iff] at h; omega⟩) (fun h => on57 (j := 4) (o := 24) (n := 2) (x := (0, xs.drop 24, hdrC (pc xs 4))) (by omega) ho hn hl h (by kernel_rfl))
    (fun h => (out57 (j := 4) (o := 24) (n := 2) (by omega) ho hn hl h _).trans (by rw [ho]; kernel_rfl))
theorem k57_5 {xs : List AV} (h1 : intsA .u8 xs = true) (h2 : lenB xs = true) (hl : offOf 5 ≤ xs.length) : Round (book.envP 57 (sp57 true) big noLoops) (loopBody Try.f57 3) (book.clean 57 3) (book.clean 57 (3 + 500)) st57 pr57 (P57 xs) (fun x => (F57 xs x).val) (fun x => (24 - x.1).toNat) ((5 : Int), xs.drop 26, hdrC (pc xs 5)) :=
  have ho : offOf 5 = 26 := by kernel_rfl
  have hn : offOf (5 + 1) = 26 + 2 := by kernel_rfl
  r57_5 (pc xs 5) (xs.drop 26) _ _ _ (pre_u8 h1 h2 _) (fun h => inR_iff.2 ⟨by omega, by rw [ile_iff] at h; omega⟩) (fun h => on57 (j := 5) (o := 26) (n := 2) (x := (0, xs.drop 26, hdrC (pc xs 5))) (by omega) ho hn hl h (by kernel_rfl))
    (fun h => (out57 (j := 5) (o := 26) (n := 2) (by omega) ho hn hl h _).trans (by rw [ho]; kernel_rfl))
theorem k57_6 {xs : List AV} (h1 : intsA .u8 xs = true) (h2 : lenB xs = true) (hl : offOf 6 ≤ xs.length) : Round (book.envP 57 (sp57 true) big noLoops) (loopBody Try.f57 3) (book.clean 57 3) (book.clean 57 (3 + 500)) st57 pr57 (P57 xs) (fun x => (F57 xs x).val) (fun x => (24 - x.1).toNat) ((6 : Int), xs.drop 28, hdrC (pc xs 6)) :=
  have ho : offOf 6 = 28 := by kernel_rfl
  have hn : offOf (6 + 1) = 28 + 1 := by kernel_rfl
  r57_6 (pc xs 6) (xs.drop 28) _ _ _ (pre_u8 h1 h2 _) (fun h => inR_iff.2 ⟨by omega, by rw [ile_iff] at h; omega⟩) (fun h => on57 (j := 6) (o := 28) (n := 1) (x := (0, xs.drop 28, hdrC (pc xs 6))) (by omega) ho hn hl h (by kernel_rfl))
    (fun h => (out57 (j := 6) (o := 28) (n := 1) (by omega) ho hn hl h _).trans (by rw [ho]; kernel_rfl))
theorem k57_7 {xs : List AV} (h1 : intsA .u8 xs = true) (h2 : lenB xs = true) (hl : offOf 7 ≤ xs.length) : Round (book.envP 57 (sp57 true) big noLoops) (loopBody Try.f57 3) (book.clean 57 3) (book.clean 57 (3 + 500)) st57 pr57 (P57 xs) (fun x => (F57 xs x).val) (fun x => (24 - x.1).toNat) ((7 : Int), xs.drop 29, hdrC (pc xs 7)) :=
  have ho : offOf 7 = 29 := by kernel_rfl
  have hn : offOf (7 + 1) = 29 + 1 := by kernel_rfl
  r57_7 (pc xs 7) (xs.drop 29) _ _ _ (pre_u8 h1 h2 _) (fun h => inR_iff.2 ⟨by omega, by rw [ile_iff] at h; omega⟩) (fun h => on57 (j := 7) (o := 29) (n := 1) (x := (0, xs.drop 29, hdrC (pc xs 7))) (by omega) ho hn hl h (by kernel_rfl))
    (fun h => (out57 (j := 7) (o := 29) (n := 1) (by omega) ho hn hl h _).trans (by rw [ho]; kernel_rfl))
theorem k57_8 {xs : List AV} (h1 : intsA .u8 xs = true) (h2 : lenB xs = true) (hl : offOf 8 ≤ xs.length) : Round (book.envP 57 (sp57 true) big noLoops) (loopBody Try.f57 3) (book.clean 57 3) (book.clean 57 (3 + 500)) st57 pr57 (P57 xs) (fun x => (F57 xs x).val) (fun x => (24 - x.1).toNat) ((8 : Int), xs.drop 30, hdrC (pc xs 8)) :=
  have ho : offOf 8 = 30 := by kernel_rfl
  have hn : offOf (8 + 1) = 30 + 1 := by kernel_rfl
  r57_8 (pc xs 8) (xs.drop 30) _ _ _ (pre_u8 h1 h2 _) (fun h => inR_iff.2 ⟨by omega, by rw [ile_iff] at h; omega⟩) (fun h => on57 (j := 8) (o := 30) (n := 1) (x := (0, xs.drop 30, hdrC (pc xs 8))) (by omega) ho hn hl h (by kernel_rfl))
    (fun h => (out57 (j := 8) (o := 30) (n := 1) (by omega) ho hn hl h _).trans (by rw [ho]; kernel_rfl))
theorem k57_9 {xs : List AV} (h1 : intsA .u8 xs = true) (h2 : lenB xs = true) (hl : offOf 9 ≤ xs.length) : Round (book.envP 57 (sp57 true) big noLoops) (loopBody Try.f57 3) (book.clean 57 3) (book.clean 57 (3 + 500)) st57 pr57 (P57 xs) (fun x => (F57 xs x).val) (fun x => (24 - x.1).toNat) ((9 : Int), xs.drop 31, hdrC (pc xs 9)) :=
  have ho : offOf 9 = 31 := by kernel_rfl
  have hn : offOf (9 + 1) = 31 + 1 := by kernel_rfl
  r57_9 (pc xs 9) (xs.drop 31) _ _ _ (pre_u8 h1 h2 _) (fun h => inR_iff.2 ⟨by omega, by rw [ile_iff] at h; omega⟩) (fun h => on57 (j := 9) (o := 31) (n := 1) (x := (0, xs.drop 31, hdrC (pc xs 9))) (by omega) ho hn hl h (by kernel_rfl))
    (fun h => (out57 (j := 9) (o := 31) (n := 1) (by omega) ho hn hl h _).trans (by rw [ho]; kernel_rfl))
theorem k57_10 {xs : List AV} (h1 : intsA .u8 xs = true) (h2 : lenB xs = true) (hl : offOf 10 ≤ xs.length) : Round (book.envP 57 (sp57 true) big noLoops) (loopBody Try.f57 3) (book.clean 57 3) (book.clean 57 (3 + 500)) st57 pr57 (P57 xs) (fun x => (F57 xs x).val) (fun x => (24 - x.1).toNat) ((10 : Int), xs.drop 32, hdrC (pc xs 10)) :=
  have ho : offOf 10 = 32 := by kernel_rfl
  have hn : offOf (10 + 1) = 32 + 4 := by kernel_rfl
  r57_10 (pc xs 10) (xs.drop 32) _ _ _ (pre_u8 h1 h2 _) (fun h => inR_iff.2 ⟨by omega, by rw [ile_iff] at h; omega⟩) (fun h => on57 (j := 10) (o := 32) (n := 4) (x := (0, xs.drop 32, hdrC (pc xs 10))) (by omega) ho hn hl h (by kernel_rfl))
    (fun h => (out57 (j := 10) (o := 32) (n := 4) (by omega) ho hn hl h _).trans (by rw [ho]; kernel_rfl))
theorem k57_11 {xs : List AV} (h1 : intsA .u8 xs = true) (h2 : lenB xs = true) (hl : offOf 11 ≤ xs.length) : Round (book.envP 57 (sp57 true) big noLoops) (loopBody Try.f57 3) (book.clean 57 3) (book.clean 57 (3 + 500)) st57 pr57 (P57 xs) (fun x => (F57 xs x).val) (fun x => (24 - x.1).toNat) ((11 : Int), xs.drop 36, hdrC (pc xs 11)) :=
  have ho : offOf 11 = 36 := by kernel_rfl
  have hn : offOf (11 + 1) = 36 + 4 := by kernel_rfl
  r57_11 (pc xs 11) (xs.drop 36) _ _ _ (pre_u8 h1 h2 _) (fun h => inR_iff.2 ⟨by omega, by rw [ile_iff] at h; omega⟩) (fun h => on57 (j := 11) (o := 36) (n := 4) (x := (0, xs.drop 36, hdrC (pc xs 11))) (by omega) ho hn hl h (by kernel_rfl))
    (fun h => (out57 (j := 11) (o := 36) (n := 4) (by omega) ho hn hl h _).trans (by rw [ho]; kernel_rfl))
theorem k57_12 {xs : List AV} (h1 : intsA .u8 xs = true) (h2 : lenB xs = true) (hl : offOf 12 ≤ xs.length) : Round (book.envP 57 (sp57 true) big noLoops) (loopBody Try.f57 3) (book.clean 57 3) (book.clean 57 (3 + 500)) st57 pr57 (P57 xs) (fun x => (F57 xs x).val) (fun x => (24 - x.1).toNat) ((12 : Int), xs.drop 40, hdrC (pc xs 12)) :=
  have ho : offOf 12 = 40 := by kernel_rfl
  have hn : offOf (12 + 1) = 40 + 2 := by kernel_rfl
  r57_12 (pc xs 12) (xs.drop 40) _ _ _ (pre_u8 h1 h2 _) (fun h => inR_iff.2 ⟨by omega, by rw [ile_iff] at h; omega⟩) (fun h => on57 (j := 12) (o := 40) (n := 2) (x := (0, xs.drop 40, hdrC (pc xs 12))) (by omega) ho hn hl h (by kernel_rfl))
    (fun h => (out57 (j := 12) (o := 40) (n := 2) (by omega) ho hn hl h _).trans (by rw [ho]; kernel_rfl))
theorem k57_13 {xs : List AV} (h1 : intsA .u8 xs = true) (h2 : lenB xs = true) (hl : offOf 13 ≤ xs.length) : Round (book.envP 57 (sp57 true) big noLoops) (loopBody Try.f57 3) (book.clean 57 3) (book.clean 57 (3 + 500)) st57 pr57 (P57 xs) (fun x => (F57 xs x).val) (fun x => (24 - x.1).toNat) ((13 : Int), xs.drop 42, hdrC (pc xs 13)) :=
  have ho : offOf 13 = 42 := by kernel_rfl
  have hn : offOf (13 + 1) = 42 + 2 := by kernel_rfl
  r57_13 (pc xs 13) (xs.drop 42) _ _ _ (pre_u8 h1 h2 _) (fun h => inR_iff.2 ⟨by omega, by rw [ile_iff] at h; omega⟩) (fun h => on57 (j := 13) (o := 42) (n := 2) (x := (0, xs.drop 42, hdrC (pc xs 13))) (by omega) ho hn hl h (by kernel_rfl))
    (fun h => (out57 (j := 13) (o := 42) (n := 2) (by omega) ho hn hl h _).trans (by rw [ho]; kernel_rfl))
theorem k57_14 {xs : List AV} (h1 : intsA .u8 xs = true) (h2 : lenB xs = true) (hl : offOf 14 ≤ xs.length) : Round (book.envP 57 (sp57 true) big noLoops) (loopBody Try.f57 3) (book.clean 57 3) (book.clean 57 (3 + 500)) st57 pr57 (P57 xs) (fun x => (F57 xs x).val) (fun x => (24 - x.1).toNat) ((14 : Int), xs.drop 44, hdrC (pc xs 14)) :=
  have ho : offOf 14 = 44 := by kernel_rfl
  have hn : offOf (14 + 1) = 44 + 2 := by kernel_rfl
  r57_14 (pc xs 14) (xs.drop 44) _ _ _ (pre_u8 h1 h2 _) (fun h => inR_iff.2 ⟨by omega, by rw [ile_iff] at h; omega⟩) (fun h => on57 (j := 14) (o := 44) (n := 2) (x := (0, xs.drop 44, hdrC (pc xs 14))) (by omega) ho hn hl h (by kernel_rfl))
    (fun h => (out57 (j := 14) (o := 44) (n := 2) (by omega) ho hn hl h _).trans (by rw [ho]; kernel_rfl))
theorem k57_15 {xs : List AV} (h1 : intsA .u8 xs = true) (h2 : lenB xs = true) (hl : offOf 15 ≤ xs.length) : Round (book.envP 57 (sp57 true) big noLoops) (loopBody Try.f57 3) (book.clean 57 3) (book.clean 57 (3 + 500)) st57 pr57 (P57 xs) (fun x => (F57 xs x).val) (fun x => (24 - x.1).toNat) ((15 : Int), xs.drop 46, hdrC (pc xs 15)) :=
  have ho : offOf 15 = 46 := by kernel_rfl
  have hn : offOf (15 + 1) = 46 + 2 := by kernel_rfl
  r57_15 (pc xs 15) (xs.drop 46) _ _ _ (pre_u8 h1 h2 _) (fun h => inR_iff.2 ⟨by omega, by rw [ile_iff] at h; omega⟩) (fun h => on57 (j := 15) (o := 46) (n := 2) (x := (0, xs.drop 46, hdrC (pc xs 15))) (by omega) ho hn hl h (by kernel_rfl))
    (fun h => (out57 (j := 15) (o := 46) (n := 2) (by omega) ho hn hl h _).trans (by rw [ho]; kernel_rfl))
theorem k57_16 {xs : List AV} (h1 : intsA .u8 xs = true) (h2 : lenB xs = true) (hl : offOf 16 ≤ xs.length) : Round (book.envP 57 (sp57 true) big noLoops) (loopBody Try.f57 3) (book.clean 57 3) (book.clean 57 (3 + 500)) st57 pr57 (P57 xs) (fun x => (F57 xs x).val) (fun x => (24 - x.1).toNat) ((16 : Int), xs.drop 48, hdrC (pc xs 16)) :=
  have ho : offOf 16 = 48 := by kernel_rfl
  have hn : offOf (16 + 1) = 48 + 1 := by kernel_rfl
  r57_16 (pc xs 16) (xs.drop 48) _ _ _ (pre_u8 h1 h2 _) (fun h => inR_iff.2 ⟨by omega, by rw [ile_iff] at h; omega⟩) (fun h => on57 (j := 16) (o := 48) (n := 1) (x := (0, xs.drop 48, hdrC (pc xs 16))) (by omega) ho hn hl h (by kernel_rfl))
    (fun h => (out57 (j := 16) (o := 48) (n := 1) (by omega) ho hn hl h _).trans (by rw [ho]; kernel_rfl))
theorem k57_17 {xs : List AV} (h1 : intsA .u8 xs = true) (h2 : lenB xs = true) (hl : offOf 17 ≤ xs.length) : Round (book.envP 57 (sp57 true) big noLoops) (loopBody Try.f57 3) (book.clean 57 3) (book.clean 57 (3 + 500)) st57 pr57 (P57 xs) (fun x => (F57 xs x).val) (fun x => (24 - x.1).toNat) ((17 : Int), xs.drop 49, hdrC (pc xs 17)) :=
  have ho : offOf 17 = 49 := by kernel_rfl
  have hn : offOf (17 + 1) = 49 + 1 := by kernel_rfl
  r57_17 (pc xs 17) (xs.drop 49) _ _ _ (pre_u8 h1 h2 _) (fun h => inR_iff.2 ⟨by omega, by rw [ile_iff] at h; omega⟩) (fun h => on57 (j := 17) (o := 49) (n := 1) (x := (0, xs.drop 49, hdrC (pc xs 17))) (by omega) ho hn hl h (by kernel_rfl))
    (fun h => (out57 (j := 17) (o := 49) (n := 1) (by omega) ho hn hl h _).trans (by rw [ho]; kernel_rfl))
theorem k57_18 {xs : List AV} (h1 : intsA .u8 xs = true) (h2 : lenB xs = true) (hl : offOf 18 ≤ xs.length) : Round (book.envP 57 (sp57 true) big noLoops) (loopBody Try.f57 3) (book.clean 57 3) (book.clean 57 (3 + 500)) st57 pr57 (P57 xs) (fun x => (F57 xs x).val) (fun x => (24 - x.1).toNat) ((18 : Int), xs.drop 50, hdrC (pc xs 18)) :=
  have ho : offOf 18 = 50 := by kernel_rfl
  have hn : offOf (18 + 1) = 50 + 2 := by kernel_rfl
  r57_18 (pc xs 18) (xs.drop 50) _ _ _ (pre_u8 h1 h2 _) (fun h => inR_iff.2 ⟨by omega, by rw [ile_iff] at h; omega⟩) (fun h => on57 (j := 18) (o := 50) (n := 2) (x := (0, xs.drop 50, hdrC (pc xs 18))) (by omega) ho hn hl h (by kernel_rfl))
    (fun h => (out57 (j := 18) (o := 50) (n := 2) (by omega) ho hn hl h _).trans (by rw [ho]; kernel_rfl))
theorem k57_19 {xs : List AV} (h1 : intsA .u8 xs = true) (h2 : lenB xs = true) (hl : offOf 19 ≤ xs.length) : Round (book.envP 57 (sp57 true) big noLoops) (loopBody Try.f57 3) (book.clean 57 3) (book.clean 57 (3 + 500)) st57 pr57 (P57 xs) (fun x => (F57 xs x).val) (fun x => (24 - x.1).toNat) ((19 : Int), xs.drop 52, hdrC (pc xs 19)) :=
  have ho : offOf 19 = 52 := by kernel_rfl
  have hn : offOf (19 + 1) = 52 + 4 := by kernel_rfl
  r57_19 (pc xs 19) (xs.drop 52) _ _ _ (pre_u8 h1 h2 _) (fun h => inR_iff.2 ⟨by omega, by rw [ile_iff] at h; omega⟩) (fun h => on57 (j := 19) (o := 52) (n := 4) (x := (0, xs.drop 52, hdrC (pc xs 19))) (by omega) ho hn hl h (by kernel_rfl))
    (fun h => (out57 (j := 19) (o := 52) (n := 4) (by omega) ho hn hl h _).trans (by rw [ho]; kernel_rfl))
theorem k57_20 {xs : List AV} (h1 : intsA .u8 xs = true) (h2 : lenB xs = true) (hl : offOf 20 ≤ xs.length) : Round (book.envP 57 (sp57 true) big noLoops) (loopBody Try.f57 3) (book.clean 57 3) (book.clean 57 (3 + 500)) st57 pr57 (P57 xs) (fun x => (F57 xs x).val) (fun x => (24 - x.1).toNat) ((20 : Int), xs.drop 56, hdrC (pc xs 20)) :=
  have ho : offOf 20 = 56 := by kernel_rfl
  have hn : offOf (20 + 1) = 56 + 4 := by kernel_rfl
  r57_20 (pc xs 20) (xs.drop 56) _ _ _ (pre_u8 h1 h2 _) (fun h => inR_iff.2 ⟨by omega, by rw [ile_iff] at h; omega⟩) (fun h => on57 (j := 20) (o := 56) (n := 4) (x := (0, xs.drop 56, hdrC (pc xs 20))) (by omega) ho hn hl h (by kernel_rfl))
    (fun h => (out57 (j := 20) (o := 56) (n := 4) (by omega) ho hn hl h _).trans (by rw [ho]; kernel_rfl))
theorem k57_21 {xs : List AV} (h1 : intsA .u8 xs = true) (h2 : lenB xs = true) (hl : offOf 21 ≤ xs.length) : Round (book.envP 57 (sp57 true) big noLoops) (loopBody Try.f57 3) (book.clean 57 3) (book.clean 57 (3 + 500)) st57 pr57 (P57 xs) (fun x => (F57 xs x).val) (fun x => (24 - x.1).toNat) ((21 : Int), xs.drop 60, hdrC (pc xs 21)) :=
  have ho : offOf 21 = 60 := by kernel_rfl
  have hn : offOf (21 + 1) = 60 + 16 := by kernel_rfl
  r57_21 (pc xs 21) (xs.drop 60) _ _ _ (pre_u8 h1 h2 _) (fun h => inR_iff.2 ⟨by omega, by rw [ile_iff] at h; omega⟩) (fun h => on57 (j := 21) (o := 60) (n := 16) (x := (0, xs.drop 60, hdrC (pc xs 21))) (by omega) ho hn hl h (by kernel_rfl))
    (fun h => (out57 (j := 21) (o := 60) (n := 16) (by omega) ho hn hl h _).trans (by rw [ho]; kernel_rfl))
theorem k57_22 {xs : List AV} (h1 : intsA .u8 xs = true) (h2 : lenB xs = true) (hl : offOf 22 ≤ xs.length) : Round (book.envP 57 (sp57 true) big noLoops) (loopBody Try.f57 3) (book.clean 57 3) (book.clean 57 (3 + 500)) st57 pr57 (P57 xs) (fun x => (F57 xs x).val) (fun x => (24 - x.1).toNat) ((22 : Int), xs.drop 76, hdrC (pc xs 22)) :=
  have ho : offOf 22 = 76 := by kernel_rfl
  have hn : offOf (22 + 1) = 76 + 16 := by kernel_rfl
  r57_22 (pc xs 22) (xs.drop 76) _ _ _ (pre_u8 h1 h2 _) (fun h => inR_iff.2 ⟨by omega, by rw [ile_iff] at h; omega⟩) (fun h => on57 (j := 22) (o := 76) (n := 16) (x := (0, xs.drop 76, hdrC (pc xs 22))) (by omega) ho hn hl h (by kernel_rfl))
    (fun h => (out57 (j := 22) (o := 76) (n := 16) (by omega) ho hn hl h _).trans (by rw [ho]; kernel_rfl))
theorem k57_23 {xs : List AV} (h1 : intsA .u8 xs = true) (h2 : lenB xs = true) (hl : offOf 23 ≤ xs.length) : Round (book.envP 57 (sp57 true) big noLoops) (loopBody Try.f57 3) (book.clean 57 3) (book.clean 57 (3 + 500)) st57 pr57 (P57 xs) (fun x => (F57 xs x).val) (fun x => (24 - x.1).toNat) ((23 : Int), xs.drop 92, hdrC (pc xs 23)) :=
  have ho : offOf 23 = 92 := by kernel_rfl
  have hn : offOf (23 + 1) = 92 + 3 := by kernel_rfl
  r57_23 (pc xs 23) (xs.drop 92) _ _ _ (pre_u8 h1 h2 _) (fun h => inR_iff.2 ⟨by omega, by rw [ile_iff] at h; omega⟩) (fun h => on57 (j := 23) (o := 92) (n := 3) (x := (0, xs.drop 92, hdrC (pc xs 23))) (by omega) ho hn hl h (by kernel_rfl))
    (fun h => (out57 (j := 23) (o := 92) (n := 3) (by omega) ho hn hl h _).trans (by rw [ho]; kernel_rfl))
theorem k58_0 {xs : List AV} (h1 : intsA .u8 xs = true) (h2 : lenB xs = true) (hl : offOf 0 ≤ xs.length) : Round (book.envP 58 (sp58 true) big noLoops) (loopBody Try.f58 4) (book.clean 58 4) (book.clean 58 (4 + 500)) (st58 xs) pr58 (P58 xs) (fun x => (F58 xs x).val) (fun x => (24 - x.1).toNat) ((0 : Int), (0 : Int), hdrC (pc xs 0)) :=
  have ho : offOf 0 = 0 := by kernel_rfl
  have hn : offOf (0 + 1) = 0 + 4 := by kernel_rfl
  r58_0 (pc xs 0) xs _ _ _ (inR_iff.2 ⟨by omega, by omega⟩) (pre_u8 h1 h2 0) (fun h => on58 (j := 0) (o := 0) (n := 4) (x := (0, 0, hdrC (pc xs 0))) (by omega) ho hn hl h (by kernel_rfl))
    (fun h => (out58 (j := 0) (o := 0) (n := 4) (by omega) ho hn hl h _).trans (by rw [ho]; kernel_rfl))
theorem k58_1 {xs : List AV} (h1 : intsA .u8 xs = true) (h2 : lenB xs = true) (hl : offOf 1 ≤ xs.length) : Round (book.envP 58 (sp58 true) big noLoops) (loopBody Try.f58 4) (book.clean 58 4) (book.clean 58 (4 + 500)) (st58 xs) pr58 (P58 xs) (fun x => (F58 xs x).val) (fun x => (24 - x.1).toNat) ((1 : Int), (4 : Int), hdrC (pc xs 1)) :=
  have ho : offOf 1 = 4 := by kernel_rfl
  have hn : offOf (1 + 1) = 4 + 8 := by kernel_rfl
  r58_1 (pc xs 1) xs _ _ _ (inR_iff.2 ⟨by omega, by omega⟩) (pre_u8 h1 h2 _) (fun h => on58 (j := 1) (o := 4) (n := 8) (x := (0, 4, hdrC (pc xs 1))) (by omega) ho hn hl h (by kernel_rfl))
    (fun h => (out58 (j := 1) (o := 4) (n := 8) (by omega) ho hn hl h _).trans (by rw [ho]; kernel_rfl))
theorem k58_2 {xs : List AV} (h1 : intsA .u8 xs = true) (h2 : lenB xs = true) (hl : offOf 2 ≤ xs.length) : Round (book.envP 58 (sp58 true) big noLoops) (loopBody Try.f58 4) (book.clean 58 4) (book.clean 58 (4 + 500)) (st58 xs) pr58 (P58 xs) (fun x => (F58 xs x).val) (fun x => (24 - x.1).toNat) ((2 : Int), (12 : Int), hdrC (pc xs 2)) :=
  have ho : offOf 2 = 12 := by kernel_rfl
  have hn : offOf (2 + 1) = 12 + 6 := by kernel_rfl
  r58_2 (pc xs 2) xs _ _ _ (inR_iff.2 ⟨by omega, by omega⟩) (pre_u8 h1 h2 _) (fun h => on58 (j := 2) (o := 12) (n := 6) (x := (0, 12, hdrC (pc xs 2))) (by omega) ho hn hl h (by kernel_rfl))
    (fun h => (out58 (j := 2) (o := 12) (n := 6) (by omega) ho hn hl h _).trans (by rw [ho]; kernel_rfl))
theorem k58_3 {xs : List AV} (h1 : intsA .u8 xs = true) (h2 : lenB xs = true) (hl : offOf 3 ≤ xs.length) : Round (book.envP 58 (sp58 true) big noLoops) (loopBody Try.f58 4) (book.clean 58 4) (book.clean 58 (4 + 500)) (st58 xs) pr58 (P58 xs) (fun x => (F58 xs x).val) (fun x => (24 - x.1).toNat) ((3 : Int), (18 : Int), hdrC (pc xs 3)) :=
  have ho : offOf 3 = 18 := by kernel_rfl
  have hn : offOf (3 + 1) = 18 + 6 := by kernel_rfl
  r58_3 (pc xs 3) xs _ _ _ (inR_iff.2 ⟨by omega, by omega⟩) (pre_u8 h1 h2 _) (fun h => on58 (j := 3) (o := 18) (n := 6) (x := (0, 18, hdrC (pc xs 3))) (by omega) ho hn hl h (by kernel_rfl))
    (fun h => (out58 (j := 3) (o := 18) (n := 6) (by omega) ho hn hl h _).trans (by rw [ho]; kernel_rfl))
theorem k58_4 {xs : List AV} (h1 : intsA .u8 xs = true) (h2 : lenB xs = true) (hl : offOf 4 ≤ xs.length) : Round (book.envP 58 (sp58 true) big noLoops) (loopBody Try.f58 4) (book.clean 58 4) (book.clean 58 (4 + 500)) (st58 xs) pr58 (P58 xs) (fun x => (F58 xs x).val) (fun x => (24 - x.1).toNat) ((4 : Int), (24 : Int), hdrC (pc xs 4)) :=
  have ho : offOf 4 = 24 := by kernel_rfl
  have hn : offOf (4 + 1) = 24 + 2 := by kernel_rfl
  r58_4 (pc xs 4) xs _ _ _ (inR_iff.2 ⟨by omega, by omega⟩) (pre_u8 h1 h2 _) (fun h => on58 (j := 4) (o := 24) (n := 2) (x := (0, 24, hdrC (pc xs 4))) (by omega) ho hn hl h (by kernel_rfl))
    (fun h => (out58 (j := 4) (o := 24) (n := 2) (by omega) ho hn hl h _).trans (by rw [ho]; kernel_rfl))
theorem k58_5 {xs : List AV} (h1 : intsA .u8 xs = true) (h2 : lenB xs = true) (hl : offOf 5 ≤ xs.length) : Round (book.envP 58 (sp58 true) big noLoops) (loopBody Try.f58 4) (book.clean 58 4) (book.clean 58 (4 + 500)) (st58 xs) pr58 (P58 xs) (fun x => (F58 xs x).val) (fun x => (24 - x.1).toNat) ((5 : Int), (26 : Int), hdrC (pc xs 5)) :=
  have ho : offOf 5 = 26 := by kernel_rfl
  have hn : offOf (5 + 1) = 26 + 2 := by kernel_rfl
  r58_5 (pc xs 5) xs _ _ _ (inR_iff.2 ⟨by omega, by omega⟩) (pre_u8 h1 h2 _) (fun h => on58 (j := 5) (o := 26) (n := 2) (x := (0, 26, hdrC (pc xs 5))) (by omega) ho hn hl h (by kernel_rfl))
    (fun h => (out58 (j := 5) (o := 26) (n := 2) (by omega) ho hn hl h _).trans (by rw [ho]; kernel_rfl))
theorem k58_6 {xs : List AV} (h1 : intsA .u8 xs = true) (h2 : lenB xs = true) (hl : offOf 6 ≤ xs.length) : Round (book.envP 58 (sp58 true) big noLoops) (loopBody Try.f58 4) (book.clean 58 4) (book.clean 58 (4 + 500)) (st58 xs) pr58 (P58 xs) (fun x => (F58 xs x).val) (fun x => (24 - x.1).toNat) ((6 : Int), (28 : Int), hdrC (pc xs 6)) :=
  have ho : offOf 6 = 28 := by kernel_rfl
  have hn : offOf (6 + 1) = 28 + 1 := by kernel_rfl
  r58_6 (pc xs 6) xs _ _ _ (inR_iff.2 ⟨by omega, by omega⟩) (pre_u8 h1 h2 _) (fun h => on58 (j := 6) (o := 28) (n := 1) (x := (0, 28, hdrC (pc xs 6))) (by omega) ho hn hl h (by kernel_rfl))
    (fun h => (out58 (j := 6) (o := 28) (n := 1) (by omega) ho hn hl h _).trans (by rw [ho]; kernel_rfl))
theorem k58_7 {xs : List AV} (h1 : intsA .u8 xs = true) (h2 : lenB xs = true) (hl : offOf 7 ≤ xs.length) : Round (book.envP 58 (sp58 true) big noLoops) (loopBody Try.f58 4) (book.clean 58 4) (book.clean 58 (4 + 500)) (st58 xs) pr58 (P58 xs) (fun x => (F58 xs x).val) (fun x => (24 - x.1).toNat) ((7 : Int), (29 : Int), hdrC (pc xs 7)) :=
  have ho : offOf 7 = 29 := by kernel_rfl
  have hn : offOf (7 + 1) = 29 + 1 := by kernel_rfl
  r58_7 (pc xs 7) xs _ _ _ (inR_iff.2 ⟨by omega, by omega⟩) (pre_u8 h1 h2 _) (fun h => on58 (j := 7) (o := 29) (n := 1) (x := (0, 29, hdrC (pc xs 7))) (by omega) ho hn hl h (by kernel_rfl))
    (fun h => (out58 (j := 7) (o := 29) (n := 1) (by omega) ho hn hl h _).trans (by rw [ho]; kernel_rfl))
theorem k58_8 {xs : List AV} (h1 : intsA .u8 xs = true) (h2 : lenB xs = true) (hl : offOf 8 ≤ xs.length) : Round (book.envP 58 (sp58 true) big noLoops) (loopBody Try.f58 4) (book.clean 58 4) (book.clean 58 (4 + 500)) (st58 xs) pr58 (P58 xs) (fun x => (F58 xs x).val) (fun x => (24 - x.1).toNat) ((8 : Int), (30 : Int), hdrC (pc xs 8)) :=
  have ho : offOf 8 = 30 := by kernel_rfl
  have hn : offOf (8 + 1) = 30 + 1 := by kernel_rfl
  r58_8 (pc xs 8) xs _ _ _ (inR_iff.2 ⟨by omega, by omega⟩) (pre_u8 h1 h2 _) (fun h => on58 (j := 8) (o := 30) (n := 1) (x := (0, 30, hdrC (pc xs 8))) (by omega) ho hn hl h (by kernel_rfl))
    (fun h => (out58 (j := 8) (o := 30) (n := 1) (by omega) ho hn hl h _).trans (by rw [ho]; kernel_rfl))
theorem k58_9 {xs : List AV} (h1 : intsA .u8 xs = true) (h2 : lenB xs = true) (hl : offOf 9 ≤ xs.length) : Round (book.envP 58 (sp58 true) big noLoops) (loopBody Try.f58 4) (book.clean 58 4) (book.clean 58 (4 + 500)) (st58 xs) pr58 (P58 xs) (fun x => (F58 xs x).val) (fun x => (24 - x.1).toNat) ((9 : Int), (31 : Int), hdrC (pc xs 9)) :=
  have ho : offOf 9 = 31 := by kernel_rfl
  have hn : offOf (9 + 1) = 31 + 1 := by kernel_rfl
  r58_9 (pc xs 9) xs _ _ _ (inR_iff.2 ⟨by omega, by omega⟩) (pre_u8 h1 h2 _) (fun h => on58 (j := 9) (o := 31) (n := 1) (x := (0, 31, hdrC (pc xs 9))) (by omega) ho hn hl h (by kernel_rfl))
    (fun h => (out58 (j := 9) (o := 31) (n := 1) (by omega) ho hn hl h _).trans (by rw [ho]; kernel_rfl))
theorem k58_10 {xs : List AV} (h1 : intsA .u8 xs = true) (h2 : lenB xs = true) (hl : offOf 10 ≤ xs.length) : Round (book.envP 58 (sp58 true) big noLoops) (loopBody Try.f58 4) (book.clean 58 4) (book.clean 58 (4 + 500)) (st58 xs) pr58 (P58 xs) (fun x => (F58 xs x).val) (fun x => (24 - x.1).toNat) ((10 : Int), (32 : Int), hdrC (pc xs 10)) :=
  have ho : offOf 10 = 32 := by kernel_rfl
  have hn : offOf (10 + 1) = 32 + 4 := by kernel_rfl
  r58_10 (pc xs 10) xs _ _ _ (inR_iff.2 ⟨by omega, by omega⟩) (pre_u8 h1 h2 _) (fun h => on58 (j := 10) (o := 32) (n := 4) (x := (0, 32, hdrC (pc xs 10))) (by omega) ho hn hl h (by kernel_rfl))
    (fun h => (out58 (j := 10) (o := 32) (n := 4) (by omega) ho hn hl h _).trans (by rw [ho]; kernel_rfl))
theorem k58_11 {xs : List AV} (h1 : intsA .u8 xs = true) (h2 : lenB xs = true) (hl : offOf 11 ≤ xs.length) : Round (book.envP 58 (sp58 true) big noLoops) (loopBody Try.f58 4) (book.clean 58 4) (book.clean 58 (4 + 500)) (st58 xs) pr58 (P58 xs) (fun x => (F58 xs x).val) (fun x => (24 - x.1).toNat) ((11 : Int), (36 : Int), hdrC (pc xs 11)) :=
  have ho : offOf 11 = 36 := by kernel_rfl
  have hn : offOf (11 + 1) = 36 + 4 := by kernel_rfl
  r58_11 (pc xs 11) xs _ _ _ (inR_iff.2 ⟨by omega, by omega⟩) (pre_u8 h1 h2 _) (fun h => on58 (j := 11) (o := 36) (n := 4) (x := (0, 36, hdrC (pc xs 11))) (by omega) ho hn hl h (by kernel_rfl))
    (fun h => (out58 (j := 11) (o := 36) (n := 4) (by omega) ho hn hl h _).trans (by rw [ho]; kernel_rfl))
theorem k58_12 {xs : List AV} (h1 : intsA .u8 xs = true) (h2 : lenB xs = true) (hl : offOf 12 ≤ xs.length) : Round (book.envP 58 (sp58 true) big noLoops) (loopBody Try.f58 4) (book.clean 58 4) (book.clean 58 (4 + 500)) (st58 xs) pr58 (P58 xs) (fun x => (F58 xs x).val) (fun x => (24 - x.1).toNat) ((12 : Int), (40 : Int), hdrC (pc xs 12)) :=
  have ho : offOf 12 = 40 := by kernel_rfl
  have hn : offOf (12 + 1) = 40 + 2 := by kernel_rfl
  r58_12 (pc xs 12) xs _ _ _ (inR_iff.2 ⟨by omega, by omega⟩) (pre_u8 h1 h2 _) (fun h => on58 (j := 12) (o := 40) (n := 2) (x := (0, 40, hdrC (pc xs 12))) (by omega) ho hn hl h (by kernel_rfl))
    (fun h => (out58 (j := 12) (o := 40) (n := 2) (by omega) ho hn hl h _).trans (by rw [ho]; kernel_rfl))
theorem k58_13 {xs : List AV} (h1 : intsA .u8 xs = true) (h2 : lenB xs = true) (hl : offOf 13 ≤ xs.length) : Round (book.envP 58 (sp58 true) big noLoops) (loopBody Try.f58 4) (book.clean 58 4) (book.clean 58 (4 + 500)) (st58 xs) pr58 (P58 xs) (fun x => (F58 xs x).val) (fun x => (24 - x.1).toNat) ((13 : Int), (42 : Int), hdrC (pc xs 13)) :=
  have ho : offOf 13 = 42 := by kernel_rfl
  have hn : offOf (13 + 1) = 42 + 2 := by kernel_rfl
  r58_13 (pc xs 13) xs _ _ _ (inR_iff.2 ⟨by omega, by omega⟩) (pre_u8 h1 h2 _) (fun h => on58 (j := 13) (o := 42) (n := 2) (x := (0, 42, hdrC (pc xs 13))) (by omega) ho hn hl h (by kernel_rfl))
    (fun h => (out58 (j := 13) (o := 42) (n := 2) (by omega) ho hn hl h _).trans (by rw [ho]; kernel_rfl))
theorem k58_14 {xs : List AV} (h1 : intsA .u8 xs = true) (h2 : lenB xs = true) (hl : offOf 14 ≤ xs.length) : Round (book.envP 58 (sp58 true) big noLoops) (loopBody Try.f58 4) (book.clean 58 4) (book.clean 58 (4 + 500)) (st58 xs) pr58 (P58 xs) (fun x => (F58 xs x).val) (fun x => (24 - x.1).toNat) ((14 : Int), (44 : Int), hdrC (pc xs 14)) :=
  have ho : offOf 14 = 44 := by kernel_rfl
  have hn : offOf (14 + 1) = 44 + 2 := by kernel_rfl
  r58_14 (pc xs 14) xs _ _ _ (inR_iff.2 ⟨by omega, by omega⟩) (pre_u8 h1 h2 _) (fun h => on58 (j := 14) (o := 44) (n := 2) (x := (0, 44, hdrC (pc xs 14))) (by omega) ho hn hl h (by kernel_rfl))
    (fun h => (out58 (j := 14) (o := 44) (n := 2) (by omega) ho hn hl h _).trans (by rw [ho]; kernel_rfl))
theorem k58_15 {xs : List AV} (h1 : intsA .u8 xs = true) (h2 : lenB xs = true) (hl : offOf 15 ≤ xs.length) : Round (book.envP 58 (sp58 true) big noLoops) (loopBody Try.f58 4) (book.clean 58 4) (book.clean 58 (4 + 500)) (st58 xs) pr58 (P58 xs) (fun x => (F58 xs x).val) (fun x => (24 - x.1).toNat) ((15 : Int), (46 : Int), hdrC (pc xs 15)) :=
  have ho : offOf 15 = 46 := by kernel_rfl
  have hn : offOf (15 + 1) = 46 + 2 := by kernel_rfl
  r58_15 (pc xs 15) xs _ _ _ (inR_iff.2 ⟨by omega, by omega⟩) (pre_u8 h1 h2 _) (fun h => on58 (j := 15) (o := 46) (n := 2) (x := (0, 46, hdrC (pc xs 15))) (by omega) ho hn hl h (by kernel_rfl))
    (fun h => (out58 (j := 15) (o := 46) (n := 2) (by omega) ho hn hl h _).trans (by rw [ho]; kernel_rfl))
theorem k58_16 {xs : List AV} (h1 : intsA .u8 xs = true) (h2 : lenB xs = true) (hl : offOf 16 ≤ xs.length) : Round (book.envP 58 (sp58 true) big noLoops) (loopBody Try.f58 4) (book.clean 58 4) (book.clean 58 (4 + 500)) (st58 xs) pr58 (P58 xs) (fun x => (F58 xs x).val) (fun x => (24 - x.1).toNat) ((16 : Int), (48 : Int), hdrC (pc xs 16)) :=
  have ho : offOf 16 = 48 := by kernel_rfl
  have hn : offOf (16 + 1) = 48 + 1 := by kernel_rfl
  r58_16 (pc xs 16) xs _ _ _ (inR_iff.2 ⟨by omega, by omega⟩) (pre_u8 h1 h2 _) (fun h => on58 (j := 16) (o := 48) (n := 1) (x := (0, 48, hdrC (pc xs 16))) (by omega) ho hn hl h (by kernel_rfl))
    (fun h => (out58 (j := 16) (o := 48) (n := 1) (by omega) ho hn hl h _).trans (by rw [ho]; kernel_rfl))
theorem k58_17 {xs : List AV} (h1 : intsA .u8 xs = true) (h2 : lenB xs = true) (hl : offOf 17 ≤ xs.length) : Round (book.envP 58 (sp58 true) big noLoops) (loopBody Try.f58 4) (book.clean 58 4) (book.clean 58 (4 + 500)) (st58 xs) pr58 (P58 xs) (fun x => (F58 xs x).val) (fun x => (24 - x.1).toNat) ((17 : Int), (49 : Int), hdrC (pc xs 17)) :=
  have ho : offOf 17 = 49 := by kernel_rfl
  have hn : offOf (17 + 1) = 49 + 1 := by kernel_rfl
  r58_17 (pc xs 17) xs _ _ _ (inR_iff.2 ⟨by omega, by omega⟩) (pre_u8 h1 h2 _) (fun h => on58 (j := 17) (o := 49) (n := 1) (x := (0, 49, hdrC (pc xs 17))) (by omega) ho hn hl h (by kernel_rfl))
    (fun h => (out58 (j := 17) (o := 49) (n := 1) (by omega) ho hn hl h _).trans (by rw [ho]; kernel_rfl))
theorem k58_18 {xs : List AV} (h1 : intsA .u8 xs = true) (h2 : lenB xs = true) (hl : offOf 18 ≤ xs.length) : Round (book.envP 58 (sp58 true) big noLoops) (loopBody Try.f58 4) (book.clean 58 4) (book.clean 58 (4 + 500)) (st58 xs) pr58 (P58 xs) (fun x => (F58 xs x).val) (fun x => (24 - x.1).toNat) ((18 : Int), (50 : Int), hdrC (pc xs 18)) :=
  have ho : offOf 18 = 50 := by kernel_rfl
  have hn : offOf (18 + 1) = 50 + 2 := by kernel_rfl
  r58_18 (pc xs 18) xs _ _ _ (inR_iff.2 ⟨by omega, by omega⟩) (pre_u8 h1 h2 _) (fun h => on58 (j := 18) (o := 50) (n := 2) (x := (0, 50, hdrC (pc xs 18))) (by omega) ho hn hl h (by kernel_rfl))
    (fun h => (out58 (j := 18) (o := 50) (n := 2) (by omega) ho hn hl h _).trans (by rw [ho]; kernel_rfl))
theorem k58_19 {xs : List AV} (h1 : intsA .u8 xs = true) (h2 : lenB xs = true) (hl : offOf 19 ≤ xs.length) : Round (book.envP 58 (sp58 true) big noLoops) (loopBody Try.f58 4) (book.clean 58 4) (book.clean 58 (4 + 500)) (st58 xs) pr58 (P58 xs) (fun x => (F58 xs x).val) (fun x => (24 - x.1).toNat) ((19 : Int), (52 : Int), hdrC (pc xs 19)) :=
  have ho : offOf 19 = 52 := by kernel_rfl
  have hn : offOf (19 + 1) = 52 + 4 := by kernel_rfl
  r58_19 (pc xs 19) xs _ _ _ (inR_iff.2 ⟨by omega, by omega⟩) (pre_u8 h1 h2 _) (fun h => on58 (j := 19) (o := 52) (n := 4) (x := (0, 52, hdrC (pc xs 19))) (by omega) ho hn hl h (by kernel_rfl))
    (fun h => (out58 (j := 19) (o := 52) (n := 4) (by omega) ho hn hl h _).trans (by rw [ho]; kernel_rfl))
theorem k58_20 {xs : List AV} (h1 : intsA .u8 xs = true) (h2 : lenB xs = true) (hl : offOf 20 ≤ xs.length) : Round (book.envP 58 (sp58 true) big noLoops) (loopBody Try.f58 4) (book.clean 58 4) (book.clean 58 (4 + 500)) (st58 xs) pr58 (P58 xs) (fun x => (F58 xs x).val) (fun x => (24 - x.1).toNat) ((20 : Int), (56 : Int), hdrC (pc xs 20)) :=
  have ho : offOf 20 = 56 := by kernel_rfl
  have hn : offOf (20 + 1) = 56 + 4 := by kernel_rfl
  r58_20 (pc xs 20) xs _ _ _ (inR_iff.2 ⟨by omega, by omega⟩) (pre_u8 h1 h2 _) (fun h => on58 (j := 20) (o := 56) (n := 4) (x := (0, 56, hdrC (pc xs 20))) (by omega) ho hn hl h (by kernel_rfl))
    (fun h => (out58 (j := 20) (o := 56) (n := 4) (by omega) ho hn hl h _).trans (by rw [ho]; kernel_rfl))
theorem k58_21 {xs : List AV} (h1 : intsA .u8 xs = true) (h2 : lenB xs = true) (hl : offOf 21 ≤ xs.length) : Round (book.envP 58 (sp58 true) big noLoops) (loopBody Try.f58 4) (book.clean 58 4) (book.clean 58 (4 + 500)) (st58 xs) pr58 (P58 xs) (fun x => (F58 xs x).val) (fun x => (24 - x.1).toNat) ((21 : Int), (60 : Int), hdrC (pc xs 21)) :=
  have ho : offOf 21 = 60 := by kernel_rfl
  have hn : offOf (21 + 1) = 60 + 16 := by kernel_rfl
  r58_21 (pc xs 21) xs _ _ _ (inR_iff.2 ⟨by omega, by omega⟩) (pre_u8 h1 h2 _) (fun h => on58 (j := 21) (o := 60) (n := 16) (x := (0, 60, hdrC (pc xs 21))) (by omega) ho hn hl h (by kernel_rfl))
    (fun h => (out58 (j := 21) (o := 60) (n := 16) (by omega) ho hn hl h _).trans (by rw [ho]; kernel_rfl))
theorem k58_22 {xs : List AV} (h1 : intsA .u8 xs = true) (h2 : lenB xs = true) (hl : offOf 22 ≤ xs.length) : Round (book.envP 58 (sp58 true) big noLoops) (loopBody Try.f58 4) (book.clean 58 4) (book.clean 58 (4 + 500)) (st58 xs) pr58 (P58 xs) (fun x => (F58 xs x).val) (fun x => (24 - x.1).toNat) ((22 : Int), (76 : Int), hdrC (pc xs 22)) :=
  have ho : offOf 22 = 76 := by kernel_rfl
  have hn : offOf (22 + 1) = 76 + 16 := by kernel_rfl
  r58_22 (pc xs 22) xs _ _ _ (inR_iff.2 ⟨by omega, by omega⟩) (pre_u8 h1 h2 _) (fun h => on58 (j := 22) (o := 76) (n := 16) (x := (0, 76, hdrC (pc xs 22))) (by omega) ho hn hl h (by kernel_rfl))
    (fun h => (out58 (j := 22) (o := 76) (n := 16) (by omega) ho hn hl h _).trans (by rw [ho]; kernel_rfl))
theorem k58_23 {xs : List AV} (h1 : intsA .u8 xs = true) (h2 : lenB xs = true) (hl : offOf 23 ≤ xs.length) : Round (book.envP 58 (sp58 true) big noLoops) (loopBody Try.f58 4) (book.clean 58 4) (book.clean 58 (4 + 500)) (st58 xs) pr58 (P58 xs) (fun x => (F58 xs x).val) (fun x => (24 - x.1).toNat) ((23 : Int), (92 : Int), hdrC (pc xs 23)) :=
  have ho : offOf 23 = 92 := by kernel_rfl
  have hn : offOf (23 + 1) = 92 + 3 := by kernel_rfl
  r58_23 (pc xs 23) xs _ _ _ (inR_iff.2 ⟨by omega, by omega⟩) (pre_u8 h1 h2 _) (fun h => on58 (j := 23) (o := 92) (n := 3) (x := (0, 92, hdrC (pc xs 23))) (by omega) ho hn hl h (by kernel_rfl))
    (fun h => (out58 (j := 23) (o := 92) (n := 3) (by omega) ho hn hl h _).trans (by rw [ho]; kernel_rfl))
theorem step57 {xs : List AV} (h1 : intsA .u8 xs = true) (h2 : lenB xs = true) (x : X57) (hp : P57 xs x) : Round (book.envP 57 (sp57 true) big noLoops) (loopBody Try.f57 3) (book.clean 57 3) (book.clean 57 (3 + 500)) st57 pr57 (P57 xs) (fun x => (F57 xs x).val) (fun x => (24 - x.1).toNat) x := by
  obtain ⟨j, hj, hl, rfl⟩ := hp
  match j, hj, hl with
  | 0, _, hl => exact k57_0 h1 h2 hl
  | 1, _, hl => exact k57_1 h1 h2 hl
  | 2, _, hl => exact k57_2 h1 h2 hl
  | 3, _, hl => exact k57_3 h1 h2 hl
  | 4, _, hl => exact k57_4 h1 h2 hl
  | 5, _, hl => exact k57_5 h1 h2 hl
  | 6, _, hl => exact k57_6 h1 h2 hl
  | 7, _, hl => exact k57_7 h1 h2 hl
  | 8, _, hl => exact k57_8 h1 h2 hl
  | 9, _, hl => exact k57_9 h1 h2 hl
  | 10, _, hl => exact k57_10 h1 h2 hl
  | 11, _, hl => exact k57_11 h1 h2 hl
  | 12, _, hl => exact k57_12 h1 h2 hl
  | 13, _, hl => exact k57_13 h1 h2 hl
  | 14, _, hl => exact k57_14 h1 h2 hl
  | 15, _, hl => exact k57_15 h1 h2 hl
  | 16, _, hl => exact k57_16 h1 h2 hl
  | 17, _, hl => exact k57_17 h1 h2 hl
  | 18, _, hl => exact k57_18 h1 h2 hl
  | 19, _, hl => exact k57_19 h1 h2 hl
  | 20, _, hl => exact k57_20 h1 h2 hl
  | 21, _, hl => exact k57_21 h1 h2 hl
  | 22, _, hl => exact k57_22 h1 h2 hl
  | 23, _, hl => exact k57_23 h1 h2 hl
  | 24, _, hl =>
    refine r57_24 (pc xs 24) (xs.drop (offOf 24)) _ _ _ ?_
    rw [off24] at hl
    have e : ile 95 (xs.length : Int) = true := ile_iff.2 (by omega)
    show (F57 xs _).val = _
    unfold F57
    rw [e]
    kernel_rfl
  | j + 25, h, _ => omega
theorem step58 {xs : List AV} (h1 : intsA .u8 xs = true) (h2 : lenB xs = true) (x : X58) (hp : P58 xs x) : Round (book.envP 58 (sp58 true) big noLoops) (loopBody Try.f58 4) (book.clean 58 4) (book.clean 58 (4 + 500)) (st58 xs) pr58 (P58 xs) (fun x => (F58 xs x).val) (fun x => (24 - x.1).toNat) x := by
  obtain ⟨j, hj, hl, rfl⟩ := hp
  match j, hj, hl with
  | 0, _, hl => exact k58_0 h1 h2 hl
  | 1, _, hl => exact k58_1 h1 h2 hl
  | 2, _, hl => exact k58_2 h1 h2 hl
  | 3, _, hl => exact k58_3 h1 h2 hl
  | 4, _, hl => exact k58_4 h1 h2 hl
  | 5, _, hl => exact k58_5 h1 h2 hl
  | 6, _, hl => exact k58_6 h1 h2 hl
  | 7, _, hl => exact k58_7 h1 h2 hl
  | 8, _, hl => exact k58_8 h1 h2 hl
  | 9, _, hl => exact k58_9 h1 h2 hl
  | 10, _, hl => exact k58_10 h1 h2 hl
  | 11, _, hl => exact k58_11 h1 h2 hl
  | 12, _, hl => exact k58_12 h1 h2 hl
  | 13, _, hl => exact k58_13 h1 h2 hl
  | 14, _, hl => exact k58_14 h1 h2 hl
  | 15, _, hl => exact k58_15 h1 h2 hl
  | 16, _, hl => exact k58_16 h1 h2 hl
  | 17, _, hl => exact k58_17 h1 h2 hl
  | 18, _, hl => exact k58_18 h1 h2 hl
  | 19, _, hl => exact k58_19 h1 h2 hl
  | 20, _, hl => exact k58_20 h1 h2 hl
  | 21, _, hl => exact k58_21 h1 h2 hl
  | 22, _, hl => exact k58_22 h1 h2 hl
  | 23, _, hl => exact k58_23 h1 h2 hl
  | 24, _, hl =>
    refine r58_24 (pc xs 24) xs _ _ _ ?_
    rw [off24] at hl
    have e : ile 95 (xs.length : Int) = true := ile_iff.2 (by omega)
    show (F58 xs _).val = _
    unfold F58
    rw [e]
    kernel_rfl
  | j + 25, h, _ => omega

theorem preP_ok {xs cs : List AV} (h : preP xs cs = true) : intsA .u8 xs = true ∧ lenB xs = true ∧ cs = hdrC (pc xs 0) := by
  simp only [preP, Bool.and_eq_true] at h
  refine ⟨h.1, h.2.1, ?_⟩
  have e := isHdr_eq h.2.2.1
  have h2 := h.2.2.2
  rw [e] at h2
  have z : hdrC (fun _ => 0) = hdrC (pc xs 0) := by kernel_rfl
  exact e.trans ((pairEq_hdr h2).trans z)
theorem lok57 (xs : List AV) (h1 : intsA .u8 xs = true) (h2 : lenB xs = true) {loops} : LoopOk (book.envP 57 (sp57 true) big loops) (loopBody Try.f57 3) (lp57 xs) := by
  refine Book.loop_ok (loops' := noLoops) (noInner (by kernel_rfl)) (by kernel_rfl) (fun x hx => ?_) (step57 h1 h2)
  obtain ⟨i, ys, cs⟩ := x
  simp only [pre57, Bool.and_eq_true, ieq, beq_iff_eq] at hx
  obtain ⟨rfl, h3, h4, h5⟩ := hx
  obtain ⟨_, _, rfl⟩ := preP_ok h5
  rw [eqA_eq h4 h1 h3]
  exact ⟨⟨0, by omega, by simp [offOf], rfl⟩, by unfold big; simp⟩
theorem lok58 (xs : List AV) (h1 : intsA .u8 xs = true) (h2 : lenB xs = true) {loops} : LoopOk (book.envP 58 (sp58 true) big loops) (loopBody Try.f58 4) (lp58 xs) := by
  refine Book.loop_ok (loops' := noLoops) (noInner (by kernel_rfl)) (by kernel_rfl) (fun x hx => ?_) (step58 h1 h2)
  obtain ⟨i, o, cs⟩ := x
  simp only [pre58, Bool.and_eq_true, ieq, beq_iff_eq] at hx
  obtain ⟨rfl, rfl, h5⟩ := hx
  obtain ⟨_, _, rfl⟩ := preP_ok h5
  exact ⟨⟨0, by omega, by simp [offOf], rfl⟩, by unfold big; simp⟩

end Go.Proofs.Ytdcijmigoefnjaa
