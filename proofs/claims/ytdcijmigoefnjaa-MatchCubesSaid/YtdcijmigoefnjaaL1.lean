/- Lists: the loops of slices.Equal. -/
import Derived.Test.YtdcijmigoefnjaaPL1
set_option linter.unusedVariables false
set_option linter.unusedSimpArgs false
set_option maxRecDepth 100000
namespace Go.Proofs.Ytdcijmigoefnjaa
open Go Go.Ev

def lenB (xs : List AV) : Bool := Nat.ble xs.length 9223372036854775807

/-- the same numbers -/
def eqA : List AV → List AV → Bool
  | [], [] => true
  | x :: xs, y :: ys => ieq x.asInt y.asInt && eqA xs ys
  | _, _ => false

theorem eqA_len : ∀ {xs ys : List AV}, eqA xs ys = true → xs.length = ys.length
  | [], [], _ => rfl
  | x :: xs, y :: ys, h => by
    simp only [eqA, Bool.and_eq_true] at h
    simp [eqA_len h.2]
  | [], _ :: _, h => by cases h
  | _ :: _, [], h => by cases h

theorem eqA_self : ∀ xs : List AV, eqA xs xs = true
  | [] => rfl
  | x :: xs => by simp [eqA, ieq, eqA_self xs]

theorem drop_getD {α : Type} {xs : List α} {n : Nat} {d : α} (h : n < xs.length) : xs.drop n = xs.getD n d :: xs.drop (n + 1) := by
  rw [List.drop_eq_getElem_cons h, List.getD_eq_getElem?_getD, List.getElem?_eq_getElem h]
  rfl

theorem eqA_step {xs ys : List AV} {n : Nat} (h1 : n < xs.length) (h2 : n < ys.length) :
    eqA (xs.drop n) (ys.drop n) = (ieq (xs.getD n .unk).asInt (ys.getD n .unk).asInt && eqA (xs.drop (n + 1)) (ys.drop (n + 1))) := by
  rw [drop_getD (d := AV.unk) h1, drop_getD (d := AV.unk) h2]; rfl

theorem intsA_get {k : IntKind} {xs : List AV} {n : Nat} (h : intsA k xs = true) (hn : n < xs.length) : ∃ z, xs.getD n .unk = .int k z := by
  unfold intsA at h
  rw [List.all_eq_true] at h
  have := h (xs.getD n .unk) (by rw [List.getD_eq_getElem?_getD, List.getElem?_eq_getElem hn]; exact List.getElem_mem hn)
  revert this
  generalize xs.getD n .unk = v
  intro this
  cases v <;> try (cases this; done)
  simp only [isI, decide_eq_true_eq] at this
  exact ⟨_, by rw [this]⟩

theorem ilt_iff {a b : Int} : ilt a b = true ↔ a < b := by simp [ilt]
theorem ilt_no {a b : Int} : ilt a b = false ↔ b ≤ a := by simp [ilt]
theorem inR_iff {i : Int} {n : Nat} : inR i n = true ↔ 0 ≤ i ∧ i < n := by simp [inR]
theorem iadd_small {a b : Int} (h0 : -9223372036854775808 ≤ a + b) (h1 : a + b < 9223372036854775808) : iadd .i64 a b = a + b := by
  unfold iadd; rw [IntKind.wrap_i64]; omega

def F41 (x : X3) : Tree (Ex × AS) := .ite (eqA (x.2.1.drop x.1.toNat) (x.2.2.drop x.1.toNat)) (.leaf (.exit 0, r41_o1 0 [] [])) (.leaf (.ret, r41_o0 0 [] []))
structure P41 (k : IntKind) (x : X3) : Prop where
  i0 : 0 ≤ x.1
  i1 : x.1 ≤ x.2.1.length
  len : x.2.1.length = x.2.2.length
  big : x.2.1.length ≤ 9223372036854775807
  xs : intsA k x.2.1 = true
  ys : intsA k x.2.2 = true
def pre41 (k : IntKind) (x : X3) : Bool := ile 0 x.1 && (ile x.1 x.2.1.length && (x.2.1.length == x.2.2.length && (lenB x.2.1 && (intsA k x.2.1 && intsA k x.2.2))))
theorem pre41_ok {k : IntKind} {x : X3} (h : pre41 k x = true) : P41 k x := by
  simp only [pre41, Bool.and_eq_true, ile, decide_eq_true_eq, beq_iff_eq, lenB, Nat.ble_eq] at h
  exact ⟨h.1, h.2.1, h.2.2.1, h.2.2.2.1, h.2.2.2.2.1, h.2.2.2.2.2⟩

theorem on41 {k : IntKind} {i : Int} {xs ys : List AV} (h : P41 k (i, xs, ys)) (hi : ilt i xs.length = true) (he : (!ieq (xs.getD i.toNat AV.unk).asInt (ys.getD i.toNat AV.unk).asInt) = false) :
    OnOk (P41 k) (fun x => (F41 x).val) (fun x => (x.2.1.length - x.1).toNat) (i, xs, ys) (iadd .i64 i 1, xs, ys) := by
  obtain ⟨h1, h2, h3, h4, h5, h6⟩ := h
  simp only at h1 h2 h3 h4 h5 h6
  rw [ilt_iff] at hi
  have e : iadd .i64 i 1 = i + 1 := iadd_small (by omega) (by omega)
  rw [e]
  refine ⟨⟨by simp only; omega, by simp only; omega, h3, h4, h5, h6⟩, ?_, by simp only; omega⟩
  have e2 : (i + 1).toNat = i.toNat + 1 := by omega
  have := eqA_step (n := i.toNat) (xs := xs) (ys := ys) (by omega) (by omega)
  simp only [Bool.not_eq_false'] at he
  rw [he, Bool.true_and] at this
  simp only [F41, e2, this]

theorem no41 {k : IntKind} {i : Int} {xs ys : List AV} (h : P41 k (i, xs, ys)) (hi : ilt i xs.length = true) (he : (!ieq (xs.getD i.toNat AV.unk).asInt (ys.getD i.toNat AV.unk).asInt) = true) :
    (F41 (i, xs, ys)).val = (.ret, r41_o0 0 [] []) := by
  obtain ⟨h1, h2, h3, h4, h5, h6⟩ := h
  simp only at h1 h2 h3 h4 h5 h6
  rw [ilt_iff] at hi
  have := eqA_step (n := i.toNat) (xs := xs) (ys := ys) (by omega) (by omega)
  simp only [Bool.not_eq_true'] at he
  rw [he, Bool.false_and] at this
  simp only [F41, Tree.val, this, cond_false]

theorem end41 {k : IntKind} {i : Int} {xs ys : List AV} (h : P41 k (i, xs, ys)) (hi : ilt i xs.length = false) : (F41 (i, xs, ys)).val = (.exit 0, r41_o1 0 [] []) := by
  obtain ⟨h1, h2, h3, h4, h5, h6⟩ := h
  simp only at h1 h2 h3 h4 h5 h6
  rw [ilt_no] at hi
  have e1 : xs.drop i.toNat = [] := List.drop_eq_nil_of_le (by omega)
  have e2 : ys.drop i.toNat = [] := List.drop_eq_nil_of_le (by omega)
  simp only [F41, e1, e2, eqA, Tree.val, cond_true]

theorem in41 {k : IntKind} {i : Int} {xs ys : List AV} (h : P41 k (i, xs, ys)) (hi : ilt i xs.length = true) : inR i xs.length = true ∧ inR i ys.length = true ∧ (∃ z, xs.getD i.toNat .unk = .int k z) ∧ ∃ z, ys.getD i.toNat .unk = .int k z := by
  obtain ⟨h1, h2, h3, h4, h5, h6⟩ := h
  simp only at h1 h2 h3 h4 h5 h6
  rw [ilt_iff] at hi
  exact ⟨inR_iff.2 ⟨h1, hi⟩, inR_iff.2 ⟨h1, by omega⟩, intsA_get h5 (by omega), intsA_get h6 (by omega)⟩

theorem step41 (x : X3) (h : P41 .i64 x) : Round (book.envP 41 noSpec big noLoops) (loopBody Try.f41 4) (book.clean 41 4) (book.clean 41 (4 + 500)) st41 pr41 (P41 .i64) (fun x => (F41 x).val) (fun x => (x.2.1.length - x.1).toNat) x := by
  obtain ⟨i, xs, ys⟩ := x
  refine r41 i xs ys _ _ _ (fun a => (in41 h a).1) (fun a => ?_) (fun a => (in41 h a).2.1) (fun a => ?_) (fun a b => no41 h a b) (fun a b => on41 h a b) (fun a => end41 h a)
  · obtain ⟨z, hz⟩ := (in41 h a).2.2.1; show AV.has _ (xs.getD i.toNat .unk) = true; rw [hz]; rfl
  · obtain ⟨z, hz⟩ := (in41 h a).2.2.2; show AV.has _ (ys.getD i.toNat .unk) = true; rw [hz]; rfl

theorem step59 (x : X3) (h : P41 .u8 x) : Round (book.envP 59 noSpec big noLoops) (loopBody Try.f59 4) (book.clean 59 4) (book.clean 59 (4 + 500)) st41 pr41 (P41 .u8) (fun x => (F41 x).val) (fun x => (x.2.1.length - x.1).toNat) x := by
  obtain ⟨i, xs, ys⟩ := x
  refine r59 i xs ys _ _ _ (fun a => (in41 h a).1) (fun a => ?_) (fun a => (in41 h a).2.1) (fun a => ?_) (fun a b => no41 h a b) (fun a b => on41 h a b) (fun a => end41 h a)
  · obtain ⟨z, hz⟩ := (in41 h a).2.2.1; show AV.has _ (xs.getD i.toNat .unk) = true; rw [hz]; rfl
  · obtain ⟨z, hz⟩ := (in41 h a).2.2.2; show AV.has _ (ys.getD i.toNat .unk) = true; rw [hz]; rfl

noncomputable def lp41 : AS → T (Tree (Ex × AS)) := loopS (book.clean 41 4) pr41 st41 F41 (pre41 .i64)
noncomputable def lp59 : AS → T (Tree (Ex × AS)) := loopS (book.clean 59 4) pr41 st41 F41 (pre41 .u8)
theorem lok41 {loops} : LoopOk (book.envP 41 noSpec big loops) (loopBody Try.f41 4) lp41 :=
  Book.loop_ok (loops' := noLoops) (noInner (by kernel_rfl)) (by kernel_rfl) (fun x h => ⟨pre41_ok h, by have := (pre41_ok h).big; have := (pre41_ok h).i0; unfold big; omega⟩) step41
theorem lok59 {loops} : LoopOk (book.envP 59 noSpec big loops) (loopBody Try.f59 4) lp59 :=
  Book.loop_ok (loops' := noLoops) (noInner (by kernel_rfl)) (by kernel_rfl) (fun x h => ⟨pre41_ok h, by have := (pre41_ok h).big; have := (pre41_ok h).i0; unfold big; omega⟩) step59

end Go.Proofs.Ytdcijmigoefnjaa
