/- The evaluator: types from the program; contracts put together; closed calls. -/
import Derived.Test.YtdcijmigoefnjaaEvX
set_option linter.unusedVariables false
set_option linter.unusedSimpArgs false
namespace Go.Ev
open Go

def tyOf (P : Program) (t : TypeId) : Option TI :=
  match P.underlying t, P.info? t with
  | some d, some i =>
    match i.zero with
    | some z =>
      bif z.cells.toList.all oc && z.cells.toList.length == i.size && !P.stoodInHeld t && !P.eqGuardType P.depth t then
        some { td := tdOf d, size := i.size, bytes := i.bytes, zero := z.cells.toList.map ofVal }
      else none
    | none => none
  | _, _ => none

theorem tyOf_ok1 {P : Program} {t : TypeId} {ti : TI} (h : tyOf P t = some ti) : TyOk1 P t ti ∧ ∃ vs : List Value, ti.zero = vs.map ofVal := by
  unfold tyOf at h
  cases h1 : P.underlying t with
  | none => simp [h1] at h
  | some d =>
  cases h2 : P.info? t with
  | none => simp [h1, h2] at h
  | some i =>
  simp only [h1, h2] at h
  cases h3 : i.zero with
  | none => simp [h3] at h
  | some z =>
  simp only [h3] at h
  cases hb : (z.cells.toList.all oc && z.cells.toList.length == i.size && !P.stoodInHeld t && !P.eqGuardType P.depth t) <;> rw [hb] at h <;> simp only [cond_true, cond_false] at h
  · cases h
  cases h
  simp only [Bool.and_eq_true, Bool.not_eq_true', beq_iff_eq, List.all_eq_true] at hb
  obtain ⟨⟨⟨b1, b2⟩, b3⟩, b4⟩ := hb
  exact ⟨⟨⟨d, h1, rfl⟩, ⟨i, z, h2, rfl, rfl, h3, rfl, b1⟩, by simpa using b2, b3, b4⟩, _, rfl⟩

inductive Tr (α : Type) where
  | leaf
  | node (l : Tr α) (k : Nat) (v : α) (r : Tr α)

def Tr.get {α : Type} : Tr α → Nat → Option α
  | .leaf, _ => none
  | .node l k v r, n => bif Nat.blt n k then l.get n else bif Nat.blt k n then r.get n else some v

def Tr.All {α : Type} (p : Nat → α → Prop) : Tr α → Prop
  | .leaf => True
  | .node l k v r => l.All p ∧ p k v ∧ r.All p

theorem Tr.All.get {α : Type} {p : Nat → α → Prop} : ∀ {t : Tr α}, t.All p → ∀ {n v}, t.get n = some v → p n v
  | .leaf, _, n, v, h => by cases h
  | .node l k x r, ha, n, v, h => by
    obtain ⟨h1, h2, h3⟩ := ha
    simp only [Tr.get] at h
    cases hb : Nat.blt n k <;> rw [hb] at h <;> simp only [cond_true, cond_false] at h
    · cases hc : Nat.blt k n <;> rw [hc] at h <;> simp only [cond_true, cond_false] at h
      · cases h
        have : n = k := by
          have e1 : ¬ n < k := by rw [← Nat.blt_eq, hb]; simp
          have e2 : ¬ k < n := by rw [← Nat.blt_eq, hc]; simp
          omega
        rw [this]; exact h2
      · exact h3.get h
    · exact h1.get h

abbrev TT := Tr TI
abbrev FT := Tr Func
abbrev KT := Tr (List Nat × List Nat)

/-! ### contracts -/

abbrev Sum := List AV → List (List AV) → Option (AV × List (List AV))

def SumOk (P : Program) (f : FuncId) (S : Sum) : Prop := ∀ args passed r passed', S args passed = some (r, passed') → CallsA P f args passed r passed'

def specOf : List (FuncId × Sum) → FuncId → Sum
  | [], _ => fun _ _ => none
  | (g, S) :: r, f => bif g == f then S else specOf r f

def SpecL (P : Program) : List (FuncId × Sum) → Prop
  | [] => True
  | p :: r => SumOk P p.1 p.2 ∧ SpecL P r

theorem specOf_ok {P : Program} : ∀ {l : List (FuncId × Sum)}, SpecL P l → SpecOk P (specOf l)
  | [], _ => fun f args passed r passed' h => by cases h
  | p :: l, hl => fun f args passed r passed' h => by
    simp only [specOf] at h
    cases hb : p.1 == f <;> rw [hb] at h <;> simp only [cond_true, cond_false] at h
    · exact specOf_ok hl.2 f args passed r passed' h
    · rw [beq_iff_eq] at hb
      rw [← hb]; exact hl.1 _ _ _ _ h

/-- a program's types and functions, as tables -/
structure Book where
  ty : TT
  fn : FT
  keep : KT
  eqs : TypeId → Option ((List AV → List AV → Bool) × (List AV → Bool)) := fun _ => none
  eqok : ∀ t p, eqs t = some p → ∀ xs ys, p.2 xs = true → p.2 ys = true → eqT ty.get 50 t (.agg xs) (.agg ys) = some (p.1 xs ys) := by intro t p h; cases h

structure Book.Ok (P : Program) (K : Book) : Prop where
  ty : K.ty.All fun t ti => tyOf P t = some ti
  fn : K.fn.All fun f g => P.funcs[f]? = some g ∧ (g.name == "runtime.NumGoroutine") = false
  mixed : P.follows .mixedOrders = true

theorem Book.Ok.tys {P : Program} {K : Book} (h : K.Ok P) : TyOk P K.ty.get := fun _ _ ht => (tyOf_ok1 (h.ty.get ht)).1
theorem Book.Ok.zero {P : Program} {K : Book} (h : K.Ok P) : ZeroOk K.ty.get := fun _ _ ht => (tyOf_ok1 (h.ty.get ht)).2

def Book.env (K : Book) (f : FuncId) (spec : FuncId → Sum) (fuel : Nat) : Env := { ty := K.ty.get, spec, keep := fun r => K.keep.get (f * 1000 + r), fuel }

/-- a function's run by its code, calls by contracts -/
def Book.run (K : Book) (spec : FuncId → Sum) (fuel : Nat) (f : FuncId) : Sum := fun args passed =>
  match K.fn.get f with
  | some g => runF (K.env f spec fuel) g args passed
  | none => none

theorem Book.run_ok {P : Program} {K : Book} (hK : K.Ok P) {spec : FuncId → Sum} (hs : SpecOk P spec) (fuel : Nat) (f : FuncId) : SumOk P f (K.run spec fuel f) := by
  intro args passed r passed' h
  unfold Book.run at h
  cases hf : K.fn.get f with
  | none => simp [hf] at h
  | some g =>
    simp only [hf] at h
    obtain ⟨h1, h2⟩ := hK.fn.get hf
    exact runF_ok (E := K.env f spec fuel) ⟨hK.tys, hs⟩ hK.zero hK.mixed h1 h2 h

/-- all by code -/
def Book.all (K : Book) (fuel : Nat) : Nat → FuncId → Sum
  | 0 => fun _ _ _ => none
  | n + 1 => K.run (K.all fuel n) fuel

theorem Book.all_ok {P : Program} {K : Book} (hK : K.Ok P) (fuel : Nat) : ∀ n, SpecOk P (K.all fuel n)
  | 0 => fun f args passed r passed' h => by cases h
  | n + 1 => fun f => K.run_ok hK (K.all_ok hK fuel n) fuel f

/-- a contract for one call -/
def sum1 (args : List AV) (passed : List (List AV)) (r : AV) (passed' : List (List AV)) (eq : List AV → List (List AV) → Bool) : Sum := fun a p => bif eq a p then some (r, passed') else none

theorem SumOk.mono {P : Program} {f : FuncId} {S S' : Sum} (h : SumOk P f S) (hs : ∀ a p r q, S' a p = some (r, q) → S a p = some (r, q)) : SumOk P f S' :=
  fun a p r q e => h a p r q (hs a p r q e)

end Go.Ev
