/- The evaluator: a law, out of its contract. -/
import Derived.Test.YtdcijmigoefnjaaEvZb
import Derived.ProofKit
set_option linter.unusedVariables false
set_option linter.unusedSimpArgs false
namespace Go.Ev
open Go

theorem CallsA.law {P : Program} {f : FuncId} {args : List AV} (h : CallsA P f args [] (.bool true) []) {w : World} {S : Nat → Nat → Prop} {vs : List Value} (hS : ∀ g o, S g o → g < w.heap.size)
    (hr : RepL S w (fun _ => none) args vs) : Calls P f vs.toArray w fun e w' => e = .returned (.bool true) ∧ RowKit.Grown w w' := by
  have hp : Pass w S (fun _ => none) [] :=
    ⟨hS, fun i j b h => (by cases h), fun i b o h => (by cases h), fun i b h => (by cases h), fun j cs h => (by simp at h)⟩
  refine (h.2 w S (fun _ => none) vs hp hr).mono ?_
  rintro e w' ⟨v, S', rfl, hd⟩
  have hv : v = .bool true := by
    have := hd.res
    unfold RepRes at this
    cases this; rfl
  subst hv
  have hold : ∀ i, i < w.heap.size → w'.heap[i]? = w.heap[i]? := fun i hi => hd.old i hi fun j hj => by cases hj
  refine ⟨rfl, ⟨hd.os, hd.output, fun i hi => ?_⟩, fun a => ?_, hd.size⟩
  · rw [hold i hi]
    exact (World.keptBut_refl w (fun _ => False)).2.2 i hi
  · by_cases ha : a.block < w.heap.size
    · exact frozen_heap (hold _ ha)
    · rw [hd.fro a (by omega)]
      exact (Fro.top (Nat.le_refl _) a (by omega)).symm

end Go.Ev
