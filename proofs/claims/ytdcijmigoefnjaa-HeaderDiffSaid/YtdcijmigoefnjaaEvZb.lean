/- The evaluator: contracts of a kind. -/
import Derived.Test.YtdcijmigoefnjaaEvZa
set_option linter.unusedVariables false
set_option linter.unusedSimpArgs false
namespace Go.Ev
open Go

/-- a contract of a function that writes nothing that it was passed -/
def sumOf (g : List AV → Option AV) : SumT := fun a p =>
  match p with
  | [] => (match g a with | some r => .ret (.leaf (r, [])) | none => .no)
  | _ => .no

theorem sumOf_ok {P : Program} {f : FuncId} {g : List AV → Option AV} (h : ∀ a r, g a = some r → CallsA P f a [] r []) : SumTOk P f (sumOf g) := by
  intro args passed t hr
  unfold sumOf at hr
  cases passed with
  | cons => exact hr.elim
  | nil =>
    cases hg : g args with
    | none => simp only [hg] at hr; exact hr.elim
    | some v =>
      simp only [hg, T.Ret] at hr
      subst hr
      exact h _ _ hg

/-- a function of an int -/
def gI (k : IntKind) (g : Int → AV) : List AV → Option AV := fun a =>
  match a with
  | [.int k' n] => bif decide (k' = k) then some (g n) else none
  | _ => none

theorem gI_ok {P : Program} {f : FuncId} {k : IntKind} {g : Int → AV} (h : ∀ n, CallsA P f [.int k n] [] (g n) []) : SumTOk P f (sumOf (gI k g)) := by
  refine sumOf_ok fun a r hr => ?_
  unfold gI at hr
  split at hr
  · rename_i k' n
    cases hk : decide (k' = k) <;> rw [hk] at hr <;> simp only [cond_true, cond_false] at hr
    · cases hr
    · cases hr
      have : k' = k := of_decide_eq_true hk
      subst this
      exact h n
  · cases hr

/-- a function of nothing -/
def g0 (r : AV) : List AV → Option AV := fun a =>
  match a with
  | [] => some r
  | _ => none

theorem g0_ok {P : Program} {f : FuncId} {r : AV} (h : CallsA P f [] [] r []) : SumTOk P f (sumOf (g0 r)) := by
  refine sumOf_ok fun a r' hr => ?_
  unfold g0 at hr
  split at hr
  · cases hr; exact h
  · cases hr

def noSpec : List (FuncId × SumT) := []
theorem noSpec_ok {P : Program} : SpecTL P noSpec := trivial

def T.run {α : Type} : T α → Option α
  | .no => none
  | .ret a => some a
  | .need b t => bif b then t.run else none
  | .must _ _ => none

theorem T.of_run {α : Type} : ∀ {t : T α} {a : α}, t.run = some a → t.Ret a
  | .no, _, h => by cases h
  | .ret _, _, h => Option.some.inj h
  | .need b t, a, h => by
    simp only [T.run] at h
    cases b <;> simp only [cond_true, cond_false] at h
    · cases h
    · exact ⟨rfl, T.of_run h⟩
  | .must _ _, _, h => by cases h

abbrev TR := T (AV × List (List AV))

/-- what a path ends with -/
structure Goes (t : TR) (r : AV × List (List AV)) : Prop where
  ret : t.Ret r

theorem Goes.of_eq {t t' : TR} {r : AV × List (List AV)} (e : t = t') (h : Goes t' r) : Goes t r := e ▸ h
theorem Goes.step {b : Bool} {t : TR} {r : AV × List (List AV)} (hb : b = true) (h : Goes t r) : Goes (Bool.rec (motive := fun _ => TR) .no t b) r := by
  subst hb; exact h
theorem Goes.leaf {r : AV × List (List AV)} : Goes (.ret r) r := ⟨rfl⟩
theorem Goes.of_run {t : TR} {r : AV × List (List AV)} (h : t.run = some r) : Goes t r := ⟨T.of_run h⟩

/-- without loops that are told apart -/
theorem Book.Ok.pth {P : Program} {K : Book} (hK : K.Ok P) {f : FuncId} {fn : Func} (hf : K.fn.get f = some fn) {spec : List (FuncId × SumT)} (hs : SpecTL P spec) {fuel : Nat} {args : List AV} {passed : List (List AV)} {q : Q} {r : AV} {passed' : List (List AV)}
    (h : Goes (runP (K.envP f spec fuel noLoops) fn args passed q) (r, passed')) : CallsA P f args passed r passed' :=
  hK.path hf hs fuel noLoops (fun _ _ => noLoops_ok) q h.ret

theorem told {b c : Bool} (h : b = c) : asTold b c = true := by subst h; cases b <;> rfl

end Go.Ev
