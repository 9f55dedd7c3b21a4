/- The evaluator: arguments told less sharply; sums over lists. -/
import Derived.Test.YtdcijmigoefnjaaEvZd
set_option linter.unusedVariables false
set_option linter.unusedSimpArgs false
namespace Go.Ev
open Go

/-- a list, nil or not, whatever is behind it -/
def AV.wk (n : Nat) : AV → AV
  | .sl _ xs .nil => .sl n xs .sh
  | .sl sz xs .full => .sl sz xs .sh
  | v => v

theorem RepV.wk {S w β a v} (n : Nat) (h : RepV S w β a v) : RepV S w β (a.wk n) v := by
  cases h with
  | slNil => exact .slShNil
  | slFull c r => exact .slSh _ c r (Nat.le_refl _)
  | slFullNil => exact .slShNil
  | unk v => exact .unk v
  | int k n => exact .int k n
  | bool b => exact .bool b
  | str s => exact .str s
  | agg l o => exact .agg l o
  | tup l => exact .tup l
  | ptr e => exact .ptr e
  | nilp => exact .nilp
  | ro c r => exact .ro c r
  | slSh cap c r l => exact .slSh cap c r l
  | slShNil => exact .slShNil
  | view cap e l => exact .view cap e l
  | fn l => exact .fn l
  | niliface => exact .niliface
  | nilfn => exact .nilfn

def wkA : List Nat → List AV → List AV
  | n :: ns, a :: as => a.wk n :: wkA ns as
  | _, as => as

theorem RepL.wkA {S w β} : ∀ {ns : List Nat} {as : List AV} {vs : List Value}, RepL S w β as vs → RepL S w β (wkA ns as) vs
  | [], as, vs, h => by simpa [Ev.wkA] using h
  | n :: ns, [], vs, h => by simpa [Ev.wkA] using h
  | n :: ns, a :: as, _, .cons h l => .cons (h.wk n) l.wkA

theorem CallsA.wk {P : Program} {f : FuncId} {ns : List Nat} {args : List AV} {passed : List (List AV)} {r : AV} {passed' : List (List AV)} (h : CallsA P f (wkA ns args) passed r passed') : CallsA P f args passed r passed' :=
  ⟨h.1, fun w S β vs hp hv => h.2 w S β vs hp hv.wkA⟩

/-- a contract over lists, nil or not -/
def sumW {σ : Type} (ns : List Nat) (pr : List AV → σ) (A : σ → List AV) (pre : σ → Bool) (R : σ → Tree AV) : SumT := fun a p => sum0 pr A pre R (wkA ns a) p

theorem sumW_ok {σ : Type} {P : Program} {f : FuncId} {ns : List Nat} {pr : List AV → σ} {A : σ → List AV} {pre : σ → Bool} {R : σ → Tree AV}
    (h : ∀ x, pre x = true → CallsA P f (A x) [] (R x).val []) : SumTOk P f (sumW ns pr A pre R) := fun a p t ht => (sum0_ok h (wkA ns a) p t ht).wk

/-- the same with memory that is passed -/
def sumWS {σ : Type} (ns : List Nat) (pr : List AV → List (List AV) → σ) (A : σ → List AV) (M : σ → List (List AV)) (pre : σ → Bool) (R : σ → Tree (AV × List (List AV))) : SumT := fun a p => sumS pr A M pre R (wkA ns a) p

theorem sumWS_ok {σ : Type} {P : Program} {f : FuncId} {ns : List Nat} {pr : List AV → List (List AV) → σ} {A : σ → List AV} {M : σ → List (List AV)} {pre : σ → Bool} {R : σ → Tree (AV × List (List AV))}
    (h : ∀ x, pre x = true → CallsA P f (A x) (M x) (R x).val.1 (R x).val.2) : SumTOk P f (sumWS ns pr A M pre R) := fun a p t ht => (sumS_ok h (wkA ns a) p t ht).wk

def AV.elems : AV → List AV
  | .sl _ xs _ => xs
  | _ => []

theorem CallsA.of_eq {P : Program} {f : FuncId} {args args' : List AV} {passed : List (List AV)} {r r' : AV} {passed' : List (List AV)} (h : CallsA P f args passed r passed') (ha : args = args') (hr : r = r') : CallsA P f args' passed r' passed' := ha ▸ hr ▸ h

theorem condT {c x y v : Bool} (p : c = true) (q : x = v) : (bif c then x else y) = v := by subst p; exact q
theorem condF {c x y v : Bool} (p : c = false) (q : y = v) : (bif c then x else y) = v := by subst p; exact q
theorem condT' {c x y v : Bool} (p : c = true) (q : (bif c then x else y) = v) : x = v := by subst p; exact q
theorem condF' {c x y v : Bool} (p : c = false) (q : (bif c then x else y) = v) : y = v := by subst p; exact q
theorem notE {b c : Bool} (p : b = c) : (!b) = !c := by rw [p]

/-- calls of one kind, all at once -/
theorem all_of_map {α : Type} {n : Nat} {f g : Nat → α} (h : (List.range n).map f = (List.range n).map g) : ∀ j, j < n → f j = g j :=
  fun j hj => List.map_inj_left.1 h j (List.mem_range.2 hj)

def Sum.T (S : Sum) : SumT := fun a p => match S a p with | some r => .ret (.leaf r) | none => .no
theorem Sum.T_ok {P : Program} {f : FuncId} {S : Sum} (h : SumOk P f S) : SumTOk P f S.T := by
  intro a p t ht
  unfold Sum.T at ht
  cases hs : S a p with
  | none => simp only [hs] at ht; exact ht.elim
  | some r =>
    simp only [hs] at ht
    cases ht
    exact h _ _ _ _ hs

/-- all by code, but for what is told -/
def Book.mix (K : Book) (base : List (FuncId × Sum)) (fuel : Nat) : Nat → FuncId → Sum
  | 0 => specOf base
  | n + 1 => fun f => bif base.any (fun p => p.1 == f) then specOf base f else K.run (K.mix base fuel n) fuel f

theorem Book.mix_ok {P : Program} {K : Book} (hK : K.Ok P) {base : List (FuncId × Sum)} (hb : SpecL P base) (fuel : Nat) : ∀ n, SpecOk P (K.mix base fuel n)
  | 0 => specOf_ok hb
  | n + 1 => fun f => by
    unfold Book.mix
    cases base.any (fun p => p.1 == f) with
    | true => exact specOf_ok hb f
    | false => exact K.run_ok hK (K.mix_ok hK hb fuel n) fuel f

def SumT.S (S : SumT) : Sum := fun a p => (S a p).run.map Tree.val
theorem SumT.S_ok {P : Program} {f : FuncId} {S : SumT} (h : SumTOk P f S) : SumOk P f S.S := by
  intro a p r q hr
  obtain ⟨t, h1, h2⟩ := Option.map_eq_some_iff.1 hr
  have := h a p t (T.of_run h1)
  rw [h2] at this
  exact this

def specS : List (FuncId × SumT) → List (FuncId × Sum)
  | [] => []
  | p :: l => (p.1, SumT.S p.2) :: specS l
theorem specS_ok {P : Program} : ∀ {l : List (FuncId × SumT)}, SpecTL P l → SpecL P (specS l)
  | [], _ => trivial
  | p :: l, h => ⟨SumT.S_ok h.1, specS_ok h.2⟩

/-- a state, slot by slot -/
def stA (n : Nat) (l : List (Nat × AV)) (m : Mem) : AS := { tmps := l.foldl (fun t p => t.set p.1 p.2) (List.replicate n .unk), mem := m }
def AS.at (s : AS) (i : Nat) : AV := s.tmps.getD i .unk

/-- a result told less sharply -/
def AV.rwk (n : Nat) : AV → AV
  | .sl sz xs (.own _) => .sl sz xs .sh
  | v => v.wk n

theorem CallsA.rwk {P : Program} {f : FuncId} {args : List AV} {passed : List (List AV)} {r : AV} {passed' : List (List AV)} (h : CallsA P f args passed r passed') (n : Nat) : CallsA P f args passed (r.rwk n) passed' := by
  refine ⟨h.1, fun w S β vs hp hv => (h.2 w S β vs hp hv).mono ?_⟩
  rintro e w' ⟨v, S', rfl, hd⟩
  refine ⟨v, S', rfl, { hd with res := ?_ }⟩
  have hr := hd.res
  unfold RepRes at hr
  split at hr
  · obtain ⟨g, cap, vs, us, t, h1, rfl, h2, h3, h4, _⟩ := hr
    exact RepRes_flat (.slSh cap h2 h3 h4)
  · rename_i hne
    have : r.rwk n = r.wk n := by
      cases r <;> try rfl
      rename_i st
      cases st <;> try rfl
      exact (hne _ _ _ rfl).elim
    rw [this]
    exact RepRes_flat (hr.wk n)

/-- a list behind a door: what is known of it is not looked into till the door is opened -/
def lockL (b : Bool) (l : List AV) : List AV := bif b then l else []

end Go.Ev
