/- The evaluator: what a function's contract says; a call, on a frame. -/
import Derived.Test.YtdcijmigoefnjaaEvN
set_option linter.unusedVariables false
set_option linter.unusedSimpArgs false
namespace Go.Ev
open Go

/-- what a function may lean on when it is called -/
structure Pass (w : World) (S : Nat → Nat → Prop) (β : Nat → Option Nat) (passed : List (List AV)) : Prop where
  lt : ∀ g o, S g o → g < w.heap.size
  inj : ∀ i j b, β i = some b → β j = some b → i = j
  avoid : ∀ i b o, β i = some b → ¬ S b o
  dom : ∀ i b, β i = some b → ∃ j, j < passed.length ∧ i = 1000 + j
  mem : ∀ (j : Nat) cs, passed[j]? = some cs → ∃ (b : Nat) (us : List Value) (t : TypeId), β (1000 + j) = some b ∧ Blk w b us t ∧ RepL S w (fun _ => none) cs us ∧ ∀ v ∈ us, oc v = true

/-- a result: a list's tail may be the caller's own -/
def RepRes (S : Nat → Nat → Prop) (w w' : World) (r : AV) (v : Value) : Prop :=
  match r with
  | .sl sz xs (.own _) => ∃ (g cap : Nat) (vs us : List Value) (t : TypeId), w.heap.size ≤ g ∧ v = .slice (some ⟨g, 0, none⟩) xs.length cap ∧ RepR S w' sz xs vs ∧ Rd S w' ⟨g, 0, none⟩ vs ∧
      xs.length ≤ cap ∧ Blk w' g us t ∧ cap * sz ≤ us.length ∧ ∀ o, xs.length * sz ≤ o → ¬ S g o
  | r => RepV S w' (fun _ => none) r v

structure Done (w : World) (S : Nat → Nat → Prop) (β : Nat → Option Nat) (passed : List (List AV)) (r : AV) (passed' : List (List AV)) (v : Value) (w' : World) (S' : Nat → Nat → Prop) : Prop where
  size : w.heap.size ≤ w'.heap.size
  os : w'.os = w.os
  tape : w'.tape = w.tape
  output : w'.output = w.output
  old : ∀ b, b < w.heap.size → (∀ i, β i ≠ some b) → w'.heap[b]? = w.heap[b]?
  sub : ∀ g o, S g o → S' g o
  new : ∀ g o, S' g o → S g o ∨ w.heap.size ≤ g
  lt : ∀ g o, S' g o → g < w'.heap.size
  len : passed'.length = passed.length
  mem : ∀ (j : Nat) cs, passed'[j]? = some cs → ∃ (b : Nat) (us : List Value) (t : TypeId), β (1000 + j) = some b ∧ Blk w' b us t ∧ RepL S' w' (fun _ => none) cs us ∧ ∀ v ∈ us, oc v = true
  res : RepRes S' w w' r v
  fro : Fro w.heap.size w'

def CallsA (P : Program) (f : FuncId) (args : List AV) (passed : List (List AV)) (r : AV) (passed' : List (List AV)) : Prop :=
  (∃ fn, P.funcs[f]? = some fn ∧ fn.body.isSome = true ∧ (fn.name == "runtime.NumGoroutine") = false) ∧
  ∀ (w : World) (S : Nat → Nat → Prop) (β : Nat → Option Nat) (vs : List Value), Pass w S β passed → RepL S w β args vs →
    Calls P f vs.toArray w fun e w' => ∃ v S', e = .returned v ∧ Done w S β passed r passed' v w' S'

def SpecOk (P : Program) (spec : FuncId → List AV → List (List AV) → Option (AV × List (List AV))) : Prop :=
  ∀ f args passed r passed', spec f args passed = some (r, passed') → CallsA P f args passed r passed'

structure EnvOk (P : Program) (E : Env) : Prop where
  ty : TyOk P E.ty
  spec : SpecOk P E.spec

/-! ### what arguments point into -/

theorem capIds_sub (cap : List AV) (l : List Nat) : (∀ x ∈ l, x ∈ ptrIds.capIds cap l) ∧ (∀ id off, AV.ptr id off ∈ cap → id ∈ ptrIds.capIds cap l) ∧ (l.Nodup → (ptrIds.capIds cap l).Nodup) := by
  induction cap with
  | nil => exact ⟨fun x h => h, fun _ _ h => by simp at h, fun h => h⟩
  | cons c cap ih =>
    obtain ⟨h1, h2, h3⟩ := ih
    cases c <;> try (refine ⟨h1, fun id off h => h2 id off (by simpa using h), h3⟩)
    rename_i id off
    simp only [ptrIds.capIds]
    split
    · rename_i hc
      refine ⟨h1, fun id' off' h => ?_, h3⟩
      simp only [List.mem_cons, AV.ptr.injEq] at h
      rcases h with ⟨rfl, rfl⟩ | h
      · simpa using hc
      · exact h2 id' off' h
    · rename_i hc
      refine ⟨fun x h => List.mem_cons_of_mem _ (h1 x h), fun id' off' h => ?_, fun hn => List.nodup_cons.2 ⟨by simpa using hc, h3 hn⟩⟩
      simp only [List.mem_cons, AV.ptr.injEq] at h
      rcases h with ⟨rfl, rfl⟩ | h
      · simp
      · exact List.mem_cons_of_mem _ (h2 id' off' h)

theorem ptrIds_mem (args : List AV) : (∀ id off, AV.ptr id off ∈ args → id ∈ ptrIds args) ∧ (∀ f cap id off, AV.fn f cap ∈ args → AV.ptr id off ∈ cap → id ∈ ptrIds args) ∧ (ptrIds args).Nodup := by
  induction args with
  | nil => exact ⟨fun _ _ h => by simp at h, fun _ _ _ _ h => by simp at h, by simp [ptrIds]⟩
  | cons a args ih =>
    obtain ⟨h1, h2, h3⟩ := ih
    cases a <;> try (refine ⟨fun id off h => h1 id off (by simpa using h), fun f cap id off h h' => h2 f cap id off (by simpa using h) h', h3⟩)
    case ptr id off =>
      simp only [ptrIds]
      split
      · rename_i hc
        refine ⟨fun id' off' h => ?_, fun f cap id off h h' => h2 f cap id off (by simpa using h) h', h3⟩
        simp only [List.mem_cons, AV.ptr.injEq] at h
        rcases h with ⟨rfl, rfl⟩ | h
        · simpa using hc
        · exact h1 id' off' h
      · rename_i hc
        refine ⟨fun id' off' h => ?_, fun f cap id off h h' => List.mem_cons_of_mem _ (h2 f cap id off (by simpa using h) h'), List.nodup_cons.2 ⟨by simpa using hc, h3⟩⟩
        simp only [List.mem_cons, AV.ptr.injEq] at h
        rcases h with ⟨rfl, rfl⟩ | h
        · simp
        · exact List.mem_cons_of_mem _ (h1 id' off' h)
    case fn f cap =>
      simp only [ptrIds]
      obtain ⟨k1, k2, k3⟩ := capIds_sub cap (ptrIds args)
      refine ⟨fun id off h => k1 _ (h1 id off (by simpa using h)), fun f' cap' id off h h' => ?_, k3 h3⟩
      simp only [List.mem_cons, AV.fn.injEq] at h
      rcases h with ⟨rfl, rfl⟩ | h
      · exact k2 id off h'
      · exact k1 _ (h2 f' cap' id off h h')

theorem get_idxOf {ids : List Nat} {id : Nat} (h : id ∈ ids) : ids[ids.idxOf id]? = some id := by
  induction ids with
  | nil => simp at h
  | cons x ids ih =>
    rw [List.idxOf_cons]
    by_cases hx : x = id
    · subst hx; simp
    · have : (x == id) = false := by simpa using hx
      simp only [this, cond_false, List.getElem?_cons_succ]
      exact ih (by simpa [Ne.symm hx] using h)

theorem nodup_inj {l : List Nat} (h : l.Nodup) {i j x : Nat} (hi : l[i]? = some x) (hj : l[j]? = some x) : i = j := by
  obtain ⟨hi', ei⟩ := List.getElem?_eq_some_iff.1 hi
  obtain ⟨hj', ej⟩ := List.getElem?_eq_some_iff.1 hj
  have hp := List.pairwise_iff_getElem.1 h
  rcases Nat.lt_trichotomy i j with hlt | rfl | hlt
  · exact absurd (ei.trans ej.symm) (hp i j hi' hj' hlt)
  · rfl
  · exact absurd (ej.trans ei.symm) (hp j i hj' hi' hlt)

/-- pointers as the callee numbers them -/
def βof (β : Nat → Option Nat) (ids : List Nat) (i : Nat) : Option Nat := if 1000 ≤ i then (ids[i - 1000]?).bind β else none

theorem βof_at {β : Nat → Option Nat} {ids : List Nat} {id b : Nat} (h : id ∈ ids) (hb : β id = some b) : βof β ids (1000 + ids.idxOf id) = some b := by
  unfold βof
  rw [if_pos (by omega), Nat.add_sub_cancel_left]
  rw [get_idxOf h]; exact hb

theorem renumC_ok {S w β ids v u} (h : RepV S w β v u) (hp : ∀ id off, v = .ptr id off → id ∈ ids) : RepV S w (βof β ids) (v.renumC ids) u := by
  cases h with
  | ptr e => exact .ptr (βof_at (hp _ _ rfl) e)
  | unk v => exact .unk _
  | int k n => exact .int _ _
  | bool b => exact .bool _
  | str s => exact .str _
  | agg l o => exact .agg l o
  | tup l => exact .tup l
  | nilp => exact .nilp
  | ro c r => exact .ro c r
  | slNil => exact .slNil
  | slFull c r => exact .slFull c r
  | slSh cap c r l => exact .slSh cap c r l
  | slFullNil => exact .slFullNil
  | slShNil => exact .slShNil
  | view cap e l => exact .unk _
  | fn l => exact (RepV.fn l).flat.bare
  | niliface => exact .niliface
  | nilfn => exact .nilfn

theorem renum_ok {G w ids v u} (h : RepT G w v u) (hp : ∀ id off, v = .ptr id off → id ∈ ids) (hf : ∀ f cap id off, v = .fn f cap → AV.ptr id off ∈ cap → id ∈ ids) : RepV G.S w (βof G.β ids) (v.renum ids) u := by
  cases v
  case fn f cap =>
    obtain ⟨vs, rfl, hl⟩ := h.fn_inv
    refine .fn (RepL.of_get (by simp [hl.length]) fun i c v hc hv => ?_)
    simp only [List.getElem?_map, Option.map_eq_some_iff] at hc
    obtain ⟨c0, hc, rfl⟩ := hc
    obtain ⟨v', h1, h2⟩ := hl.get hc
    rw [h1] at hv; cases hv
    exact renumC_ok h2 fun id off e => hf f cap id off rfl (e ▸ List.mem_of_getElem? hc)
  case sl sz xs st => exact h.flat.bare
  all_goals exact renumC_ok h hp

theorem args_ok {G w} {args : List AV} {vs : List Value} (hl : args.length = vs.length) (h : ∀ (i : Nat) a v, args[i]? = some a → vs[i]? = some v → RepT G w a v) :
    RepL G.S w (βof G.β (ptrIds args)) (args.map (AV.renum (ptrIds args))) vs := by
  obtain ⟨h1, h2, _⟩ := ptrIds_mem args
  refine RepL.of_get (by simp [hl]) fun i c v hc hv => ?_
  simp only [List.getElem?_map, Option.map_eq_some_iff] at hc
  obtain ⟨a, ha, rfl⟩ := hc
  have hm := List.mem_of_getElem? ha
  exact renum_ok (h i a v ha hv) (fun id off e => h1 id off (e ▸ hm)) (fun f cap id off e hc => h2 f cap id off (e ▸ hm) hc)

theorem looks_ok {m : Mem} : ∀ {ids : List Nat} {l : List (List AV)}, looks m ids = some l → l.length = ids.length ∧ ∀ (j : Nat) i cs, ids[j]? = some i → l[j]? = some cs → ∃ cs0, look m i = some cs0 ∧ cs = cs0.map AV.flat
  | [], l, h => by simp [looks] at h; subst h; exact ⟨rfl, fun j i cs h => by simp at h⟩
  | i :: r, l, h => by
    simp only [looks] at h
    split at h
    · rename_i cs l' h1 h2
      cases h
      obtain ⟨k1, k2⟩ := looks_ok h2
      refine ⟨by simp [k1], fun j i' cs' hi hc => ?_⟩
      cases j with
      | zero => simp at hi hc; subst hi; subst hc; exact ⟨cs, h1, rfl⟩
      | succ j => exact k2 j i' cs' (by simpa using hi) (by simpa using hc)
    · cases h

theorem pass_ok {B G s a w} (h : Sim B G s a w) {args : List AV} {passed : List (List AV)} (hl : looks s.mem (ptrIds args) = some passed) : Pass w G.S (βof G.β (ptrIds args)) passed := by
  obtain ⟨_, _, hnd⟩ := ptrIds_mem args
  obtain ⟨k1, k2⟩ := looks_ok hl
  have get : ∀ i b, βof G.β (ptrIds args) i = some b → ∃ j id, i = 1000 + j ∧ (ptrIds args)[j]? = some id ∧ G.β id = some b := by
    intro i b hi
    unfold βof at hi
    split at hi
    · rw [Option.bind_eq_some_iff] at hi
      obtain ⟨id, h1, h2⟩ := hi
      exact ⟨i - 1000, id, by omega, h1, h2⟩
    · cases hi
  constructor
  · exact h.inv.Slt
  · intro i j b hi hj
    obtain ⟨i', id, rfl, h1, h2⟩ := get i b hi
    obtain ⟨j', id', rfl, h3, h4⟩ := get j b hj
    have := h.inv.βinj _ _ _ h2 h4
    subst this
    rw [nodup_inj hnd h1 h3]
  · intro i b o hi
    obtain ⟨j, id, rfl, h1, h2⟩ := get i b hi
    exact h.inv.βS id b o h2
  · intro i b hi
    obtain ⟨j, id, rfl, h1, h2⟩ := get i b hi
    exact ⟨j, by rw [k1]; exact (List.getElem?_eq_some_iff.1 h1).1, rfl⟩
  · intro j cs hc
    have hj : j < (ptrIds args).length := by rw [← k1]; exact (List.getElem?_eq_some_iff.1 hc).1
    obtain ⟨cs0, h1, rfl⟩ := k2 j _ cs (List.getElem?_eq_getElem hj) hc
    obtain ⟨b, us, t, h2, h3, h4, h5, h6⟩ := h.inv.mem _ _ h1
    refine ⟨b, us, t, ?_, h3, RepL.of_get (by simp [h4]) fun i c v hc hv => ?_, h6⟩
    · unfold βof
      rw [if_pos (by omega), Nat.add_sub_cancel_left, List.getElem?_eq_getElem hj]
      exact h2
    · simp only [List.getElem?_map, Option.map_eq_some_iff] at hc
      obtain ⟨c0, hc, rfl⟩ := hc
      exact (h5 i c0 v hc hv).flat

theorem look_upds : ∀ (l : List (Nat × List AV)) (m : Mem) (i : Nat), (l.map (·.1)).Nodup → look (upds m l) i = match l.find? (fun p => p.1 == i) with | some p => (look m i).map (fun _ => p.2) | none => look m i
  | [], m, i, _ => rfl
  | p :: r, m, i, h => by
    simp only [List.map_cons, List.nodup_cons] at h
    simp only [upds, look_upds r _ i h.2, look_upd, List.find?_cons]
    by_cases hp : p.1 = i
    · subst hp
      have : r.find? (fun q => q.1 == p.1) = none := by
        rw [List.find?_eq_none]
        intro q hq
        simp only [beq_iff_eq]
        intro e
        exact h.1 (List.mem_map.2 ⟨q, hq, e⟩)
      simp [this]
    · have : (p.1 == i) = false := by simpa using hp
      simp [this, Ne.symm hp]

end Go.Ev
