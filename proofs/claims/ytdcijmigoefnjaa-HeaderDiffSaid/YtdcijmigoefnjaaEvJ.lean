/- The evaluator: memory that is laid for lists; tails that are grown. -/
import Derived.Test.YtdcijmigoefnjaaEvI
set_option linter.unusedVariables false
set_option linter.unusedSimpArgs false
namespace Go.Ev
open Go

theorem RepT.mono2 {G w G' w' a v} (h : RepT G w a v) (e : Ext G.S w G'.S w') (hβ : ∀ i b, G.β i = some b → G'.β i = some b)
    (hτ : ∀ k x, hasTag k a = true → G.τ k = some x → G'.τ k = some x) : RepT G' w' a v := by
  unfold RepT at h ⊢
  split
  · obtain ⟨g, cap, vs, rfl, hr, hd, ht, hl⟩ := h
    exact ⟨g, cap, vs, rfl, hr.ext e, e.reads hd, hτ _ _ (by simp [hasTag]) ht, hl⟩
  · split at h
    · rename_i hne
      exact (hne _ _ _ rfl).elim
    · exact h.ext e hβ

theorem drew_cell (w : World) (a : Addr) : w.drew.cell? a = w.cell? a := rfl

theorem Inv.drew {B G w m} (h : Inv B G w m) : Inv B G w.drew m ∧ Ext G.S w G.S w.drew := by
  have hE : Ext G.S w G.S w.drew := ⟨fun _ _ h => h, fun _ _ _ => rfl⟩
  refine ⟨⟨h.size, h.os, h.tape, h.output, h.old, h.S0, h.Snew, h.Slt, h.βinj, h.βS, h.βnew, h.dom, fun i cs hi => ?_, h.τ, h.τinj, h.β0, h.fro⟩, hE⟩
  obtain ⟨b, vs, t, h1, h2, h3, h4, h5⟩ := h.mem i cs hi
  exact ⟨b, vs, t, h1, h2, h3, fun j c v hc hv => (h4 j c v hc hv).mono hE (fun _ _ h => h) (fun _ _ h => h), h5⟩

theorem Sim.drew {B G s a w} (h : Sim B G s a w) : Sim B G s a w.drew :=
  h.mono h.inv.drew.1 h.inv.drew.2 (fun _ _ h => h) (fun _ _ h => h)

/-- a new block whose first n cells stay; its tail may be a frame's own -/
def Gh.lay (G : Gh) (g n : Nat) : Gh := { G with S := fun b o => G.S b o ∨ (b = g ∧ o < n) }
def Gh.own (G : Gh) (k : Tag) (x : Nat × Nat × Nat) : Gh := { G with τ := fun k' => if k' = k then some x else G.τ k' }
def Gh.drop (G : Gh) (k : Tag) : Gh := { G with τ := fun k' => if k' = k then none else G.τ k' }

theorem βlt {B G w m} (h : Inv B G w m) : ∀ i b, G.β i = some b → b < w.heap.size := by
  intro i b hb
  cases hl : look m i with
  | none => rw [h.dom i hl] at hb; cases hb
  | some cs =>
    obtain ⟨b', vs', t', h1, h2, _⟩ := h.mem i cs hl
    rw [h1] at hb; cases hb; exact h2.lt

theorem Inv.lay {B G w m} (h : Inv B G w m) (vs : List Value) (t : TypeId) (n : Nat) (hn : n ≤ vs.length) :
    Inv B (G.lay w.heap.size n) (w.alloc (.cells vs.toArray t)) m ∧ Ext G.S w (G.lay w.heap.size n).S (w.alloc (.cells vs.toArray t)) := by
  have hE : Ext G.S w (G.lay w.heap.size n).S (w.alloc (.cells vs.toArray t)) :=
    ⟨fun _ _ h => .inl h, fun g o hs => cell_of_heap (pushed_old w _ (h.Slt g o hs)) o⟩
  refine ⟨?_, hE⟩
  constructor
  · rw [pushed_size]; have := h.size; omega
  · exact h.os
  · exact h.tape
  · exact h.output
  · intro b hb hw
    rw [pushed_old w _ (by have := h.size; omega)]
    exact h.old b hb hw
  · intro g o hs; exact .inl (h.S0 g o hs)
  · rintro g o (hs | ⟨rfl, _⟩)
    · exact h.Snew g o hs
    · exact .inr h.size
  · rintro g o (hs | ⟨rfl, _⟩) <;> rw [pushed_size]
    · have := h.Slt g o hs; omega
    · omega
  · exact h.βinj
  · rintro i b o hi (hs | ⟨rfl, _⟩)
    · exact h.βS i b o hi hs
    · have := βlt h i _ hi; omega
  · exact h.βnew
  · exact h.dom
  · intro i cs' hi
    obtain ⟨b, vs', t', h1, h2, h3, h4, h5⟩ := h.mem i cs' hi
    refine ⟨b, vs', t', h1, ?_, h3, fun j c v hc hv => (h4 j c v hc hv).mono hE (fun _ _ h => h) fun _ _ h => h, h5⟩
    unfold Blk at h2 ⊢
    rw [pushed_old w _ (Blk.lt h2)]; exact h2
  · intro k g e l hk
    obtain ⟨h1, h2, ⟨vs', t', h3, h4⟩, h5⟩ := h.τ k g e l hk
    have hlt := h3.lt
    refine ⟨h1, h2, ⟨vs', t', ?_, h4⟩, ?_⟩
    · unfold Blk at h3 ⊢
      rw [pushed_old w _ (Blk.lt h3)]; exact h3
    · rintro o ho (hs | ⟨rfl, _⟩)
      · exact h5 o ho hs
      · omega
  · exact h.τinj
  · exact h.β0
  · exact h.fro.alloc vs t

def noTags (m : Mem) (k : Tag) : Prop := ∀ i cs, look m i = some cs → ∀ c ∈ cs, hasTag k c = false

/-- the tail of a block becomes a frame's own -/
theorem Inv.own {B G w m} (h : Inv B G w m) {k : Tag} {g e l : Nat} (hk : G.τ k = none) (hg : B.w0.heap.size ≤ g) (hβ : ∀ i, G.β i ≠ some g) {vs : List Value} {t : TypeId} (hb : Blk w g vs t)
    (hl : l ≤ vs.length) (hS : ∀ o, e ≤ o → ¬ G.S g o) (hτ : ∀ k' e' l', G.τ k' = some (g, e', l') → k' = k) : Inv B (G.own k (g, e, l)) w m := by
  constructor
  · exact h.size
  · exact h.os
  · exact h.tape
  · exact h.output
  · exact h.old
  · exact h.S0
  · exact h.Snew
  · exact h.Slt
  · exact h.βinj
  · exact h.βS
  · exact h.βnew
  · exact h.dom
  · intro i cs hi
    obtain ⟨b, vs', t', h1, h2, h3, h4, h5⟩ := h.mem i cs hi
    refine ⟨b, vs', t', h1, h2, h3, fun j c v hc hv => (h4 j c v hc hv).mono2 (Ext.refl _ _) (fun _ _ h => h) fun k' x hk' hx => ?_, h5⟩
    simp only [Gh.own]
    rw [if_neg]
    · exact hx
    · rintro rfl
      rw [hk] at hx; cases hx
  · intro k' g' e' l' hk'
    simp only [Gh.own] at hk'
    split at hk'
    · cases hk'
      exact ⟨hg, hβ, ⟨vs, t, hb, hl⟩, hS⟩
    · exact h.τ k' g' e' l' hk'
  · intro k1 k2 g' e1 l1 e2 l2 h1 h2
    simp only [Gh.own] at h1 h2
    split at h1 <;> split at h2
    · simp_all
    · cases h1; rename_i e _; rw [e]; exact (hτ _ _ _ h2).symm
    · cases h2; rename_i _ e; rw [e]; exact hτ _ _ _ h1
    · exact h.τinj k1 k2 g' e1 l1 e2 l2 h1 h2
  · exact h.β0
  · exact h.fro

theorem look_map (f : List AV → List AV) (m : Mem) (i : Nat) : look (m.map fun p => (p.1, f p.2)) i = (look m i).map f := by
  induction m with
  | nil => rfl
  | cons p r ih =>
    obtain ⟨j, c⟩ := p
    simp only [List.map_cons, look]
    split
    · rfl
    · exact ih

theorem RepT.retag {G w a v} (k : Tag) (h : RepT G w a v) : RepT (G.drop k) w (a.retag k) v := by
  by_cases hk : hasTag k a = true
  · cases a <;> try (simp [hasTag] at hk; done)
    rename_i sz xs st
    cases st <;> try (simp [hasTag] at hk; done)
    rename_i k'
    have e : k' = k := by simpa [hasTag] using hk
    subst e
    have := h.share
    simp only [AV.share] at this
    simp only [AV.retag, if_true]
    exact .of this
  · have e : a.retag k = a := by
      cases a <;> try rfl
      rename_i sz xs st
      cases st <;> try rfl
      rename_i k'
      have : ¬ k' = k := by simpa [hasTag] using hk
      simp [AV.retag, this]
    rw [e]
    refine h.mono2 (Ext.refl _ _) (fun _ _ h => h) fun k' x hk' hx => ?_
    simp only [Gh.drop]
    rw [if_neg]
    · exact hx
    · rintro rfl; exact hk hk'

theorem Sim.retag {B G s a w} (h : Sim B G s a w) (k : Tag) : Sim B (G.drop k) (s.retag k) a w := by
  refine ⟨?_, by simp [AS.retag, h.len], fun i => ?_, h.defers⟩
  · constructor
    · exact h.inv.size
    · exact h.inv.os
    · exact h.inv.tape
    · exact h.inv.output
    · exact h.inv.old
    · exact h.inv.S0
    · exact h.inv.Snew
    · exact h.inv.Slt
    · exact h.inv.βinj
    · exact h.inv.βS
    · exact h.inv.βnew
    · intro i hi
      simp only [AS.retag, look_map, Option.map_eq_none_iff] at hi
      exact h.inv.dom i hi
    · intro i cs hi
      simp only [AS.retag, look_map, Option.map_eq_some_iff] at hi
      obtain ⟨cs0, hi, rfl⟩ := hi
      obtain ⟨b, vs', t', h1, h2, h3, h4, h5⟩ := h.inv.mem i cs0 hi
      refine ⟨b, vs', t', h1, h2, by simp [h3], fun j c v hc hv => ?_, h5⟩
      simp only [List.getElem?_map, Option.map_eq_some_iff] at hc
      obtain ⟨c0, hc, rfl⟩ := hc
      exact (h4 j c0 v hc hv).retag k
    · intro k' g e l hk'
      simp only [Gh.drop] at hk'
      split at hk'
      · cases hk'
      · exact h.inv.τ k' g e l hk'
    · intro k1 k2 g e1 l1 e2 l2 h1 h2
      simp only [Gh.drop] at h1 h2
      split at h1 <;> split at h2
      · cases h1
      · cases h1
      · cases h2
      · exact h.inv.τinj k1 k2 g e1 l1 e2 l2 h1 h2
    · exact h.inv.β0
    · exact h.inv.fro
  · have := (h.tmps i).retag k
    simp only [AS.retag, List.getD_eq_getElem?_getD, List.getElem?_map] at this ⊢
    cases hx : s.tmps[i]? with
    | none => simp [hx] at this ⊢; exact .of (.unk _)
    | some c => simp [hx] at this ⊢; exact this

/-- cells behind an own list's end are written: they stay from now on -/
theorem Inv.grow {B G w m} (h : Inv B G w m) {g n : Nat} {vs : List Value} {t : TypeId} {w' : World} {vs0 : List Value} (hg : B.w0.heap.size ≤ g) (hβ : ∀ i, G.β i ≠ some g) (hτ : ∀ k e l, G.τ k ≠ some (g, e, l))
    (hb0 : Blk w g vs0 t) (hb : Blk w' g vs t) (hl : vs0.length = vs.length) (ho : Only g w w') (hkeep : ∀ o, G.S g o → vs[o]? = vs0[o]?) (hn : n ≤ vs.length) :
    Inv B (G.lay g n) w' m ∧ Ext G.S w (G.lay g n).S w' := by
  have hE : Ext G.S w (G.lay g n).S w' := by
    refine ⟨fun _ _ h => .inl h, fun b o hs => ?_⟩
    by_cases hbg : b = g
    · subst hbg; rw [hb.cell, hb0.cell, hkeep o hs]
    · exact cell_of_heap (ho.other b hbg) o
  refine ⟨?_, hE⟩
  constructor
  · rw [ho.size]; exact h.size
  · exact ho.os.trans h.os
  · exact ho.tape.trans h.tape
  · exact ho.output.trans h.output
  · intro b hb' hw
    rw [ho.other b (by omega)]
    exact h.old b hb' hw
  · intro g o hs; exact .inl (h.S0 g o hs)
  · rintro g' o (hs | ⟨rfl, _⟩)
    · exact h.Snew g' o hs
    · exact .inr hg
  · rintro g' o (hs | ⟨rfl, _⟩) <;> rw [ho.size]
    · exact h.Slt g' o hs
    · exact hb0.lt
  · exact h.βinj
  · rintro i b o hi (hs | ⟨rfl, _⟩)
    · exact h.βS i b o hi hs
    · exact hβ i hi
  · exact h.βnew
  · exact h.dom
  · intro i cs' hi
    obtain ⟨b, vs', t', h1, h2, h3, h4, h5⟩ := h.mem i cs' hi
    refine ⟨b, vs', t', h1, ?_, h3, fun j c v hc hv => (h4 j c v hc hv).mono hE (fun _ _ h => h) fun _ _ h => h, h5⟩
    unfold Blk at h2 ⊢
    rw [ho.other b (fun e => hβ i (e ▸ h1))]; exact h2
  · intro k g' e l hk
    obtain ⟨h1, h2, ⟨vs', t', h3, h4⟩, h5⟩ := h.τ k g' e l hk
    have hne : g' ≠ g := fun e' => hτ k e l (e' ▸ hk)
    refine ⟨h1, h2, ⟨vs', t', ?_, h4⟩, ?_⟩
    · unfold Blk at h3 ⊢
      rw [ho.other g' hne]; exact h3
    · rintro o ho (hs | ⟨e', _⟩)
      · exact h5 o ho hs
      · exact hne e'
  · exact h.τinj
  · exact h.β0
  · exact h.fro.only ho hb

theorem Inv.congr {B G w m m'} (h : Inv B G w m) (e : ∀ i, look m' i = look m i) : Inv B G w m' :=
  ⟨h.size, h.os, h.tape, h.output, h.old, h.S0, h.Snew, h.Slt, h.βinj, h.βS, h.βnew, fun i hi => h.dom i (by rw [← e]; exact hi), fun i cs hi => h.mem i cs (by rw [← e]; exact hi), h.τ, h.τinj, h.β0, h.fro⟩

/-- no tail is known that was not, but for one -/
def TauLe (G G' : Gh) (m : Option Tag) : Prop := ∀ k x, G'.τ k = some x → m = some k ∨ G.τ k ≠ none

theorem TauLe.refl (G m) : TauLe G G m := fun k x h => .inr (by rw [h]; simp)
theorem TauLe.of_eq {G G' : Gh} (h : G'.τ = G.τ) (m) : TauLe G G' m := fun k x hx => .inr (by rw [← h, hx]; simp)

theorem Inv.drop {B G w m} (h : Inv B G w m) {k : Tag} (hk : noTags m k) : Inv B (G.drop k) w m := by
  constructor
  · exact h.size
  · exact h.os
  · exact h.tape
  · exact h.output
  · exact h.old
  · exact h.S0
  · exact h.Snew
  · exact h.Slt
  · exact h.βinj
  · exact h.βS
  · exact h.βnew
  · exact h.dom
  · intro i cs hi
    obtain ⟨b, vs', t', h1, h2, h3, h4, h5⟩ := h.mem i cs hi
    refine ⟨b, vs', t', h1, h2, h3, fun j c v hc hv => (h4 j c v hc hv).mono2 (Ext.refl _ _) (fun _ _ h => h) fun k' x hk' hx => ?_, h5⟩
    simp only [Gh.drop]
    rw [if_neg]
    · exact hx
    · rintro rfl
      rw [hk i cs hi c (List.mem_of_getElem? hc)] at hk'; cases hk'
  · intro k' g e l hk'
    simp only [Gh.drop] at hk'
    split at hk'
    · cases hk'
    · exact h.τ k' g e l hk'
  · intro k1 k2 g e1 l1 e2 l2 h1 h2
    simp only [Gh.drop] at h1 h2
    split at h1 <;> split at h2
    · cases h1
    · cases h1
    · cases h2
    · exact h.τinj k1 k2 g e1 l1 e2 l2 h1 h2
  · exact h.β0
  · exact h.fro

end Go.Ev
