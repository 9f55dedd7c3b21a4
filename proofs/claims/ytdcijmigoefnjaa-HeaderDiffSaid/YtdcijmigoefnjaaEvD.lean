/- The evaluator: the state of a frame, and its memory. -/
import Derived.Test.YtdcijmigoefnjaaEvC
set_option linter.unusedVariables false
namespace Go.Ev
open Go

/-! ### Worlds -/

def Blk (w : World) (b : Nat) (c : List Value) (t : TypeId) : Prop := w.heap[b]? = some (.cells c.toArray t (0, 0))

structure Only (b : Nat) (w w' : World) : Prop where
  other : ∀ g, g ≠ b → w'.heap[g]? = w.heap[g]?
  size : w'.heap.size = w.heap.size
  os : w'.os = w.os
  tape : w'.tape = w.tape
  output : w'.output = w.output

theorem Only.refl (b w) : Only b w w := ⟨fun _ _ => rfl, rfl, rfl, rfl, rfl⟩
theorem Only.trans {b w w1 w2} (h : Only b w w1) (k : Only b w1 w2) : Only b w w2 :=
  ⟨fun g hg => (k.other g hg).trans (h.other g hg), k.size.trans h.size, k.os.trans h.os, k.tape.trans h.tape, k.output.trans h.output⟩

theorem cell_of_heap {w w' : World} {b : Nat} (h : w'.heap[b]? = w.heap[b]?) (o : Nat) : w'.cell? ⟨b, o, none⟩ = w.cell? ⟨b, o, none⟩ := by
  simp [World.cell?, h]

theorem Blk.cell {w b c t} (h : Blk w b c t) (o : Nat) : w.cell? ⟨b, o, none⟩ = c[o]? := by
  unfold Blk at h
  simp [World.cell?, h]

theorem Blk.lt {w b c t} (h : Blk w b c t) : b < w.heap.size := by
  unfold Blk at h
  rcases Nat.lt_or_ge b w.heap.size with hl | hl
  · exact hl
  · rw [Array.getElem?_eq_none hl] at h; cases h

theorem Blk.frozen {w b c t} (h : Blk w b c t) (o : Nat) : w.frozen? ⟨b, o, none⟩ = false := by
  unfold Blk at h
  simp [World.frozen?, h]

theorem Blk.setCell {w b c t} (h : Blk w b c t) (o : Nat) (v : Value) : Blk (w.setCell ⟨b, o, none⟩ v) b (c.set o v) t ∧ Only b w (w.setCell ⟨b, o, none⟩ v) := by
  unfold Blk at h ⊢
  refine ⟨?_, ?_, ?_, rfl, rfl, rfl⟩
  · simp [World.setCell, Array.getElem?_modify, h, List.setIfInBounds_toArray]
  · intro g hg
    simp [World.setCell, Array.getElem?_modify, Ne.symm hg]
  · simp [World.setCell]

theorem run_store1 (P : Program) {w : World} {b o : Nat} {c : List Value} {t : TypeId} {v : Value} (h : Blk w b c t) (ho : o < c.length) (hv : oc v = true) (m : Mode) :
    (store ⟨b, o, none⟩ v m).run P w = .ok () (w.setCell ⟨b, o, none⟩ v) := by
  have hc : w.cell? ⟨b, o, none⟩ = some c[o] := by rw [h.cell]; exact List.getElem?_eq_getElem ho
  have hf := h.frozen o
  cases v <;> first | (simp [oc] at hv; done) | simp [store, Sem.run, hc, hf]

theorem add_mk (b o n : Nat) : (Addr.mk b o none).add n = ⟨b, o + n, none⟩ := by
  unfold Addr.add; split
  · next h => subst h; rfl
  · rfl

theorem add_spot {a : Addr} (h : a.spot = none) (n : Nat) : a.add n = ⟨a.block, a.off + n, none⟩ := by
  obtain ⟨b, o, s⟩ := a; simp at h; subst h; exact add_mk b o n

theorem run_storeCells (P : Program) {b o : Nat} {t : TypeId} : ∀ (vs : List Value) {w : World} {c : List Value} (i : Nat), Blk w b c t → o + i + vs.length ≤ c.length → (∀ v ∈ vs, oc v = true) →
    ∃ w', (storeCells ⟨b, o, none⟩ vs i).run P w = .ok () w' ∧ Blk w' b (setAtV c (o + i) vs) t ∧ Only b w w'
  | [], w, c, i, h, _, _ => ⟨w, by simp [storeCells], h, Only.refl _ _⟩
  | v :: vs, w, c, i, h, hl, hv => by
    simp at hl
    have h1 := run_store1 P (v := v) h (o := o + i) (by omega) (hv v (by simp)) .plain
    obtain ⟨h2, h3⟩ := h.setCell (o + i) v
    obtain ⟨w', r, hb, ho⟩ := run_storeCells P (o := o) vs (i + 1) h2 (by simp; omega) (fun u hu => hv u (by simp [hu]))
    refine ⟨w', ?_, hb, h3.trans ho⟩
    simp only [storeCells, add_mk]
    simp [h1, r]

theorem setAtV_length (vs : List Value) : ∀ (c : List Value) (o : Nat), (setAtV c o vs).length = c.length := by
  induction vs with
  | nil => intro c o; rfl
  | cons v vs ih => intro c o; simp [setAtV, ih]

theorem setAt_length (vs : List AV) : ∀ (c : List AV) (o : Nat), (setAt c o vs).length = c.length := by
  induction vs with
  | nil => intro c o; rfl
  | cons v vs ih => intro c o; simp [setAt, ih]

theorem mem_setAtV {vs : List Value} : ∀ {c : List Value} {o : Nat} {u : Value}, u ∈ setAtV c o vs → u ∈ c ∨ u ∈ vs := by
  induction vs with
  | nil => intro c o u h; exact .inl h
  | cons v vs ih =>
    intro c o u h
    rcases ih h with h | h
    · rcases List.mem_or_eq_of_mem_set h with h | h
      · exact .inl h
      · exact .inr (by simp [h])
    · exact .inr (by simp [h])

theorem run_loadFrom (P : Program) (w : World) (a : Addr) : ∀ (vs : List Value) (i : Nat) (acc : Array Value), (∀ j v, vs[j]? = some v → w.cell? (a.add (i + j)) = some v) →
    (loadCellsFrom a i vs.length acc).run P w = .ok (acc ++ vs.toArray) w
  | [], i, acc, _ => by simp [loadCellsFrom]
  | v :: vs, i, acc, h => by
    have h0 : w.cell? (a.add i) = some v := by simpa using h 0 v rfl
    have ih := run_loadFrom P w a vs (i + 1) (acc.push v) (fun j u hu => by
      have := h (j + 1) u (by simpa using hu)
      rwa [show i + 1 + j = i + (j + 1) by omega])
    have hload : (load (a.add i)).run P w = .ok v w := by simp [load, Sem.run, h0]
    simp only [List.length_cons, loadCellsFrom, Sem.run_bind, hload, Result.andThen_ok, ih]
    simp

theorem run_loadCells (P : Program) {w : World} {a : Addr} {vs : List Value} (h : ∀ j v, vs[j]? = some v → w.cell? (a.add j) = some v) :
    (loadCells a vs.length).run P w = .ok vs.toArray w := by
  have := run_loadFrom P w a vs 0 #[] (fun j v hv => by simpa using h j v hv)
  simpa [loadCells] using this

theorem Rd.cells {S w a vs} (h : Rd S w a vs) : ∀ j v, vs[j]? = some v → w.cell? (a.add j) = some v := fun j v hv => by
  rw [add_spot h.1]; exact (h.2 j v hv).2

theorem run_newRow (P : Program) (w : World) (t : TypeId) (c : Array Value) :
    (newRow t c).run P w = .ok ⟨w.heap.size, 0, none⟩ (w.alloc (.cells c t)) := by
  simp [newRow, newObj, Sem.run]

theorem pushed_new (w : World) (c : List Value) (t : TypeId) : Blk (w.alloc (.cells c.toArray t)) w.heap.size c t := by
  unfold Blk World.alloc; simp

theorem pushed_old (w : World) (o : Obj) {b : Nat} (h : b < w.heap.size) : (w.alloc o).heap[b]? = w.heap[b]? := by
  unfold World.alloc; simp only [Array.getElem?_push, if_neg (Nat.ne_of_lt h)]

theorem pushed_size (w : World) (o : Obj) : (w.alloc o).heap.size = w.heap.size + 1 := by unfold World.alloc; simp

/-! ### Frames -/

/-- blocks from a number on are not frozen -/
def Fro (n : Nat) (w : World) : Prop := ∀ a : Addr, n ≤ a.block → w.frozen? a = false

theorem frozen_heap {w w' : World} {a : Addr} (h : w'.heap[a.block]? = w.heap[a.block]?) : w'.frozen? a = w.frozen? a := by
  unfold World.frozen?; rw [h]

theorem Blk.fro {w b c t} (h : Blk w b c t) {a : Addr} (ha : a.block = b) : w.frozen? a = false := by
  subst ha
  unfold Blk at h
  unfold World.frozen?
  rw [h]; simp

theorem Fro.top {w : World} {n : Nat} (h : w.heap.size ≤ n) : Fro n w := by
  intro a ha
  unfold World.frozen?
  rw [Array.getElem?_eq_none (by omega)]

theorem Fro.alloc {w : World} {n : Nat} (h : Fro n w) (vs : List Value) (t : TypeId) : Fro n (w.alloc (.cells vs.toArray t)) := by
  intro a ha
  by_cases h1 : a.block < w.heap.size
  · rw [frozen_heap (pushed_old w _ h1)]; exact h a ha
  · by_cases h2 : a.block = w.heap.size
    · exact (pushed_new w vs t).fro h2
    · exact Fro.top (n := w.heap.size + 1) (by rw [pushed_size]; omega) a (by omega)

theorem Fro.only {w w' : World} {n b : Nat} (h : Fro n w) (ho : Only b w w') {us : List Value} {t : TypeId} (hb : Blk w' b us t) : Fro n w' := by
  intro a ha
  by_cases h1 : a.block = b
  · exact hb.fro h1
  · rw [frozen_heap (ho.other _ h1)]; exact h a ha

structure Base where
  w0 : World
  S0 : Nat → Nat → Prop
  Wr : Nat → Prop
  β0 : Nat → Option Nat

structure Base.Ok (B : Base) : Prop where
  lt : ∀ g o, B.S0 g o → g < B.w0.heap.size
  wr : ∀ g o, B.S0 g o → ¬ B.Wr g
  wlt : ∀ g, B.Wr g → g < B.w0.heap.size
  b0 : ∀ i b, B.β0 i = some b → 1000 ≤ i

structure Inv (B : Base) (G : Gh) (w : World) (m : Mem) : Prop where
  size : B.w0.heap.size ≤ w.heap.size
  os : w.os = B.w0.os
  tape : w.tape = B.w0.tape
  output : w.output = B.w0.output
  old : ∀ b, b < B.w0.heap.size → ¬ B.Wr b → w.heap[b]? = B.w0.heap[b]?
  S0 : ∀ g o, B.S0 g o → G.S g o
  Snew : ∀ g o, G.S g o → B.S0 g o ∨ B.w0.heap.size ≤ g
  Slt : ∀ g o, G.S g o → g < w.heap.size
  βinj : ∀ i j b, G.β i = some b → G.β j = some b → i = j
  βS : ∀ i b o, G.β i = some b → ¬ G.S b o
  βnew : ∀ i b, G.β i = some b → B.w0.heap.size ≤ b ∨ B.Wr b
  dom : ∀ i, look m i = none → G.β i = none
  mem : ∀ i cs, look m i = some cs → ∃ (b : Nat) (vs : List Value) (t : TypeId), G.β i = some b ∧ Blk w b vs t ∧ cs.length = vs.length ∧ (∀ (j : Nat) c v, cs[j]? = some c → vs[j]? = some v → RepT G w c v) ∧ ∀ v ∈ vs, oc v = true
  τ : ∀ k g e l, G.τ k = some (g, e, l) → B.w0.heap.size ≤ g ∧ (∀ i, G.β i ≠ some g) ∧ (∃ (vs : List Value) (t : TypeId), Blk w g vs t ∧ l ≤ vs.length) ∧ ∀ o, e ≤ o → ¬ G.S g o
  τinj : ∀ k k' g e l e' l', G.τ k = some (g, e, l) → G.τ k' = some (g, e', l') → k = k'
  β0 : ∀ i b, B.β0 i = some b → G.β i = some b
  fro : Fro B.w0.heap.size w

structure Sim (B : Base) (G : Gh) (s : AS) (a : Act) (w : World) : Prop where
  inv : Inv B G w s.mem
  len : s.tmps.length = a.tmps.size
  tmps : ∀ i, RepT G w (s.tmps.getD i .unk) (a.tmps.getD i undef)
  defers : a.defers = []

theorem Sim.put {B G s a w} (h : Sim B G s a w) (dst : Option Nat) {c : AV} {v : Value} (hv : RepT G w c v) : Sim B G (s.put dst c) (a.put dst v) w := by
  cases dst with
  | none => exact h
  | some d =>
    refine ⟨h.inv, by simp [AS.put, Act.put, h.len], fun i => ?_, h.defers⟩
    simp only [AS.put, Act.put]
    by_cases hd : d < s.tmps.length
    · by_cases hi : d = i
      · subst hi
        have h2 : d < a.tmps.size := by rw [← h.len]; exact hd
        simp [List.getD_eq_getElem?_getD, hd, Array.getD_eq_getD_getElem?, h2]
        exact hv
      · have := h.tmps i
        simpa [List.getD_eq_getElem?_getD, Array.getD_eq_getD_getElem?, List.getElem?_set, Array.getElem?_setIfInBounds, hi] using this
    · have h2 : ¬ d < a.tmps.size := by rw [← h.len]; exact hd
      have := h.tmps i
      rw [List.set_eq_of_length_le (by omega)]
      have e : a.tmps.setIfInBounds d v = a.tmps := by
        unfold Array.setIfInBounds; rw [dif_neg h2]
      rw [e]; exact this

theorem RepV_tup0 {S w β} : RepV S w β (.tup []) undef := RepV.tup (vs := []) .nil

/-- a value that a constant is -/
theorem ofVal_rep {S w β} (v : Value) : RepV S w β (ofVal v) v := by
  unfold ofVal
  split
  · exact .int _ _
  · exact .bool _
  · exact .str _
  · exact .slNil
  · exact .nilp
  · exact .nilfn
  · exact .niliface
  · exact .unk _

theorem Sim.opv {B G s a w} (h : Sim B G s a w) (x : Operand) : RepT G w (opv s.tmps x) (a.eval x) := by
  cases x with
  | tmp t => exact h.tmps t
  | const v => exact .of (ofVal_rep v)
  | global g => exact .of (.unk _)
  | func f => exact .of (.fn (vs := []) .nil)

/-- memory grows by a block that is a frame's own -/
theorem Inv.alloc {B G w m} (h : Inv B G w m) (hB : B.Ok) {d : Nat} (hd : look m d = none) {cs : List AV} {vs : List Value} (t : TypeId)
    (hr : RepL G.S w G.β cs vs) (ho : ∀ v ∈ vs, oc v = true) :
    Inv B { G with β := fun i => if i = d then some w.heap.size else G.β i } (w.alloc (.cells vs.toArray t)) ((d, cs) :: m) ∧
    Ext G.S w G.S (w.alloc (.cells vs.toArray t)) ∧ ∀ i b, G.β i = some b → (if i = d then some w.heap.size else G.β i) = some b := by
  have hd' : G.β d = none := h.dom d hd
  have hβlt : ∀ i b, G.β i = some b → b < w.heap.size := by
    intro i b hb
    cases hl : look m i with
    | none => rw [h.dom i hl] at hb; cases hb
    | some cs =>
      obtain ⟨b', vs', t', h1, h2, _⟩ := h.mem i cs hl
      rw [h1] at hb; cases hb; exact h2.lt
  have hβ : ∀ i b, G.β i = some b → (if i = d then some w.heap.size else G.β i) = some b := by
    intro i b hb
    by_cases hi : i = d
    · subst hi; rw [hd'] at hb; cases hb
    · rw [if_neg hi]; exact hb
  have hE : Ext G.S w G.S (w.alloc (.cells vs.toArray t)) :=
    ⟨fun _ _ h => h, fun g o hs => cell_of_heap (pushed_old w _ (h.Slt g o hs)) o⟩
  refine ⟨?_, hE, hβ⟩
  constructor
  · rw [pushed_size]; have := h.size; omega
  · exact h.os
  · exact h.tape
  · exact h.output
  · intro b hb hw
    rw [pushed_old w _ (by have := h.size; omega)]
    exact h.old b hb hw
  · exact h.S0
  · exact h.Snew
  · intro g o hs; rw [pushed_size]; have := h.Slt g o hs; omega
  · intro i j b hi hj
    simp only at hi hj
    split at hi <;> split at hj
    · simp_all
    · cases hi; have := hβlt j _ hj; omega
    · cases hj; have := hβlt i _ hi; omega
    · exact h.βinj i j b hi hj
  · intro i b o hi hs
    simp only at hi
    split at hi
    · cases hi; have := h.Slt _ _ hs; omega
    · exact h.βS i b o hi hs
  · intro i b hi
    simp only at hi
    split at hi
    · cases hi; exact .inl h.size
    · exact h.βnew i b hi
  · intro i hi
    simp only [look] at hi
    split at hi
    · cases hi
    · rename_i hne
      simp only
      rw [if_neg (fun e => hne e.symm)]
      exact h.dom i hi
  · intro i cs' hi
    simp only [look] at hi
    split at hi
    · rename_i e
      cases hi; subst e
      refine ⟨w.heap.size, vs, t, by simp, pushed_new w vs t, hr.length, fun j c v hc hv => ?_, ho⟩
      obtain ⟨v', h1, h2⟩ := hr.get hc
      rw [h1] at hv; cases hv
      exact .of (h2.ext hE hβ)
    · rename_i hne
      obtain ⟨b, vs', t', h1, h2, h3, h4, h5⟩ := h.mem i cs' hi
      refine ⟨b, vs', t', hβ _ _ h1, ?_, h3, fun j c v hc hv => (h4 j c v hc hv).mono hE hβ fun _ _ h => h, h5⟩
      unfold Blk at h2 ⊢
      rw [pushed_old w _ (Blk.lt h2)]; exact h2
  · intro k g e l hk
    obtain ⟨h1, h2, ⟨vs', t', h3, h4⟩, h5⟩ := h.τ k g e l hk
    refine ⟨h1, fun i hi => ?_, ⟨vs', t', ?_, h4⟩, h5⟩
    · simp only at hi
      split at hi
      · cases hi; have := h3.lt; omega
      · exact h2 i hi
    · unfold Blk at h3 ⊢
      rw [pushed_old w _ (Blk.lt h3)]; exact h3
  · exact h.τinj
  · exact fun i b hi => hβ i b (h.β0 i b hi)
  · exact h.fro.alloc vs t

theorem Sim.mono {B G s a w G' w' m'} (h : Sim B G s a w) (hi : Inv B G' w' m') (e : Ext G.S w G'.S w') (hβ : ∀ i b, G.β i = some b → G'.β i = some b)
    (hτ : ∀ k x, G.τ k = some x → G'.τ k = some x) : Sim B G' { s with mem := m' } a w' :=
  ⟨hi, h.len, fun i => (h.tmps i).mono e hβ hτ, h.defers⟩

theorem look_upd (m : Mem) (i j : Nat) (cs : List AV) : look (upd m i cs) j = if j = i then (look m i).map (fun _ => cs) else look m j := by
  induction m with
  | nil => simp [look, upd]
  | cons p r ih =>
    obtain ⟨k, c⟩ := p
    by_cases hk : k = i
    · subst hk
      by_cases hj : k = j
      · subst hj; simp [look, upd]
      · simp only [upd, if_true, look, if_neg hj, if_neg (Ne.symm hj)]
    · by_cases hj : k = j
      · subst hj; simp only [upd, if_neg hk, look, if_true]
      · simp only [upd, if_neg hk, look, if_neg hj, ih]

/-- a block that is a frame's own is written -/
theorem Inv.write {B G w m} (h : Inv B G w m) {id b : Nat} {cs ns : List AV} {vs us : List Value} {t : TypeId} {w' : World} (hl : look m id = some cs) (hb : G.β id = some b)
    (hw : Blk w' b us t) (ho : Only b w w') (hn : ns.length = us.length) (hr : ∀ (j : Nat) c v, ns[j]? = some c → us[j]? = some v → RepT G w c v) (hoc : ∀ v ∈ us, oc v = true) :
    Inv B G w' (upd m id ns) ∧ Ext G.S w G.S w' := by
  have hE : Ext G.S w G.S w' := ⟨fun _ _ h => h, fun g o hs => cell_of_heap (ho.other g (fun e => by subst e; exact h.βS id g o hb hs)) o⟩
  refine ⟨?_, hE⟩
  constructor
  · rw [ho.size]; exact h.size
  · exact ho.os.trans h.os
  · exact ho.tape.trans h.tape
  · exact ho.output.trans h.output
  · intro g hg hwr
    have hne : g ≠ b := by
      rintro rfl
      rcases h.βnew id g hb with h1 | h1
      · omega
      · exact hwr h1
    rw [ho.other g hne]; exact h.old g hg hwr
  · exact h.S0
  · exact h.Snew
  · intro g o hs; rw [ho.size]; exact h.Slt g o hs
  · exact h.βinj
  · exact h.βS
  · exact h.βnew
  · intro i hi
    rw [look_upd] at hi
    split at hi
    · rename_i e; subst e; rw [hl] at hi; cases hi
    · exact h.dom i hi
  · intro i cs' hi
    rw [look_upd] at hi
    split at hi
    · rename_i e; subst e
      rw [hl] at hi; cases hi
      exact ⟨b, us, t, hb, hw, hn, fun j c v hc hv => (hr j c v hc hv).mono hE (fun _ _ h => h) (fun _ _ h => h), hoc⟩
    · rename_i hne
      obtain ⟨b', vs', t', h1, h2, h3, h4, h5⟩ := h.mem i cs' hi
      have hbb : b' ≠ b := fun e => hne (h.βinj _ _ _ (e ▸ h1) hb)
      refine ⟨b', vs', t', h1, ?_, h3, fun j c v hc hv => (h4 j c v hc hv).mono hE (fun _ _ h => h) (fun _ _ h => h), h5⟩
      unfold Blk at h2 ⊢
      rw [ho.other b' hbb]; exact h2
  · intro k g e l hk
    obtain ⟨h1, h2, ⟨vs', t', h3, h4⟩, h5⟩ := h.τ k g e l hk
    refine ⟨h1, h2, ⟨vs', t', ?_, h4⟩, h5⟩
    unfold Blk at h3 ⊢
    rw [ho.other g (fun e => h2 id (e ▸ hb))]; exact h3
  · exact h.τinj
  · exact h.β0
  · exact h.fro.only ho hw

end Go.Ev
