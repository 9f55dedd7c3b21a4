/- The evaluator: which values abstract values stand for, in which world; that this is kept. -/
import Derived.Test.YtdcijmigoefnjaaEvB
namespace Go.Ev
open Go

structure Gh where
  S : Nat → Nat → Prop
  β : Nat → Option Nat
  τ : Tag → Option (Nat × Nat × Nat)

def Gh.bare (G : Gh) : Gh := { G with β := fun _ => none }

/-- cells that are read from an address on, and that stay -/
def Rd (S : Nat → Nat → Prop) (w : World) (a : Addr) (vs : List Value) : Prop :=
  a.spot = none ∧ ∀ j v, vs[j]? = some v → S a.block (a.off + j) ∧ w.cell? ⟨a.block, a.off + j, none⟩ = some v

/-- a value of one cell -/
def oc : Value → Bool
  | .agg _ | .tuple _ => false
  | _ => true

mutual
inductive RepV (S : Nat → Nat → Prop) (w : World) : (Nat → Option Nat) → AV → Value → Prop
  | unk {β} (v) : RepV S w β .unk v
  | int {β} (k n) : RepV S w β (.int k n) (.int k n)
  | bool {β} (b) : RepV S w β (.bool b) (.bool b)
  | str {β} (s : List UInt8) : RepV S w β (.str s) (.string ⟨s.toArray⟩)
  | agg {β cs vs} : RepL S w (fun _ => none) cs vs → (∀ v ∈ vs, oc v = true) → RepV S w β (.agg cs) (.agg vs.toArray)
  | tup {β cs vs} : RepL S w (fun _ => none) cs vs → RepV S w β (.tup cs) (.tuple vs.toArray)
  | ptr {β : Nat → Option Nat} {id off b} : β id = some b → RepV S w β (.ptr id off) (.pointer (some ⟨b, off, none⟩))
  | nilp {β} : RepV S w β .nilp (.pointer none)
  | ro {β e a vs} : RepC S w e vs → Rd S w a vs →
      RepV S w β (.ro e) (.pointer (some a))
  | slNil {β sz} : RepV S w β (.sl sz [] .nil) (.slice none 0 0)
  | slFull {β sz xs a vs} : RepR S w sz xs vs → Rd S w a vs →
      RepV S w β (.sl sz xs .full) (.slice (some a) xs.length xs.length)
  | slSh {β sz xs a vs} (cap : Nat) : RepR S w sz xs vs → Rd S w a vs →
      xs.length ≤ cap → RepV S w β (.sl sz xs .sh) (.slice (some a) xs.length cap)
  | slFullNil {β sz} : RepV S w β (.sl sz [] .full) (.slice none 0 0)
  | slShNil {β sz} : RepV S w β (.sl sz [] .sh) (.slice none 0 0)
  | view {β : Nat → Option Nat} {id off len b} (cap : Nat) : β id = some b → len ≤ cap → RepV S w β (.view id off len) (.slice (some ⟨b, off, none⟩) len cap)
  | fn {β f cap vs} : RepL S w β cap vs → RepV S w β (.fn f cap) (.func (.func f) #[] vs.toArray)
  | niliface {β} : RepV S w β .niliface .nilIface
  | nilfn {β} : RepV S w β .nilfn .nilFunc
inductive RepL (S : Nat → Nat → Prop) (w : World) : (Nat → Option Nat) → List AV → List Value → Prop
  | nil {β} : RepL S w β [] []
  | cons {β c v cs vs} : RepV S w β c v → RepL S w β cs vs → RepL S w β (c :: cs) (v :: vs)
inductive RepR (S : Nat → Nat → Prop) (w : World) : Nat → List AV → List Value → Prop
  | nil {sz} : RepR S w sz [] []
  | cons {sz x vs xs vss} : RepC S w x vs → vs.length = sz → RepR S w sz xs vss → RepR S w sz (x :: xs) (vs ++ vss)
inductive RepC (S : Nat → Nat → Prop) (w : World) : AV → List Value → Prop
  | agg {cs vs} : RepL S w (fun _ => none) cs vs → (∀ v ∈ vs, oc v = true) → RepC S w (.agg cs) vs
  | one {c v} : RepV S w (fun _ => none) c v → c.isAgg = false → oc v = true → RepC S w c [v]
end

/-- a world that says of the cells that stay what another says -/
structure Ext (S : Nat → Nat → Prop) (w : World) (S' : Nat → Nat → Prop) (w' : World) : Prop where
  sub : ∀ g o, S g o → S' g o
  cell : ∀ g o, S g o → w'.cell? ⟨g, o, none⟩ = w.cell? ⟨g, o, none⟩

theorem Ext.refl (S) (w) : Ext S w S w := ⟨fun _ _ h => h, fun _ _ _ => rfl⟩
theorem Ext.trans {S S1 S2 w w1 w2} (a : Ext S w S1 w1) (b : Ext S1 w1 S2 w2) : Ext S w S2 w2 :=
  ⟨fun g o h => b.sub g o (a.sub g o h), fun g o h => (b.cell g o (a.sub g o h)).trans (a.cell g o h)⟩

theorem Ext.reads {S w S' w'} (h : Ext S w S' w') {a : Addr} {vs : List Value} (r : Rd S w a vs) : Rd S' w' a vs :=
  ⟨r.1, fun j v hv => ⟨h.sub _ _ (r.2 j v hv).1, (h.cell _ _ (r.2 j v hv).1).trans (r.2 j v hv).2⟩⟩

mutual
theorem RepV.ext {S w S' w'} (h : Ext S w S' w') {β β' : Nat → Option Nat} (hβ : ∀ i b, β i = some b → β' i = some b) : ∀ {a v}, RepV S w β a v → RepV S' w' β' a v
  | _, _, .unk v => .unk v
  | _, _, .int k n => .int k n
  | _, _, .bool b => .bool b
  | _, _, .str s => .str s
  | _, _, .agg l o => .agg (l.ext h fun _ _ h => h) o
  | _, _, .tup l => .tup (l.ext h fun _ _ h => h)
  | _, _, .ptr e => .ptr (hβ _ _ e)
  | _, _, .nilp => .nilp
  | _, _, .ro c r => .ro (c.ext h) (h.reads r)
  | _, _, .slNil => .slNil
  | _, _, .slFull c r => .slFull (c.ext h) (h.reads r)
  | _, _, .slSh cap c r l => .slSh cap (c.ext h) (h.reads r) l
  | _, _, .slFullNil => .slFullNil
  | _, _, .slShNil => .slShNil
  | _, _, .view cap e l => .view cap (hβ _ _ e) l
  | _, _, .fn l => .fn (l.ext h hβ)
  | _, _, .niliface => .niliface
  | _, _, .nilfn => .nilfn
theorem RepL.ext {S w S' w'} (h : Ext S w S' w') {β β' : Nat → Option Nat} (hβ : ∀ i b, β i = some b → β' i = some b) : ∀ {a v}, RepL S w β a v → RepL S' w' β' a v
  | _, _, .nil => .nil
  | _, _, .cons c l => .cons (c.ext h hβ) (l.ext h hβ)
theorem RepR.ext {S w S' w'} (h : Ext S w S' w') : ∀ {n a v}, RepR S w n a v → RepR S' w' n a v
  | _, _, _, .nil => .nil
  | _, _, _, .cons c e l => .cons (c.ext h) e (l.ext h)
theorem RepC.ext {S w S' w'} (h : Ext S w S' w') : ∀ {a v}, RepC S w a v → RepC S' w' a v
  | _, _, .agg l o => .agg (l.ext h fun _ _ h => h) o
  | _, _, .one c a o => .one (c.ext h fun _ _ h => h) a o
end

theorem RepV.flat {S w β a v} (h : RepV S w β a v) : RepV S w (fun _ => none) a.flat v := by
  cases h with
  | unk v => exact .unk v
  | int k n => exact .int k n
  | bool b => exact .bool b
  | str s => exact .str s
  | agg l o => exact .agg l o
  | tup l => exact .tup l
  | ptr e => exact .unk _
  | nilp => exact .nilp
  | ro c r => exact .ro c r
  | slNil => exact .slNil
  | slFull c r => exact .slFull c r
  | slSh cap c r l => exact .slSh cap c r l
  | slFullNil => exact .slFullNil
  | slShNil => exact .slShNil
  | view cap e l => exact .unk _
  | fn l => cases l with
    | nil => exact .fn .nil
    | cons c l => exact .unk _
  | niliface => exact .niliface
  | nilfn => exact .nilfn

theorem RepL.length {S w β cs vs} (h : RepL S w β cs vs) : cs.length = vs.length := by
  induction cs generalizing vs with
  | nil => cases h; rfl
  | cons c cs ih => cases h with | cons _ l => simp [ih l]

theorem RepL.get {S w β cs vs} (h : RepL S w β cs vs) {i : Nat} {c : AV} (hc : cs[i]? = some c) : ∃ v, vs[i]? = some v ∧ RepV S w β c v := by
  induction cs generalizing vs i with
  | nil => simp at hc
  | cons d cs ih =>
    cases h with
    | cons hv l =>
      cases i with
      | zero => simp at hc; subst hc; exact ⟨_, by simp, hv⟩
      | succ i => simp at hc; obtain ⟨v, h1, h2⟩ := ih l hc; exact ⟨v, by simpa using h1, h2⟩

theorem RepL.of_get {S w β} {cs : List AV} {vs : List Value} (hl : cs.length = vs.length) (h : ∀ (i : Nat) c v, cs[i]? = some c → vs[i]? = some v → RepV S w β c v) : RepL S w β cs vs := by
  induction cs generalizing vs with
  | nil => cases vs with
    | nil => exact .nil
    | cons v vs => simp at hl
  | cons c cs ih => cases vs with
    | nil => simp at hl
    | cons v vs => exact .cons (h 0 c v rfl rfl) (ih (by simpa using hl) fun i c v h1 h2 => h (i + 1) c v (by simpa using h1) (by simpa using h2))

theorem RepL.append {S w β cs vs ds us} (h : RepL S w β cs vs) (k : RepL S w β ds us) : RepL S w β (cs ++ ds) (vs ++ us) := by
  induction cs generalizing vs with
  | nil => cases h; exact k
  | cons c cs ih => cases h with | cons hv l => exact .cons hv (ih l)

theorem RepL.drop {S w β cs vs} (h : RepL S w β cs vs) (n : Nat) : RepL S w β (cs.drop n) (vs.drop n) := by
  induction cs generalizing vs n with
  | nil => cases h; simp; exact .nil
  | cons c cs ih => cases h with
    | cons hv l => cases n with
      | zero => exact .cons hv l
      | succ n => simpa using ih l n

theorem RepL.take {S w β cs vs} (h : RepL S w β cs vs) (n : Nat) : RepL S w β (cs.take n) (vs.take n) := by
  induction cs generalizing vs n with
  | nil => cases h; simp; exact .nil
  | cons c cs ih => cases h with
    | cons hv l => cases n with
      | zero => exact .nil
      | succ n => exact .cons hv (ih l n)

theorem RepL.set {S w β cs vs c v} (h : RepL S w β cs vs) (n : Nat) (hv : RepV S w β c v) : RepL S w β (cs.set n c) (vs.set n v) := by
  induction cs generalizing vs n with
  | nil => cases h; exact .nil
  | cons c cs ih => cases h with
    | cons hv' l => cases n with
      | zero => exact .cons hv l
      | succ n => exact .cons hv' (ih l n)

def setAtV (cs : List Value) (o : Nat) : List Value → List Value
  | [] => cs
  | n :: ns => setAtV (cs.set o n) (o + 1) ns

theorem RepL.setAt {S w β cs vs ns us} (h : RepL S w β cs vs) (o : Nat) (k : RepL S w β ns us) : RepL S w β (setAt cs o ns) (setAtV vs o us) := by
  induction ns generalizing cs vs us o with
  | nil => cases k; exact h
  | cons c ns ih => cases k with | cons hv l => exact ih (h.set o hv) (o + 1) l

theorem RepL.flat {S w β cs vs} (h : RepL S w β cs vs) : RepL S w (fun _ => none) (cs.map AV.flat) vs := by
  induction cs generalizing vs with
  | nil => cases h; exact .nil
  | cons c cs ih => cases h with | cons hv l => exact .cons hv.flat (ih l)

theorem RepC.length {S w x vs} (h : RepC S w x vs) : x.cells.length = vs.length := by
  cases h with
  | agg l o => exact l.length
  | one c a o => cases x <;> simp_all [AV.cells, AV.isAgg]

theorem RepC.repL {S w x vs} (h : RepC S w x vs) : RepL S w (fun _ => none) x.cells vs := by
  cases h with
  | agg l o => exact l
  | one c a o => cases x <;> first | (simp [AV.isAgg] at a; done) | exact .cons c .nil

theorem RepC.oc {S w x vs} (h : RepC S w x vs) : ∀ v ∈ vs, oc v = true := by
  cases h with
  | agg l o => exact o
  | one c a o => intro v hv; simp at hv; subst hv; exact o

theorem RepR.length {S w sz xs vs} (h : RepR S w sz xs vs) : vs.length = xs.length * sz := by
  induction xs generalizing vs with
  | nil => cases h; simp
  | cons x xs ih => cases h with
    | cons c e l => simp [ih l, e, Nat.succ_mul, Nat.add_comm]

theorem RepR.oc {S w sz xs vs} (h : RepR S w sz xs vs) : ∀ v ∈ vs, oc v = true := by
  induction xs generalizing vs with
  | nil => cases h; simp
  | cons x xs ih => cases h with
    | cons c e l =>
      intro v hv
      rcases List.mem_append.1 hv with h | h
      · exact c.oc v h
      · exact ih l v h

theorem RepR.append {S w sz xs ys vs us} (h : RepR S w sz xs vs) (k : RepR S w sz ys us) : RepR S w sz (xs ++ ys) (vs ++ us) := by
  induction xs generalizing vs with
  | nil => cases h; exact k
  | cons x xs ih => cases h with
    | cons c e l => rw [List.append_assoc]; exact .cons c e (ih l)

theorem drop_app {l r : List Value} {s k : Nat} (e : l.length = s) : (l ++ r).drop (s + k) = r.drop k := by
  subst e; rw [← List.drop_drop, List.drop_left]
theorem take_app {l r : List Value} {s k : Nat} (e : l.length = s) : (l ++ r).take (s + k) = l ++ r.take k := by
  subst e; rw [List.take_length_add_append]

theorem RepR.drop {S w sz xs vs} (h : RepR S w sz xs vs) (n : Nat) : RepR S w sz (xs.drop n) (vs.drop (n * sz)) := by
  induction n generalizing xs vs with
  | zero => simpa using h
  | succ n ih =>
    cases h with
    | nil => simp; exact .nil
    | cons c e l =>
      have : (n + 1) * sz = sz + n * sz := by rw [Nat.succ_mul, Nat.add_comm]
      rw [this, List.drop_succ_cons, drop_app e]
      exact ih l

theorem RepR.take {S w sz xs vs} (h : RepR S w sz xs vs) (n : Nat) : RepR S w sz (xs.take n) (vs.take (n * sz)) := by
  induction n generalizing xs vs with
  | zero => simp; exact .nil
  | succ n ih =>
    cases h with
    | nil => simp; exact .nil
    | cons c e l =>
      have : (n + 1) * sz = sz + n * sz := by rw [Nat.succ_mul, Nat.add_comm]
      rw [this, List.take_succ_cons, take_app e]
      exact .cons c e (ih l)

theorem RepR.get {S w sz xs vs} (h : RepR S w sz xs vs) {i : Nat} {x : AV} (hx : xs[i]? = some x) : RepC S w x ((vs.drop (i * sz)).take sz) ∧ x.cells.length = sz := by
  have h' := (h.drop i)
  have : xs.drop i = x :: xs.drop (i + 1) := by
    obtain ⟨hi, he⟩ := List.getElem?_eq_some_iff.1 hx
    rw [List.drop_eq_getElem_cons hi, he]
  rw [this] at h'
  generalize vs.drop (i * sz) = us at h'
  cases h' with
  | cons c e l =>
    rw [List.take_left' e]
    exact ⟨c, by rw [c.length, e]⟩

theorem Rd.add {S w a vs} (h : Rd S w a vs) (n : Nat) : Rd S w (a.add n) (vs.drop n) := by
  obtain ⟨h1, h2⟩ := h
  unfold Addr.add
  by_cases hn : n = 0
  · subst hn; exact ⟨by simpa using h1, by simpa using h2⟩
  · rw [if_neg hn]
    refine ⟨rfl, fun j v hv => ?_⟩
    rw [List.getElem?_drop] at hv
    have := h2 (n + j) v hv
    simpa [Nat.add_assoc] using this

theorem Rd.take {S w a vs} (h : Rd S w a vs) (n : Nat) : Rd S w a (vs.take n) := by
  refine ⟨h.1, fun j v hv => h.2 j v ?_⟩
  rw [List.getElem?_take] at hv
  split at hv
  · exact hv
  · cases hv

theorem Rd.nil {S w} {a : Addr} (h : a.spot = none) : Rd S w a [] := ⟨h, fun j v hv => by simp at hv⟩

/-- what a frame's own value stands for -/
def RepT (G : Gh) (w : World) (a : AV) (v : Value) : Prop :=
  match a with
  | .sl sz xs (.own k) => ∃ g cap vs, v = .slice (some ⟨g, 0, none⟩) xs.length cap ∧ RepR G.S w sz xs vs ∧ Rd G.S w ⟨g, 0, none⟩ vs ∧
      G.τ k = some (g, xs.length * sz, cap * sz) ∧ xs.length ≤ cap
  | a => RepV G.S w G.β a v

theorem RepT.of {G w a v} (h : RepV G.S w G.β a v) : RepT G w a v := by
  unfold RepT
  split
  · cases h
  · exact h

theorem RepT.flat {G w a v} (h : RepT G w a v) : RepV G.S w (fun _ => none) a.flat v := by
  unfold RepT at h
  split at h
  · obtain ⟨g, cap, vs, rfl, hr, hd, _, hl⟩ := h
    exact .slSh cap hr hd hl
  · exact h.flat

theorem RepT.share {G w a v} (h : RepT G w a v) : RepV G.S w G.β a.share v := by
  unfold RepT at h
  split at h
  · obtain ⟨g, cap, vs, rfl, hr, hd, _, hl⟩ := h
    exact .slSh cap hr hd hl
  · rename_i hne
    cases a with
    | sl sz xs st => cases st with
      | own k => exact (hne _ _ _ rfl).elim
      | _ => exact h
    | _ => exact h

theorem RepV.bare {S w β a v} (h : RepV S w (fun _ => none) a v) : RepV S w β a v := h.ext (Ext.refl S w) (fun _ _ h => by cases h)

theorem RepT.mono {G w G' w' a v} (h : RepT G w a v) (e : Ext G.S w G'.S w') (hβ : ∀ i b, G.β i = some b → G'.β i = some b) (hτ : ∀ k x, G.τ k = some x → G'.τ k = some x) : RepT G' w' a v := by
  unfold RepT at h ⊢
  split
  · obtain ⟨g, cap, vs, rfl, hr, hd, ht, hl⟩ := h
    exact ⟨g, cap, vs, rfl, hr.ext e, e.reads hd, hτ _ _ ht, hl⟩
  · split at h
    · rename_i hne
      exact (hne _ _ _ rfl).elim
    · exact h.ext e hβ

end Go.Ev
