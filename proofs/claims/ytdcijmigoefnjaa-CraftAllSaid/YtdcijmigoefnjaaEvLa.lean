import Derived.Test.YtdcijmigoefnjaaEv3
import Derived.ProofKit
import Derived.OpenShut
import Derived.ChangeOld
import Derived.Below
import Derived.Carry
import Derived.SizedLaws
/- The evaluator: arguments that are read as data. -/
set_option linter.unusedVariables false
set_option linter.unusedSimpArgs false
namespace Go.Ev
open Go Go.WideShapes Go.ChangeShapes Go.RowKit

inductive Lf where
  | int (k : IntKind)
  | bool
  | str
  deriving DecidableEq

def TyA : Lf → AV → Prop
  | .int k, a => ∃ n, a = .int k n ∧ k.min ≤ n ∧ n ≤ k.max
  | .bool, a => ∃ b, a = .bool b
  | .str, a => ∃ s, a = .str s ∧ s.length ≤ maxLen

def TyL : List Lf → List AV → Prop
  | [], [] => True
  | l :: ls, a :: as => TyA l a ∧ TyL ls as
  | _, _ => False

theorem TyL.append : ∀ {ls ms : List Lf} {as bs : List AV}, TyL ls as → TyL ms bs → TyL (ls ++ ms) (as ++ bs)
  | [], ms, [], bs, _, h => h
  | l :: ls, ms, a :: as, bs, h, k => ⟨h.1, TyL.append h.2 k⟩
  | [], _, _ :: _, _, h, _ => h.elim
  | _ :: _, _, [], _, h, _ => h.elim

theorem TyL.length : ∀ {ls : List Lf} {as : List AV}, TyL ls as → as.length = ls.length
  | [], [], _ => rfl
  | l :: ls, a :: as, h => by simp [TyL.length h.2]
  | [], _ :: _, h => h.elim
  | _ :: _, [], h => h.elim

def fieldsL (P : Program) (rec : TypeId → Option (List Lf)) : Nat → List Field → Option (List Lf)
  | _, [] => some []
  | off, f :: fs =>
    match rec f.type with
    | none => none
    | some l => if f.offset = off ∧ P.cellsOf f.type = l.length then (fieldsL P rec (off + l.length) fs).map (l ++ ·) else none

def repL {α : Type} : Nat → List α → List α
  | 0, _ => []
  | n + 1, l => l ++ repL n l

/-- what a type's cells are -/
def lvs (P : Program) : Nat → TypeId → Option (List Lf)
  | 0, _ => none
  | d + 1, t =>
    match P.underlying t with
    | some (.int k) => some [.int k]
    | some .bool => some [.bool]
    | some .string => some [.str]
    | some (.struct fs) => (fieldsL P (lvs P d) 0 fs.toList).bind fun l => if P.cellsOf t = l.length then some l else none
    | some (.array n e) =>
      match lvs P d e with
      | none => none
      | some l => if P.cellsOf e = l.length ∧ P.cellsOf t = n * l.length then some (repL n l) else none
    | _ => none

section
variable {H : Type} {enc : TypeId × Value → H} {P : Program} {w : World} {base : Nat} {spare : Nat → Bool} {held : Bool} {S : Nat → Nat → Prop} {ws : World}

theorem wf_int {k : IntKind} {n : Int} (h : (Lit.int k n).wf = true) : k.min ≤ n ∧ n ≤ k.max := by
  simp only [Lit.wf, Bool.and_eq_true, decide_eq_true_eq] at h
  exact h

theorem read_ok : ∀ (d fuel : Nat) (t : TypeId) (cs : List Value) (x : DataW H × List MemPlace) (ls : List Lf), DataW.trod enc P w base spare held fuel t cs = some x → lvs P d t = some ls →
    ∃ as, TyL ls as ∧ RepL S ws (fun _ => none) as cs ∧ ∀ v ∈ cs, oc v = true := by
  intro d
  induction d with
  | zero => intro fuel t cs x ls _ h; cases h
  | succ d ih =>
    intro fuel t cs x ls h hl
    simp only [lvs] at hl
    cases hu : P.underlying t with
    | none => simp [hu] at hl
    | some u =>
    simp only [hu] at hl
    cases u <;> try (cases hl; done)
    case bool =>
      cases hl
      obtain ⟨b, rfl, _⟩ := DataW.trod_bool hu h
      exact ⟨[.bool b], ⟨⟨b, rfl⟩, trivial⟩, .cons (.bool b) .nil, by simp [oc]⟩
    case int k =>
      cases hl
      obtain ⟨n, rfl, _, hw⟩ := DataW.trod_int hu h
      exact ⟨[.int k n], ⟨⟨n, rfl, (wf_int hw).1, (wf_int hw).2⟩, trivial⟩, .cons (.int k n) .nil, by simp [oc]⟩
    case string =>
      cases hl
      obtain ⟨s, rfl, _, hw⟩ := DataW.trod_string hu h
      have e : s = ⟨s.data.toList.toArray⟩ := by cases s; rfl
      refine ⟨[.str s.data.toList], ⟨⟨_, rfl, by rw [Array.length_toList]; exact hw⟩, trivial⟩, .cons ?_ .nil, by simp [oc]⟩
      have := RepV.str (S := S) (w := ws) (β := fun _ => none) s.data.toList
      rwa [← e] at this
    case struct fs =>
      obtain ⟨xs, m, rfl, rfl, hlen, hxl, hf⟩ := DataW.trod_struct hu h
      cases hg : fieldsL P (lvs P d) 0 fs.toList with
      | none => simp [hg] at hl
      | some l =>
      simp only [hg, Option.bind_some] at hl
      split at hl
      rotate_left
      · cases hl
      rename_i hsz
      cases hl
      have go : ∀ (gs : List Field) (i off : Nat) (ls : List Lf), (∀ j, gs[j]? = fs.toList[i + j]?) → fieldsL P (lvs P d) off gs = some ls → off + ls.length = cs.length →
          ∃ as, TyL ls as ∧ RepL S ws (fun _ => none) as (cs.drop off) ∧ ∀ v ∈ cs.drop off, oc v = true := by
        intro gs
        induction gs with
        | nil =>
          intro i off ls _ hgo htot
          cases hgo
          have : cs.drop off = [] := List.drop_eq_nil_of_le (by simp at htot; omega)
          rw [this]
          exact ⟨[], trivial, .nil, by simp⟩
        | cons g gs ihg =>
          intro i off ls hgs hgo htot
          simp only [fieldsL] at hgo
          cases h1 : lvs P d g.type with
          | none => simp [h1] at hgo
          | some l1 =>
          simp only [h1] at hgo
          split at hgo
          rotate_left
          · cases hgo
          rename_i ho
          obtain ⟨l2, h2, rfl⟩ := Option.map_eq_some_iff.1 hgo
          have hfi : fs[i]? = some g := by have := hgs 0; simpa using this.symm
          have hi : i < fs.size := (Array.getElem?_eq_some_iff.1 hfi).1
          have hx : ∃ y, xs[i]? = some y := ⟨xs[i]'(by omega), by simp⟩
          obtain ⟨y, hy⟩ := hx
          have hr := hf i g hfi
          rw [hy, ho.1, ho.2] at hr
          obtain ⟨a1, k1, k2, k3⟩ := ih m g.type _ y l1 hr h1
          obtain ⟨a2, k4, k5, k6⟩ := ihg (i + 1) (off + l1.length) l2 (fun j => by have := hgs (j + 1); simpa [Nat.add_assoc, Nat.add_comm 1 j] using this) h2 (by simp at htot; omega)
          have e : cs.drop off = (cs.drop off).take l1.length ++ cs.drop (off + l1.length) := by
            rw [← List.drop_drop, List.take_append_drop]
          rw [e]
          refine ⟨a1 ++ a2, k1.append k4, k2.append k5, fun v hv => ?_⟩
          rcases List.mem_append.1 hv with hv | hv
          · exact k3 v hv
          · exact k6 v hv
      have := go fs.toList 0 0 ls (fun j => by simp) hg (by omega)
      simpa using this
    case array n e =>
      obtain ⟨xs, m, rfl, rfl, hlen, hxl, hf⟩ := DataW.trod_array hu h
      cases h1 : lvs P d e with
      | none => simp [h1] at hl
      | some l =>
      simp only [h1] at hl
      split at hl
      rotate_left
      · cases hl
      rename_i hsz
      cases hl
      have go : ∀ (k i : Nat), i + k = n → ∃ as, TyL (repL k l) as ∧ RepL S ws (fun _ => none) as (cs.drop (i * l.length)) ∧ ∀ v ∈ cs.drop (i * l.length), oc v = true := by
        intro k
        induction k with
        | zero =>
          intro i hi
          have hi : i = n := by omega
          subst hi
          have : cs.drop (i * l.length) = [] := List.drop_eq_nil_of_le (by omega)
          rw [this]
          exact ⟨[], trivial, .nil, by simp⟩
        | succ k ihk =>
          intro i hi
          have hx : ∃ y, xs[i]? = some y := ⟨xs[i]'(by omega), by simp⟩
          obtain ⟨y, hy⟩ := hx
          have hr := hf i (by omega)
          rw [hy, hsz.1] at hr
          obtain ⟨a1, k1, k2, k3⟩ := ih m e _ y l hr h1
          obtain ⟨a2, k4, k5, k6⟩ := ihk (i + 1) (by omega)
          have e2 : cs.drop (i * l.length) = (cs.drop (i * l.length)).take l.length ++ cs.drop ((i + 1) * l.length) := by
            rw [Nat.succ_mul, ← List.drop_drop, List.take_append_drop]
          rw [e2]
          refine ⟨a1 ++ a2, k1.append k4, k2.append k5, fun v hv => ?_⟩
          rcases List.mem_append.1 hv with hv | hv
          · exact k3 v hv
          · exact k6 v hv
      have := go n 0 (by omega)
      simpa using this

/-- what may be read of a world -/
def AllS (w : World) : Nat → Nat → Prop := fun g o => g < w.heap.size ∧ (w.cell? ⟨g, o, none⟩).isSome = true

/-- an element of a list, by its type's cells -/
def TyE (agg : Bool) (ls : List Lf) (x : AV) : Prop :=
  match agg with
  | true => ∃ cs, x = .agg cs ∧ TyL ls cs
  | false => ∃ l, ls = [l] ∧ TyA l x

theorem TyA.one {l : Lf} {a : AV} (h : TyA l a) : a.isAgg = false := by
  cases l with
  | int k => obtain ⟨n, rfl, _⟩ := h; rfl
  | bool => obtain ⟨n, rfl⟩ := h; rfl
  | str => obtain ⟨n, rfl, _⟩ := h; rfl

def isAggT (P : Program) (t : TypeId) : Bool := match P.underlying t with | some (.struct _) | some (.array _ _) => true | _ => false

theorem lvs_one {d : Nat} {t : TypeId} {ls : List Lf} (h : lvs P d t = some ls) (ha : isAggT P t = false) : ∃ l, ls = [l] := by
  cases d with
  | zero => cases h
  | succ d =>
    simp only [lvs] at h
    unfold isAggT at ha
    cases hu : P.underlying t with
    | none => simp [hu] at h
    | some u =>
      simp only [hu] at h ha
      cases u <;> first | (cases h; exact ⟨_, rfl⟩) | cases h | cases ha

theorem addr_add_spot {a : Addr} (h : a.spot = none) (n : Nat) : a.add n = ⟨a.block, a.off + n, none⟩ := by
  unfold Addr.add
  split
  · rename_i h0; subst h0; cases a; cases h; rfl
  · rfl

theorem open_sliceA {d : Nat} {t e : TypeId} {v : Value} {dd : DataW H} {ps : List MemPlace} {ls : List Lf} {r : Reach} {b0 : Nat} (hu : P.underlying t = some (.slice e)) (hl : lvs P d e = some ls) (hc : P.cellsOf e = ls.length) (hpos : 0 < ls.length)
    (h : DataW.Trod enc P w base spare held t v dd ps) (hv : Value.okWide P w r b0 t v) :
    ∃ xs, (∀ x ∈ xs, TyE (isAggT P e) ls x) ∧ xs.length ≤ maxLen ∧ RepV (AllS w) w (fun _ => none) (.sl ls.length xs .sh) v := by
  obtain ⟨a, len, cap, rfl⟩ := okWide_slice hu hv
  obtain ⟨fuel, hf⟩ := h
  rcases DataW.trod_slice hu hf with ⟨hcs, _⟩ | ⟨ad, len', cap', elems, rest, n, _, hcs, _, hb, hlc, hcm, hel, hget, _⟩
  · simp [Value.cells] at hcs
    obtain ⟨rfl, rfl, rfl⟩ := hcs
    exact ⟨[], by simp, by simp, .slShNil⟩
  · simp [Value.cells] at hcs
    obtain ⟨rfl, rfl, rfl⟩ := hcs
    have hsp : ad.spot = none := by
      simp only [Value.okWide, hu, Cell.okWide, Cell.ok] at hv
      exact hv.2.2.2.1
    have go : ∀ (i : Nat), i ≤ len → ∃ (xs : List AV) (vs : List Value), xs.length = i ∧ (∀ x ∈ xs, TyE (isAggT P e) ls x) ∧ RepR (AllS w) w ls.length xs vs ∧ ∀ (j : Nat) v, vs[j]? = some v → w.cell? ⟨ad.block, ad.off + j, none⟩ = some v := by
      intro i
      induction i with
      | zero => intro _; exact ⟨[], [], rfl, by simp, .nil, by simp⟩
      | succ i ih =>
        intro hi
        obtain ⟨xs, vs, h1, h2, h3, h4⟩ := ih (by omega)
        have hx : ∃ y, elems[i]? = some y := ⟨elems[i]'(by omega), by simp⟩
        obtain ⟨y, hy⟩ := hx
        have hg := hget i (by omega)
        rw [hy, Option.bind_eq_some_iff] at hg
        obtain ⟨cs, hcs, hr⟩ := hg
        obtain ⟨_, hcl, hcell⟩ := World.cells?_some hcs
        obtain ⟨as, k1, k2, k3⟩ := read_ok (S := AllS w) (ws := w) d n e cs y ls hr hl
        have hvl := h3.length
        have hcell' : ∀ (j : Nat) v, cs[j]? = some v → w.cell? ⟨ad.block, ad.off + (vs.length + j), none⟩ = some v := by
          intro j v hj
          have hjl : j < cs.length := (List.getElem?_eq_some_iff.1 hj).1
          have := hcell j (by omega)
          rw [hj, addr_add_spot hsp, addr_add_spot (by rfl)] at this
          rw [hvl, h1, ← hc, ← Nat.add_assoc]
          exact this
        have all : ∀ (j : Nat) v, (vs ++ cs)[j]? = some v → w.cell? ⟨ad.block, ad.off + j, none⟩ = some v := by
          intro j v hj
          rw [List.getElem?_append] at hj
          split at hj
          · exact h4 j v hj
          · have := hcell' _ v hj
            rw [show vs.length + (j - vs.length) = j by omega] at this
            exact this
        have hone : ∃ x, TyE (isAggT P e) ls x ∧ RepC (AllS w) w x cs := by
          cases hag : isAggT P e with
          | true => exact ⟨.agg as, ⟨as, rfl, k1⟩, .agg k2 k3⟩
          | false =>
            obtain ⟨l, rfl⟩ := lvs_one hl hag
            match as, k1 with
            | [a], k1 =>
              cases k2 with
              | cons q1 q2 =>
                cases q2
                exact ⟨a, ⟨l, rfl, k1.1⟩, .one q1 k1.1.one (k3 _ (by simp))⟩
            | [], k1 => exact k1.elim
            | _ :: _ :: _, k1 => exact k1.2.elim
        obtain ⟨x, hx1, hx2⟩ := hone
        refine ⟨xs ++ [x], vs ++ cs, by simp [h1], fun z hz => ?_, h3.append ?_, all⟩
        · rcases List.mem_append.1 hz with hz | hz
          · exact h2 z hz
          · simp at hz; rw [hz]; exact hx1
        · have := RepR.cons (sz := ls.length) hx2 (by rw [hcl, hc]) .nil
          simpa using this
    obtain ⟨xs, vs, h1, h2, h3, h4⟩ := go len (Nat.le_refl _)
    refine ⟨xs, h2, by omega, ?_⟩
    have hrd : Rd (AllS w) w ad vs := ⟨hsp, fun j v hj => ⟨⟨?_, ?_⟩, h4 j v hj⟩⟩
    · have := RepV.slSh (β := fun _ => none) cap h3 hrd (by omega)
      rw [h1] at this
      exact this
    · have hc := h4 j v hj
      by_cases hb : ad.block < w.heap.size
      · exact hb
      · exfalso
        have : w.heap[ad.block]? = none := by simp; omega
        simp [World.cell?, this] at hc
    · rw [h4 j v hj]; rfl

end

/-- what a call leaves, as the kit says it -/
theorem CallsA.below {P : Program} {f : FuncId} {args : List AV} (h : CallsA P f args [] (.bool true) []) {w : World} {vs : List Value} (hr : RepL (AllS w) w (fun _ => none) args vs) :
    Calls P f vs.toArray w fun e w' => e = .returned (.bool true) ∧ Below w.heap.size w w' := by
  have hp : Pass w (AllS w) (fun _ => none) [] :=
    ⟨fun g o h => h.1, fun i j b h => (by cases h), fun i b o h => (by cases h), fun i b h => (by cases h), fun j cs h => (by simp at h)⟩
  refine (h.2 w (AllS w) (fun _ => none) vs hp hr).mono ?_
  rintro e w' ⟨v, S', rfl, hd⟩
  have hv : v = .bool true := by
    have := hd.res
    unfold RepRes at this
    cases this; rfl
  subst hv
  exact ⟨rfl, hd.os, hd.tape, hd.output, hd.size, fun i hi => hd.old i hi fun j hj => by cases hj⟩

end Go.Ev
