/- The evaluator, along a path: what a path needs is listed, branches are taken as told. -/
import Derived.Test.YtdcijmigoefnjaaEvY
set_option linter.unusedVariables false
set_option linter.unusedSimpArgs false
namespace Go.Ev
open Go

inductive T (α : Type) where
  | no
  | ret (a : α)
  | need (b : Bool) (t : T α)
  | must (p : Prop) (t : T α)

def T.Ret {α : Type} : T α → α → Prop
  | .no, _ => False
  | .ret a, r => a = r
  | .need b t, r => b = true ∧ t.Ret r
  | .must p t, r => p ∧ t.Ret r

/-- a check: closed ones go away by themselves -/
def chk {α : Type} (b : Bool) (t : T α) : T α := bif b then t else .no

theorem chk_ok {α : Type} {b : Bool} {t : T α} {r : α} (h : (chk b t).Ret r) : b = true ∧ t.Ret r := by
  cases b with
  | true => exact ⟨rfl, h⟩
  | false => exact h.elim

theorem chk_ret {α : Type} {b : Bool} {t : T α} {r : α} (hb : b = true) (h : t.Ret r) : (chk b t).Ret r := by
  subst hb; exact h

theorem T.Ret.of_eq {α : Type} {t t' : T α} {r : α} (e : t = t') (h : t'.Ret r) : t.Ret r := e ▸ h

def T.bind {α β : Type} : T α → (α → T β) → T β
  | .no, _ => .no
  | .ret a, k => k a
  | .need b t, k => chk b (t.bind k)
  | .must p t, k => .must p (t.bind k)

theorem T.Ret.uniq {α : Type} : ∀ {t : T α} {a b : α}, t.Ret a → t.Ret b → a = b
  | .no, _, _, h, _ => h.elim
  | .ret _, _, _, h, k => h.symm.trans k
  | .need _ _, _, _, h, k => T.Ret.uniq h.2 k.2
  | .must _ _, _, _, h, k => T.Ret.uniq h.2 k.2

theorem T.Ret.bind {α β : Type} : ∀ {t : T α} {k : α → T β} {r : β}, (t.bind k).Ret r → ∃ a, t.Ret a ∧ (k a).Ret r
  | .no, _, _, h => h.elim
  | .ret a, k, r, h => ⟨a, rfl, h⟩
  | .need b t, k, r, h => by
    obtain ⟨h0, h⟩ := chk_ok h
    obtain ⟨a, h1, h2⟩ := T.Ret.bind h
    exact ⟨a, ⟨h0, h1⟩, h2⟩
  | .must p t, k, r, h => by
    obtain ⟨a, h1, h2⟩ := T.Ret.bind h.2
    exact ⟨a, ⟨h.1, h1⟩, h2⟩

/-- one of some results, by tests -/
inductive Tree (α : Type) where
  | leaf (a : α)
  | ite (b : Bool) (l r : Tree α)

def Tree.val {α : Type} : Tree α → α
  | .leaf a => a
  | .ite b l r => bif b then l.val else r.val

noncomputable def T.opt {α : Type} (t : T α) : Option α := by
  classical
  exact if h : ∃ r, t.Ret r then some h.choose else none

theorem T.opt_of {α : Type} {t : T α} {r : α} (h : t.Ret r) : t.opt = some r := by
  classical
  unfold T.opt
  have he : ∃ r, t.Ret r := ⟨r, h⟩
  simp only [he, dif_pos]
  exact congrArg some (he.choose_spec.uniq h)

theorem T.of_opt {α : Type} {t : T α} {r : α} (h : t.opt = some r) : t.Ret r := by
  classical
  unfold T.opt at h
  split at h
  · rename_i he
    cases h
    exact he.choose_spec
  · cases h

/-! ### a value as its type says -/

def AV.asInt : AV → Int
  | .int _ n => n
  | _ => 0
def AV.asBool : AV → Bool
  | .bool b => b
  | _ => false
def AV.asStr : AV → List UInt8
  | .str s => s
  | _ => []

def cellAs (z v : AV) : AV :=
  match z with
  | .int k _ => .int k v.asInt
  | .bool _ => .bool v.asBool
  | .str _ => .str v.asStr
  | _ => v

def cellIs (z v : AV) : Bool :=
  match z with
  | .int k _ => match v with | .int k' _ => decide (k' = k) | _ => false
  | .bool _ => match v with | .bool _ => true | _ => false
  | .str _ => match v with | .str _ => true | _ => false
  | _ => true

theorem cellAs_eq {z v : AV} (h : cellIs z v = true) : cellAs z v = v := by
  cases z <;> try rfl
  all_goals (cases v <;> simp [cellIs] at h)
  · subst h; rfl
  · rfl
  · rfl

def cellsAs : List AV → List AV → Nat → List AV
  | [], _, _ => []
  | z :: zs, cs, j => cellAs z (cs.getD j .unk) :: cellsAs zs cs (j + 1)

def cellsIs : List AV → List AV → Nat → Bool
  | [], _, _ => true
  | z :: zs, cs, j => cellIs z (cs.getD j .unk) && cellsIs zs cs (j + 1)

theorem cellsAs_get : ∀ (zs cs : List AV) (j : Nat), cellsIs zs cs j = true → ∀ i, i < zs.length → (cellsAs zs cs j)[i]? = some (cs.getD (j + i) .unk)
  | [], cs, j, _, i, hi => by simp at hi
  | z :: zs, cs, j, h, i, hi => by
    simp only [cellsIs, Bool.and_eq_true] at h
    cases i with
    | zero => simp only [cellsAs, List.getElem?_cons_zero, cellAs_eq h.1, Nat.add_zero]
    | succ i =>
      have := cellsAs_get zs cs (j + 1) h.2 i (by simpa using hi)
      simp only [cellsAs, List.getElem?_cons_succ, this, show j + 1 + i = j + (i + 1) by omega]

theorem cellsAs_len : ∀ (zs cs : List AV) (j : Nat), (cellsAs zs cs j).length = zs.length
  | [], cs, j => rfl
  | z :: zs, cs, j => by simp [cellsAs, cellsAs_len zs cs (j + 1)]

theorem cellsAs_eq {zs cs : List AV} (h : cellsIs zs cs 0 = true) (hl : cs.length = zs.length) : cellsAs zs cs 0 = cs := by
  apply List.ext_getElem?
  intro i
  by_cases hi : i < zs.length
  · rw [cellsAs_get zs cs 0 h i hi, Nat.zero_add, List.getD_eq_getElem?_getD, List.getElem?_eq_getElem (by omega)]
    rfl
  · rw [List.getElem?_eq_none (by rw [cellsAs_len]; omega), List.getElem?_eq_none (by omega)]

/-- a value with its type's shape to be seen -/
def AV.as (ti : TI) (v : AV) : AV := bif ti.td.agg then .agg (cellsAs ti.zero v.cells 0) else cellAs (ti.zero.headD .unk) v

def AV.has (ti : TI) (v : AV) : Bool := bif ti.td.agg then v.isAgg && (v.cells.length == ti.zero.length && cellsIs ti.zero v.cells 0) else cellIs (ti.zero.headD .unk) v

theorem AV.as_eq {ti : TI} {v : AV} (h : v.has ti = true) : v.as ti = v := by
  unfold AV.has at h
  unfold AV.as
  cases ha : ti.td.agg <;> rw [ha] at h <;> simp only [cond_true, cond_false] at h ⊢
  · exact cellAs_eq h
  · simp only [Bool.and_eq_true, beq_iff_eq] at h
    cases v <;> try (simp [AV.isAgg] at h; done)
    rename_i cs
    simp only [AV.cells] at h ⊢
    rw [cellsAs_eq h.2.2 h.2.1]

/-- a value whose shape is seen -/
def seen {α : Type} (ti : TI) (v : AV) (k : AV → T α) : T α := chk (v.has ti) (k (v.as ti))

theorem seen_ok {α : Type} {ti : TI} {v : AV} {k : AV → T α} {r : α} (h : (seen ti v k).Ret r) : (k v).Ret r := by
  obtain ⟨h1, h2⟩ := chk_ok h
  rwa [AV.as_eq h1] at h2

/-! ### operations -/

section ops
variable {α : Type}

def ofO {β : Type} (o : Option β) (k : β → T α) : T α :=
  match o with
  | some v => k v
  | none => .no

theorem ofO_ok {β : Type} {o : Option β} {k : β → T α} {r : α} (h : (ofO o k).Ret r) : ∃ v, o = some v ∧ (k v).Ret r := by
  cases o with
  | none => exact h.elim
  | some v => exact ⟨v, rfl, h⟩

def boundP (d : Nat) (v : Option AV) (top : Nat) (k : Nat → T α) : T α :=
  match v with
  | none => k d
  | some (.int _ i) => chk (inR i (top + 1)) (k i.toNat)
  | some _ => .no

theorem boundP_ok {d : Nat} {v : Option AV} {top : Nat} {k : Nat → T α} {r : α} (h : (boundP d v top k).Ret r) : ∃ n, boundA d v top = some n ∧ (k n).Ret r := by
  cases v with
  | none => exact ⟨d, rfl, h⟩
  | some v =>
    cases v <;> try exact h.elim
    rename_i kk i
    obtain ⟨h1, h2⟩ := chk_ok h
    exact ⟨i.toNat, by simp only [boundA, h1, cond_true], h2⟩

def sliceP (ty : Tys) (t : TypeId) (x : AV) (lo hi mx : Option AV) (k : AV → T α) : T α :=
  match x with
  | .str s =>
    match mx with
    | some _ => .no
    | none => boundP s.length hi s.length fun h => boundP 0 lo h fun l => bif isStr ty t then k (.str ((s.drop l).take (h - l))) else .no
  | .sl sz xs st =>
    match elemOf ty t with
    | none => .no
    | some ei =>
      bif isSlice ty t && ((sz == ei.size && st != .nil) || (st == .nil && xs.isEmpty)) then
        boundP xs.length hi xs.length fun h => boundP 0 lo h fun l =>
          match mx with
          | none => bif st == .nil then k x else k (.sl sz ((xs.drop l).take (h - l)) (if st == .full && h == xs.length then .full else .sh))
          | some m => boundP 0 (some m) h fun m' => chk (hi.isSome && m' == h) (bif st == .nil then k x else k (.sl sz ((xs.drop l).take (h - l)) .full))
      else .no
  | .ptr id off =>
    match arrLen ty t, elemOf ty t, mx with
    | some n, some ei, none => boundP n hi n fun h => boundP 0 lo h fun l => k (.view id (if n == l then off else off + l * ei.size) (h - l))
    | _, _, _ => .no
  | _ => .no

theorem sliceP_ok {ty t x lo hi mx} {k : AV → T α} {r : α} (h : (sliceP ty t x lo hi mx k).Ret r) : ∃ v, sliceA ty t x lo hi mx = some v ∧ (k v).Ret r := by
  cases x <;> try exact h.elim
  case str s =>
    simp only [sliceP, sliceA] at h ⊢
    cases mx with
    | some m => exact h.elim
    | none =>
      obtain ⟨n, h1, h⟩ := boundP_ok h
      obtain ⟨l, h2, h⟩ := boundP_ok h
      simp only [h1, h2]
      cases hb : isStr ty t <;> rw [hb] at h <;> simp only [cond_true, cond_false] at h ⊢
      · exact h.elim
      · exact ⟨_, rfl, h⟩
  case sl sz xs st =>
    simp only [sliceP, sliceA] at h ⊢
    cases he : elemOf ty t with
    | none => simp only [he] at h; exact h.elim
    | some ei =>
      simp only [he] at h ⊢
      generalize hb : (isSlice ty t && ((sz == ei.size && st != .nil) || (st == .nil && xs.isEmpty))) = b at h
      cases b <;> simp only [cond_true, cond_false] at h ⊢
      · exact h.elim
      obtain ⟨n, h1, h⟩ := boundP_ok h
      obtain ⟨l, h2, h⟩ := boundP_ok h
      simp only [h1, h2]
      cases mx with
      | none =>
        simp only at h ⊢
        cases hq : st == St.nil <;> rw [hq] at h <;> simp only [cond_true, cond_false] at h ⊢ <;> exact ⟨_, rfl, h⟩
      | some m =>
        simp only at h ⊢
        obtain ⟨m', h3, h⟩ := boundP_ok h
        obtain ⟨h4, h⟩ := chk_ok h
        simp only [h3, h4, cond_true]
        cases hq : st == St.nil <;> rw [hq] at h <;> simp only [cond_true, cond_false] at h ⊢ <;> exact ⟨_, rfl, h⟩
  case ptr id off =>
    simp only [sliceP, sliceA] at h ⊢
    cases h1 : arrLen ty t with
    | none => simp only [h1] at h; exact h.elim
    | some n =>
    cases h2 : elemOf ty t with
    | none => simp only [h1, h2] at h; exact h.elim
    | some ei =>
    cases mx with
    | some m => simp only [h1, h2] at h; exact h.elim
    | none =>
      simp only [h1, h2] at h ⊢
      obtain ⟨n', h3, h⟩ := boundP_ok h
      obtain ⟨l, h4, h⟩ := boundP_ok h
      simp only [h3, h4]
      exact ⟨_, rfl, h⟩

def partP (ti : TI) (cs : List AV) (off : Nat) (k : AV → T α) : T α :=
  bif ti.td.agg then seen ti (.agg ((cs.drop off).take ti.size)) (fun v => bif fits ti v then k v else .no)
  else chk (Nat.blt off cs.length) (seen ti (cs.getD off .unk) (fun v => bif fits ti v then k v else .no))

theorem partP_ok {ti : TI} {cs : List AV} {off : Nat} {k : AV → T α} {r : α} (h : (partP ti cs off k).Ret r) :
    ∃ v, ((partA ti cs off).bind fun v => bif fits ti v then some v else none) = some v ∧ (k v).Ret r := by
  unfold partP at h
  unfold partA
  have fin : ∀ v : AV, (bif fits ti v then k v else T.no).Ret r → fits ti v = true ∧ (k v).Ret r := by
    intro v h
    cases hf : fits ti v <;> rw [hf] at h <;> simp only [cond_true, cond_false] at h
    · exact h.elim
    · exact ⟨rfl, h⟩
  cases ha : ti.td.agg <;> rw [ha] at h <;> simp only [cond_true, cond_false] at h
  · obtain ⟨h0, h⟩ := chk_ok h
    obtain ⟨h1, h2⟩ := fin _ (seen_ok h)
    have hlt : off < cs.length := by rwa [Nat.blt_eq] at h0
    have e : cs[off]? = some (cs.getD off .unk) := by rw [List.getD_eq_getElem?_getD, List.getElem?_eq_getElem hlt]; rfl
    simp only [Bool.false_eq_true, if_false]
    exact ⟨_, by rw [e]; simp only [Option.bind_some, h1, cond_true], h2⟩
  · obtain ⟨h1, h2⟩ := fin _ (seen_ok h)
    simp only [if_true, Option.bind_some, h1, cond_true]
    exact ⟨_, rfl, h2⟩

def fieldAddrP (ty : Tys) (t : TypeId) (x : AV) (f : Nat) (k : AV → T α) : T α :=
  match fieldOf ty t f with
  | none => .no
  | some (off, fi) =>
    bif fi.size == 0 then .no else
    match x with
    | .ptr id o => k (.ptr id (o + off))
    | .ro (.agg cs) => partP fi cs off fun v => k (.ro v)
    | _ => .no

theorem fieldAddrP_ok {ty t x f} {k : AV → T α} {r : α} (h : (fieldAddrP ty t x f k).Ret r) : ∃ v, fieldAddrA ty t x f = some v ∧ (k v).Ret r := by
  unfold fieldAddrP at h
  unfold fieldAddrA
  cases hf : fieldOf ty t f with
  | none => simp only [hf] at h; exact h.elim
  | some p =>
    obtain ⟨off, fi⟩ := p
    simp only [hf] at h ⊢
    cases hs : fi.size == 0 <;> rw [hs] at h <;> simp only [cond_true, cond_false] at h ⊢
    · cases x <;> try exact h.elim
      · exact ⟨_, rfl, h⟩
      · rename_i e
        cases e <;> try exact h.elim
        rename_i cs
        obtain ⟨v, h1, h2⟩ := partP_ok h
        refine ⟨.ro v, ?_, h2⟩
        simp only
        cases hp : partA fi cs off with
        | none => simp [hp] at h1
        | some u =>
          simp only [hp, Option.bind_some] at h1 ⊢
          cases hq : fits fi u <;> rw [hq] at h1 <;> simp only [cond_true, cond_false] at h1 ⊢ <;> cases h1
          rfl
    · exact h.elim

def fieldP (ty : Tys) (t : TypeId) (x : AV) (f : Nat) (k : AV → T α) : T α :=
  match fieldOf ty t f with
  | none => .no
  | some (off, fi) =>
    match x with
    | .agg cs => partP fi cs off k
    | _ => .no

theorem fieldP_ok {ty t x f} {k : AV → T α} {r : α} (h : (fieldP ty t x f k).Ret r) : ∃ v, fieldA ty t x f = some v ∧ (k v).Ret r := by
  unfold fieldP at h
  unfold fieldA
  cases hf : fieldOf ty t f with
  | none => simp only [hf] at h; exact h.elim
  | some p =>
    obtain ⟨off, fi⟩ := p
    simp only [hf] at h ⊢
    cases x <;> try exact h.elim
    exact partP_ok h

def indexAddrP (ty : Tys) (t : TypeId) (x i : AV) (k : AV → T α) : T α :=
  match elemOf ty t with
  | none => .no
  | some ei =>
    match i with
    | .int _ i =>
      match x with
      | .sl sz xs _ => bif isSlice ty t && sz == ei.size then chk (inR i xs.length) (seen ei (xs.getD i.toNat .unk) fun v => k (.ro v)) else .no
      | .view id off n => bif isSlice ty t then chk (inR i n) (k (.ptr id (off + i.toNat * ei.size))) else .no
      | .ptr id off =>
        match arrLen ty t with
        | some n => chk (inR i n) (k (.ptr id (off + i.toNat * ei.size)))
        | none => .no
      | .ro (.agg cs) =>
        match arrLen ty t with
        | some n => chk (inR i n) (partP ei cs (i.toNat * ei.size) fun v => k (.ro v))
        | none => .no
      | _ => .no
    | _ => .no

theorem indexAddrP_ok {ty t x i} {k : AV → T α} {r : α} (h : (indexAddrP ty t x i k).Ret r) : ∃ v, indexAddrA ty t x i = some v ∧ (k v).Ret r := by
  unfold indexAddrP at h
  unfold indexAddrA
  cases he : elemOf ty t with
  | none => simp only [he] at h; exact h.elim
  | some ei =>
    simp only [he] at h ⊢
    cases i <;> try exact h.elim
    rename_i kk i
    cases x <;> try exact h.elim
    case sl sz xs st =>
      simp only at h ⊢
      cases hb : isSlice ty t && sz == ei.size <;> rw [hb] at h <;> simp only [cond_true, cond_false] at h ⊢
      · exact h.elim
      obtain ⟨h1, h⟩ := chk_ok h
      have h2 := seen_ok h
      simp only [inR, decide_eq_true_eq] at h1
      refine ⟨.ro (xs.getD i.toNat .unk), ?_, h2⟩
      unfold idx
      rw [if_pos h1.1, List.getD_eq_getElem?_getD, List.getElem?_eq_getElem (by omega)]
      rfl
    case view id off n =>
      simp only at h ⊢
      cases hb : isSlice ty t <;> rw [hb] at h <;> simp only [cond_true, cond_false] at h
      · exact h.elim
      · obtain ⟨q1, q2⟩ := chk_ok h
        simp only [q1, Bool.true_and, cond_true]
        exact ⟨_, rfl, q2⟩
    case ptr id off =>
      simp only at h ⊢
      cases ha : arrLen ty t with
      | none => simp only [ha] at h; exact h.elim
      | some n =>
        simp only [ha] at h ⊢
        obtain ⟨q1, q2⟩ := chk_ok h
        simp only [q1, cond_true]
        exact ⟨_, rfl, q2⟩
    case ro e =>
      cases e <;> try exact h.elim
      rename_i cs
      simp only at h ⊢
      cases ha : arrLen ty t with
      | none => simp only [ha] at h; exact h.elim
      | some n =>
        simp only [ha] at h ⊢
        obtain ⟨h0, h⟩ := chk_ok h
        obtain ⟨v, h1, h2⟩ := partP_ok h
        refine ⟨.ro v, ?_, h2⟩
        simp only [h0, cond_true]
        cases hp : partA ei cs (i.toNat * ei.size) with
        | none => simp [hp] at h1
        | some u =>
          simp only [hp, Option.bind_some] at h1 ⊢
          cases hq : fits ei u <;> rw [hq] at h1 <;> simp only [cond_true, cond_false] at h1 ⊢ <;> cases h1
          rfl

def indexP (ty : Tys) (t : TypeId) (x i : AV) (k : AV → T α) : T α :=
  match i with
  | .int _ i =>
    match x with
    | .agg cs =>
      match arrLen ty t with
      | none => .no
      | some n =>
        match elemOf ty t with
        | none => .no
        | some ei => chk (inR i n) (partP ei cs (i.toNat * ei.size) k)
    | .str s => bif isStr ty t then chk (inR i s.length) (k (.int .u8 (s.getD i.toNat 0).toNat)) else .no
    | _ => .no
  | _ => .no

theorem indexP_ok {ty t x i} {k : AV → T α} {r : α} (h : (indexP ty t x i k).Ret r) : ∃ v, indexA ty t x i = some v ∧ (k v).Ret r := by
  unfold indexP at h
  unfold indexA
  cases i <;> try exact h.elim
  rename_i kk i
  cases x <;> try exact h.elim
  case agg cs =>
    simp only at h ⊢
    cases ha : arrLen ty t with
    | none => simp only [ha] at h; exact h.elim
    | some n =>
    cases he : elemOf ty t with
    | none => simp only [ha, he] at h; exact h.elim
    | some ei =>
      simp only [ha, he] at h ⊢
      obtain ⟨h0, h⟩ := chk_ok h
      simp only [h0, cond_true]
      exact partP_ok h
  case str s =>
    simp only at h ⊢
    cases hb : isStr ty t <;> rw [hb] at h <;> simp only [cond_true, cond_false] at h
    · exact h.elim
    obtain ⟨h1, h2⟩ := chk_ok h
    simp only [inR, decide_eq_true_eq] at h1
    unfold isStr at hb
    cases ht : ty t with
    | none => simp [ht] at hb
    | some ti =>
      simp only [ht] at hb ⊢
      cases hd : ti.td <;> simp [hd] at hb
      simp only [hd]
      refine ⟨_, ?_, h2⟩
      rw [if_pos h1.1, List.getD_eq_getElem?_getD, List.getElem?_eq_getElem (by omega)]
      rfl

def intP (op : BinOp) (kk : IntKind) (a b : Int) (k : AV → T α) : T α :=
  match op with
  | .quo => chk (!ieq b 0) (k (.int kk (iquo kk a b)))
  | .rem => chk (!ieq b 0) (k (.int kk (irem a b)))
  | op => ofO (intOp op kk a b) k

theorem intP_ok {op kk a b} {k : AV → T α} {r : α} (h : (intP op kk a b k).Ret r) : ∃ v, intOp op kk a b = some v ∧ (k v).Ret r := by
  cases op <;> try exact ofO_ok h
  all_goals
    obtain ⟨h1, h2⟩ := chk_ok h
    simp only [Bool.not_eq_true'] at h1
    simp only [intOp, h1, cond_false]
    exact ⟨_, rfl, h2⟩

def strP (op : BinOp) (a b : List UInt8) (k : AV → T α) : T α :=
  match op with
  | .add => chk (Nat.ble (a.length + b.length) 9223372036854775807) (k (.str (a ++ b)))
  | op => ofO (strOp op a b) k

theorem strP_ok {op a b} {k : AV → T α} {r : α} (h : (strP op a b k).Ret r) : ∃ v, strOp op a b = some v ∧ (k v).Ret r := by
  cases op <;> try exact ofO_ok h
  obtain ⟨h1, h2⟩ := chk_ok h
  have h1 : ile ((a.length + b.length : Nat) : Int) 9223372036854775807 = true := by
    rw [Nat.ble_eq] at h1
    simp only [ile, decide_eq_true_eq]
    omega
  simp only [strOp, h1, cond_true]
  exact ⟨_, rfl, h2⟩

/-- how whole values of a type are held against each other -/
abbrev EqFn := (List AV → List AV → Bool) × (List AV → Bool)

def EqOk (ty : Tys) (eqs : TypeId → Option EqFn) : Prop :=
  ∀ t p, eqs t = some p → ∀ xs ys, p.2 xs = true → p.2 ys = true → eqT ty 50 t (.agg xs) (.agg ys) = some (p.1 xs ys)

def aggP (ty : Tys) (eqs : TypeId → Option EqFn) (op : BinOp) (t : TypeId) (xs ys : List AV) (k : AV → T α) : T α :=
  match eqs t with
  | none => ofO (binA ty op t (.agg xs) (.agg ys)) k
  | some p =>
    match op with
    | .eql => chk (p.2 xs) (chk (p.2 ys) (k (.bool (p.1 xs ys))))
    | .neq => chk (p.2 xs) (chk (p.2 ys) (k (.bool (!p.1 xs ys))))
    | _ => .no

theorem aggP_ok {ty eqs op t xs ys} (hq : EqOk ty eqs) {k : AV → T α} {r : α} (h : (aggP ty eqs op t xs ys k).Ret r) : ∃ v, binA ty op t (.agg xs) (.agg ys) = some v ∧ (k v).Ret r := by
  unfold aggP at h
  cases he : eqs t with
  | none => simp only [he] at h; exact ofO_ok h
  | some p =>
    simp only [he] at h
    cases op <;> try exact h.elim
    all_goals
      obtain ⟨h1, h⟩ := chk_ok h
      obtain ⟨h2, h⟩ := chk_ok h
      have := hq t p he xs ys h1 h2
      exact ⟨_, by simp only [binA, AV.flat, this, Option.map_some], h⟩

def binP (ty : Tys) (eqs : TypeId → Option EqFn) (op : BinOp) (t : TypeId) (x y : AV) (k : AV → T α) : T α :=
  match x, y with
  | .int kk a, .int k' b =>
    match op with
    | .shl => chk (ile 0 b) (k (.int kk (ishl kk a b)))
    | .shr => chk (ile 0 b) (k (.int kk (ishr kk a b)))
    | op => if kk = k' then intP op kk a b k else .no
  | .str a, .str b => strP op a b k
  | .agg xs, .agg ys => aggP ty eqs op t xs ys k
  | x, y => ofO (binA ty op t x y) k

theorem binP_ok {ty eqs op t x y} (hq : EqOk ty eqs) {k : AV → T α} {r : α} (h : (binP ty eqs op t x y k).Ret r) : ∃ v, binA ty op t x y = some v ∧ (k v).Ret r := by
  unfold binP at h
  split at h
  · rename_i kk a k' b
    split at h
    · obtain ⟨q1, q2⟩ := chk_ok h
      exact ⟨_, by simp only [binA, q1, cond_true], q2⟩
    · obtain ⟨q1, q2⟩ := chk_ok h
      exact ⟨_, by simp only [binA, q1, cond_true], q2⟩
    · rename_i op' h1 h2
      split at h
      · rename_i e
        obtain ⟨v, q1, q2⟩ := intP_ok h
        refine ⟨v, ?_, q2⟩
        cases op' <;> first | exact (h1 rfl).elim | exact (h2 rfl).elim | (simp only [binA]; rw [if_pos e]; exact q1)
      · exact h.elim
  · obtain ⟨v, q1, q2⟩ := strP_ok h
    refine ⟨v, ?_, q2⟩
    cases op <;> exact q1
  · exact aggP_ok hq h
  · exact ofO_ok h

def pureP (ty : Tys) (eqs : TypeId → Option EqFn) (ρ : Operand → AV) (op : Op) (k : AV → T α) : T α :=
  match op with
  | .binOp op t x y _ => binP ty eqs op t (ρ x) (ρ y) k
  | .fieldAddr t x f => fieldAddrP ty t (ρ x) f k
  | .field t x f => fieldP ty t (ρ x) f k
  | .indexAddr t x i => indexAddrP ty t (ρ x) (ρ i) k
  | .index t x i => indexP ty t (ρ x) (ρ i) k
  | .slice t x lo hi mx => sliceP ty t (ρ x) (lo.map ρ) (hi.map ρ) (mx.map ρ) k
  | op => ofO (evPure ty ρ op) k

theorem pureP_ok {ty eqs ρ op} (hq : EqOk ty eqs) {k : AV → T α} {r : α} (h : (pureP ty eqs ρ op k).Ret r) : ∃ v, evPure ty ρ op = some v ∧ (k v).Ret r := by
  cases op <;> try exact ofO_ok h
  · exact binP_ok hq h
  · exact sliceP_ok h
  · exact fieldAddrP_ok h
  · exact fieldP_ok h
  · exact indexAddrP_ok h
  · exact indexP_ok h

end ops

end Go.Ev
