/- The evaluator, along a path (2): memory, calls, code. -/
import Derived.Test.YtdcijmigoefnjaaEvZ
set_option linter.unusedVariables false
set_option linter.unusedSimpArgs false
namespace Go.Ev
open Go

abbrev SumT := List AV → List (List AV) → T (Tree (AV × List (List AV)))

structure EnvP where
  ty : Tys
  spec : FuncId → SumT
  keep : Nat → Option (List Nat × List Nat)
  fuel : Nat
  loops : Nat → Option (AS → T (Tree (Ex × AS)))
  eqs : TypeId → Option EqFn
  eqok : EqOk ty eqs

noncomputable def EnvP.env (E : EnvP) : Env := { ty := E.ty, spec := fun f a p => (E.spec f a p).opt.map Tree.val, keep := E.keep, fuel := E.fuel }

/-- is b as told -/
def asTold (b c : Bool) : Bool := match c with | true => b | false => !b

theorem asTold_eq {b c : Bool} (h : asTold b c = true) : b = c := by
  cases c <;> cases b <;> simp [asTold] at h ⊢

/-- which way to go where a test is open: as told, or both ways -/
inductive Q where
  | z
  | t (q : Q)
  | f (q : Q)
  | s (q1 q2 : Q)

def onQ {α : Type} (b : Bool) (q : Q) (k : Bool → Q → T α) : T α :=
  match q with
  | .z => .no
  | .t q => chk (asTold b true) (k true q)
  | .f q => chk (asTold b false) (k false q)
  | .s q1 q2 => bif b then k true q1 else k false q2

theorem onQ_ok {α : Type} {b : Bool} {q : Q} {k : Bool → Q → T α} {r : α} (h : (onQ b q k).Ret r) : ∃ q', (k b q').Ret r := by
  cases q with
  | z => exact h.elim
  | t q =>
    obtain ⟨h1, h2⟩ := chk_ok h
    rw [asTold_eq h1]; exact ⟨q, h2⟩
  | f q =>
    obtain ⟨h1, h2⟩ := chk_ok h
    rw [asTold_eq h1]; exact ⟨q, h2⟩
  | s q1 q2 =>
    cases b with
    | true => exact ⟨q1, h⟩
    | false => exact ⟨q2, h⟩

def onTree {α β : Type} (t : Tree β) (q : Q) (k : β → Q → T α) : T α :=
  match t with
  | .leaf a => k a q
  | .ite b l r => onQ b q fun c q => bif c then onTree l q k else onTree r q k

theorem onTree_ok {α β : Type} : ∀ {t : Tree β} {q : Q} {k : β → Q → T α} {r : α}, (onTree t q k).Ret r → ∃ q', (k t.val q').Ret r
  | .leaf a, q, k, r, h => ⟨q, h⟩
  | .ite b l r', q, k, r, h => by
    obtain ⟨q', h⟩ := onQ_ok h
    cases b with
    | true => exact onTree_ok (t := l) h
    | false => exact onTree_ok (t := r') h

section ops
variable {α : Type}

def srcP (ty : Tys) (t2 : TypeId) (ei : TI) (m : Mem) (y : AV) (k : List AV → T α) : T α :=
  match y with
  | .sl sz ys st => bif isSlice ty t2 && (sz == ei.size || (st == .nil && ys.isEmpty)) then k ys else .no
  | .view id off n =>
    match look m id with
    | some cs =>
      chk (isSlice ty t2 && ((cs.drop off).take (n * ei.size)).length == n * ei.size && (ei.td.agg || ei.size == 1))
        (k (rows ei.td.agg ei.size (((cs.drop off).take (n * ei.size)).map AV.flat) n))
    | none => .no
  | .int .i64 n =>
    chk (ile 0 n) (chk (ile n 140737488355328) (chk (ile ((ei.bytes : Int) * n) 140737488355328)
      (bif isInt ty t2 && ei.zero.length == ei.size && (ei.td.agg || ei.size == 1) then k (List.replicate n.toNat ei.elemZero) else .no)))
  | _ => .no

theorem srcP_ok {ty t2 ei m y} {k : List AV → T α} {r : α} (h : (srcP ty t2 ei m y k).Ret r) : ∃ ys, srcA ty t2 ei m y = some ys ∧ (k ys).Ret r := by
  cases y <;> try exact h.elim
  case sl sz ys st =>
    simp only [srcP, srcA] at h ⊢
    generalize (isSlice ty t2 && (sz == ei.size || (st == .nil && ys.isEmpty))) = b at h
    cases b <;> simp only [cond_true, cond_false] at h ⊢
    · exact h.elim
    · exact ⟨_, rfl, h⟩
  case view id off n =>
    simp only [srcP, srcA] at h ⊢
    cases hl : look m id with
    | none => simp only [hl] at h; exact h.elim
    | some cs =>
      simp only [hl] at h ⊢
      obtain ⟨q1, q2⟩ := chk_ok h
      simp only [q1, cond_true]
      exact ⟨_, rfl, q2⟩
  case int kk n =>
    cases kk <;> try exact h.elim
    obtain ⟨h1, h⟩ := chk_ok h
    obtain ⟨h2, h⟩ := chk_ok h
    obtain ⟨h3, h⟩ := chk_ok h
    simp only [srcA, h1, h2, h3, Bool.and_true]
    generalize hb : (isInt ty t2 && ei.zero.length == ei.size && (ei.td.agg || ei.size == 1)) = b at h
    cases b <;> simp only [cond_true, cond_false] at h ⊢
    · exact h.elim
    · exact ⟨_, rfl, h⟩

def appendP (ei : TI) (d : Nat) (x : AV) (ys : List AV) (q : Q) (k : Eff → Q → T α) : T α :=
  match x with
  | .sl sz xs st =>
    bif (sz == ei.size || (st == .nil && xs.isEmpty)) then
      chk (Nat.ble ((xs.length + ys.length) * ei.bytes) 140737488355328) (chk (Nat.ble (xs.length + ys.length) 140737488355328)
        (match st with
        | .own g => k { val := .sl ei.size (xs ++ ys) (.own [d]), rt := some g } q
        | .sh => chk ys.isEmpty (k { val := x } q)
        | .nil => onQ ys.isEmpty q fun c q => bif c then k { val := x } q else k { val := .sl ei.size ys (.own [d]) } q
        | .full => onQ ys.isEmpty q fun c q => bif c then k { val := x } q else k { val := .sl ei.size (xs ++ ys) (.own [d]) } q))
    else .no
  | _ => .no

theorem ble_ile {a : Nat} (h : Nat.ble a 140737488355328 = true) : ile (a : Int) 140737488355328 = true := by
  rw [Nat.ble_eq] at h
  simp only [ile, decide_eq_true_eq]
  omega

theorem appendP_ok {ei d x ys q} {k : Eff → Q → T α} {r : α} (h : (appendP ei d x ys q k).Ret r) : ∃ e q', appendA ei d x ys = some e ∧ (k e q').Ret r := by
  cases x <;> try exact h.elim
  rename_i sz xs st
  simp only [appendP, appendA] at h ⊢
  generalize (sz == ei.size || (st == .nil && xs.isEmpty)) = b at h
  cases b <;> simp only [cond_true, cond_false] at h
  · exact h.elim
  obtain ⟨h1, h⟩ := chk_ok h
  obtain ⟨h2, h⟩ := chk_ok h
  replace h1 := ble_ile h1
  replace h2 := ble_ile h2
  simp only [h1, h2, Bool.true_and, cond_true]
  cases st <;> simp only at h ⊢
  · obtain ⟨q', h⟩ := onQ_ok h
    cases hc : ys.isEmpty <;> rw [hc] at h <;> simp only [cond_true, cond_false] at h ⊢ <;> exact ⟨_, q', rfl, h⟩
  · obtain ⟨q', h⟩ := onQ_ok h
    cases hc : ys.isEmpty <;> rw [hc] at h <;> simp only [cond_true, cond_false] at h ⊢ <;> exact ⟨_, q', rfl, h⟩
  · obtain ⟨q1, q2⟩ := chk_ok h
    simp only [q1, cond_true]
    exact ⟨_, q, rfl, q2⟩
  · exact ⟨_, q, rfl, h⟩

def loadP (ty : Tys) (t : TypeId) (x : AV) (m : Mem) (k : AV → T α) : T α :=
  match ty t with
  | none => .no
  | some ti =>
    match x with
    | .ptr id off =>
      match look m id with
      | some cs =>
        chk (((cs.drop off).take ti.size).length == ti.size)
          (bif ti.td.agg then (bif Nat.ble ti.size 8 then seen ti (.agg (((cs.drop off).take ti.size).map AV.flat)) k else k (.agg (((cs.drop off).take ti.size).map AV.flat))) else bif ti.size == 1 then seen ti (((cs.drop off).take ti.size).headD .unk) k else .no)
      | none => .no
    | .ro e => bif fits ti e then k e else .no
    | _ => .no

def storeP (ty : Tys) (t : TypeId) (x y : AV) (m : Mem) (k : Eff → T α) : T α :=
  match ty t with
  | none => .no
  | some ti =>
    match x with
    | .ptr id off =>
      match look m id with
      | some cs =>
        chk (y.known && !y.isTup && y.cells.length == ti.size && Nat.ble (off + ti.size) cs.length) (k { val := .tup [], upd := [(id, setAt cs off y.cells)] })
      | none => .no
    | _ => .no

def pickP (c a b : AV) (q : Q) (k : AV → Q → T α) : T α :=
  match c with
  | .bool t =>
    match a, b with
    | .bool x, .bool y => k (.bool (bif t then x else y)) q
    | a, b => onQ t q fun c q => k (bif c then a else b) q
  | _ => .no

theorem pickP_ok {ty ρ c a b q} {k : AV → Q → T α} {r : α} (h : (pickP (ρ c) (ρ a) (ρ b) q k).Ret r) : ∃ v q', evPure ty ρ (.pick c a b) = some v ∧ (k v q').Ret r := by
  unfold pickP at h
  simp only [evPure]
  generalize ρ c = cv at h
  cases cv <;> try exact h.elim
  rename_i t
  simp only at h ⊢
  split at h
  · rename_i x y hx hy
    rw [hx, hy]
    exact ⟨_, q, rfl, h⟩
  · rename_i x y hne
    obtain ⟨q', h⟩ := onQ_ok h
    refine ⟨_, q', rfl, ?_⟩
    have : pickA t (ρ a) (ρ b) = bif t then ρ a else ρ b := by
      unfold pickA
      split
      · rename_i x y hx hy
        exact absurd hy (hne x y hx)
      · rfl
    rw [this]
    exact h

def callP (E : EnvP) (m : Mem) (dst : Option Nat) (g : FuncId) (args : List AV) (q : Q) (k : Eff → Q → T α) : T α :=
  match looks m (ptrIds args) with
  | none => .no
  | some passed =>
    (E.spec g (args.map (AV.renum (ptrIds args))) passed).bind fun t => onTree t q fun p q =>
      chk (p.2.length == (ptrIds args).length) (k { val := p.1.named dst, upd := (ptrIds args).zip p.2 } q)

def effP (E : EnvP) (o : Oper) (ρ : Operand → AV) (m : Mem) (q : Q) (k : Eff → Q → T α) : T α :=
  match o.op with
  | .load t x => loadP E.ty t (ρ x) m fun v => k { val := v } q
  | .store t x y => storeP E.ty t (ρ x) (ρ y) m fun e => k e q
  | .call { callee := .builtin .append, args, argTypes } =>
    match args.toList, argTypes.toList, o.dst with
    | [x, y], [t, t2], some d =>
      match elemOf E.ty t with
      | some ei => bif isSlice E.ty t then srcP E.ty t2 ei m (ρ y) fun ys => appendP ei d (ρ x) ys q k else .no
      | none => .no
    | _, _, _ => .no
  | .call { callee := .value f, args, .. } =>
    match ρ f with
    | .fn g cap => callP E m o.dst g (args.toList.map ρ ++ cap) q k
    | _ => .no
  | .alloc e =>
    match E.ty e, o.dst with
    | some ti, some d => ofO (allocA m d ti.zero) fun e => k e q
    | _, _ => .no
  | .box _ x =>
    match (ρ x).laid, o.dst with
    | some cs, some d => ofO (allocA m d cs) fun e => k e q
    | _, _ => .no
  | .buildSlice t n ps => ofO (evMake E.ty ρ (.buildSlice t n ps)) fun v => k { val := v } q
  | .pick c a b => pickP (ρ c) (ρ a) (ρ b) q fun v q => k { val := v } q
  | op => pureP E.ty E.eqs ρ op fun v => k { val := v } q

theorem effP_ok {E : EnvP} {o : Oper} {ρ m q} {k : Eff → Q → T α} {r : α} (h : (effP E o ρ m q k).Ret r) : ∃ e q', effOf E.env o ρ m = some e ∧ (k e q').Ret r := by
  obtain ⟨dst, op, oty, pos, after, guard⟩ := o
  have pure_ : ∀ op' : Op, (pureP E.ty E.eqs ρ op' fun v => k { val := v } q).Ret r → ∃ e q', (evPure E.ty ρ op').map (fun v => ({ val := v } : Eff)) = some e ∧ (k e q').Ret r := by
    intro op' h
    obtain ⟨v, h1, h2⟩ := pureP_ok E.eqok h
    exact ⟨_, q, by rw [h1]; rfl, h2⟩
  cases hop : op
  case alloc t =>
    rw [hop] at h
    simp only [effP, effOf, EnvP.env] at h ⊢
    cases ht : E.ty t with
    | none => simp only [ht] at h; exact h.elim
    | some ti =>
    cases dst with
    | none => simp only [ht] at h; exact h.elim
    | some d =>
      simp only [ht] at h ⊢
      obtain ⟨e, h1, h2⟩ := ofO_ok h
      exact ⟨e, q, h1, h2⟩
  case box t x =>
    rw [hop] at h
    simp only [effP, effOf, EnvP.env] at h ⊢
    cases ht : (ρ x).laid with
    | none => simp only [ht] at h; exact h.elim
    | some cs =>
    cases dst with
    | none => simp only [ht] at h; exact h.elim
    | some d =>
      simp only [ht] at h ⊢
      obtain ⟨e, h1, h2⟩ := ofO_ok h
      exact ⟨e, q, h1, h2⟩
  case load t x =>
    rw [hop] at h
    simp only [effP, effOf, EnvP.env, loadP] at h ⊢
    cases ht : E.ty t with
    | none => simp only [ht] at h; exact h.elim
    | some ti =>
    simp only [ht] at h ⊢
    generalize ρ x = xv at h
    cases xv <;> try exact h.elim
    case ptr id off =>
      simp only at h ⊢
      cases hl : look m id with
      | none => simp only [hl] at h; exact h.elim
      | some cs =>
      simp only [hl] at h ⊢
      obtain ⟨h0, h⟩ := chk_ok h
      simp only [h0, cond_true]
      cases ha : ti.td.agg <;> rw [ha] at h <;> simp only [cond_true, cond_false] at h
      · cases hs : ti.size == 1 <;> rw [hs] at h <;> simp only [cond_true, cond_false] at h
        · exact h.elim
        · simp only [Bool.false_eq_true, if_false, cond_true]
          exact ⟨_, q, rfl, seen_ok h⟩
      · simp only [if_true]
        cases hs : Nat.ble ti.size 8 <;> rw [hs] at h <;> simp only [cond_true, cond_false] at h
        · exact ⟨_, q, rfl, h⟩
        · exact ⟨_, q, rfl, seen_ok h⟩
    case ro e =>
      simp only at h ⊢
      cases hf : fits ti e <;> rw [hf] at h <;> simp only [cond_true, cond_false] at h ⊢
      · exact h.elim
      · exact ⟨_, q, rfl, h⟩
  case store t x y =>
    rw [hop] at h
    simp only [effP, effOf, EnvP.env, storeP] at h ⊢
    cases ht : E.ty t with
    | none => simp only [ht] at h; exact h.elim
    | some ti =>
    simp only [ht] at h ⊢
    generalize ρ x = xv at h
    cases xv <;> try exact h.elim
    simp only at h ⊢
    rename_i id off
    cases hl : look m id with
    | none => simp only [hl] at h; exact h.elim
    | some cs =>
    simp only [hl] at h ⊢
    obtain ⟨q1, q2⟩ := chk_ok h
    simp only [q1, cond_true]
    exact ⟨_, q, rfl, q2⟩
  case call c =>
    rw [hop] at h
    obtain ⟨callee, args, argTypes⟩ := c
    cases callee with
    | value f =>
      simp only [effP, effOf, EnvP.env, callP, callA] at h ⊢
      generalize ρ f = fv at h
      cases fv <;> try exact h.elim
      simp only at h ⊢
      rename_i g cap
      generalize args.toList.map ρ ++ cap = as at h
      cases hl : looks m (ptrIds as) with
      | none => simp only [hl] at h; exact h.elim
      | some passed =>
      simp only [hl] at h ⊢
      obtain ⟨tr, h1, h⟩ := h.bind
      obtain ⟨q', h⟩ := onTree_ok h
      obtain ⟨h2, h3⟩ := chk_ok h
      rw [T.opt_of h1]
      simp only [Option.map_some, h2, cond_true]
      exact ⟨_, q', rfl, h3⟩
    | invoke rr n => exact pure_ (.call { callee := .invoke rr n, args, argTypes }) h
    | builtin b =>
      by_cases hb : b = .append
      · subst hb
        simp only [effP, effOf, EnvP.env] at h ⊢
        split at h
        · rename_i x y t t2 d h1 h2
          simp only [h1, h2]
          cases hel : elemOf E.ty t with
          | none => simp only [hel] at h; exact h.elim
          | some ei =>
          simp only [hel] at h ⊢
          cases his : isSlice E.ty t <;> rw [his] at h <;> simp only [cond_true, cond_false] at h ⊢
          · exact h.elim
          obtain ⟨ys, h3, h⟩ := srcP_ok h
          rw [h3]
          exact appendP_ok h
        · exact h.elim
      · have e1 : effP E ⟨dst, .call { callee := .builtin b, args, argTypes }, oty, pos, after, guard⟩ ρ m q k = pureP E.ty E.eqs ρ (.call { callee := .builtin b, args, argTypes }) fun v => k { val := v } q := by
          cases b <;> first | rfl | exact absurd rfl hb
        have e2 : effOf E.env ⟨dst, .call { callee := .builtin b, args, argTypes }, oty, pos, after, guard⟩ ρ m = (evPure E.ty ρ (.call { callee := .builtin b, args, argTypes })).map fun v => { val := v } := by
          cases b <;> first | rfl | exact absurd rfl hb
        rw [e1] at h
        rw [e2]
        exact pure_ _ h
  case buildSlice t n ps =>
    rw [hop] at h
    simp only [effP, effOf, EnvP.env] at h ⊢
    obtain ⟨v, h1, h2⟩ := ofO_ok h
    exact ⟨_, q, by rw [h1]; rfl, h2⟩
  case pick c a b =>
    rw [hop] at h
    simp only [effP] at h
    obtain ⟨v, q', h1, h2⟩ := pickP_ok (ty := E.ty) h
    exact ⟨{ val := v }, q', by simp only [effOf, EnvP.env, h1, Option.map_some], h2⟩
  all_goals
    rw [hop] at h
    have := pure_ op (by rw [hop]; exact h)
    rw [hop] at this
    exact this

end ops

/-! ### code -/

section code
variable {α : Type}

def wantP (ops : Array Oper) (ts : List AV) (o : Oper) (q : Q) (run skip : Q → T α) : T α :=
  match o.guard with
  | none => run q
  | some (j, want) =>
    match (ops[j]?).bind (·.dst) with
    | none => skip q
    | some t =>
      match ts[t]? with
      | some (.bool b) => onQ b q fun c q => bif c == want then run q else skip q
      | some (.tup _) => skip q
      | none => skip q
      | _ => .no

def step1P (E : EnvP) (ops : Array Oper) (i : Nat) (s : AS) (q : Q) (k : AS → Q → T α) : T α :=
  match ops[i]? with
  | none => k s q
  | some o => wantP ops s.tmps o q (fun q => effP E o (opv s.tmps) s.mem q fun e q => k (e.app o.dst s) q) (fun q => k (s.put o.dst (.tup [])) q)

theorem step1P_ok {E : EnvP} {ops : Array Oper} {i : Nat} {s : AS} {q : Q} {k : AS → Q → T α} {r : α} (h : (step1P E ops i s q k).Ret r) : ∃ s' q', step1 E.env ops i s = some s' ∧ (k s' q').Ret r := by
  unfold step1P at h
  unfold step1
  cases ho : ops[i]? with
  | none => simp only [ho] at h ⊢; exact ⟨_, _, rfl, h⟩
  | some o =>
    simp only [ho] at h ⊢
    have run : ∀ q, (effP E o (opv s.tmps) s.mem q fun e q => k (e.app o.dst s) q).Ret r → ∃ s' q', evOp E.env o s = some s' ∧ (k s' q').Ret r := by
      intro q h
      obtain ⟨e, q', h1, h2⟩ := effP_ok h
      exact ⟨_, q', by unfold evOp; rw [h1]; rfl, h2⟩
    unfold wantP at h
    unfold wantA
    cases hg : o.guard with
    | none =>
      simp only [hg] at h ⊢
      exact run q h
    | some jw =>
      obtain ⟨j, want⟩ := jw
      simp only [hg] at h ⊢
      cases hj : (ops[j]?).bind (·.dst) with
      | none => simp only [hj] at h ⊢; exact ⟨_, q, rfl, h⟩
      | some t =>
        simp only [hj] at h ⊢
        cases hx : s.tmps[t]? with
        | none => simp only [hx] at h ⊢; exact ⟨_, q, rfl, h⟩
        | some v =>
          simp only [hx] at h ⊢
          cases v <;> try exact h.elim
          case bool b =>
            simp only at h ⊢
            obtain ⟨q', h⟩ := onQ_ok h
            cases hc : b == want <;> rw [hc] at h <;> simp only [cond_true, cond_false] at h ⊢
            · exact ⟨_, q', rfl, h⟩
            · exact run q' h
          case tup vs => exact ⟨_, q, rfl, h⟩

def evSeqP (E : EnvP) (ops : Array Oper) : List Nat → AS → Q → (AS → Q → T α) → T α
  | [], s, q, k => k s q
  | i :: rest, s, q, k =>
    match (ops[i]?).bind makes with
    | none => step1P E ops i s q fun s q => evSeqP E ops rest s q k
    | some g => chk (s.noTag g) (step1P E ops i s q fun s q => evSeqP E ops rest s q k)

theorem evSeqP_ok {E : EnvP} {ops : Array Oper} : ∀ {l : List Nat} {s : AS} {q : Q} {k : AS → Q → T α} {r : α}, (evSeqP E ops l s q k).Ret r → ∃ s' q', evSeq E.env ops l s = some s' ∧ (k s' q').Ret r
  | [], s, q, k, r, h => ⟨s, q, rfl, h⟩
  | i :: rest, s, q, k, r, h => by
    simp only [evSeqP] at h
    simp only [evSeq]
    cases hm : (ops[i]?).bind makes with
    | none =>
      simp only [hm] at h ⊢
      obtain ⟨s1, q1, h1, h⟩ := step1P_ok h
      rw [h1]
      exact evSeqP_ok h
    | some g =>
      simp only [hm] at h ⊢
      obtain ⟨h0, h⟩ := chk_ok h
      obtain ⟨s1, q1, h1, h⟩ := step1P_ok h
      rw [h0, h1]
      exact evSeqP_ok h

def evTrP (E : EnvP) (ops : Array Oper) : List Nat → AS → Q → (AS → List FP → Q → T α) → T α
  | [], s, q, k => k s [] q
  | i :: rest, s, q, k => step1P E ops i s q fun s' q => evTrP E ops rest s' q fun s'' l q => k s'' (fpOf ops i s :: l) q

theorem evTrP_ok {E : EnvP} {ops : Array Oper} : ∀ {l : List Nat} {s : AS} {q : Q} {k : AS → List FP → Q → T α} {r : α}, (evTrP E ops l s q k).Ret r → ∃ s' fs q', evTr E.env ops l s = some (s', fs) ∧ (k s' fs q').Ret r
  | [], s, q, k, r, h => ⟨s, [], q, rfl, h⟩
  | i :: rest, s, q, k, r, h => by
    simp only [evTrP] at h
    simp only [evTr]
    obtain ⟨s1, q1, h1, h⟩ := step1P_ok h
    obtain ⟨s2, fs, q2, h2, h⟩ := evTrP_ok h
    rw [h1]
    simp only [h2]
    exact ⟨_, _, q2, rfl, h⟩

def loopP (f : AS → Q → (Ex → AS → Q → T α) → T α) (c : AS → AS) : Nat → AS → Q → (Ex → AS → Q → T α) → T α
  | 0, _, _, _ => .no
  | n + 1, s, q, k => f (c s) q fun ex s' q => match ex with | .normal => loopP f c n s' q k | ex => k ex s' q

def EnvP.clean (E : EnvP) (key : Nat) : AS → AS := match E.keep key with | some (l, m) => AS.clean l m | none => id

def evP (E : EnvP) : Code → AS → Q → (Ex → AS → Q → T α) → T α
  | .skip, s, q, k => k .normal s q
  | .region _ ops draw, s, q, k =>
    bif draw then evTrP E ops (List.range ops.size) s q fun s' l q => chk (drawOk2 ops s l) (k .normal s' q)
    else evSeqP E ops (List.range ops.size) s q fun s q => k .normal s q
  | .seq a b, s, q, k => evP E a s q fun ex s' q => match ex with | .normal => evP E b s' q k | ex => k ex s' q
  | .cond c a b, s, q, k =>
    match opv s.tmps c with
    | .bool t => onQ t q fun c q => bif c then evP E a s q k else evP E b s q k
    | _ => .no
  | .block id c, s, q, k => evP E c s q fun ex s' q => match ex with | .exit id' => k (if id' = id then .normal else .exit id') s' q | ex => k ex s' q
  | .loop c, s, q, k =>
    match E.loops (firstKey c) with
    | some f => (f s).bind fun t => onTree t q fun p q => k p.1 p.2 q
    | none => loopP (evP E c) (E.clean (firstKey c)) E.fuel s q fun ex s q => k ex (E.clean (firstKey c + 500) s) q
  | .exit id, s, q, k => k (.exit id) s q
  | .label _, s, q, k => k .normal s q
  | .ret, s, q, k => k .ret s q
  | _, _, _, _ => .no

def loopsOf : Code → List Code
  | .seq a b => loopsOf a ++ loopsOf b
  | .cond _ a b => loopsOf a ++ loopsOf b
  | .block _ c => loopsOf c
  | .loop c => c :: loopsOf c
  | _ => []

def LoopOk (E : EnvP) (c : Code) (f : AS → T (Tree (Ex × AS))) : Prop := ∀ s t, (f s).Ret t → ev E.env (.loop c) s = some t.val

def LoopsOk (E : EnvP) (l : List Code) : Prop := ∀ c ∈ l, ∀ f, E.loops (firstKey c) = some f → LoopOk E c f

theorem evP_ok {E : EnvP} : ∀ (c : Code) {s : AS} {q : Q} {k : Ex → AS → Q → T α} {r : α}, LoopsOk E (loopsOf c) → (evP E c s q k).Ret r → ∃ ex s' q', ev E.env c s = some (ex, s') ∧ (k ex s' q').Ret r := by
  intro c
  induction c with
  | skip => intro s q k r _ h; exact ⟨_, _, _, rfl, h⟩
  | label l => intro s q k r _ h; exact ⟨_, _, _, rfl, h⟩
  | exit id => intro s q k r _ h; exact ⟨_, _, _, rfl, h⟩
  | ret => intro s q k r _ h; exact ⟨_, _, _, rfl, h⟩
  | region rid ops draw =>
    intro s q k r _ h
    cases draw with
    | false =>
      simp only [evP, ev, cond_false] at h ⊢
      obtain ⟨s', q', h1, h⟩ := evSeqP_ok h
      exact ⟨_, s', q', by rw [h1]; rfl, h⟩
    | true =>
      simp only [evP, ev, cond_true] at h ⊢
      obtain ⟨s', fs, q', h1, h⟩ := evTrP_ok h
      obtain ⟨h2, h⟩ := chk_ok h
      exact ⟨_, s', q', by simp only [h1, h2, cond_true], h⟩
  | seq a b iha ihb =>
    intro s q k r hL h
    simp only [evP, ev] at h ⊢
    obtain ⟨ex, s1, q1, h1, h⟩ := iha (fun c hc => hL c (List.mem_append_left _ hc)) h
    rw [h1]
    cases ex with
    | normal => exact ihb (fun c hc => hL c (List.mem_append_right _ hc)) h
    | exit id => exact ⟨_, _, _, rfl, h⟩
    | ret => exact ⟨_, _, _, rfl, h⟩
  | cond c a b iha ihb =>
    intro s q k r hL h
    simp only [evP, ev] at h ⊢
    generalize opv s.tmps c = v at h
    cases v <;> try exact h.elim
    rename_i t
    simp only at h ⊢
    obtain ⟨q', h⟩ := onQ_ok h
    cases t with
    | true => exact iha (fun c hc => hL c (List.mem_append_left _ hc)) h
    | false => exact ihb (fun c hc => hL c (List.mem_append_right _ hc)) h
  | block id c ih =>
    intro s q k r hL h
    simp only [evP, ev] at h ⊢
    obtain ⟨ex, s1, q1, h1, h⟩ := ih hL h
    rw [h1]
    cases ex with
    | normal => exact ⟨_, _, _, rfl, h⟩
    | exit id' => exact ⟨_, _, _, rfl, h⟩
    | ret => exact ⟨_, _, _, rfl, h⟩
  | loop c ih =>
    intro s q k r hL h
    have hLc : LoopsOk E (loopsOf c) := fun c' hc => hL c' (List.mem_cons_of_mem _ hc)
    simp only [evP] at h
    cases hf : E.loops (firstKey c) with
    | some f =>
      simp only [hf] at h
      obtain ⟨tr, h1, h⟩ := h.bind
      obtain ⟨q', h⟩ := onTree_ok h
      exact ⟨_, _, q', hL c (by simp [loopsOf]) f hf s tr h1, h⟩
    | none =>
      simp only [hf] at h
      simp only [ev]
      have key : ∀ (k : Ex → AS → Q → T α) (cl : AS → AS) (n : Nat) {s : AS} {q : Q}, (loopP (evP E c) cl n s q k).Ret r → ∃ ex s' q', loopN (ev E.env c) cl n s = some (ex, s') ∧ (k ex s' q').Ret r := by
        intro k cl n
        induction n with
        | zero => intro s q h; exact h.elim
        | succ n ihn =>
          intro s q h
          simp only [loopP] at h
          simp only [loopN]
          obtain ⟨ex, s1, q1, h1, h⟩ := ih hLc h
          rw [h1]
          cases ex with
          | normal => exact ihn h
          | exit id => exact ⟨_, _, _, rfl, h⟩
          | ret => exact ⟨_, _, _, rfl, h⟩
      obtain ⟨ex, s', q', h1, h2⟩ := key _ _ _ h
      have e := congrArg (Option.map fun r : Ex × AS => (r.1, E.clean (firstKey c + 500) r.2)) h1
      exact ⟨ex, _, q', e, h2⟩
  | _ => intro s q k r _ h; exact h.elim

end code

def doneP (E : EnvP) (fn : Func) (n : Nat) (ex : Ex) (s : AS) : T (AV × List (List AV)) :=
  match ex with
  | .exit _ => .no
  | _ =>
    match resAll E.ty s fn.results.toList, passedBack s.mem 1000 n with
    | some vs, some l => .ret (outA vs, l)
    | _, _ => .no

/-- a function's run along a path -/
def runP (E : EnvP) (fn : Func) (args : List AV) (passed : List (List AV)) (q : Q) : T (AV × List (List AV)) :=
  match fn.body with
  | none => .no
  | some c => evP E c (enterA fn args passed) q fun ex s _ => doneP E fn passed.length ex s

theorem runP_ok {E : EnvP} {fn : Func} {args : List AV} {passed : List (List AV)} {q : Q} {r : AV × List (List AV)} (hL : ∀ c, fn.body = some c → LoopsOk E (loopsOf c)) (h : (runP E fn args passed q).Ret r) :
    runF E.env fn args passed = some r := by
  unfold runP at h
  unfold runF
  cases hb : fn.body with
  | none => simp only [hb] at h; exact h.elim
  | some c =>
    simp only [hb] at h ⊢
    obtain ⟨ex, s, q', h1, h⟩ := evP_ok c (hL c hb) h
    rw [h1]
    unfold doneP at h
    have fin : ∀ (o1 : Option (List AV)) (o2 : Option (List (List AV))), T.Ret (match o1, o2 with
        | some vs, some l => .ret (outA vs, l)
        | _, _ => .no) r → (match o1, o2 with
        | some vs, some l => some (outA vs, l)
        | _, _ => none) = some r := by
      intro o1 o2 h
      cases o1 <;> cases o2 <;> first | exact h.elim | exact congrArg some h
    cases ex with
    | exit id => exact h.elim
    | normal => exact fin _ _ h
    | ret => exact fin _ _ h

/-! ### contracts -/

def SumTOk (P : Program) (f : FuncId) (S : SumT) : Prop := ∀ args passed t, (S args passed).Ret t → CallsA P f args passed t.val.1 t.val.2

def specT : List (FuncId × SumT) → FuncId → SumT
  | [], _ => fun _ _ => .no
  | (g, S) :: r, f => bif g == f then S else specT r f

def SpecTL (P : Program) : List (FuncId × SumT) → Prop
  | [] => True
  | p :: r => SumTOk P p.1 p.2 ∧ SpecTL P r

theorem specT_ok {P : Program} : ∀ {l : List (FuncId × SumT)}, SpecTL P l → ∀ f, SumTOk P f (specT l f)
  | [], _, f => fun args passed t h => h.elim
  | p :: l, hl, f => fun args passed t h => by
    simp only [specT] at h
    cases hb : p.1 == f <;> rw [hb] at h <;> simp only [cond_true, cond_false] at h
    · exact specT_ok hl.2 f args passed t h
    · rw [beq_iff_eq] at hb
      rw [← hb]; exact hl.1 _ _ _ h

def Book.envP (K : Book) (f : FuncId) (spec : List (FuncId × SumT)) (fuel : Nat) (loops : Nat → Option (AS → T (Tree (Ex × AS)))) : EnvP :=
  { ty := K.ty.get, spec := specT spec, keep := fun r => K.keep.get (f * 1000 + r), fuel, loops, eqs := K.eqs, eqok := K.eqok }

def noLoops : Nat → Option (AS → T (Tree (Ex × AS))) := fun _ => none

theorem noLoops_ok {K : Book} {f spec fuel l} : LoopsOk (K.envP f spec fuel noLoops) l := fun _ _ _ h => by cases h

/-- a contract that is a path of the code -/
theorem Book.Ok.path {P : Program} {K : Book} (hK : K.Ok P) {f : FuncId} {fn : Func} (hf : K.fn.get f = some fn) {spec : List (FuncId × SumT)} (hs : SpecTL P spec) (fuel : Nat) (loops : Nat → Option (AS → T (Tree (Ex × AS))))
    (hL : ∀ c, fn.body = some c → LoopsOk (K.envP f spec fuel loops) (loopsOf c)) {args : List AV} {passed : List (List AV)} (q : Q) {r : AV} {passed' : List (List AV)}
    (h : (runP (K.envP f spec fuel loops) fn args passed q).Ret (r, passed')) : CallsA P f args passed r passed' := by
  obtain ⟨h1, h2⟩ := hK.fn.get hf
  refine runF_ok (E := (K.envP f spec fuel loops).env) ⟨hK.tys, fun g a p r p' hr => by
    obtain ⟨t, h1, h2⟩ := Option.map_eq_some_iff.1 hr
    have := specT_ok hs g a p t (T.of_opt h1)
    rw [h2] at this
    exact this⟩ hK.zero hK.mixed h1 h2 (runP_ok hL h)

end Go.Ev
