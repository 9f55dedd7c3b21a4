/- The evaluator: operations that change places. -/
import Derived.Test.YtdcijmigoefnjaaEvR
set_option linter.unusedVariables false
set_option linter.unusedSimpArgs false
namespace Go.Ev
open Go

theorem disj_iff {a b : List Nat} : disj a b = true ↔ ∀ x ∈ a, x ∉ b := by
  simp [disj, List.all_eq_true]

/-! ### what an operation reads -/

theorem evPure_congr {ty : Tys} {ρ ρ' : Operand → AV} {op : Op} (h : ∀ x ∈ op.operands.toList, ρ x = ρ' x) : evPure ty ρ op = evPure ty ρ' op := by
  cases op
  case build t parts =>
    have : (parts.toList.map fun p => (p.1, (ρ p.2).flat)) = parts.toList.map fun p => (p.1, (ρ' p.2).flat) := by
      apply List.map_congr_left
      intro p hp
      rw [h p.2 (by simp only [Op.operands, List.mem_map]; exact ⟨p, hp, rfl⟩)]
    simp only [evPure, this]
  case makeFunc f first cap =>
    have : (cap.toList.map fun x => (ρ x).share) = cap.toList.map fun x => (ρ' x).share := by
      apply List.map_congr_left
      intro x hx
      rw [h x (by simp only [Op.operands, Array.toList_append, List.mem_append]; exact .inr hx)]
    cases f <;> simp only [evPure, this]
  case slice t x lo hi mx =>
    have hx := h x (by simp [Op.operands])
    have hlo : lo.map ρ = lo.map ρ' := by
      cases lo with
      | none => rfl
      | some y => rw [Option.map_some, Option.map_some, h y (by simp [Op.operands])]
    have hhi : hi.map ρ = hi.map ρ' := by
      cases hi with
      | none => rfl
      | some y => rw [Option.map_some, Option.map_some, h y (by simp [Op.operands])]
    have hmx : mx.map ρ = mx.map ρ' := by
      cases mx with
      | none => rfl
      | some y => rw [Option.map_some, Option.map_some, h y (by simp [Op.operands])]
    simp only [evPure, hx, hlo, hhi, hmx]
  case call c =>
    obtain ⟨callee, args, argTypes⟩ := c
    cases callee with
    | builtin b =>
      have ha : ∀ x ∈ args.toList, ρ x = ρ' x := fun x hx => h x (by simp [Op.operands, Call.operands]; simpa using hx)
      cases b <;> simp only [evPure]
      case len =>
        generalize args.toList = l at ha
        generalize argTypes.toList = k
        match l, k with
        | [x], [t] => simp only [ha x (by simp)]
        | [], _ => rfl
        | [_], [] => rfl
        | [_], _ :: _ :: _ => rfl
        | _ :: _ :: _, _ => rfl
      case max =>
        generalize args.toList = l at ha
        match l with
        | [x, y] => simp only [ha x (by simp), ha y (by simp)]
        | [] => rfl
        | [_] => rfl
        | _ :: _ :: _ :: _ => rfl
      case min =>
        generalize args.toList = l at ha
        match l with
        | [x, y] => simp only [ha x (by simp), ha y (by simp)]
        | [] => rfl
        | [_] => rfl
        | _ :: _ :: _ :: _ => rfl
    | value f => rfl
    | invoke r m => rfl
  case move x => simp only [evPure, h x (by simp [Op.operands])]
  case assign x => simp only [evPure, h x (by simp [Op.operands])]
  case pick c a b => simp only [evPure, h c (by simp [Op.operands]), h a (by simp [Op.operands]), h b (by simp [Op.operands])]
  case nilCheck x => simp only [evPure, h x (by simp [Op.operands])]
  case binOp op t x y t2 => simp only [evPure, h x (by simp [Op.operands]), h y (by simp [Op.operands])]
  case unOp op t x => simp only [evPure, h x (by simp [Op.operands])]
  case convert a b x => simp only [evPure, h x (by simp [Op.operands])]
  case fieldAddr t x f => simp only [evPure, h x (by simp [Op.operands])]
  case field t x f => simp only [evPure, h x (by simp [Op.operands])]
  case indexAddr t x y => simp only [evPure, h x (by simp [Op.operands]), h y (by simp [Op.operands])]
  case index t x y => simp only [evPure, h x (by simp [Op.operands]), h y (by simp [Op.operands])]
  case extract x i => simp only [evPure, h x (by simp [Op.operands])]
  all_goals rfl

theorem evMake_congr {ty : Tys} {ρ ρ' : Operand → AV} {op : Op} (h : ∀ x ∈ op.operands.toList, ρ x = ρ' x) : evMake ty ρ op = evMake ty ρ' op := by
  cases op <;> try rfl
  rename_i t n parts
  have : (parts.toList.map fun p => (p.1, (ρ p.2).flat)) = parts.toList.map fun p => (p.1, (ρ' p.2).flat) := by
    apply List.map_congr_left
    intro p hp
    rw [h p.2 (by simp only [Op.operands, List.mem_map]; exact ⟨p, hp, rfl⟩)]
  simp only [evMake, this]

theorem looks_congr {m m' : Mem} : ∀ {ids : List Nat}, (∀ i ∈ ids, look m' i = look m i) → looks m' ids = looks m ids
  | [], _ => rfl
  | i :: r, h => by
    simp only [looks, h i (by simp), looks_congr (fun j hj => h j (List.mem_cons_of_mem _ hj))]

theorem effOf_congr {E : Env} {o : Oper} {ts ts' : List AV} {m m' : Mem} (h : ∀ x ∈ o.op.operands.toList, opv ts' x = opv ts x) (hm : ∀ id ∈ keysR ts o, look m' id = look m id) :
    effOf E o (opv ts') m' = effOf E o (opv ts) m ∧ keysR ts' o = keysR ts o ∧ keysW ts' o = keysW ts o := by
  obtain ⟨dst, op, oty, pos, after, guard⟩ := o
  simp only at h
  cases op
  case alloc t =>
    refine ⟨?_, rfl, rfl⟩
    simp only [effOf]
    cases E.ty t with
    | none => rfl
    | some ti =>
      cases dst with
      | none => rfl
      | some d => simp only [allocA, hm d (by simp [keysR])]
  case box t x =>
    have hx := h x (by simp [Op.operands])
    refine ⟨?_, rfl, rfl⟩
    simp only [effOf, hx]
    cases (opv ts x).laid with
    | none => rfl
    | some cs =>
      cases dst with
      | none => rfl
      | some d => simp only [allocA, hm d (by simp [keysR])]
  case load t x =>
    have hx := h x (by simp [Op.operands])
    refine ⟨?_, by simp only [keysR, hx], rfl⟩
    simp only [effOf, hx]
    cases E.ty t with
    | none => rfl
    | some ti =>
      simp only
      generalize hv : opv ts x = v
      cases v <;> try rfl
      rename_i id off
      simp only [hm id (by simp [keysR, hv])]
  case store t x y =>
    have hx := h x (by simp [Op.operands])
    have hy := h y (by simp [Op.operands])
    refine ⟨?_, by simp only [keysR, hx], by simp only [keysW, hx]⟩
    simp only [effOf, hx, hy]
    cases E.ty t with
    | none => rfl
    | some ti =>
      simp only
      generalize hv : opv ts x = v
      cases v <;> try rfl
      rename_i id off
      simp only [hm id (by simp [keysR, hv])]
  case call c =>
    obtain ⟨callee, args, argTypes⟩ := c
    cases callee with
    | value f =>
      have hf := h f (by simp [Op.operands, Call.operands])
      have ha : args.toList.map (opv ts') = args.toList.map (opv ts) := List.map_congr_left fun x hx => h x (by simp [Op.operands, Call.operands]; exact .inr (by simpa using hx))
      refine ⟨?_, by simp only [keysR, hf, ha], by simp only [keysW, hf, ha]⟩
      simp only [effOf, hf, ha]
      generalize hv : opv ts f = v
      cases v <;> try rfl
      rename_i g cap
      simp only [callA]
      rw [looks_congr (m' := m') (m := m) (fun i hi => hm i (by simp only [keysR, hv]; exact hi))]
    | invoke r n =>
      refine ⟨?_, rfl, rfl⟩
      simp only [effOf, evPure]
    | builtin b =>
      have ha : ∀ x ∈ args.toList, opv ts' x = opv ts x := fun x hx => h x (by simp [Op.operands, Call.operands]; simpa using hx)
      by_cases hb : b = .append
      · subst hb
        have hk : keysR ts' ⟨dst, .call { callee := .builtin .append, args, argTypes }, oty, pos, after, guard⟩ = keysR ts ⟨dst, .call { callee := .builtin .append, args, argTypes }, oty, pos, after, guard⟩ := by
          simp only [keysR]
          have : ∀ l : List Operand, (∀ x ∈ l, opv ts' x = opv ts x) → (l.flatMap fun x => match opv ts' x with | .view id _ _ => [id] | _ => []) = l.flatMap fun x => match opv ts x with | .view id _ _ => [id] | _ => [] := by
            intro l hl
            induction l with
            | nil => rfl
            | cons x l ih => simp only [List.flatMap_cons, hl x (by simp), ih (fun y hy => hl y (List.mem_cons_of_mem _ hy))]
          exact this _ ha
        refine ⟨?_, hk, rfl⟩
        simp only [effOf]
        have hm' : ∀ x ∈ args.toList, ∀ id off n, opv ts x = .view id off n → look m' id = look m id := by
          intro x hx id off n hv
          refine hm id ?_
          simp only [keysR, List.mem_flatMap]
          exact ⟨x, hx, by simp [hv]⟩
        generalize args.toList = l at ha hm'
        generalize argTypes.toList = k
        match l, k, dst with
        | [x, y], [t, t2], some d =>
          simp only [ha x (by simp), ha y (by simp)]
          cases elemOf E.ty t with
          | none => rfl
          | some ei =>
            simp only
            have : srcA E.ty t2 ei m' (opv ts y) = srcA E.ty t2 ei m (opv ts y) := by
              generalize hv : opv ts y = v
              cases v
              case view id off n => simp only [srcA, hm' y (by simp) id off n hv]
              case int k n => cases k <;> rfl
              all_goals rfl
            rw [this]
        | [x, y], [t, t2], none => rfl
        | [], _, _ => rfl
        | [_], _, _ => rfl
        | _ :: _ :: _ :: _, _, _ => rfl
        | [_, _], [], _ => rfl
        | [_, _], [_], _ => rfl
        | [_, _], _ :: _ :: _ :: _, _ => rfl
      · have e : ∀ (ρ : Operand → AV) (m : Mem), effOf E ⟨dst, .call { callee := .builtin b, args, argTypes }, oty, pos, after, guard⟩ ρ m = (evPure E.ty ρ (.call { callee := .builtin b, args, argTypes })).map fun v => { val := v } := by
          intro ρ m
          cases b <;> first | rfl | exact absurd rfl hb
        have e2 : ∀ ts, keysR ts ⟨dst, .call { callee := .builtin b, args, argTypes }, oty, pos, after, guard⟩ = [] := by
          intro ts
          cases b <;> first | rfl | exact absurd rfl hb
        refine ⟨?_, by rw [e2, e2], rfl⟩
        rw [e, e, evPure_congr h]
  case buildSlice t n ps =>
    refine ⟨?_, rfl, rfl⟩
    simp only [effOf, evMake_congr h]
  all_goals
    refine ⟨?_, rfl, rfl⟩
    simp only [effOf, evPure_congr h]

/-! ### what an operation writes -/

theorem appendA_shape {ei : TI} {d : Nat} {x : AV} {ys : List AV} {e : Eff} (h : appendA ei d x ys = some e) : e.upd = [] ∧ e.ins = none := by
  cases x <;> try (simp [appendA] at h; done)
  rename_i sz xs st
  simp only [appendA] at h
  generalize ((sz == ei.size || (st == .nil && xs.isEmpty)) && ile (((xs.length + ys.length) * ei.bytes : Nat) : Int) 140737488355328 && ile ((xs.length + ys.length : Nat) : Int) 140737488355328) = bb at h
  cases bb <;> simp only [cond_true, cond_false] at h
  · cases h
  cases st <;> simp only at h
  · cases hq : ys.isEmpty <;> rw [hq] at h <;> simp only [cond_true, cond_false] at h <;> cases h <;> exact ⟨rfl, rfl⟩
  · cases hq : ys.isEmpty <;> rw [hq] at h <;> simp only [cond_true, cond_false] at h <;> cases h <;> exact ⟨rfl, rfl⟩
  · cases hq : ys.isEmpty <;> rw [hq] at h <;> simp only [cond_true, cond_false] at h
    · cases h
    · cases h; exact ⟨rfl, rfl⟩
  · cases h; exact ⟨rfl, rfl⟩

theorem effKeys {E : Env} {o : Oper} {ts : List AV} {m : Mem} {e : Eff} (h : effOf E o (opv ts) m = some e) :
    (∀ p ∈ e.upd, p.1 ∈ keysW ts o) ∧ (∀ d cs, e.ins = some (d, cs) → d ∈ keysW ts o) ∧ (isAppend o = false → e.rt = none) := by
  obtain ⟨dst, op, oty, pos, after, guard⟩ := o
  have plain : ∀ (v : AV), e = { val := v } → (∀ p ∈ e.upd, p.1 ∈ keysW ts ⟨dst, op, oty, pos, after, guard⟩) ∧ (∀ d cs, e.ins = some (d, cs) → d ∈ keysW ts ⟨dst, op, oty, pos, after, guard⟩) ∧ (isAppend ⟨dst, op, oty, pos, after, guard⟩ = false → e.rt = none) := by
    rintro v rfl
    exact ⟨fun p hp => by simp at hp, fun d cs h => by simp at h, fun _ => rfl⟩
  have alloc_ : ∀ (d : Nat) cs, allocA m d cs = some e → e.upd = [] ∧ e.ins = some (d, cs) ∧ e.rt = none := by
    intro d cs ha
    unfold allocA at ha
    split at ha
    · cases ha
    · cases ha; exact ⟨rfl, rfl, rfl⟩
  cases op
  case alloc t =>
    simp only [effOf] at h
    split at h
    · rename_i ti d h1 h2
      obtain ⟨k1, k2, k3⟩ := alloc_ _ _ h
      rw [k1, k2, k3]
      refine ⟨fun p hp => by simp at hp, fun d' cs' h => ?_, fun _ => rfl⟩
      cases h; simp [keysW]
    · cases h
  case box t x =>
    simp only [effOf] at h
    split at h
    · rename_i cs d h1 h2
      obtain ⟨k1, k2, k3⟩ := alloc_ _ _ h
      rw [k1, k2, k3]
      refine ⟨fun p hp => by simp at hp, fun d' cs' h => ?_, fun _ => rfl⟩
      cases h; simp [keysW]
    · cases h
  case load t x =>
    simp only [effOf] at h
    cases ht : E.ty t with
    | none => simp [ht] at h
    | some ti =>
    simp only [ht] at h
    split at h
    · split at h
      · cases hb : ((List.take ti.size (List.drop (_ : Nat) (_ : List AV))).length == ti.size) <;> rw [hb] at h <;> simp only [cond_true, cond_false] at h
        · cases h
        · split at h
          · cases h; exact plain _ rfl
          · cases hs : ti.size == 1 <;> rw [hs] at h <;> simp only [cond_true, cond_false] at h
            · cases h
            · cases h; exact plain _ rfl
      · cases h
    · rename_i el hel
      cases hf : fits ti el <;> rw [hf] at h <;> simp only [cond_true, cond_false] at h
      · cases h
      · cases h; exact plain _ rfl
    · cases h
  case store t x y =>
    simp only [effOf] at h
    cases ht : E.ty t with
    | none => simp [ht] at h
    | some ti =>
    simp only [ht] at h
    split at h
    · rename_i id off hid
      cases hl : look m id with
      | none => simp [hl] at h
      | some cs =>
      simp only [hl] at h
      generalize (opv ts y) = yy at h
      cases hb : (yy.known && !yy.isTup && yy.cells.length == ti.size && Nat.ble (off + ti.size) cs.length) <;> rw [hb] at h <;> simp only [cond_true, cond_false] at h
      · cases h
      · cases h
        exact ⟨fun p hp => by simp at hp; subst hp; simp [keysW, hid], fun d cs h => by simp at h, fun _ => rfl⟩
    · cases h
  case call c =>
    obtain ⟨callee, args, argTypes⟩ := c
    cases callee with
    | value f =>
      simp only [effOf] at h
      split at h
      · rename_i g cap hg
        unfold callA at h
        cases hl : looks m (ptrIds (args.toList.map (opv ts) ++ cap)) with
        | none => simp [hl] at h
        | some passed =>
        simp only [hl] at h
        split at h
        · rename_i r passed' hsp
          cases hb : passed'.length == (ptrIds (args.toList.map (opv ts) ++ cap)).length <;> rw [hb] at h <;> simp only [cond_true, cond_false] at h
          · cases h
          · cases h
            refine ⟨fun p hp => ?_, fun d cs h => by simp at h, fun _ => rfl⟩
            simp only [keysW, hg]
            exact (List.of_mem_zip hp).1
        · cases h
      · cases h
    | invoke r n => simp [effOf, evPure] at h
    | builtin b =>
      by_cases hb : b = .append
      · subst hb
        simp only [effOf] at h
        have hna : isAppend ⟨dst, .call { callee := .builtin .append, args, argTypes }, oty, pos, after, guard⟩ = true := rfl
        split at h
        · rename_i x y t t2 d h1 h2
          split at h
          · rename_i ei hel
            cases his : isSlice E.ty t <;> rw [his] at h <;> simp only [cond_true, cond_false] at h
            · cases h
            split at h
            · rename_i ys hys
              have := appendA_shape h
              rw [this.1, this.2]
              exact ⟨fun p hp => by simp at hp, fun d cs h => by simp at h, fun h => by rw [hna] at h; cases h⟩
            · cases h
          · cases h
        · cases h
      · have e1 : ∀ (ρ : Operand → AV) (m : Mem), effOf E ⟨dst, .call { callee := .builtin b, args, argTypes }, oty, pos, after, guard⟩ ρ m = (evPure E.ty ρ (.call { callee := .builtin b, args, argTypes })).map fun v => { val := v } := by
          intro ρ m
          cases b <;> first | rfl | exact absurd rfl hb
        rw [e1, Option.map_eq_some_iff] at h
        obtain ⟨r, _, rfl⟩ := h
        exact plain r rfl
  case buildSlice t n ps =>
    simp only [effOf, Option.map_eq_some_iff] at h
    obtain ⟨r, _, rfl⟩ := h
    exact plain r rfl
  all_goals
    simp only [effOf, Option.map_eq_some_iff] at h
    obtain ⟨r, _, rfl⟩ := h
    exact plain r rfl

end Go.Ev
