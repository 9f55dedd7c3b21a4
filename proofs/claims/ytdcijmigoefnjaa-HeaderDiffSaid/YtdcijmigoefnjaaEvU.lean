/- The evaluator: operations that change places (3). -/
import Derived.Test.YtdcijmigoefnjaaEvT
set_option linter.unusedVariables false
set_option linter.unusedSimpArgs false
namespace Go.Ev
open Go

theorem set_get_ne {l : List AV} {d x : Nat} {v : AV} (h : x ≠ d) : (l.set d v)[x]? = l[x]? := by
  rw [List.getElem?_set_ne (Ne.symm h)]

theorem app_get {e : Eff} (h : e.rt = none) {dst : Option Nat} (s : AS) {x : Nat} (hx : x ∉ dst.toList) : (e.app dst s).tmps[x]? = s.tmps[x]? := by
  rw [app_tmps h]
  cases dst with
  | none => rfl
  | some d => exact set_get_ne (by simpa using hx)

theorem app_look {e : Eff} (h : e.rt = none) {dst : Option Nat} (s : AS) {i : Nat} {K : List Nat} (hi : i ∉ K) (h1 : ∀ p ∈ e.upd, p.1 ∈ K) (h2 : ∀ d cs, e.ins = some (d, cs) → d ∈ K) : look (e.app dst s).mem i = look s.mem i := by
  rw [app_mem h]
  exact look_memOf (fun p hp e => hi (e ▸ h1 p hp)) (fun d cs hd e => hi (e ▸ h2 d cs hd))

theorem swap_plain {E : Env} {ops : Array Oper} {a b : Oper} {t : AS} {ea eb : Eff} (ha : eff1 E ops a t = some ea) (hra : ea.rt = none) (hb : eff1 E ops b (ea.app a.dst t) = some eb) (hrb : eb.rt = none)
    (h1 : ∀ x ∈ a.dst.toList, x ∉ readsOf ops b ++ b.dst.toList) (h2 : ∀ x ∈ b.dst.toList, x ∉ readsOf ops a)
    (h3 : ∀ x ∈ keysR t.tmps a ++ keysW t.tmps a, x ∉ keysW (ea.app a.dst t).tmps b) (h4 : ∀ x ∈ keysW t.tmps a, x ∉ keysR (ea.app a.dst t).tmps b) :
    eff1 E ops b t = some eb ∧ keysR t.tmps b = keysR (ea.app a.dst t).tmps b ∧ keysW t.tmps b = keysW (ea.app a.dst t).tmps b ∧
    eff1 E ops a (eb.app b.dst t) = some ea ∧ keysR (eb.app b.dst t).tmps a = keysR t.tmps a ∧ keysW (eb.app b.dst t).tmps a = keysW t.tmps a ∧
    ea.app a.dst (eb.app b.dst t) = eb.app b.dst (ea.app a.dst t) := by
  obtain ⟨ka1, ka2, _⟩ := eff1_keys ha
  obtain ⟨kb1, kb2, _⟩ := eff1_keys hb
  have cb := eff1_congr (E := E) (ops := ops) (o := b) (s := ea.app a.dst t) (s' := t) (fun x hx => (app_get hra t (fun hd => h1 x hd (List.mem_append_left _ hx))).symm)
    (fun id hid => (app_look hra t (fun hk => h4 id hk hid) ka1 ka2).symm)
  have ca := eff1_congr (E := E) (ops := ops) (o := a) (s := t) (s' := eb.app b.dst t) (fun x hx => app_get hrb t (fun hd => h2 x hd hx))
    (fun id hid => app_look hrb t (h3 id (List.mem_append_left _ hid)) kb1 kb2)
  refine ⟨cb.1.trans hb, cb.2.1, cb.2.2, ca.1.trans ha, ca.2.1, ca.2.2, ?_⟩
  refine (app_comm t hra hrb ?_ ?_ ?_ ?_ ?_).symm
  · intro x y hx hy e
    subst e
    exact h1 x (by simp [hx]) (by simp [hy])
  · intro p hp q hq e
    exact h3 p.1 (List.mem_append_right _ (ka1 p hp)) (e ▸ kb1 q hq)
  · intro p hp d cs hd e
    exact h3 p.1 (List.mem_append_right _ (ka1 p hp)) (e ▸ kb2 d cs hd)
  · intro q hq d cs hd e
    exact h3 d (List.mem_append_right _ (ka2 d cs hd)) (e ▸ kb1 q hq)
  · intro x c y d hx hy e
    exact h3 x (List.mem_append_right _ (ka2 x c hx)) (e ▸ kb2 y d hy)

/-! ### beside an append -/

theorem retag_const (k : Tag) (v : Value) : (ofVal v).retag k = ofVal v := by
  unfold ofVal; split <;> rfl

theorem opv_retag (k : Tag) (ts : List AV) (x : Operand) : opv (ts.map (AV.retag k)) x = (opv ts x).retag k := by
  cases x with
  | tmp t =>
    simp only [opv, List.getD_eq_getElem?_getD, List.getElem?_map]
    cases ts[t]? <;> rfl
  | const v => exact (retag_const k v).symm
  | global g => rfl
  | func f => rfl

theorem bound_retag (k : Tag) (d : Nat) (v : Option AV) (top : Nat) : boundA d (v.map (AV.retag k)) top = boundA d v top := by
  cases v with
  | none => rfl
  | some v =>
    cases v <;> try rfl
    rename_i sz xs st
    cases st <;> try rfl
    simp only [Option.map_some, AV.retag]; split <;> rfl

theorem slice_retag (ty : Tys) (k : Tag) (t : TypeId) (x : AV) (lo hi mx : Option AV) : sliceA ty t (x.retag k) (lo.map (AV.retag k)) (hi.map (AV.retag k)) (mx.map (AV.retag k)) = sliceA ty t x lo hi mx := by
  have h1 := bound_retag k
  cases x
  case sl sz xs st =>
    have key : ∀ st', (st' = st ∨ ∃ k', st = .own k' ∧ st' = .sh) → sliceA ty t (.sl sz xs st') (lo.map (AV.retag k)) (hi.map (AV.retag k)) (mx.map (AV.retag k)) = sliceA ty t (.sl sz xs st) lo hi mx := by
      intro st' hst
      have hbool : (st' == St.nil) = (st == St.nil) ∧ (st' != St.nil) = (st != St.nil) ∧ (st' == St.full) = (st == St.full) := by
        rcases hst with rfl | ⟨k', rfl, rfl⟩
        · exact ⟨rfl, rfl, rfl⟩
        · exact ⟨rfl, rfl, rfl⟩
      have hnil : (st == St.nil) = true → st' = st := by
        intro h
        rcases hst with rfl | ⟨k', rfl, rfl⟩
        · rfl
        · simp at h
      simp only [sliceA, hbool.1, hbool.2.1, hbool.2.2, h1, Option.isSome_map]
      cases hq : st == St.nil
      · simp only [cond_false]
        cases mx <;> simp only [Option.map_none, Option.map_some]
        rename_i m
        have := h1 0 (some m)
        simp only [Option.map_some] at this
        simp only [this]
      · rw [hnil hq]
        cases mx <;> simp only [Option.map_none, Option.map_some]
        rename_i m
        have := h1 0 (some m)
        simp only [Option.map_some] at this
        simp only [this]
    cases st <;> try exact key _ (.inl rfl)
    rename_i k'
    simp only [AV.retag]
    split
    · exact key _ (.inr ⟨k', rfl, rfl⟩)
    · exact key _ (.inl rfl)
  case str s =>
    simp only [AV.retag, sliceA, h1]
    cases mx <;> rfl
  case ptr id off =>
    simp only [AV.retag, sliceA, h1]
    cases mx with
    | none => rfl
    | some m =>
      simp only [Option.map_some]
      cases arrLen ty t with
      | none => rfl
      | some n =>
        cases elemOf ty t with
        | none => rfl
        | some ei => rfl
  all_goals rfl

theorem slice_noTag {ty : Tys} {t : TypeId} {x : AV} {lo hi mx : Option AV} {r : AV} (h : sliceA ty t x lo hi mx = some r) (k : Tag) : r.retag k = r := by
  unfold sliceA at h
  split at h
  · split at h
    · cases h
    · split at h
      · split at h
        · generalize isStr ty t = b at h
          cases b <;> simp only [cond_true, cond_false] at h <;> cases h
          rfl
        · cases h
      · cases h
  · rename_i sz xs st
    split at h
    · cases h
    · rename_i ei he
      generalize (isSlice ty t && ((sz == ei.size && st != .nil) || (st == .nil && xs.isEmpty))) = b at h
      cases b <;> simp only [cond_true, cond_false] at h
      · cases h
      split at h
      · split at h
        · split at h
          · cases hq : st == St.nil <;> rw [hq] at h <;> simp only [cond_true, cond_false] at h <;> cases h
            · split <;> rfl
            · have : st = .nil := by simpa using hq
              subst this; rfl
          · split at h
            · generalize (hi.isSome && _) = b2 at h
              cases b2 <;> simp only [cond_true, cond_false] at h
              · cases h
              cases hq : st == St.nil <;> rw [hq] at h <;> simp only [cond_true, cond_false] at h <;> cases h
              · rfl
              · have : st = .nil := by simpa using hq
                subst this; rfl
            · cases h
        · cases h
      · cases h
  · split at h
    · split at h
      · split at h
        · cases h; rfl
        · cases h
      · cases h
    · cases h
  · cases h

theorem insM_map (f : List AV → List AV) (m : Mem) (d : Nat) (cs : List AV) : (insM m d cs).map (fun p => (p.1, f p.2)) = insM (m.map fun p => (p.1, f p.2)) d (f cs) := by
  induction m with
  | nil => rfl
  | cons p r ih =>
    obtain ⟨j, c⟩ := p
    simp only [insM, List.map_cons]
    split
    · rfl
    · rw [List.map_cons, ih]

theorem look_retag (k : Tag) (m : Mem) (i : Nat) : look (m.map fun p => (p.1, p.2.map (AV.retag k))) i = (look m i).map (List.map (AV.retag k)) := look_map _ m i

theorem want_retag (ops : Array Oper) (k : Tag) (ts : List AV) (o : Oper) : wantA ops (ts.map (AV.retag k)) o = wantA ops ts o := by
  unfold wantA
  cases o.guard with
  | none => rfl
  | some jw =>
    obtain ⟨j, want⟩ := jw
    simp only
    cases (ops[j]?).bind (·.dst) with
    | none => rfl
    | some t =>
      simp only [List.getElem?_map]
      cases ts[t]? with
      | none => rfl
      | some v =>
        cases v <;> try rfl
        rename_i sz xs st
        cases st <;> try rfl
        rename_i k'
        simp only [Option.map_some, AV.retag]
        by_cases e : k' = k
        · rw [if_pos e]
        · rw [if_neg e]

/-- zero values know no tail -/
def ZeroOk (ty : Tys) : Prop := ∀ t ti, ty t = some ti → ∃ vs : List Value, ti.zero = vs.map ofVal

theorem zero_retag {ty : Tys} (h : ZeroOk ty) {t ti} (ht : ty t = some ti) (k : Tag) : ti.zero.map (AV.retag k) = ti.zero := by
  obtain ⟨vs, e⟩ := h t ti ht
  rw [e, List.map_map]
  exact List.map_congr_left fun v _ => retag_const k v

theorem put_retag (k : Tag) (dst : Option Nat) (v : AV) (s : AS) : (s.put dst v).retag k = (s.retag k).put dst (v.retag k) := by
  cases dst with
  | none => rfl
  | some d => simp only [AS.put, AS.retag, List.map_set]

theorem beside_retag {E : Env} (hZ : ZeroOk E.ty) {ops : Array Oper} {b : Oper} (hb : besideAppend b = true) {k : Tag} {t : AS} {e' : Eff} (h : eff1 E ops b (t.retag k) = some e') :
    ∃ e, eff1 E ops b t = some e ∧ e.rt = none ∧ e'.rt = none ∧ (e.app b.dst t).retag k = e'.app b.dst (t.retag k) := by
  unfold eff1 at h ⊢
  have hw := want_retag ops k t.tmps b
  simp only [AS.retag] at h
  rw [hw] at h
  cases hq : wantA ops t.tmps b with
  | none => rw [hq] at h; cases h
  | some bb =>
    rw [hq] at h
    cases bb with
    | false =>
      cases h
      exact ⟨_, rfl, rfl, rfl, put_retag k _ _ _⟩
    | true =>
      simp only at h ⊢
      obtain ⟨dst, op, oty, pos, after, guard⟩ := b
      cases op <;> try (simp [besideAppend] at hb; done)
      case alloc ty_ =>
        simp only [effOf] at h ⊢
        cases ht : E.ty ty_ with
        | none => simp [ht] at h
        | some ti =>
          cases dst with
          | none => simp [ht] at h
          | some d =>
            simp only [ht, allocA, look_retag] at h ⊢
            cases hl : look t.mem d with
            | some cs => simp [hl] at h
            | none =>
              simp only [hl, Option.map_none, Option.some.injEq] at h ⊢
              subst h
              refine ⟨_, rfl, rfl, rfl, ?_⟩
              have := zero_retag hZ ht k
              simp only [Eff.app, put_retag, upds]
              simp only [AS.retag, insM_map, this]
              rfl
      case move x =>
        simp only [effOf, evPure, Option.map_some, Option.some.injEq, opv_retag] at h ⊢
        subst h
        exact ⟨_, rfl, rfl, rfl, put_retag k _ _ _⟩
      case slice ty_ x lo hi mx =>
        simp only [effOf, evPure, Option.map_eq_some_iff] at h ⊢
        obtain ⟨r, h, rfl⟩ := h
        have e1 : ∀ y : Option Operand, y.map (opv (t.tmps.map (AV.retag k))) = (y.map (opv t.tmps)).map (AV.retag k) := by
          intro y
          cases y with
          | none => rfl
          | some y => simp only [Option.map_some, opv_retag]
        rw [opv_retag, e1, e1, e1, slice_retag] at h
        refine ⟨_, ⟨r, h, rfl⟩, rfl, rfl, ?_⟩
        have := put_retag k dst r t
        rw [slice_noTag h k] at this
        exact this

theorem append_shape {E : Env} {ops : Array Oper} {a : Oper} {t : AS} {ea : Eff} {k : Tag} (ha : eff1 E ops a t = some ea) (hr : ea.rt = some k) : ea.upd = [] ∧ ea.ins = none := by
  have h3 := (eff1_keys ha).2.2
  unfold eff1 at ha
  cases hq : wantA ops t.tmps a with
  | none => rw [hq] at ha; cases ha
  | some bb =>
  rw [hq] at ha
  cases bb with
  | false => cases ha; cases hr
  | true =>
    simp only at ha
    cases hi : isAppend a with
    | false => rw [h3 hi] at hr; cases hr
    | true =>
      obtain ⟨dst, op, oty, pos, after, guard⟩ := a
      cases op <;> try (simp [isAppend] at hi; done)
      rename_i c
      obtain ⟨callee, args, argTypes⟩ := c
      cases callee <;> try (simp [isAppend] at hi; done)
      rename_i bi
      cases bi <;> try (simp [isAppend] at hi; done)
      simp only [effOf] at ha
      split at ha
      · rename_i x y ty1 ty2 d _ _
        split at ha
        · cases his : isSlice E.ty ty1 <;> rw [his] at ha <;> simp only [cond_true, cond_false] at ha
          · cases ha
          split at ha
          · exact appendA_shape ha
          · cases ha
        · cases ha
      · cases ha

theorem beside_keys {b : Oper} (hb : besideAppend b = true) (ts ts' : List AV) : keysR ts b = keysR ts' b ∧ keysW ts b = keysW ts' b := by
  obtain ⟨dst, op, oty, pos, after, guard⟩ := b
  cases op <;> first | exact ⟨rfl, rfl⟩ | (simp [besideAppend] at hb; done)

theorem swap_app {E : Env} (hZ : ZeroOk E.ty) {ops : Array Oper} {a b : Oper} {t : AS} {ea eb' : Eff} {k : Tag} (ha : eff1 E ops a t = some ea) (hra : ea.rt = some k) (hbe : besideAppend b = true)
    (hb : eff1 E ops b (ea.app a.dst t) = some eb')
    (h1 : ∀ x ∈ a.dst.toList, x ∉ readsOf ops b ++ b.dst.toList) (h2 : ∀ x ∈ b.dst.toList, x ∉ readsOf ops a)
    (h3 : ∀ x ∈ keysR t.tmps a ++ keysW t.tmps a, x ∉ keysW (ea.app a.dst t).tmps b) :
    ∃ eb, eff1 E ops b t = some eb ∧ keysR t.tmps b = keysR (ea.app a.dst t).tmps b ∧ keysW t.tmps b = keysW (ea.app a.dst t).tmps b ∧
    eff1 E ops a (eb.app b.dst t) = some ea ∧ keysR (eb.app b.dst t).tmps a = keysR t.tmps a ∧ keysW (eb.app b.dst t).tmps a = keysW t.tmps a ∧
    ea.app a.dst (eb.app b.dst t) = eb'.app b.dst (ea.app a.dst t) := by
  obtain ⟨e1, e2⟩ := append_shape ha hra
  have hk := beside_keys hbe t.tmps (ea.app a.dst t).tmps
  have happ : ∀ s : AS, ea.app a.dst s = Eff.app { val := ea.val } a.dst (s.retag k) := by
    intro s
    obtain ⟨v, u, i, r⟩ := ea
    simp only at e1 e2 hra
    subst e1 e2 hra
    rfl
  have hra0 : (Eff.mk ea.val [] none none).rt = none := rfl
  have hb1 : eff1 E ops b (t.retag k) = some eb' := by
    rw [happ] at hb
    refine ((eff1_congr (E := E) (ops := ops) (o := b) ?_ ?_).1.symm).trans hb
    · intro x hx
      exact app_get hra0 _ (fun hd => h1 x hd (List.mem_append_left _ hx))
    · intro id _
      rw [app_mem hra0]; rfl
  obtain ⟨eb, hb2, r1, r2, hc⟩ := beside_retag hZ hbe hb1
  obtain ⟨kb1, kb2, _⟩ := eff1_keys hb2
  have ca := eff1_congr (E := E) (ops := ops) (o := a) (s := t) (s' := eb.app b.dst t) (fun x hx => app_get r1 t (fun hd => h2 x hd hx))
    (fun id hid => app_look r1 t (h3 id (List.mem_append_left _ hid)) (hk.2 ▸ kb1) (hk.2 ▸ kb2))
  refine ⟨eb, hb2, hk.1, hk.2, ca.1.trans ha, ca.2.1, ca.2.2, ?_⟩
  rw [happ, happ, hc]
  refine app_comm _ r2 hra0 ?_ ?_ ?_ ?_ ?_
  · intro x y hx hy e
    subst e
    exact h1 x (by simp [hy]) (by simp [hx])
  · intro p hp q hq; simp at hq
  · intro p hp d cs hd; simp at hd
  · intro q hq; simp at hq
  · intro x c y d hx hy; simp at hy

end Go.Ev
