/- The evaluator: an operation is sound. -/
import Derived.Test.YtdcijmigoefnjaaEvP
set_option linter.unusedVariables false
set_option linter.unusedSimpArgs false
namespace Go.Ev
open Go

theorem look_insM (m : Mem) (d : Nat) (cs : List AV) (h : look m d = none) (i : Nat) : look (insM m d cs) i = if i = d then some cs else look m i := by
  induction m with
  | nil =>
    simp only [insM, look]
    by_cases hi : i = d
    · subst hi; simp
    · simp [hi, Ne.symm hi]
  | cons p r ih =>
    obtain ⟨j, c⟩ := p
    simp only [look] at h
    split at h
    · cases h
    · rename_i hj
      simp only [insM]
      split
      · simp only [look]
        by_cases hi : i = d
        · subst hi; simp
        · simp [hi, Ne.symm hi]
      · simp only [look, ih h]
        by_cases hi : i = d
        · subst hi; simp [hj]
        · simp [hi]

theorem ins_sim {B G s a w} (h : Sim B G s a w) (hB : B.Ok) {d : Nat} (hd : look s.mem d = none) {cs : List AV} {vs : List Value} (t : TypeId) (hr : RepL G.S w G.β cs vs) (ho : ∀ v ∈ vs, oc v = true) :
    ∃ G', Sim B G' (Eff.app { val := .ptr d 0, ins := some (d, cs) } (some d) s) (a.put (some d) (.pointer (some ⟨w.heap.size, 0, none⟩))) (w.alloc (.cells vs.toArray t)) ∧ G'.τ = G.τ := by
  obtain ⟨hi, he, hβ⟩ := h.inv.alloc hB hd t hr ho
  have hi' := hi.congr (m' := insM s.mem d cs) (fun i => by
    rw [look_insM _ _ _ hd]
    simp only [look]
    by_cases hi : i = d
    · subst hi; simp
    · simp [hi, Ne.symm hi])
  have h1 := h.mono hi' he hβ (fun _ _ h => h)
  exact ⟨_, h1.put (some d) (.of (.ptr (by simp))), rfl⟩

theorem laid_ok {G w} {v : AV} {u : Value} {cs : List AV} (h : RepT G w v u) (hl : v.laid = some cs) : ∃ vs : List Value, u.cells = vs.toArray ∧ RepL G.S w (fun _ => none) cs vs ∧ ∀ v ∈ vs, oc v = true := by
  cases v <;> simp only [AV.laid] at hl
  case unk => cases hl
  case tup => cases hl
  case agg l =>
    cases hl
    obtain ⟨vs, rfl, h1, h2⟩ := h.agg_inv
    exact ⟨vs, rfl, h1, h2⟩
  all_goals
    cases hl
    have hf := h.flat
    refine ⟨[u], ?_, .cons hf .nil, ?_⟩
  case int => rw [h.int_inv]; rfl
  case bool => rw [h.bool_inv]; rfl
  case str => rw [h.str_inv]; rfl
  case ptr => obtain ⟨b, _, rfl⟩ := h.ptr_inv; rfl
  case nilp => unfold RepT at h; cases h; rfl
  case ro => obtain ⟨a, vs, rfl, _⟩ := h.ro_inv; rfl
  case sl => obtain ⟨a, cap, rfl, _⟩ := h.sl_inv; rfl
  case view => obtain ⟨b, cap, _, rfl, _⟩ := h.view_inv; rfl
  case fn => obtain ⟨vs, rfl, _⟩ := h.fn_inv; rfl
  case niliface => unfold RepT at h; cases h; rfl
  case nilfn => unfold RepT at h; cases h; rfl
  case int => rw [h.int_inv]; simp [oc]
  case bool => rw [h.bool_inv]; simp [oc]
  case str => rw [h.str_inv]; simp [oc]
  case ptr => obtain ⟨b, _, rfl⟩ := h.ptr_inv; simp [oc]
  case nilp => unfold RepT at h; cases h; simp [oc]
  case ro => obtain ⟨a, vs, rfl, _⟩ := h.ro_inv; simp [oc]
  case sl => obtain ⟨a, cap, rfl, _⟩ := h.sl_inv; simp [oc]
  case view => obtain ⟨b, cap, _, rfl, _⟩ := h.view_inv; simp [oc]
  case fn => obtain ⟨vs, rfl, _⟩ := h.fn_inv; simp [oc]
  case niliface => unfold RepT at h; cases h; simp [oc]
  case nilfn => unfold RepT at h; cases h; simp [oc]

/-- a value's cells, as its owner has them -/
theorem cellsT {G w} {v : AV} {u : Value} (h : RepT G w v u) (hk : v.known = true) (ht : v.isTup = false) : ∃ vs : List Value, u.cells = vs.toArray ∧ v.cells.length = vs.length ∧
    (∀ (j : Nat) c x, v.cells[j]? = some c → vs[j]? = some x → RepT G w c x) ∧ ∀ v ∈ vs, oc v = true := by
  have one : ∀ (v : AV), RepT G w v u → v.cells = [v] → u.cells = #[u] → oc u = true → ∃ vs : List Value, u.cells = vs.toArray ∧ v.cells.length = vs.length ∧
    (∀ (j : Nat) c x, v.cells[j]? = some c → vs[j]? = some x → RepT G w c x) ∧ ∀ v ∈ vs, oc v = true := by
    intro v h e1 e2 e3
    refine ⟨[u], e2, by rw [e1]; rfl, fun j c x hc hx => ?_, by simpa using e3⟩
    rw [e1] at hc
    cases j with
    | zero => simp at hc hx; subst hc; subst hx; exact h
    | succ j => simp at hc
  cases v
  case unk => simp [AV.known] at hk
  case tup => simp [AV.isTup] at ht
  case agg l =>
    obtain ⟨vs, rfl, h1, h2⟩ := h.agg_inv
    refine ⟨vs, rfl, h1.length, fun j c x hc hx => ?_, h2⟩
    obtain ⟨y, h3, h4⟩ := h1.get hc
    rw [h3] at hx; cases hx
    exact .of h4.bare
  all_goals refine one _ h rfl ?_ ?_
  case int => rw [h.int_inv]; rfl
  case bool => rw [h.bool_inv]; rfl
  case str => rw [h.str_inv]; rfl
  case ptr => obtain ⟨b, _, rfl⟩ := h.ptr_inv; rfl
  case nilp => unfold RepT at h; cases h; rfl
  case ro => obtain ⟨a, vs, rfl, _⟩ := h.ro_inv; rfl
  case sl => obtain ⟨a, cap, rfl, _⟩ := h.sl_inv; rfl
  case view => obtain ⟨b, cap, _, rfl, _⟩ := h.view_inv; rfl
  case fn => obtain ⟨vs, rfl, _⟩ := h.fn_inv; rfl
  case niliface => unfold RepT at h; cases h; rfl
  case nilfn => unfold RepT at h; cases h; rfl
  case int => rw [h.int_inv]; simp [oc]
  case bool => rw [h.bool_inv]; simp [oc]
  case str => rw [h.str_inv]; simp [oc]
  case ptr => obtain ⟨b, _, rfl⟩ := h.ptr_inv; simp [oc]
  case nilp => unfold RepT at h; cases h; simp [oc]
  case ro => obtain ⟨a, vs, rfl, _⟩ := h.ro_inv; simp [oc]
  case sl => obtain ⟨a, cap, rfl, _⟩ := h.sl_inv; simp [oc]
  case view => obtain ⟨b, cap, _, rfl, _⟩ := h.view_inv; simp [oc]
  case fn => obtain ⟨vs, rfl, _⟩ := h.fn_inv; simp [oc]
  case niliface => unfold RepT at h; cases h; simp [oc]
  case nilfn => unfold RepT at h; cases h; simp [oc]

theorem setAt_get (ns : List AV) : ∀ (c : List AV) (o j : Nat), (setAt c o ns)[j]? = if o ≤ j ∧ j < o + ns.length ∧ j < c.length then ns[j - o]? else c[j]? := by
  induction ns with
  | nil => intro c o j; rw [if_neg (by rintro ⟨h1, h2, _⟩; simp at h2; omega)]; rfl
  | cons n ns ih =>
    intro c o j
    simp only [setAt, ih, List.length_set, List.length_cons]
    by_cases hj : j = o
    · subst hj
      rw [if_neg (by omega)]
      by_cases hl : j < c.length
      · rw [if_pos ⟨by omega, by omega, hl⟩]
        simp [hl]
      · rw [if_neg (by omega)]
        simp [List.getElem?_set, hl]
    · by_cases h1 : o + 1 ≤ j ∧ j < o + 1 + ns.length ∧ j < c.length
      · rw [if_pos h1, if_pos ⟨by omega, by omega, h1.2.2⟩]
        have : j - o = (j - (o + 1)) + 1 := by omega
        rw [this, List.getElem?_cons_succ]
      · rw [if_neg h1, if_neg (by omega)]
        rw [List.getElem?_set_ne (Ne.symm hj)]

/-- what an operation does, as the machine does it -/
def Runs (P : Program) (B : Base) (G : Gh) (s' : AS) (o : Oper) (a : Act) (w : World) : Prop :=
  (∃ v w' G', (execOp a.eval o).run P w = .ok (.value v) w' ∧ Sim B G' s' (a.put o.dst v) w' ∧ TauLe G G' (makes o)) ∨
  (∃ w' G', (execOp a.eval o).run P w = .ok .skip w' ∧ Sim B G' s' (a.put o.dst undef) w' ∧ TauLe G G' (makes o)) ∨
  (∃ f args, (execOp a.eval o).run P w = .ok (.enter f args) w ∧ Calls P f args w fun e w' => ∃ v G', e = .returned v ∧ Sim B G' s' (a.put o.dst v) w' ∧ TauLe G G' (makes o))

theorem Runs.wp {P B G s' o a w} (h : Runs P B G s' o a w) {K : Act → World → Prop} {Q : Exit → Act → World → Prop} (hK : ∀ G' a' w', Sim B G' s' a' w' → TauLe G G' (makes o) → K a' w') : o.wp P a w K Q := by
  unfold Oper.wp
  rcases h with ⟨v, w', G', hr, hs, ht⟩ | ⟨w', G', hr, hs, ht⟩ | ⟨f, args, hr, hc⟩
  · rw [hr, Oper.upon_value]; exact hK _ _ _ hs ht
  · rw [hr, Oper.upon_skip]; exact hK _ _ _ hs ht
  · rw [hr, Oper.upon_enter]
    refine hc.mono ?_
    rintro e w' ⟨v, G', rfl, hs, ht⟩
    exact hK _ _ _ hs ht

theorem load_ok {P ty} (hT : TyOk P ty) {B G s a w} (h : Sim B G s a w) {t : TypeId} {ti : TI} (ht : ty t = some ti) {x : AV} {xv : Value} (hx : RepT G w x xv) {r : AV}
    (hr : (∃ id off cs, x = .ptr id off ∧ look s.mem id = some cs ∧ ((cs.drop off).take ti.size).length = ti.size ∧
      ((ti.td.agg = true ∧ r = .agg (((cs.drop off).take ti.size).map AV.flat)) ∨ (ti.td.agg = false ∧ ti.size = 1 ∧ r = ((cs.drop off).take ti.size).headD .unk))) ∨ (x = .ro r ∧ fits ti r = true)) :
    ∃ v, (Instr.loadAt t xv).run P w = .ok v w ∧ RepT G w r v := by
  rcases hr with ⟨id, off, cs, rfl, hl, hlen, hr⟩ | ⟨rfl, hf⟩
  · obtain ⟨b, hβ, rfl⟩ := hx.ptr_inv
    obtain ⟨b', vs, t', h1, h2, h3, h4, h5⟩ := h.inv.mem id cs hl
    rw [hβ] at h1; cases h1
    have hvl : ((vs.drop off).take ti.size).length = ti.size := by
      have := hlen; simp at this ⊢; omega
    have hcell : ∀ (j : Nat) v, ((vs.drop off).take ti.size)[j]? = some v → w.cell? ((Addr.mk b off none).add j) = some v := by
      intro j v hv
      rw [add_mk, h2.cell]
      rw [List.getElem?_take] at hv
      split at hv
      · rwa [List.getElem?_drop] at hv
      · cases hv
    rcases hr with ⟨ha, rfl⟩ | ⟨ha, hs1, rfl⟩
    · have hrun := run_loadCells P hcell
      rw [hvl] at hrun
      refine ⟨.agg ((vs.drop off).take ti.size).toArray, ?_, .of (.agg (RepL.of_get (by simp [h3]) fun i c v hc hv => ?_) fun v hv => h5 v (List.mem_of_mem_drop (List.mem_of_mem_take hv)))⟩
      · simp [Instr.loadAt, Instr.sureAddr, loadVar, run_isAgg hT ht, ha, run_size hT ht, hrun]
      · simp only [List.getElem?_map, Option.map_eq_some_iff] at hc
        obtain ⟨c0, hc, rfl⟩ := hc
        rw [List.getElem?_take] at hc hv
        split at hc
        · rename_i hi
          rw [if_pos hi] at hv
          rw [List.getElem?_drop] at hc hv
          exact (h4 _ _ _ hc hv).flat
        · cases hc
    · rw [hs1] at hvl hcell hlen ⊢
      obtain ⟨c, hc⟩ : ∃ c, cs[off]? = some c := by
        have : off < cs.length := by simp at hlen; omega
        exact ⟨_, List.getElem?_eq_getElem this⟩
      obtain ⟨v, hv⟩ : ∃ v, vs[off]? = some v := by
        have : off < vs.length := by rw [← h3]; exact (List.getElem?_eq_some_iff.1 hc).1
        exact ⟨_, List.getElem?_eq_getElem this⟩
      have e1 : ((cs.drop off).take 1).headD .unk = c := by
        rw [List.drop_eq_getElem_cons (List.getElem?_eq_some_iff.1 hc).1]
        simp [(List.getElem?_eq_some_iff.1 hc).2]
      rw [e1]
      refine ⟨v, ?_, h4 _ _ _ hc hv⟩
      have : w.cell? ⟨b, off, none⟩ = some v := by rw [h2.cell]; exact hv
      simp [Instr.loadAt, Instr.sureAddr, loadVar, run_isAgg hT ht, ha, load, Sem.run, this]
  · obtain ⟨ad, vs, rfl, hc, hd⟩ := hx.ro_inv
    obtain ⟨f1, f2, f3, f4⟩ := fits_size hf
    cases hc with
    | agg hl ho =>
      simp only [AV.isAgg, AV.cells] at f1 f2
      have hrun := run_loadCells P hd.cells
      rw [← hl.length, f1] at hrun
      exact ⟨.agg vs.toArray, by simp [Instr.loadAt, Instr.sureAddr, loadVar, run_isAgg hT ht, ← f2, run_size hT ht, hrun], .of (.agg hl ho)⟩
    | one hv ha ho =>
      rename_i v
      have := hd.cells 0 v rfl
      rw [Addr.add_zero'] at this
      refine ⟨v, ?_, .of hv.bare⟩
      simp [Instr.loadAt, Instr.sureAddr, loadVar, run_isAgg hT ht, ← f2, ha, load, Sem.run, this]

theorem upd1 (s : AS) (dst : Option Nat) (v : AV) (id : Nat) (cs : List AV) : Eff.app { val := v, upd := [(id, cs)] } dst s = AS.put { s with mem := upd s.mem id cs } dst v := rfl

theorem store_ok {P ty} (hT : TyOk P ty) {B G s a w} (h : Sim B G s a w) {t : TypeId} {ti : TI} (ht : ty t = some ti) {id off : Nat} {cs : List AV} {xv y yv} (hx : RepT G w (.ptr id off) xv) (hy : RepT G w y yv)
    (hl : look s.mem id = some cs) (hk : y.known = true) (hp : y.isTup = false) (hsz : y.cells.length = ti.size) (hle : off + ti.size ≤ cs.length) (dst : Option Nat) :
    ∃ w', (Instr.storeAt t xv yv).run P w = .ok () w' ∧ Sim B G (AS.put { s with mem := upd s.mem id (setAt cs off y.cells) } dst (.tup [])) (a.put dst undef) w' := by
  obtain ⟨b, hβ, rfl⟩ := hx.ptr_inv
  obtain ⟨b', vs, t', h1, h2, h3, h4, h5⟩ := h.inv.mem id cs hl
  rw [hβ] at h1; cases h1
  obtain ⟨us, hu1, hu2, hu3, hu4⟩ := cellsT hy hk hp
  obtain ⟨w', hrun, hb', ho⟩ := run_storeCells P (b := b) (o := off) us 0 h2 (by omega) hu4
  simp only [Nat.add_zero] at hb'
  obtain ⟨hi, he⟩ := h.inv.write (vs := vs) hl hβ hb' ho (ns := setAt cs off y.cells) (by rw [setAt_length, setAtV_length, h3]) (fun j c v hc hv => by
    rw [setAt_get] at hc
    rw [setAtV_get] at hv
    split at hc
    · rename_i hj
      rw [if_pos ⟨hj.1, by omega, by omega⟩] at hv
      exact hu3 _ _ _ hc hv
    · rename_i hj
      rw [if_neg (by omega)] at hv
      exact h4 _ _ _ hc hv) (fun v hv => (mem_setAtV hv).elim (h5 v) (hu4 v))
  have h6 := h.mono hi he (fun _ _ h => h) (fun _ _ h => h)
  refine ⟨w', ?_, h6.put dst (.of RepV_tup0)⟩
  have : us.length = ti.size := by omega
  simp [Instr.storeAt, Instr.sureAddr, storeVar, run_size hT ht, hu1, this, hrun]

theorem call_ok {P E} (hE : EnvOk P E) {B G s a w} (h : Sim B G s a w) (hB : B.Ok) {o : Oper} {f : Operand} {args : Array Operand} {argTypes : Array TypeId} (ho : o.op = .call { callee := .value f, args, argTypes }) {g : FuncId} {cap : List AV}
    (hf : opv s.tmps f = .fn g cap) {e : Eff} (he : callA E s.mem o.dst g (args.toList.map (opv s.tmps) ++ cap) = some e) (hk : ∀ d, o.dst = some d → G.τ [d] = none) : Runs P B G (e.app o.dst s) o a w := by
  have h1 := h.opv f
  rw [hf] at h1
  obtain ⟨cv, hcv, hcl⟩ := h1.fn_inv
  unfold callA at he
  generalize hargs : args.toList.map (opv s.tmps) ++ cap = as at he
  cases hl : looks s.mem (ptrIds as) with
  | none => simp [hl] at he
  | some passed =>
  simp only [hl] at he
  cases hsp : E.spec g (as.map (AV.renum (ptrIds as))) passed with
  | none => simp [hsp] at he
  | some rp =>
  obtain ⟨r, passed'⟩ := rp
  simp only [hsp] at he
  cases hb : passed'.length == (ptrIds as).length <;> rw [hb] at he <;> simp only [cond_true, cond_false, Option.some.injEq] at he
  · cases he
  subst he
  obtain ⟨⟨fn, hfn, hbody, hname⟩, hcalls⟩ := hE.spec _ _ _ _ _ hsp
  refine .inr (.inr ⟨g, (args.toList.map a.eval ++ cv).toArray, ?_, ?_⟩)
  · obtain ⟨args⟩ := args
    have hb' : fn.body ≠ none := by cases hq : fn.body <;> simp_all
    have hn' : fn.name ≠ "runtime.NumGoroutine" := by simpa using hname
    simp [execOp, ho, resolve, hcv, Deferred.ofValue, invoke, callFunc, hfn, hn', hb']
  · have hrep : RepL G.S w (βof G.β (ptrIds as)) (as.map (AV.renum (ptrIds as))) (args.toList.map a.eval ++ cv) := by
      refine args_ok (by rw [← hargs]; simp [hcl.length]) fun i c v hc hv => ?_
      rw [← hargs] at hc
      by_cases hi : i < args.size
      · rw [List.getElem?_append_left (by simpa using hi)] at hc hv
        simp only [List.getElem?_map, Option.map_eq_some_iff] at hc hv
        obtain ⟨x, hx, rfl⟩ := hc
        obtain ⟨y, hy, rfl⟩ := hv
        rw [hx] at hy; cases hy
        exact h.opv x
      · rw [List.getElem?_append_right (by simpa using hi)] at hc hv
        simp only [List.length_map] at hc hv
        obtain ⟨v', h2, h3⟩ := hcl.get hc
        rw [h2] at hv; cases hv
        exact .of h3
    refine (hcalls w G.S (βof G.β (ptrIds as)) _ (pass_ok h hl) hrep).mono ?_
    rintro ee w' ⟨v, S', rfl, hd⟩
    obtain ⟨G', hG, hT⟩ := done_sim h hl hd hk
    refine ⟨v, G', rfl, hG, fun k x hx => ?_⟩
    rcases hT k x hx with h4 | h4
    · left
      unfold makes
      rw [ho]
      cases hdst : o.dst with
      | none => rw [hdst] at h4; cases h4
      | some d => rw [hdst] at h4; simpa using h4
    · exact .inr h4

theorem op_ok {P E} (hE : EnvOk P E) {B G s a w} (h : Sim B G s a w) (hB : B.Ok) (o : Oper) (hk : ∀ k, makes o = some k → G.τ k = none) {s' : AS} (he : evOp E o s = some s') : Runs P B G s' o a w := by
  unfold evOp at he
  rw [Option.map_eq_some_iff] at he
  obtain ⟨e, he, rfl⟩ := he
  have pure_ : ∀ r, evPure E.ty (opv s.tmps) o.op = some r → e = { val := r } → Runs P B G (e.app o.dst s) o a w := by
    intro r hr he
    obtain ⟨v, h1, h2⟩ := evPure_ok hE.ty (fun x => h.opv x) o hr
    subst he
    rw [put_val]
    exact .inl ⟨v, w, G, h1, h.put o.dst h2, TauLe.refl _ _⟩
  have make_ : ∀ r, evMake E.ty (opv s.tmps) o.op = some r → e = { val := r } → Runs P B G (e.app o.dst s) o a w := by
    intro r hr he
    obtain ⟨v, w', G', h1, h2, h3, h4⟩ := make_ok hE.ty h o hr
    subst he
    rw [put_val]
    exact .inl ⟨v, w', G', h1, h2.put o.dst h3, TauLe.of_eq h4 _⟩
  obtain ⟨dst, op, oty, pos, after, guard⟩ := o
  cases op
  case alloc el =>
    simp only [effOf] at he
    cases ht : E.ty el with
    | none => simp [ht] at he
    | some ti =>
    cases dst with
    | none => simp [ht] at he
    | some d =>
    simp only [ht] at he
    unfold allocA at he
    cases hl : look s.mem d with
    | some _ => simp [hl] at he
    | none =>
    simp only [hl, Option.some.injEq] at he
    subst he
    obtain ⟨z, hz, hz1, hz2⟩ := run_zero hE.ty ht w
    obtain ⟨G', hG, hGτ⟩ := ins_sim h hB hl el (cs := ti.zero) (vs := z.cells.toList) (by rw [← hz1]; exact map_ofVal _) hz2
    refine .inl ⟨_, _, G', ?_, hG, TauLe.of_eq hGτ _⟩
    simp [execOp, Instr.alloc, hz, newVar, run_newRow]
  case box el x =>
    simp only [effOf] at he
    cases hl0 : (opv s.tmps x).laid with
    | none => simp [hl0] at he
    | some cs =>
    cases dst with
    | none => simp [hl0] at he
    | some d =>
    simp only [hl0] at he
    unfold allocA at he
    cases hl : look s.mem d with
    | some _ => simp [hl] at he
    | none =>
    simp only [hl, Option.some.injEq] at he
    subst he
    obtain ⟨vs, h1, h2, h3⟩ := laid_ok (h.opv x) hl0
    obtain ⟨G', hG, hGτ⟩ := ins_sim h hB hl el (cs := cs) (vs := vs) (h2.ext (Ext.refl _ _) (fun _ _ h => by cases h)) h3
    refine .inl ⟨_, _, G', ?_, hG, TauLe.of_eq hGτ _⟩
    simp [execOp, Instr.box, newVar, h1, run_newRow]
  case load t x =>
    simp only [effOf] at he
    cases ht : E.ty t with
    | none => simp [ht] at he
    | some ti =>
    simp only [ht] at he
    have hx := h.opv x
    have fin : ∀ r, ((∃ id off cs, opv s.tmps x = .ptr id off ∧ look s.mem id = some cs ∧ ((cs.drop off).take ti.size).length = ti.size ∧
      ((ti.td.agg = true ∧ r = .agg (((cs.drop off).take ti.size).map AV.flat)) ∨ (ti.td.agg = false ∧ ti.size = 1 ∧ r = ((cs.drop off).take ti.size).headD .unk))) ∨ (opv s.tmps x = .ro r ∧ fits ti r = true)) →
        e = { val := r } → Runs P B G (e.app dst s) ⟨dst, .load t x, oty, pos, after, guard⟩ a w := by
      intro r hr he
      obtain ⟨v, h1, h2⟩ := load_ok (P := P) hE.ty h ht hx hr
      subst he
      rw [put_val]
      refine .inl ⟨v, w, G, ?_, h.put dst h2, TauLe.refl _ _⟩
      simp [execOp, h1]
    split at he
    · rename_i id off hid
      cases hl : look s.mem id with
      | none => simp [hl] at he
      | some cs =>
      simp only [hl] at he
      cases hb : (((cs.drop off).take ti.size).length == ti.size) <;> rw [hb] at he <;> simp only [cond_true, cond_false] at he
      · cases he
      have hb' : ((cs.drop off).take ti.size).length = ti.size := by simpa using hb
      split at he
      · rename_i ha
        cases he
        exact fin _ (.inl ⟨id, off, cs, hid, hl, hb', .inl ⟨ha, rfl⟩⟩) rfl
      · rename_i ha
        cases hs : ti.size == 1 <;> rw [hs] at he <;> simp only [cond_true, cond_false] at he
        · cases he
        · cases he
          exact fin _ (.inl ⟨id, off, cs, hid, hl, hb', .inr ⟨by simpa using ha, by simpa using hs, rfl⟩⟩) rfl
    · rename_i el hel
      cases hf : fits ti el <;> rw [hf] at he <;> simp only [cond_true, cond_false] at he
      · cases he
      · cases he
        exact fin _ (.inr ⟨hel, hf⟩) rfl
    · cases he
  case store t x y =>
    simp only [effOf] at he
    cases ht : E.ty t with
    | none => simp [ht] at he
    | some ti =>
    simp only [ht] at he
    split at he
    · rename_i id off hid
      cases hl : look s.mem id with
      | none => simp [hl] at he
      | some cs =>
      simp only [hl] at he
      generalize hy : opv s.tmps y = yy at he
      cases hb : (yy.known && !yy.isTup && yy.cells.length == ti.size && Nat.ble (off + ti.size) cs.length) <;> rw [hb] at he <;> simp only [cond_true, cond_false] at he
      · cases he
      cases he
      simp only [Bool.and_eq_true, Nat.ble_eq, beq_iff_eq, Bool.not_eq_true'] at hb
      obtain ⟨⟨⟨hk1, hp⟩, hsz⟩, hle⟩ := hb
      have hx := h.opv x
      rw [hid] at hx
      have hyr := h.opv y
      rw [hy] at hyr
      rw [upd1]
      obtain ⟨w', h1, h2⟩ := store_ok (P := P) hE.ty h ht hx hyr hl hk1 hp hsz hle dst
      refine .inr (.inl ⟨w', G, ?_, h2, TauLe.refl _ _⟩)
      simp [execOp, h1]
    · cases he
  case call c =>
    obtain ⟨callee, args, argTypes⟩ := c
    cases callee with
    | value f =>
      simp only [effOf] at he
      split at he
      · rename_i g cap hg
        exact call_ok hE h hB rfl hg he fun d hd => hk [d] (by simp at hd; simp [makes, hd])
      · cases he
    | invoke r m =>
      simp only [effOf] at he
      simp [evPure] at he
    | builtin b =>
      by_cases hb : b = .append
      · subst hb
        simp only [effOf] at he
        obtain ⟨args⟩ := args
        obtain ⟨argTypes⟩ := argTypes
        split at he
        · rename_i x y t t2 d h1 h2
          simp at h1 h2
          subst h1; subst h2
          cases hel : elemOf E.ty t with
          | none => simp [hel] at he
          | some ei =>
          simp only [hel] at he
          cases his : isSlice E.ty t <;> rw [his] at he <;> simp only [cond_true, cond_false] at he
          · cases he
          cases hsrc : srcA E.ty t2 ei s.mem (opv s.tmps y) with
          | none => simp [hsrc] at he
          | some ys =>
          simp only [hsrc] at he
          obtain ⟨v, w', G', h1, h2, h3⟩ := append_ok (P := P) (oty := oty) hE.ty h hel his (hk [d] (by simp [makes])) (h.opv x) (h.opv y) hsrc he
          refine .inl ⟨v, w', G', ?_, h2, h3⟩
          simp [execOp, resolve, invoke, builtin, h1]
        · cases he
      · have : effOf E ⟨dst, .call { callee := .builtin b, args, argTypes }, oty, pos, after, guard⟩ (opv s.tmps) s.mem = (evPure E.ty (opv s.tmps) (.call { callee := .builtin b, args, argTypes })).map fun v => { val := v } := by
          cases b <;> first | rfl | exact absurd rfl hb
        rw [this, Option.map_eq_some_iff] at he
        obtain ⟨r, hr, rfl⟩ := he
        exact pure_ r hr rfl
  case buildSlice t n ps =>
    simp only [effOf, Option.map_eq_some_iff] at he
    obtain ⟨r, hr, rfl⟩ := he
    exact make_ r hr rfl
  all_goals
    simp only [effOf, Option.map_eq_some_iff] at he
    obtain ⟨r, hr, rfl⟩ := he
    exact pure_ r hr rfl

end Go.Ev
