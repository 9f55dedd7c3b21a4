/- The evaluator: functions. -/
import Derived.Test.YtdcijmigoefnjaaEvW
set_option linter.unusedVariables false
set_option linter.unusedSimpArgs false
namespace Go.Ev
open Go

def resRun (tmps : Array Value) : ResultVar → Sem Value
  | .tmp t => pure (tmps.getD t undef)
  | .cell a t => do loadVar t (← asAddr (tmps.getD a undef))

theorem res_one {P ty} (hT : TyOk P ty) {B G s a w} (h : Sim B G s a w) {rv : ResultVar} {c : AV} (hr : resA ty s rv = some c) : ∃ v, (resRun a.tmps rv).run P w = .ok v w ∧ RepT G w c v := by
  cases rv with
  | tmp t =>
    simp only [resA, Option.some.injEq] at hr
    subst hr
    exact ⟨_, rfl, h.tmps t⟩
  | cell ad t =>
    simp only [resA] at hr
    cases ht : ty t with
    | none => simp [ht] at hr
    | some ti =>
    simp only [ht] at hr
    have hx := h.tmps ad
    generalize s.tmps.getD ad .unk = x at hr hx
    cases x <;> try (cases hr; done)
    rename_i id off
    simp only at hr
    cases hl : look s.mem id with
    | none => simp [hl] at hr
    | some cs =>
    simp only [hl] at hr
    cases hb : (((cs.drop off).take ti.size).length == ti.size) <;> rw [hb] at hr <;> simp only [cond_true, cond_false] at hr
    · cases hr
    have hr' : (∃ id' off' cs, AV.ptr id off = .ptr id' off' ∧ look s.mem id' = some cs ∧ ((cs.drop off').take ti.size).length = ti.size ∧
      ((ti.td.agg = true ∧ c = .agg (((cs.drop off').take ti.size).map AV.flat)) ∨ (ti.td.agg = false ∧ ti.size = 1 ∧ c = ((cs.drop off').take ti.size).headD .unk))) ∨ (AV.ptr id off = .ro c ∧ fits ti c = true) := by
      refine .inl ⟨id, off, cs, rfl, hl, by simpa using hb, ?_⟩
      cases ha : ti.td.agg with
      | true => rw [ha] at hr; simp only [if_true, Option.some.injEq] at hr; exact .inl ⟨rfl, hr.symm⟩
      | false =>
        rw [ha] at hr
        simp only [Bool.false_eq_true, if_false] at hr
        cases hs : ti.size == 1 <;> rw [hs] at hr <;> simp only [cond_true, cond_false] at hr
        · cases hr
        · cases hr; exact .inr ⟨rfl, by simpa using hs, rfl⟩
    obtain ⟨v, h1, h2⟩ := load_ok (P := P) hT h ht hx hr'
    obtain ⟨b, hβ, e⟩ := hx.ptr_inv
    refine ⟨v, ?_, h2⟩
    rw [e] at h1
    simp only [resRun, e]
    simpa [Instr.loadAt, Instr.sureAddr, asAddr] using h1

theorem resAll_ok {P ty} (hT : TyOk P ty) {B G s a w} (h : Sim B G s a w) : ∀ {l : List ResultVar} {cs : List AV}, resAll ty s l = some cs →
    ∃ us : List Value, (l.mapM (resRun a.tmps)).run P w = .ok us w ∧ cs.length = us.length ∧ ∀ (j : Nat) c v, cs[j]? = some c → us[j]? = some v → RepT G w c v
  | [], cs, hr => by
    simp only [resAll, Option.some.injEq] at hr
    subst hr
    exact ⟨[], by simp, rfl, fun j c v hc => by simp at hc⟩
  | r :: rs, cs, hr => by
    simp only [resAll] at hr
    cases h1 : resA ty s r with
    | none => simp [h1] at hr
    | some c =>
    cases h2 : resAll ty s rs with
    | none => simp [h1, h2] at hr
    | some cs' =>
    simp only [h1, h2, Option.some.injEq] at hr
    subst hr
    obtain ⟨v, k1, k2⟩ := res_one hT h h1
    obtain ⟨us, k3, k4, k5⟩ := resAll_ok hT h h2
    refine ⟨v :: us, by simp [List.mapM_cons, k1, k3], by simp [k4], fun j c' v' hc hv => ?_⟩
    cases j with
    | zero => simp at hc hv; subst hc hv; exact k2
    | succ j => exact k5 j c' v' (by simpa using hc) (by simpa using hv)

def resOf : List Value → Value
  | [v] => v
  | us => .tuple us.toArray

theorem results_run {P : Program} {fn : Func} {tmps : Array Value} {w : World} {us : List Value} (h : (fn.results.toList.mapM (resRun tmps)).run P w = .ok us w) :
    (results fn tmps).run P w = .ok (resOf us) w := by
  have e : fn.results.mapM (resRun tmps) = List.toArray <$> fn.results.toList.mapM (resRun tmps) := Array.mapM_eq_mapM_toList
  have e2 : results fn tmps = (do let vs ← fn.results.mapM (resRun tmps); pure (if h : vs.size = 1 then vs[0] else .tuple vs)) := by
    unfold results
    congr 1
  rw [e2, e]
  simp only [Sem.run_bind, Sem.run_map, h, Result.andThen_ok]
  rcases us with _ | ⟨v, _ | ⟨v2, us⟩⟩ <;> rfl

theorem flat_notOwn (v : AV) : ∀ sz xs k, v.flat ≠ .sl sz xs (.own k) := by
  intro sz xs k
  cases v <;> try (simp [AV.flat]; done)
  case sl st => cases st <;> simp [AV.flat]
  case fn f cap => cases cap <;> simp [AV.flat]

theorem RepRes_flat {S w w' r v} (h : RepV S w' (fun _ => none) r v) : RepRes S w w' r v := by
  unfold RepRes
  split
  · cases h
  · exact h

theorem ret_ok {B G s a w} (h : Sim B G s a w) {c : AV} {v : Value} (hc : RepT G w c v) : RepRes G.S B.w0 w c.ret v := by
  have other : RepRes G.S B.w0 w c.flat v := RepRes_flat hc.flat
  cases c <;> try exact other
  rename_i sz xs st
  cases st <;> try exact other
  rename_i k
  obtain ⟨g, cap, vs, rfl, hr, hd, ht, hl⟩ := hc
  obtain ⟨h1, h2, ⟨us, t, h3, h4⟩, h5⟩ := h.inv.τ k g _ _ ht
  exact ⟨g, cap, vs, us, t, h1, rfl, hr, hd, hl, h3, h4, h5⟩

theorem out_ok {B G s a w} (h : Sim B G s a w) {cs : List AV} {us : List Value} (hl : cs.length = us.length) (hc : ∀ (j : Nat) c v, cs[j]? = some c → us[j]? = some v → RepT G w c v) :
    RepRes G.S B.w0 w (outA cs) (resOf us) := by
  have tup : RepRes G.S B.w0 w (.tup (cs.map AV.flat)) (.tuple us.toArray) := by
    refine RepRes_flat (.tup (RepL.of_get (by simp [hl]) fun i c v h1 h2 => ?_))
    simp only [List.getElem?_map, Option.map_eq_some_iff] at h1
    obtain ⟨c0, h1, rfl⟩ := h1
    exact (hc i c0 v h1 h2).flat
  match cs, us, hl with
  | [], [], _ => exact tup
  | [c], [v], _ => exact ret_ok h (hc 0 c v rfl rfl)
  | _ :: _ :: _, _ :: _ :: _, _ => exact tup

theorem look_passed : ∀ (ps : List (List AV)) (k i : Nat), look (passedMem k ps) i = if k ≤ i then ps[i - k]? else none
  | [], k, i => by simp [passedMem, look]
  | cs :: r, k, i => by
    simp only [passedMem, look, look_passed r (k + 1) i]
    by_cases e : k = i
    · subst e; simp
    · rw [if_neg e]
      by_cases h : k ≤ i
      · have h2 : k + 1 ≤ i := by omega
        rw [if_pos h2, if_pos h, show i - k = (i - (k + 1)) + 1 by omega, List.getElem?_cons_succ]
      · rw [if_neg h, if_neg (by omega)]

theorem passedBack_ok {m : Mem} : ∀ {n k : Nat} {l : List (List AV)}, passedBack m k n = some l → l.length = n ∧ ∀ (j : Nat) cs, l[j]? = some cs → ∃ cs0, look m (k + j) = some cs0 ∧ cs = cs0.map AV.flat
  | 0, k, l, h => by
    simp only [passedBack, Option.some.injEq] at h
    subst h
    exact ⟨rfl, fun j cs h => by simp at h⟩
  | n + 1, k, l, h => by
    simp only [passedBack] at h
    cases h1 : look m k with
    | none => simp [h1] at h
    | some cs =>
    cases h2 : passedBack m (k + 1) n with
    | none => simp [h1, h2] at h
    | some l' =>
    simp only [h1, h2, Option.some.injEq] at h
    subst h
    obtain ⟨k1, k2⟩ := passedBack_ok h2
    refine ⟨by simp [k1], fun j cs' hc => ?_⟩
    cases j with
    | zero => simp at hc; subst hc; exact ⟨cs, h1, rfl⟩
    | succ j =>
      obtain ⟨cs0, q1, q2⟩ := k2 j cs' (by simpa using hc)
      exact ⟨cs0, by rw [show k + (j + 1) = k + 1 + j by omega]; exact q1, q2⟩

theorem runF_ok {P E} (hE : EnvOk P E) (hZ : ZeroOk E.ty) (hm : P.follows .mixedOrders = true) {f : FuncId} {fn : Func} (hf : P.funcs[f]? = some fn) (hn : (fn.name == "runtime.NumGoroutine") = false)
    {args : List AV} {passed : List (List AV)} {r : AV} {passed' : List (List AV)} (h : runF E fn args passed = some (r, passed')) : CallsA P f args passed r passed' := by
  unfold runF at h
  cases hb : fn.body with
  | none => simp [hb] at h
  | some c =>
  simp only [hb] at h
  refine ⟨⟨fn, hf, by rw [hb]; rfl, hn⟩, fun w S β vs hp hv => ?_⟩
  cases he : ev E c (enterA fn args passed) with
  | none => simp [he] at h
  | some q =>
  obtain ⟨ex, s'⟩ := q
  simp only [he] at h
  let B : Base := { w0 := w, S0 := S, Wr := fun b => ∃ i, β i = some b, β0 := β }
  let G : Gh := { S := S, β := β, τ := fun _ => none }
  have hB : B.Ok := by
    refine ⟨hp.lt, fun g o hs ⟨i, hi⟩ => hp.avoid i g o hi hs, fun g ⟨i, hi⟩ => ?_, fun i b hi => ?_⟩
    · obtain ⟨j, hj, rfl⟩ := hp.dom i g hi
      obtain ⟨b, us, t, h1, h2, _⟩ := hp.mem j _ (List.getElem?_eq_getElem hj)
      rw [hi] at h1; cases h1
      exact h2.lt
    · obtain ⟨j, hj, rfl⟩ := hp.dom i b hi
      omega
  have hal : args.length = vs.length := hv.length
  have hS : Sim B G (enterA fn args passed) { tmps := vs.toArray ++ Array.replicate (fn.ntmps - vs.toArray.size) undef, defers := [] } w := by
    refine ⟨?_, by simp [enterA, hal], fun i => ?_, rfl⟩
    · constructor
      · exact Nat.le_refl _
      · rfl
      · rfl
      · rfl
      · exact fun b _ _ => rfl
      · exact fun _ _ h => h
      · exact fun _ _ h => .inl h
      · exact hp.lt
      · exact hp.inj
      · exact hp.avoid
      · exact fun i b hi => .inr ⟨i, hi⟩
      · intro i hi
        show β i = none
        cases hq : β i with
        | none => rfl
        | some b =>
          obtain ⟨j, hj, rfl⟩ := hp.dom i b hq
          simp only [enterA, look_passed] at hi
          rw [if_pos (by omega), Nat.add_sub_cancel_left] at hi
          rw [List.getElem?_eq_none_iff] at hi
          omega
      · intro i cs hi
        simp only [enterA, look_passed] at hi
        split at hi
        · rename_i hle
          obtain ⟨b, us, t, h1, h2, h3, h4⟩ := hp.mem _ _ hi
          rw [show 1000 + (i - 1000) = i by omega] at h1
          refine ⟨b, us, t, h1, h2, h3.length, fun j c v hc hv => ?_, h4⟩
          obtain ⟨v', q1, q2⟩ := h3.get hc
          rw [q1] at hv; cases hv
          exact .of q2.bare
        · cases hi
      · intro k g e l hk; cases hk
      · intro k k' g e l e' l' hk; cases hk
      · exact fun _ _ h => h
      · exact Fro.top (Nat.le_refl _)
    · have hlt : (enterA fn args passed).tmps = args ++ List.replicate (fn.ntmps - args.length) (.tup []) := rfl
      rw [hlt]
      simp only [List.getD_eq_getElem?_getD, Array.getD_eq_getD_getElem?, Array.getElem?_append, List.getElem?_append, List.size_toArray, ← hal, List.getElem?_toArray]
      by_cases hi : i < args.length
      · rw [if_pos hi, if_pos hi]
        obtain ⟨v, q1, q2⟩ := hv.get (List.getElem?_eq_getElem hi)
        rw [q1, List.getElem?_eq_getElem hi]
        exact .of q2
      · rw [if_neg hi, if_neg hi]
        by_cases hj : i - args.length < fn.ntmps - args.length
        · rw [List.getElem?_replicate, if_pos hj, Array.getElem?_replicate, if_pos hj]
          exact .of RepV_tup0
        · rw [List.getElem?_replicate, if_neg hj, Array.getElem?_replicate, if_neg hj]
          exact .of (.unk _)
  have hw := evCode_wp hE hZ hm hB c hS he
  refine calls_of_wp hf hb (wp_mono hw ?_)
  rintro e a' w' ⟨rfl, G', h'⟩
  have fin : ∀ {q : Option (AV × List (List AV))}, q = (match resAll E.ty s' fn.results.toList, passedBack s'.mem 1000 passed.length with
      | some vs, some l => some (outA vs, l)
      | _, _ => none) → q = some (r, passed') → a'.defers = [] ∧ ∃ v, (results fn a'.tmps).run P w' = .ok v w' ∧ ∃ v' S', Ending.returned v = .returned v' ∧ Done w S β passed r passed' v' w' S' := by
    intro q hq hq2
    subst hq
    cases h1 : resAll E.ty s' fn.results.toList with
    | none => simp [h1] at hq2
    | some cs =>
    cases h2 : passedBack s'.mem 1000 passed.length with
    | none => simp [h1, h2] at hq2
    | some l =>
    simp only [h1, h2, Option.some.injEq, Prod.mk.injEq] at hq2
    obtain ⟨rfl, rfl⟩ := hq2
    obtain ⟨us, k1, k2, k3⟩ := resAll_ok (P := P) hE.ty h' h1
    obtain ⟨k4, k5⟩ := passedBack_ok h2
    refine ⟨h'.defers, _, results_run k1, _, G'.S, rfl, ?_⟩
    have hi := h'.inv
    refine ⟨hi.size, hi.os, hi.tape, hi.output, fun b hb hne => hi.old b hb fun ⟨i, hi⟩ => hne i hi, hi.S0, hi.Snew, hi.Slt, k4, fun j cs' hc => ?_, out_ok h' k2 k3, hi.fro⟩
    obtain ⟨cs0, q1, rfl⟩ := k5 j cs' hc
    obtain ⟨b, us', t, q2, q3, q4, q5, q6⟩ := hi.mem _ _ q1
    have hj : j < passed.length := by rw [← k4]; exact (List.getElem?_eq_some_iff.1 hc).1
    obtain ⟨b0, _, _, q7, _⟩ := hp.mem j _ (List.getElem?_eq_getElem hj)
    have := hi.β0 _ _ q7
    rw [q2] at this; cases this
    refine ⟨b, us', t, q7, q3, RepL.of_get (by simp [q4]) fun i c v hc hv => ?_, q6⟩
    simp only [List.getElem?_map, Option.map_eq_some_iff] at hc
    obtain ⟨c0, hc, rfl⟩ := hc
    exact (q5 i c0 v hc hv).flat
  cases ex with
  | exit id => cases h
  | normal => exact fin rfl h
  | ret => exact fin rfl h

end Go.Ev
