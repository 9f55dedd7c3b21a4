import Derived.Test.YtdcijmigoefnjaaEv1
import Derived.Orders
import Derived.Scope
/- The evaluator: cells of an own list are written. -/
set_option linter.unusedVariables false
set_option linter.unusedSimpArgs false
namespace Go.Ev
open Go

theorem RepV.scal {S w S' w'} {β β' : Nat → Option Nat} {a v} (h : RepV S w β a v) (hs : a.scal = true) : RepV S' w' β' a v := by
  cases h <;> first | (simp [AV.scal] at hs; done) | constructor

theorem RepV.loose {S w S' w'} {β β' : Nat → Option Nat} {a v} (h : RepV S w β a v) : RepV S' w' β' a.loose v := by
  unfold AV.loose
  cases hs : a.scal
  · exact .unk v
  · exact h.scal hs

theorem RepV.loosep {S w S' w'} {β : Nat → Option Nat} {a v} (h : RepV S w β a v) : RepV S' w' β a.loosep v := by
  cases a <;> try exact h.loose
  cases h with | ptr e => exact .ptr e

theorem RepL.looseM {S w S' w'} {β β' : Nat → Option Nat} : ∀ {cs vs}, RepL S w β cs vs → RepL S' w' β' (cs.map AV.loose) vs
  | [], _, .nil => .nil
  | c :: cs, _, .cons h l => .cons h.loose l.looseM

theorem RepL.loosepM {S w S' w'} {β : Nat → Option Nat} : ∀ {cs vs}, RepL S w β cs vs → RepL S' w' β (cs.map AV.loosep) vs
  | [], _, .nil => .nil
  | c :: cs, _, .cons h l => .cons h.loosep l.loosepM

theorem RepR.scal {S w} : ∀ {xs vs sz}, RepR S w sz xs vs → xs.all AV.scal = true → (xs = [] ∨ sz = 1) ∧ RepL S w (fun _ => none) xs vs ∧ ∀ v ∈ vs, Ev.oc v = true
  | [], _, _, .nil, _ => ⟨.inl rfl, .nil, by simp⟩
  | x :: xs, _, sz, .cons c e l, hs => by
    rw [List.all_cons, Bool.and_eq_true] at hs
    obtain ⟨_, h2, h3⟩ := l.scal hs.2
    cases c with
    | agg => simp [AV.scal] at hs
    | one hv ha ho =>
      refine ⟨.inr (by simpa using e.symm), .cons hv h2, ?_⟩
      intro v hv
      simp only [List.singleton_append, List.mem_cons] at hv
      rcases hv with rfl | hv
      · exact ho
      · exact h3 v hv

theorem scal_notAgg {a : AV} (h : a.scal = true) : a.isAgg = false := by cases a <;> simp [AV.scal] at h <;> rfl

theorem RepL.toR {S w S' w'} : ∀ {xs vs}, RepL S w (fun _ => none) xs vs → xs.all AV.scal = true → (∀ v ∈ vs, Ev.oc v = true) → RepR S' w' 1 xs vs
  | [], _, .nil, _, _ => .nil
  | x :: xs, _, .cons (v := v) h l, hs, ho => by
    rw [List.all_cons, Bool.and_eq_true] at hs
    exact .cons (vs := [v]) (.one (h.scal hs.1) (scal_notAgg hs.1) (ho v (by simp))) rfl (l.toR hs.2 fun u hu => ho u (by simp [hu]))

theorem all_setAt : ∀ (ns cs : List AV) (o : Nat), cs.all AV.scal = true → ns.all AV.scal = true → (setAt cs o ns).all AV.scal = true
  | [], cs, o, h, _ => h
  | n :: ns, cs, o, h, hn => by
    rw [List.all_cons, Bool.and_eq_true] at hn
    refine all_setAt ns _ _ ?_ hn.2
    rw [List.all_eq_true] at h ⊢
    intro x hx
    rcases List.mem_or_eq_of_mem_set hx with hx | rfl
    · exact h x hx
    · exact hn.1

theorem RepT.wrote {G w w' a v} {k : Tag} {g m c i : Nat} {ns : List AV} {us cells : List Value} {t : TypeId} (h : RepT G w a v) (hk : G.τ k = some (g, m, c)) (hinj : ∀ k' e l, G.τ k' = some (g, e, l) → k' = k)
    (hb : Blk w g cells t) (hb' : Blk w' g (setAtV cells i us) t) (ho : Only g w w') (hn : RepL G.S w (fun _ => none) ns us) (hs : ns.all AV.scal = true) (hu : ∀ v ∈ us, oc v = true) : RepT G w' (a.wrote k i ns) v := by
  have hc : ∀ b o, b ≠ g → w'.cell? ⟨b, o, none⟩ = w.cell? ⟨b, o, none⟩ := fun b o hne => cell_of_heap (ho.other b hne) o
  have flat : ∀ {b : AV}, RepV G.S w G.β b v → b.scal = true → RepT G w' b v := fun h hs => .of (h.scal hs)
  cases a
  case sl sz xs st =>
    cases st with
    | own k' =>
      simp only [AV.wrote]
      cases hall : xs.all AV.scal <;> simp only [cond_true, cond_false]
      · exact .of (.unk v)
      obtain ⟨g', cap, vs, rfl, hr, hd, ht, hl⟩ := h
      obtain ⟨hsz, hL, hoc⟩ := hr.scal hall
      by_cases e : k' = k
      · subst e
        rw [if_pos rfl]
        rw [hk] at ht; cases ht
        unfold RepT
        refine ⟨g, cap, setAtV vs i us, by rw [setAt_length], ?_, ?_, by rw [setAt_length]; exact hk, by rw [setAt_length]; exact hl⟩
        · rcases hsz with rfl | rfl
          · cases hr
            have e1 : setAt [] i ns = [] := List.eq_nil_of_length_eq_zero (setAt_length _ _ _)
            have e2 : setAtV [] i us = [] := List.eq_nil_of_length_eq_zero (setAtV_length _ _ _)
            rw [e1, e2]; exact .nil
          · exact (hL.setAt i hn).toR (all_setAt _ _ _ hall hs) fun v hv => (mem_setAtV hv).elim (hoc v) (hu v)
        · refine ⟨rfl, fun j v hv => ?_⟩
          have hj : j < vs.length := by have := (List.getElem?_eq_some_iff.1 hv).1; rwa [setAtV_length] at this
          obtain ⟨h1, h2⟩ := hd.2 j _ (List.getElem?_eq_getElem hj)
          refine ⟨h1, ?_⟩
          simp only [Nat.zero_add] at h2 ⊢
          rw [hb.cell] at h2
          rw [hb'.cell]
          have hjc := (List.getElem?_eq_some_iff.1 h2).1
          rw [setAtV_get] at hv ⊢
          by_cases hin : i ≤ j ∧ j < i + us.length
          · rw [if_pos ⟨hin.1, hin.2, hjc⟩]
            rwa [if_pos ⟨hin.1, hin.2, hj⟩] at hv
          · rw [if_neg (fun hh => hin ⟨hh.1, hh.2.1⟩)]
            rw [if_neg (fun hh => hin ⟨hh.1, hh.2.1⟩)] at hv
            rw [h2, ← hv, List.getElem?_eq_getElem hj]
      · rw [if_neg e]
        have hg : g' ≠ g := by rintro rfl; exact e (hinj _ _ _ ht)
        unfold RepT
        refine ⟨g', cap, vs, rfl, ?_, ⟨rfl, fun j v hv => ⟨(hd.2 j v hv).1, ?_⟩⟩, ht, hl⟩
        · rcases hsz with rfl | rfl
          · cases hr; exact .nil
          · exact hL.toR hall hoc
        · simp only
          rw [hc _ _ hg]; exact (hd.2 j v hv).2
    | nil => exact .of (by cases h; exact .slNil)
    | full => exact .of (.unk v)
    | sh => exact .of (.unk v)
    | win k' lo => exact .of (.unk v)
  case wp k' j e =>
    obtain ⟨g', m', c', u, rfl, hr, hou, hd, ht, hj⟩ := h
    unfold AV.wrote RepT
    obtain ⟨h1, h2⟩ := hd.2 0 u rfl
    simp only [Nat.add_zero] at h1 h2
    obtain ⟨u', hu1, hu2⟩ : ∃ u', oc u' = true ∧ w'.cell? ⟨g', j, none⟩ = some u' := by
      by_cases hg : g' = g
      · subst hg
        rw [hb.cell] at h2
        have hjc := (List.getElem?_eq_some_iff.1 h2).1
        rw [hb'.cell, setAtV_get]
        by_cases hin : i ≤ j ∧ j < i + us.length
        · rw [if_pos ⟨hin.1, hin.2, hjc⟩]
          have hlt : j - i < us.length := by omega
          exact ⟨us[j - i], hu _ (List.getElem_mem hlt), List.getElem?_eq_getElem hlt⟩
        · rw [if_neg (fun hh => hin ⟨hh.1, hh.2.1⟩)]
          exact ⟨u, hou, h2⟩
      · exact ⟨u, hou, by rw [hc _ _ hg]; exact h2⟩
    refine ⟨g', m', c', u', rfl, .one (.unk _) rfl hu1, hu1, ⟨rfl, fun n v hv => ?_⟩, ht, hj⟩
    match n with
    | 0 =>
      simp only [List.getElem?_cons_zero, Option.some.injEq] at hv
      subst hv
      exact ⟨h1, hu2⟩
    | n + 1 => simp at hv
  case ro e => exact .of (.unk v)
  case fn f cap =>
    obtain ⟨us', rfl, hl⟩ := h.fn_inv
    exact .of (.fn hl.loosepM)
  case agg cs =>
    obtain ⟨vs, rfl, hl, ho'⟩ := h.agg_inv
    exact .of (.agg hl.looseM ho')
  case tup cs =>
    obtain ⟨vs, rfl, hl⟩ := h.tup_inv
    exact .of (.tup hl.looseM)
  case unk => exact .of (.unk v)
  case int => have := h.int_inv; subst this; exact .of (.int _ _)
  case bool => have := h.bool_inv; subst this; exact .of (.bool _)
  case str => have := h.str_inv; subst this; exact .of (.str _)
  case ptr id off => obtain ⟨b, hb, rfl⟩ := h.ptr_inv; exact .of (.ptr hb)
  case view id off n => obtain ⟨b, cap, hb, rfl, hle⟩ := h.view_inv; exact .of (.view cap hb hle)
  case nilp => unfold RepT at h; cases h; exact .of .nilp
  case niliface => unfold RepT at h; cases h; exact .of .niliface
  case nilfn => unfold RepT at h; cases h; exact .of .nilfn

/-- an own list's cells are written -/
theorem Sim.wrote {P : Program} {B G s a w} (h : Sim B G s a w) {k : Tag} {g m c i : Nat} {ns : List AV} {us : List Value} (hk : G.τ k = some (g, m, c)) (hn : RepL G.S w (fun _ => none) ns us) (hs : ns.all AV.scal = true) (hu : ∀ v ∈ us, oc v = true)
    (hi : us = [] ∨ ∃ v, w.cell? ⟨g, i + us.length - 1, none⟩ = some v) : ∃ w', (storeCells ⟨g, i, none⟩ us).run P w = .ok () w' ∧ Sim B G (s.wrote k i ns) a w' := by
  obtain ⟨hg, hβ, ⟨cells, t, hb, hl⟩, hS⟩ := h.inv.τ k g m c hk
  obtain ⟨w', hrun, hb', ho⟩ : ∃ w', (storeCells ⟨g, i, none⟩ us).run P w = .ok () w' ∧ Blk w' g (setAtV cells i us) t ∧ Only g w w' := by
    rcases hi with rfl | ⟨v, hi⟩
    · exact ⟨w, by simp [storeCells], hb, Only.refl _ _⟩
    · rw [hb.cell] at hi
      have hlt := (List.getElem?_eq_some_iff.1 hi).1
      have := run_storeCells P (b := g) (o := i) us 0 hb (by omega) hu
      simpa using this
  refine ⟨w', hrun, ?_⟩
  have hinj : ∀ k' e l, G.τ k' = some (g, e, l) → k' = k := fun k' e l h' => h.inv.τinj _ _ _ _ _ _ _ h' hk
  have hT : ∀ {a v}, RepT G w a v → RepT G w' (a.wrote k i ns) v := fun h => h.wrote hk hinj hb hb' ho hn hs hu
  refine ⟨?_, by simp [AS.wrote, h.len], fun j => ?_, h.defers⟩
  · have hv := h.inv
    constructor
    · rw [ho.size]; exact hv.size
    · exact ho.os.trans hv.os
    · exact ho.tape.trans hv.tape
    · exact ho.output.trans hv.output
    · intro b hb1 hw
      rw [ho.other b (by omega)]; exact hv.old b hb1 hw
    · exact hv.S0
    · exact hv.Snew
    · intro g' o hs'; rw [ho.size]; exact hv.Slt g' o hs'
    · exact hv.βinj
    · exact hv.βS
    · exact hv.βnew
    · intro j hj
      simp only [AS.wrote, look_map, Option.map_eq_none_iff] at hj
      exact hv.dom j hj
    · intro j cs hj
      simp only [AS.wrote, look_map, Option.map_eq_some_iff] at hj
      obtain ⟨cs0, hj, rfl⟩ := hj
      obtain ⟨b, vs', t', h1, h2, h3, h4, h5⟩ := hv.mem j cs0 hj
      have hbg : b ≠ g := fun e => hβ j (e ▸ h1)
      refine ⟨b, vs', t', h1, ?_, by simp [h3], fun n c' v hc hv' => ?_, h5⟩
      · unfold Blk at h2 ⊢
        rw [ho.other b hbg]; exact h2
      · simp only [List.getElem?_map, Option.map_eq_some_iff] at hc
        obtain ⟨c0, hc, rfl⟩ := hc
        exact hT (h4 n c0 v hc hv')
    · intro k' g' e l hk'
      obtain ⟨h1, h2, ⟨vs', t', h3, h4⟩, h5⟩ := hv.τ k' g' e l hk'
      refine ⟨h1, h2, ?_, h5⟩
      by_cases hgg : g' = g
      · subst hgg
        refine ⟨_, t, hb', ?_⟩
        rw [setAtV_length]
        unfold Blk at h3 hb
        rw [h3] at hb
        simp only [Option.some.injEq, Obj.cells.injEq] at hb
        have : vs' = cells := by have := hb.1; simpa using this
        rw [← this]; exact h4
      · refine ⟨vs', t', ?_, h4⟩
        unfold Blk at h3 ⊢
        rw [ho.other g' hgg]; exact h3
    · exact hv.τinj
    · exact hv.β0
    · exact hv.fro.only ho hb'
  · have := hT (h.tmps j)
    simp only [AS.wrote, List.getD_eq_getElem?_getD, List.getElem?_map] at this ⊢
    cases hx : s.tmps[j]? with
    | none => simp [hx, AV.wrote] at this ⊢; exact .of (.unk _)
    | some c => simp [hx] at this ⊢; exact this

theorem put_wr (s : AS) (dst : Option Nat) (v : AV) (k : Tag) (i : Nat) (vs : List AV) : Eff.app { val := v, wr := some (k, i, vs) } dst s = (s.wrote k i vs).put dst v := by
  cases s; rfl

theorem RepT.scal {G w a v} (h : RepT G w a v) (hs : a.scal = true) : RepV G.S w (fun _ => none) a v ∧ v.cells = #[v] ∧ oc v = true := by
  cases a <;> try (simp [AV.scal] at hs; done)
  case int => have := h.int_inv; subst this; exact ⟨.int _ _, rfl, rfl⟩
  case bool => have := h.bool_inv; subst this; exact ⟨.bool _, rfl, rfl⟩
  case str => have := h.str_inv; subst this; exact ⟨.str _, rfl, rfl⟩
  case nilp => unfold RepT at h; cases h; exact ⟨.nilp, rfl, rfl⟩
  case niliface => unfold RepT at h; cases h; exact ⟨.niliface, rfl, rfl⟩
  case nilfn => unfold RepT at h; cases h; exact ⟨.nilfn, rfl, rfl⟩

/-- a store through a pointer into an own list -/
theorem storeW_ok {P ty} (hT : TyOk P ty) {B G s a w} (h : Sim B G s a w) {t : TypeId} {ti : TI} (ht : ty t = some ti) {k : Tag} {i : Nat} {e : AV} {xv y yv} (hx : RepT G w (.wp k i e) xv) (hy : RepT G w y yv)
    (hz : ti.size = 1) (hs : y.scal = true) (dst : Option Nat) :
    ∃ w', (Instr.storeAt t xv yv).run P w = .ok () w' ∧ Sim B G ((s.wrote k i [y]).put dst (.tup [])) (a.put dst undef) w' := by
  obtain ⟨g, m, c, u, rfl, _, _, hd, hτ, hlt⟩ := hx.wp_inv
  obtain ⟨h1, h2, h3⟩ := hy.scal hs
  obtain ⟨w', hrun, hG⟩ := h.wrote (P := P) (ns := [y]) (us := [yv]) hτ (.cons h1 .nil) (by simp [hs]) (by simpa using h3) (.inr ⟨u, (hd.2 0 u rfl).2⟩)
  refine ⟨w', ?_, hG.put dst (.of RepV_tup0)⟩
  simp [Instr.storeAt, Instr.sureAddr, storeVar, run_size hT ht, h2, hz, hrun]

/-- copy into an own list -/
theorem copy_ok {P ty} (hT : TyOk P ty) {B G s a w} (h : Sim B G s a w) {t t2 oty : TypeId} {ei : TI} (he : elemOf ty t = some ei) (his : isSlice ty t = true) (hz : ei.size = 1) {x y : AV} {xv yv : Value} (hx : RepT G w x xv) (hy : RepT G w y yv)
    {e : Eff} (hc : copyA x y = some e) (dst : Option Nat) :
    ∃ v w', (Builtin.copy_ #[t, t2] oty #[xv, yv]).run P w = .ok v w' ∧ Sim B G (e.app dst s) (a.put dst v) w' := by
  obtain ⟨et, hu, hte⟩ := (elemOf_ok hT he).1 his
  have key : ∀ {k lo xs g o m c cap}, xv = .slice (some ⟨g, o, none⟩) xs.length cap → G.τ k = some (g, m, c) → (xs = [] ∨ o = lo) → (∃ vs, RepR G.S w 1 xs vs ∧ Rd G.S w ⟨g, o, none⟩ vs) → copyL k lo xs y = some e →
      ∃ v w', (Builtin.copy_ #[t, t2] oty #[xv, yv]).run P w = .ok v w' ∧ Sim B G (e.app dst s) (a.put dst v) w' := by
    rintro k lo xs g o m c cap rfl hτ hlo ⟨ds, hdr, hdd⟩ hcp
    unfold copyL at hcp
    split at hcp
    · rename_i sz ys st
      cases hb : ((sz == 1 || (st == .nil && ys.isEmpty)) && ys.all AV.scal) <;> rw [hb] at hcp <;> simp only [cond_true, cond_false] at hcp
      · cases hcp
      cases hcp
      simp only [Bool.and_eq_true, Bool.or_eq_true, beq_iff_eq, List.isEmpty_iff] at hb
      obtain ⟨hb1, hb2⟩ := hb
      obtain ⟨ad, ycap, rfl, hle, hnil, _, hr⟩ := hy.sl_inv
      obtain ⟨vs, hL, hoc, hload⟩ : ∃ vs : List Value, RepL G.S w (fun _ => none) ys vs ∧ (∀ v ∈ vs, oc v = true) ∧
          ∀ n, n ≤ ys.length → (Builtin.firstCells 1 n (.slice ad ys.length ycap)).run P w = .ok (vs.take n).toArray w := by
        by_cases hst : st = .nil
        · obtain ⟨rfl, rfl, rfl⟩ := hnil hst
          exact ⟨[], .nil, by simp, fun n _ => by simp [Builtin.firstCells]⟩
        · rcases hr hst with ⟨ad', vs, rfl, hrr, hd⟩ | ⟨rfl, rfl, rfl, _⟩
          rotate_left
          · exact ⟨[], .nil, by simp, fun n _ => by simp [Builtin.firstCells]⟩
          obtain ⟨_, hL, hoc⟩ := hrr.scal hb2
          refine ⟨vs, hL, hoc, fun n hn => ?_⟩
          have := run_loadCells P (w := w) (a := ad') (vs := vs.take n) ((hd.take n).cells)
          rw [List.length_take, ← hL.length, Nat.min_eq_left hn] at this
          simpa [Builtin.firstCells] using this
      have hlen : (vs.take (Nat.min ys.length xs.length)).length = Nat.min ys.length xs.length := by
        rw [List.length_take, ← hL.length]
        exact Nat.min_eq_left (Nat.min_le_left _ _)
      have htake : vs.take (Nat.min ys.length xs.length) = vs.take xs.length := by
        rw [hL.length]
        by_cases hq : vs.length ≤ xs.length
        · rw [show Nat.min vs.length xs.length = vs.length from Nat.min_eq_left hq, List.take_of_length_le hq, List.take_length]
        · rw [show Nat.min vs.length xs.length = xs.length from Nat.min_eq_right (by omega)]
      have hsub : ∀ v ∈ vs.take xs.length, oc v = true := fun v hv => hoc v (List.mem_of_mem_take hv)
      have hall : (ys.take xs.length).all AV.scal = true := by
        rw [List.all_eq_true] at hb2 ⊢
        exact fun v hv => hb2 v (List.mem_of_mem_take hv)
      have hplace : vs.take xs.length = [] ∨ ∃ v, w.cell? ⟨g, o + (vs.take xs.length).length - 1, none⟩ = some v := by
        by_cases hq : (vs.take xs.length).length = 0
        · exact .inl (List.eq_nil_of_length_eq_zero hq)
        · right
          have h1 : (vs.take xs.length).length ≤ xs.length := by rw [List.length_take]; exact Nat.min_le_left _ _
          have h2 := hdr.length
          have hlt : (vs.take xs.length).length - 1 < ds.length := by omega
          have h3 := hdd.2 ((vs.take xs.length).length - 1) _ (List.getElem?_eq_getElem hlt)
          exact ⟨ds[(vs.take xs.length).length - 1], by
            rw [show o + (vs.take xs.length).length - 1 = o + ((vs.take xs.length).length - 1) by omega]
            exact h3.2⟩
      obtain ⟨w', hrun, hG⟩ := h.wrote (P := P) (i := o) (ns := ys.take xs.length) (us := vs.take xs.length) hτ (hL.take _) hall hsub hplace
      have hsame : s.wrote k lo (ys.take xs.length) = s.wrote k o (ys.take xs.length) := by
        rcases hlo with rfl | rfl
        · simp only [List.length_nil, List.take_zero]; rfl
        · rfl
      refine ⟨goInt (Nat.min ys.length xs.length), w', ?_, ?_⟩
      · have hs1 : (sizeOf et).run P w = .ok 1 w := by rw [run_size hT hte, hz]
        simp only [Builtin.copy_, Sem.run_bind]
        simp [run_underlying hu, Builtin.lenOf, hs1, hload _ (Nat.min_le_left ys.length xs.length), htake, hrun]
      · rw [put_wr, hsame]
        exact hG.put dst (.of (.int _ _))
    · cases hcp
  unfold copyA at hc
  split at hc
  · rename_i sz xs k
    cases hb : sz == 1 <;> rw [hb] at hc <;> simp only [cond_true, cond_false] at hc
    · cases hc
    have hb : sz = 1 := by simpa using hb
    subst hb
    obtain ⟨g, cap, vs, hxv, hr, hd, ht, hl⟩ := hx
    exact key hxv ht (.inr rfl) ⟨vs, hr, hd⟩ hc
  · rename_i sz xs k lo
    cases hb : sz == 1 <;> rw [hb] at hc <;> simp only [cond_true, cond_false] at hc
    · cases hc
    have hb : sz = 1 := by simpa using hb
    subst hb
    obtain ⟨g, cap, vs, m, c, o, hxv, hr, hd, hl, ht, hm⟩ := hx
    exact key hxv ht (by rcases hm with hm | ⟨h1, h2⟩; exact .inl hm; exact .inr (by omega)) ⟨vs, hr, hd⟩ hc
  · cases hc

end Go.Ev

/- The evaluator: an operation is sound. -/
set_option linter.unusedVariables false
set_option linter.unusedSimpArgs false
namespace Go.Ev
open Go

theorem look_insM (m : Mem) (d : Nat) (cs : List AV) (h : look m d = none) (i : Nat) : look (insM m d cs) i = if i = d then some cs else look m i := by
  induction m with
  | nil =>
    simp only [insM, look]
    by_cases hi : i = d
    · subst hi; simp
    · simp [hi, Ne.symm hi]
  | cons p r ih =>
    obtain ⟨j, c⟩ := p
    simp only [look] at h
    split at h
    · cases h
    · rename_i hj
      simp only [insM]
      split
      · simp only [look]
        by_cases hi : i = d
        · subst hi; simp
        · simp [hi, Ne.symm hi]
      · simp only [look, ih h]
        by_cases hi : i = d
        · subst hi; simp [hj]
        · simp [hi]

theorem ins_sim {B G s a w} (h : Sim B G s a w) (hB : B.Ok) {d : Nat} (hd : look s.mem d = none) {cs : List AV} {vs : List Value} (t : TypeId) (hr : RepL G.S w G.β cs vs) (ho : ∀ v ∈ vs, oc v = true) :
    ∃ G', Sim B G' (Eff.app { val := .ptr d 0, ins := some (d, cs) } (some d) s) (a.put (some d) (.pointer (some ⟨w.heap.size, 0, none⟩))) (w.alloc (.cells vs.toArray t)) ∧ G'.τ = G.τ := by
  obtain ⟨hi, he, hβ⟩ := h.inv.alloc hB hd t hr ho
  have hi' := hi.congr (m' := insM s.mem d cs) (fun i => by
    rw [look_insM _ _ _ hd]
    simp only [look]
    by_cases hi : i = d
    · subst hi; simp
    · simp [hi, Ne.symm hi])
  have h1 := h.mono hi' he hβ (fun _ _ h => h)
  exact ⟨_, h1.put (some d) (.of (.ptr (by simp))), rfl⟩

theorem laid_ok {G w} {v : AV} {u : Value} {cs : List AV} (h : RepT G w v u) (hl : v.laid = some cs) : ∃ vs : List Value, u.cells = vs.toArray ∧ RepL G.S w (fun _ => none) cs vs ∧ ∀ v ∈ vs, oc v = true := by
  cases v <;> simp only [AV.laid] at hl
  case unk => cases hl
  case tup => cases hl
  case agg l =>
    cases hl
    obtain ⟨vs, rfl, h1, h2⟩ := h.agg_inv
    exact ⟨vs, rfl, h1, h2⟩
  all_goals
    cases hl
    have hf := h.flat
    refine ⟨[u], ?_, .cons hf .nil, ?_⟩
  case int => rw [h.int_inv]; rfl
  case bool => rw [h.bool_inv]; rfl
  case str => rw [h.str_inv]; rfl
  case ptr => obtain ⟨b, _, rfl⟩ := h.ptr_inv; rfl
  case nilp => unfold RepT at h; cases h; rfl
  case ro => obtain ⟨a, vs, rfl, _⟩ := h.ro_inv; rfl
  case sl => obtain ⟨a, cap, rfl, _⟩ := h.sl_inv; rfl
  case view => obtain ⟨b, cap, _, rfl, _⟩ := h.view_inv; rfl
  case fn => obtain ⟨vs, rfl, _⟩ := h.fn_inv; rfl
  case niliface => unfold RepT at h; cases h; rfl
  case wp => obtain ⟨_, _, _, _, rfl, _⟩ := h.wp_inv; rfl
  case nilfn => unfold RepT at h; cases h; rfl
  case int => rw [h.int_inv]; simp [oc]
  case bool => rw [h.bool_inv]; simp [oc]
  case str => rw [h.str_inv]; simp [oc]
  case ptr => obtain ⟨b, _, rfl⟩ := h.ptr_inv; simp [oc]
  case nilp => unfold RepT at h; cases h; simp [oc]
  case ro => obtain ⟨a, vs, rfl, _⟩ := h.ro_inv; simp [oc]
  case sl => obtain ⟨a, cap, rfl, _⟩ := h.sl_inv; simp [oc]
  case view => obtain ⟨b, cap, _, rfl, _⟩ := h.view_inv; simp [oc]
  case fn => obtain ⟨vs, rfl, _⟩ := h.fn_inv; simp [oc]
  case niliface => unfold RepT at h; cases h; simp [oc]
  case wp => obtain ⟨_, _, _, _, rfl, _⟩ := h.wp_inv; simp [oc]
  case nilfn => unfold RepT at h; cases h; simp [oc]

/-- a value's cells, as its owner has them -/
theorem cellsT {G w} {v : AV} {u : Value} (h : RepT G w v u) (hk : v.known = true) (ht : v.isTup = false) : ∃ vs : List Value, u.cells = vs.toArray ∧ v.cells.length = vs.length ∧
    (∀ (j : Nat) c x, v.cells[j]? = some c → vs[j]? = some x → RepT G w c x) ∧ ∀ v ∈ vs, oc v = true := by
  have one : ∀ (v : AV), RepT G w v u → v.cells = [v] → u.cells = #[u] → oc u = true → ∃ vs : List Value, u.cells = vs.toArray ∧ v.cells.length = vs.length ∧
    (∀ (j : Nat) c x, v.cells[j]? = some c → vs[j]? = some x → RepT G w c x) ∧ ∀ v ∈ vs, oc v = true := by
    intro v h e1 e2 e3
    refine ⟨[u], e2, by rw [e1]; rfl, fun j c x hc hx => ?_, by simpa using e3⟩
    rw [e1] at hc
    cases j with
    | zero => simp at hc hx; subst hc; subst hx; exact h
    | succ j => simp at hc
  cases v
  case unk => simp [AV.known] at hk
  case tup => simp [AV.isTup] at ht
  case agg l =>
    obtain ⟨vs, rfl, h1, h2⟩ := h.agg_inv
    refine ⟨vs, rfl, h1.length, fun j c x hc hx => ?_, h2⟩
    obtain ⟨y, h3, h4⟩ := h1.get hc
    rw [h3] at hx; cases hx
    exact .of h4.bare
  all_goals refine one _ h rfl ?_ ?_
  case int => rw [h.int_inv]; rfl
  case bool => rw [h.bool_inv]; rfl
  case str => rw [h.str_inv]; rfl
  case ptr => obtain ⟨b, _, rfl⟩ := h.ptr_inv; rfl
  case nilp => unfold RepT at h; cases h; rfl
  case ro => obtain ⟨a, vs, rfl, _⟩ := h.ro_inv; rfl
  case sl => obtain ⟨a, cap, rfl, _⟩ := h.sl_inv; rfl
  case view => obtain ⟨b, cap, _, rfl, _⟩ := h.view_inv; rfl
  case fn => obtain ⟨vs, rfl, _⟩ := h.fn_inv; rfl
  case niliface => unfold RepT at h; cases h; rfl
  case wp => obtain ⟨_, _, _, _, rfl, _⟩ := h.wp_inv; rfl
  case nilfn => unfold RepT at h; cases h; rfl
  case int => rw [h.int_inv]; simp [oc]
  case bool => rw [h.bool_inv]; simp [oc]
  case str => rw [h.str_inv]; simp [oc]
  case ptr => obtain ⟨b, _, rfl⟩ := h.ptr_inv; simp [oc]
  case nilp => unfold RepT at h; cases h; simp [oc]
  case ro => obtain ⟨a, vs, rfl, _⟩ := h.ro_inv; simp [oc]
  case sl => obtain ⟨a, cap, rfl, _⟩ := h.sl_inv; simp [oc]
  case view => obtain ⟨b, cap, _, rfl, _⟩ := h.view_inv; simp [oc]
  case fn => obtain ⟨vs, rfl, _⟩ := h.fn_inv; simp [oc]
  case niliface => unfold RepT at h; cases h; simp [oc]
  case wp => obtain ⟨_, _, _, _, rfl, _⟩ := h.wp_inv; simp [oc]
  case nilfn => unfold RepT at h; cases h; simp [oc]

theorem setAt_get (ns : List AV) : ∀ (c : List AV) (o j : Nat), (setAt c o ns)[j]? = if o ≤ j ∧ j < o + ns.length ∧ j < c.length then ns[j - o]? else c[j]? := by
  induction ns with
  | nil => intro c o j; rw [if_neg (by rintro ⟨h1, h2, _⟩; simp at h2; omega)]; rfl
  | cons n ns ih =>
    intro c o j
    simp only [setAt, ih, List.length_set, List.length_cons]
    by_cases hj : j = o
    · subst hj
      rw [if_neg (by omega)]
      by_cases hl : j < c.length
      · rw [if_pos ⟨by omega, by omega, hl⟩]
        simp [hl]
      · rw [if_neg (by omega)]
        simp [List.getElem?_set, hl]
    · by_cases h1 : o + 1 ≤ j ∧ j < o + 1 + ns.length ∧ j < c.length
      · rw [if_pos h1, if_pos ⟨by omega, by omega, h1.2.2⟩]
        have : j - o = (j - (o + 1)) + 1 := by omega
        rw [this, List.getElem?_cons_succ]
      · rw [if_neg h1, if_neg (by omega)]
        rw [List.getElem?_set_ne (Ne.symm hj)]

/-- what an operation does, as the machine does it -/
def Runs (P : Program) (B : Base) (G : Gh) (s' : AS) (o : Oper) (a : Act) (w : World) : Prop :=
  (∃ v w' G', (execOp a.eval o).run P w = .ok (.value v) w' ∧ Sim B G' s' (a.put o.dst v) w' ∧ TauLe G G' (makes o)) ∨
  (∃ w' G', (execOp a.eval o).run P w = .ok .skip w' ∧ Sim B G' s' (a.put o.dst undef) w' ∧ TauLe G G' (makes o)) ∨
  (∃ f args, (execOp a.eval o).run P w = .ok (.enter f args) w ∧ Calls P f args w fun e w' => ∃ v G', e = .returned v ∧ Sim B G' s' (a.put o.dst v) w' ∧ TauLe G G' (makes o))

theorem Runs.wp {P B G s' o a w} (h : Runs P B G s' o a w) {K : Act → World → Prop} {Q : Exit → Act → World → Prop} (hK : ∀ G' a' w', Sim B G' s' a' w' → TauLe G G' (makes o) → K a' w') : o.wp P a w K Q := by
  unfold Oper.wp
  rcases h with ⟨v, w', G', hr, hs, ht⟩ | ⟨w', G', hr, hs, ht⟩ | ⟨f, args, hr, hc⟩
  · rw [hr, Oper.upon_value]; exact hK _ _ _ hs ht
  · rw [hr, Oper.upon_skip]; exact hK _ _ _ hs ht
  · rw [hr, Oper.upon_enter]
    refine hc.mono ?_
    rintro e w' ⟨v, G', rfl, hs, ht⟩
    exact hK _ _ _ hs ht

theorem load_ok {P ty} (hT : TyOk P ty) {B G s a w} (h : Sim B G s a w) {t : TypeId} {ti : TI} (ht : ty t = some ti) {x : AV} {xv : Value} (hx : RepT G w x xv) {r : AV}
    (hr : (∃ id off cs, x = .ptr id off ∧ look s.mem id = some cs ∧ ((cs.drop off).take ti.size).length = ti.size ∧
      ((ti.td.agg = true ∧ r = .agg (((cs.drop off).take ti.size).map AV.flat)) ∨ (ti.td.agg = false ∧ ti.size = 1 ∧ r = ((cs.drop off).take ti.size).headD .unk))) ∨ (x = .ro r ∧ fits ti r = true)) :
    ∃ v, (Instr.loadAt t xv).run P w = .ok v w ∧ RepT G w r v := by
  rcases hr with ⟨id, off, cs, rfl, hl, hlen, hr⟩ | ⟨rfl, hf⟩
  · obtain ⟨b, hβ, rfl⟩ := hx.ptr_inv
    obtain ⟨b', vs, t', h1, h2, h3, h4, h5⟩ := h.inv.mem id cs hl
    rw [hβ] at h1; cases h1
    have hvl : ((vs.drop off).take ti.size).length = ti.size := by
      have := hlen; simp at this ⊢; omega
    have hcell : ∀ (j : Nat) v, ((vs.drop off).take ti.size)[j]? = some v → w.cell? ((Addr.mk b off none).add j) = some v := by
      intro j v hv
      rw [add_mk, h2.cell]
      rw [List.getElem?_take] at hv
      split at hv
      · rwa [List.getElem?_drop] at hv
      · cases hv
    rcases hr with ⟨ha, rfl⟩ | ⟨ha, hs1, rfl⟩
    · have hrun := run_loadCells P hcell
      rw [hvl] at hrun
      refine ⟨.agg ((vs.drop off).take ti.size).toArray, ?_, .of (.agg (RepL.of_get (by simp [h3]) fun i c v hc hv => ?_) fun v hv => h5 v (List.mem_of_mem_drop (List.mem_of_mem_take hv)))⟩
      · simp [Instr.loadAt, Instr.sureAddr, loadVar, run_isAgg hT ht, ha, run_size hT ht, hrun]
      · simp only [List.getElem?_map, Option.map_eq_some_iff] at hc
        obtain ⟨c0, hc, rfl⟩ := hc
        rw [List.getElem?_take] at hc hv
        split at hc
        · rename_i hi
          rw [if_pos hi] at hv
          rw [List.getElem?_drop] at hc hv
          exact (h4 _ _ _ hc hv).flat
        · cases hc
    · rw [hs1] at hvl hcell hlen ⊢
      obtain ⟨c, hc⟩ : ∃ c, cs[off]? = some c := by
        have : off < cs.length := by simp at hlen; omega
        exact ⟨_, List.getElem?_eq_getElem this⟩
      obtain ⟨v, hv⟩ : ∃ v, vs[off]? = some v := by
        have : off < vs.length := by rw [← h3]; exact (List.getElem?_eq_some_iff.1 hc).1
        exact ⟨_, List.getElem?_eq_getElem this⟩
      have e1 : ((cs.drop off).take 1).headD .unk = c := by
        rw [List.drop_eq_getElem_cons (List.getElem?_eq_some_iff.1 hc).1]
        simp [(List.getElem?_eq_some_iff.1 hc).2]
      rw [e1]
      refine ⟨v, ?_, h4 _ _ _ hc hv⟩
      have : w.cell? ⟨b, off, none⟩ = some v := by rw [h2.cell]; exact hv
      simp [Instr.loadAt, Instr.sureAddr, loadVar, run_isAgg hT ht, ha, load, Sem.run, this]
  · obtain ⟨ad, vs, rfl, hc, hd⟩ := hx.ro_inv
    obtain ⟨f1, f2, f3, f4⟩ := fits_size hf
    cases hc with
    | agg hl ho =>
      simp only [AV.isAgg, AV.cells] at f1 f2
      have hrun := run_loadCells P hd.cells
      rw [← hl.length, f1] at hrun
      exact ⟨.agg vs.toArray, by simp [Instr.loadAt, Instr.sureAddr, loadVar, run_isAgg hT ht, ← f2, run_size hT ht, hrun], .of (.agg hl ho)⟩
    | one hv ha ho =>
      rename_i v
      have := hd.cells 0 v rfl
      rw [Addr.add_zero'] at this
      refine ⟨v, ?_, .of hv.bare⟩
      simp [Instr.loadAt, Instr.sureAddr, loadVar, run_isAgg hT ht, ← f2, ha, load, Sem.run, this]

theorem upd1 (s : AS) (dst : Option Nat) (v : AV) (id : Nat) (cs : List AV) : Eff.app { val := v, upd := [(id, cs)] } dst s = AS.put { s with mem := upd s.mem id cs } dst v := rfl

theorem store_ok {P ty} (hT : TyOk P ty) {B G s a w} (h : Sim B G s a w) {t : TypeId} {ti : TI} (ht : ty t = some ti) {id off : Nat} {cs : List AV} {xv y yv} (hx : RepT G w (.ptr id off) xv) (hy : RepT G w y yv)
    (hl : look s.mem id = some cs) (hk : y.known = true) (hp : y.isTup = false) (hsz : y.cells.length = ti.size) (hle : off + ti.size ≤ cs.length) (dst : Option Nat) :
    ∃ w', (Instr.storeAt t xv yv).run P w = .ok () w' ∧ Sim B G (AS.put { s with mem := upd s.mem id (setAt cs off y.cells) } dst (.tup [])) (a.put dst undef) w' := by
  obtain ⟨b, hβ, rfl⟩ := hx.ptr_inv
  obtain ⟨b', vs, t', h1, h2, h3, h4, h5⟩ := h.inv.mem id cs hl
  rw [hβ] at h1; cases h1
  obtain ⟨us, hu1, hu2, hu3, hu4⟩ := cellsT hy hk hp
  obtain ⟨w', hrun, hb', ho⟩ := run_storeCells P (b := b) (o := off) us 0 h2 (by omega) hu4
  simp only [Nat.add_zero] at hb'
  obtain ⟨hi, he⟩ := h.inv.write (vs := vs) hl hβ hb' ho (ns := setAt cs off y.cells) (by rw [setAt_length, setAtV_length, h3]) (fun j c v hc hv => by
    rw [setAt_get] at hc
    rw [setAtV_get] at hv
    split at hc
    · rename_i hj
      rw [if_pos ⟨hj.1, by omega, by omega⟩] at hv
      exact hu3 _ _ _ hc hv
    · rename_i hj
      rw [if_neg (by omega)] at hv
      exact h4 _ _ _ hc hv) (fun v hv => (mem_setAtV hv).elim (h5 v) (hu4 v))
  have h6 := h.mono hi he (fun _ _ h => h) (fun _ _ h => h)
  refine ⟨w', ?_, h6.put dst (.of RepV_tup0)⟩
  have : us.length = ti.size := by omega
  simp [Instr.storeAt, Instr.sureAddr, storeVar, run_size hT ht, hu1, this, hrun]

theorem call_ok {P E} (hE : EnvOk P E) {B G s a w} (h : Sim B G s a w) (hB : B.Ok) {o : Oper} {f : Operand} {args : Array Operand} {argTypes : Array TypeId} (ho : o.op = .call { callee := .value f, args, argTypes }) {g : FuncId} {cap : List AV}
    (hf : opv s.tmps f = .fn g cap) {e : Eff} (he : callA E s.mem o.dst g (args.toList.map (opv s.tmps) ++ cap) = some e) (hk : ∀ d, o.dst = some d → G.τ [d] = none) : Runs P B G (e.app o.dst s) o a w := by
  have h1 := h.opv f
  rw [hf] at h1
  obtain ⟨cv, hcv, hcl⟩ := h1.fn_inv
  unfold callA at he
  generalize hargs : args.toList.map (opv s.tmps) ++ cap = as at he
  cases hl : looks s.mem (ptrIds as) with
  | none => simp [hl] at he
  | some passed =>
  simp only [hl] at he
  cases hsp : E.spec g (as.map (AV.renum (ptrIds as))) passed with
  | none => simp [hsp] at he
  | some rp =>
  obtain ⟨r, passed'⟩ := rp
  simp only [hsp] at he
  cases hb : passed'.length == (ptrIds as).length <;> rw [hb] at he <;> simp only [cond_true, cond_false, Option.some.injEq] at he
  · cases he
  subst he
  obtain ⟨⟨fn, hfn, hbody, hname⟩, hcalls⟩ := hE.spec _ _ _ _ _ hsp
  refine .inr (.inr ⟨g, (args.toList.map a.eval ++ cv).toArray, ?_, ?_⟩)
  · obtain ⟨args⟩ := args
    have hb' : fn.body ≠ none := by cases hq : fn.body <;> simp_all
    have hn' : fn.name ≠ "runtime.NumGoroutine" := by simpa using hname
    simp [execOp, ho, resolve, hcv, Deferred.ofValue, invoke, callFunc, hfn, hn', hb']
  · have hrep : RepL G.S w (βof G.β (ptrIds as)) (as.map (AV.renum (ptrIds as))) (args.toList.map a.eval ++ cv) := by
      refine args_ok (by rw [← hargs]; simp [hcl.length]) fun i c v hc hv => ?_
      rw [← hargs] at hc
      by_cases hi : i < args.size
      · rw [List.getElem?_append_left (by simpa using hi)] at hc hv
        simp only [List.getElem?_map, Option.map_eq_some_iff] at hc hv
        obtain ⟨x, hx, rfl⟩ := hc
        obtain ⟨y, hy, rfl⟩ := hv
        rw [hx] at hy; cases hy
        exact h.opv x
      · rw [List.getElem?_append_right (by simpa using hi)] at hc hv
        simp only [List.length_map] at hc hv
        obtain ⟨v', h2, h3⟩ := hcl.get hc
        rw [h2] at hv; cases hv
        exact .of h3
    refine (hcalls w G.S (βof G.β (ptrIds as)) _ (pass_ok h hl) hrep).mono ?_
    rintro ee w' ⟨v, S', rfl, hd⟩
    obtain ⟨G', hG, hT⟩ := done_sim h hl hd hk
    refine ⟨v, G', rfl, hG, fun k x hx => ?_⟩
    rcases hT k x hx with h4 | h4
    · left
      unfold makes
      rw [ho]
      cases hdst : o.dst with
      | none => rw [hdst] at h4; cases h4
      | some d => rw [hdst] at h4; simpa using h4
    · exact .inr h4

theorem op_ok {P E} (hE : EnvOk P E) {B G s a w} (h : Sim B G s a w) (hB : B.Ok) (o : Oper) (hk : ∀ k, makes o = some k → G.τ k = none) {s' : AS} (he : evOp E o s = some s') : Runs P B G s' o a w := by
  unfold evOp at he
  rw [Option.map_eq_some_iff] at he
  obtain ⟨e, he, rfl⟩ := he
  have pure_ : ∀ r, evPure E.ty (opv s.tmps) o.op = some r → e = { val := r } → Runs P B G (e.app o.dst s) o a w := by
    intro r hr he
    obtain ⟨v, h1, h2⟩ := evPure_ok hE.ty (fun x => h.opv x) o hr
    subst he
    rw [put_val]
    exact .inl ⟨v, w, G, h1, h.put o.dst h2, TauLe.refl _ _⟩
  have make_ : ∀ r, evMake E.ty (opv s.tmps) o.op = some r → e = { val := r } → Runs P B G (e.app o.dst s) o a w := by
    intro r hr he
    obtain ⟨v, w', G', h1, h2, h3, h4⟩ := make_ok hE.ty h o hr
    subst he
    rw [put_val]
    exact .inl ⟨v, w', G', h1, h2.put o.dst h3, TauLe.of_eq h4 _⟩
  obtain ⟨dst, op, oty, pos, after, guard⟩ := o
  cases op
  case alloc el =>
    simp only [effOf] at he
    cases ht : E.ty el with
    | none => simp [ht] at he
    | some ti =>
    cases dst with
    | none => simp [ht] at he
    | some d =>
    simp only [ht] at he
    unfold allocA at he
    cases hl : look s.mem d with
    | some _ => simp [hl] at he
    | none =>
    simp only [hl, Option.some.injEq] at he
    subst he
    obtain ⟨z, hz, hz1, hz2⟩ := run_zero hE.ty ht w
    obtain ⟨G', hG, hGτ⟩ := ins_sim h hB hl el (cs := ti.zero) (vs := z.cells.toList) (by rw [← hz1]; exact map_ofVal _) hz2
    refine .inl ⟨_, _, G', ?_, hG, TauLe.of_eq hGτ _⟩
    simp [execOp, Instr.alloc, hz, newVar, run_newRow]
  case box el x =>
    simp only [effOf] at he
    cases hl0 : (opv s.tmps x).laid with
    | none => simp [hl0] at he
    | some cs =>
    cases dst with
    | none => simp [hl0] at he
    | some d =>
    simp only [hl0] at he
    unfold allocA at he
    cases hl : look s.mem d with
    | some _ => simp [hl] at he
    | none =>
    simp only [hl, Option.some.injEq] at he
    subst he
    obtain ⟨vs, h1, h2, h3⟩ := laid_ok (h.opv x) hl0
    obtain ⟨G', hG, hGτ⟩ := ins_sim h hB hl el (cs := cs) (vs := vs) (h2.ext (Ext.refl _ _) (fun _ _ h => by cases h)) h3
    refine .inl ⟨_, _, G', ?_, hG, TauLe.of_eq hGτ _⟩
    simp [execOp, Instr.box, newVar, h1, run_newRow]
  case load t x =>
    simp only [effOf] at he
    cases ht : E.ty t with
    | none => simp [ht] at he
    | some ti =>
    simp only [ht] at he
    have hx := h.opv x
    have fin : ∀ r, ((∃ id off cs, opv s.tmps x = .ptr id off ∧ look s.mem id = some cs ∧ ((cs.drop off).take ti.size).length = ti.size ∧
      ((ti.td.agg = true ∧ r = .agg (((cs.drop off).take ti.size).map AV.flat)) ∨ (ti.td.agg = false ∧ ti.size = 1 ∧ r = ((cs.drop off).take ti.size).headD .unk))) ∨ (opv s.tmps x = .ro r ∧ fits ti r = true)) →
        e = { val := r } → Runs P B G (e.app dst s) ⟨dst, .load t x, oty, pos, after, guard⟩ a w := by
      intro r hr he
      obtain ⟨v, h1, h2⟩ := load_ok (P := P) hE.ty h ht hx hr
      subst he
      rw [put_val]
      refine .inl ⟨v, w, G, ?_, h.put dst h2, TauLe.refl _ _⟩
      simp [execOp, h1]
    split at he
    · rename_i id off hid
      cases hl : look s.mem id with
      | none => simp [hl] at he
      | some cs =>
      simp only [hl] at he
      cases hb : (((cs.drop off).take ti.size).length == ti.size) <;> rw [hb] at he <;> simp only [cond_true, cond_false] at he
      · cases he
      have hb' : ((cs.drop off).take ti.size).length = ti.size := by simpa using hb
      split at he
      · rename_i ha
        cases he
        exact fin _ (.inl ⟨id, off, cs, hid, hl, hb', .inl ⟨ha, rfl⟩⟩) rfl
      · rename_i ha
        cases hs : ti.size == 1 <;> rw [hs] at he <;> simp only [cond_true, cond_false] at he
        · cases he
        · cases he
          exact fin _ (.inl ⟨id, off, cs, hid, hl, hb', .inr ⟨by simpa using ha, by simpa using hs, rfl⟩⟩) rfl
    · rename_i el hel
      cases hf : fits ti el <;> rw [hf] at he <;> simp only [cond_true, cond_false] at he
      · cases he
      · cases he
        exact fin _ (.inr ⟨hel, hf⟩) rfl
    · rename_i kk ii el hel
      cases hf : fits ti el <;> rw [hf] at he <;> simp only [cond_true, cond_false] at he
      · cases he
      · cases he
        rw [hel] at hx
        obtain ⟨g, m, c, u, hxv, hcu, _, hdu, _⟩ := hx.wp_inv
        obtain ⟨v, h1, h2⟩ := load_ok (P := P) hE.ty h ht (x := .ro el) (xv := a.eval x) (by rw [hxv]; exact .of (.ro hcu hdu)) (.inr ⟨rfl, hf⟩)
        rw [put_val]
        refine .inl ⟨v, w, G, ?_, h.put dst h2, TauLe.refl _ _⟩
        simp [execOp, h1]
    · cases he
  case store t x y =>
    simp only [effOf] at he
    cases ht : E.ty t with
    | none => simp [ht] at he
    | some ti =>
    simp only [ht] at he
    split at he
    · rename_i id off hid
      cases hl : look s.mem id with
      | none => simp [hl] at he
      | some cs =>
      simp only [hl] at he
      generalize hy : opv s.tmps y = yy at he
      cases hb : (yy.known && !yy.isTup && yy.cells.length == ti.size && Nat.ble (off + ti.size) cs.length) <;> rw [hb] at he <;> simp only [cond_true, cond_false] at he
      · cases he
      cases he
      simp only [Bool.and_eq_true, Nat.ble_eq, beq_iff_eq, Bool.not_eq_true'] at hb
      obtain ⟨⟨⟨hk1, hp⟩, hsz⟩, hle⟩ := hb
      have hx := h.opv x
      rw [hid] at hx
      have hyr := h.opv y
      rw [hy] at hyr
      rw [upd1]
      obtain ⟨w', h1, h2⟩ := store_ok (P := P) hE.ty h ht hx hyr hl hk1 hp hsz hle dst
      refine .inr (.inl ⟨w', G, ?_, h2, TauLe.refl _ _⟩)
      simp [execOp, h1]
    · rename_i kk ii el hel
      generalize hy : opv s.tmps y = yy at he
      cases hb : (ti.size == 1 && yy.scal) <;> rw [hb] at he <;> simp only [cond_true, cond_false] at he
      · cases he
      cases he
      simp only [Bool.and_eq_true, beq_iff_eq] at hb
      have hx := h.opv x
      rw [hel] at hx
      have hyr := h.opv y
      rw [hy] at hyr
      rw [put_wr]
      obtain ⟨w', h1, h2⟩ := storeW_ok (P := P) hE.ty h ht hx hyr hb.1 hb.2 dst
      refine .inr (.inl ⟨w', G, ?_, h2, TauLe.refl _ _⟩)
      simp [execOp, h1]
    · cases he
  case call c =>
    obtain ⟨callee, args, argTypes⟩ := c
    cases callee with
    | value f =>
      simp only [effOf] at he
      split at he
      · rename_i g cap hg
        exact call_ok hE h hB rfl hg he fun d hd => hk [d] (by simp at hd; simp [makes, hd])
      · cases he
    | invoke r m =>
      simp only [effOf] at he
      simp [evPure] at he
    | builtin b =>
      by_cases hb : b = .append
      · subst hb
        simp only [effOf] at he
        obtain ⟨args⟩ := args
        obtain ⟨argTypes⟩ := argTypes
        split at he
        · rename_i x y t t2 d h1 h2
          simp at h1 h2
          subst h1; subst h2
          cases hel : elemOf E.ty t with
          | none => simp [hel] at he
          | some ei =>
          simp only [hel] at he
          cases his : isSlice E.ty t <;> rw [his] at he <;> simp only [cond_true, cond_false] at he
          · cases he
          cases hsrc : srcA E.ty t2 ei s.mem (opv s.tmps y) with
          | none => simp [hsrc] at he
          | some ys =>
          simp only [hsrc] at he
          obtain ⟨v, w', G', h1, h2, h3⟩ := append_ok (P := P) (oty := oty) hE.ty h hel his (hk [d] (by simp [makes])) (h.opv x) (h.opv y) hsrc he
          refine .inl ⟨v, w', G', ?_, h2, h3⟩
          simp [execOp, resolve, invoke, builtin, h1]
        · cases he
      · by_cases hb2 : b = .copy
        · subst hb2
          simp only [effOf] at he
          obtain ⟨args⟩ := args
          obtain ⟨argTypes⟩ := argTypes
          split at he
          · rename_i x y t t2 h1 h2
            simp at h1 h2
            subst h1; subst h2
            cases hel : elemOf E.ty t with
            | none => simp [hel] at he
            | some ei =>
            simp only [hel] at he
            cases his : (isSlice E.ty t && ei.size == 1) <;> rw [his] at he <;> simp only [cond_true, cond_false] at he
            · cases he
            simp only [Bool.and_eq_true, beq_iff_eq] at his
            obtain ⟨v, w', h1, h2⟩ := copy_ok (P := P) (t2 := t2) (oty := oty) hE.ty h hel his.1 his.2 (h.opv x) (h.opv y) he dst
            refine .inl ⟨v, w', G, ?_, h2, TauLe.refl _ _⟩
            simp [execOp, resolve, invoke, builtin, h1]
          · cases he
        have : effOf E ⟨dst, .call { callee := .builtin b, args, argTypes }, oty, pos, after, guard⟩ (opv s.tmps) s.mem = (evPure E.ty (opv s.tmps) (.call { callee := .builtin b, args, argTypes })).map fun v => { val := v } := by
          cases b <;> first | rfl | exact absurd rfl hb | exact absurd rfl hb2
        rw [this, Option.map_eq_some_iff] at he
        obtain ⟨r, hr, rfl⟩ := he
        exact pure_ r hr rfl
  case buildSlice t n ps =>
    simp only [effOf, Option.map_eq_some_iff] at he
    obtain ⟨r, hr, rfl⟩ := he
    exact make_ r hr rfl
  all_goals
    simp only [effOf, Option.map_eq_some_iff] at he
    obtain ⟨r, hr, rfl⟩ := he
    exact pure_ r hr rfl

end Go.Ev

/- The evaluator: operations one behind the other. -/
set_option linter.unusedVariables false
set_option linter.unusedSimpArgs false
namespace Go.Ev
open Go

theorem want_ok {B G s a w} (h : Sim B G s a w) {ops : Array Oper} {o : Oper} {b : Bool} (hw : wantA ops s.tmps o = some b) : Region.wanted o (yielded ops a.tmps) = b := by
  unfold wantA at hw
  unfold Region.wanted
  cases hg : o.guard with
  | none => simp [hg] at hw ⊢; exact hw
  | some jw =>
    obtain ⟨j, want⟩ := jw
    simp only [hg] at hw ⊢
    unfold yielded
    cases hj : (ops[j]?).bind (·.dst) with
    | none => simp [hj] at hw ⊢; exact hw
    | some t =>
      simp only [hj] at hw
      have ht := h.tmps t
      simp only [List.getD_eq_getElem?_getD, Array.getD_eq_getD_getElem?] at ht
      split at hw
      · rename_i x hx
        rw [hx] at ht
        have e := ht.bool_inv
        have hlt : t < a.tmps.size := by rw [← h.len]; exact (List.getElem?_eq_some_iff.1 hx).1
        have e2 : a.tmps[t]? = some (.bool x) := by
          rw [Array.getElem?_eq_getElem hlt] at e ⊢
          simpa using e
        simp [e2] at hw ⊢
        exact hw
      · rename_i vs hx
        rw [hx] at ht
        obtain ⟨us, e, _⟩ := ht.tup_inv
        have hlt : t < a.tmps.size := by rw [← h.len]; exact (List.getElem?_eq_some_iff.1 hx).1
        have e2 : a.tmps[t]? = some (.tuple us.toArray) := by
          rw [Array.getElem?_eq_getElem hlt] at e ⊢
          simpa using e
        simp [e2] at hw ⊢
        exact hw
      · rename_i hx
        have hge : a.tmps.size ≤ t := by rw [← h.len]; exact List.getElem?_eq_none_iff.1 hx
        have e2 : a.tmps[t]? = none := Array.getElem?_eq_none hge
        simp [e2] at hw ⊢
        exact hw
      · cases hw

theorem step_wp {P E} (hE : EnvOk P E) {B G s a w} (h : Sim B G s a w) (hB : B.Ok) {ops : Array Oper} {i : Nat} {s' : AS} (hs : step1 E ops i s = some s') (hk : ∀ k, (ops[i]?).bind makes = some k → G.τ k = none)
    {Q : Exit → Act → World → Prop} {rest : List Nat} (hK : ∀ G' a' w', Sim B G' s' a' w' → TauLe G G' ((ops[i]?).bind makes) → wpOps P ops Q rest a' w') : wpOps P ops Q (i :: rest) a w := by
  unfold wpOps
  unfold step1 at hs
  cases ho : ops[i]? with
  | none =>
    simp only [ho] at hs ⊢
    cases hs
    exact hK G a w h (TauLe.refl _ _)
  | some o =>
    simp only [ho] at hs ⊢
    rw [ho] at hk hK
    split at hs
    · rename_i hw
      rw [want_ok h hw]
      simp only [if_true]
      exact .inl ((op_ok hE h hB o hk hs).wp hK)
    · rename_i hw
      rw [want_ok h hw]
      simp only [Bool.false_eq_true, if_false]
      cases hs
      exact hK G _ w (h.put o.dst (.of RepV_tup0)) (TauLe.refl _ _)
    · cases hs

theorem evSeq_wp {P E} (hE : EnvOk P E) {B} (hB : B.Ok) {ops : Array Oper} {Q : Exit → Act → World → Prop} {s' : AS} (hQ : ∀ G' a' w', Sim B G' s' a' w' → Q .normal a' w') :
    ∀ (l : List Nat) {G s a w}, Sim B G s a w → evSeq E ops l s = some s' → wpOps P ops Q l a w
  | [], G, s, a, w, h, he => by
    simp only [evSeq, Option.some.injEq] at he
    subst he
    exact hQ G a w h
  | i :: rest, G, s, a, w, h, he => by
    simp only [evSeq] at he
    cases hm : (ops[i]?).bind makes with
    | none =>
      simp only [hm, cond_true] at he
      cases hs : step1 E ops i s with
      | none => simp [hs] at he
      | some s1 =>
      simp only [hs] at he
      exact step_wp hE h hB hs (fun k hk => by rw [hm] at hk; cases hk) fun G' a' w' h' _ => evSeq_wp hE hB hQ rest h' he
    | some k =>
      simp only [hm] at he
      cases hn : s.noTag k <;> rw [hn] at he <;> simp only [cond_true, cond_false] at he
      · cases he
      cases hs : step1 E ops i s with
      | none => simp [hs] at he
      | some s1 =>
      simp only [hs] at he
      refine step_wp hE (h.drop hn) hB hs (fun k' hk => ?_) fun G' a' w' h' _ => evSeq_wp hE hB hQ rest h' he
      rw [hm] at hk; cases hk
      simp [Gh.drop]

end Go.Ev

/- The evaluator: operations that change places. -/
set_option linter.unusedVariables false
set_option linter.unusedSimpArgs false
namespace Go.Ev
open Go

theorem disj_iff {a b : List Nat} : disj a b = true ↔ ∀ x ∈ a, x ∉ b := by
  simp [disj, List.all_eq_true]

/-! ### what an operation reads -/

theorem evPure_congr {ty : Tys} {ρ ρ' : Operand → AV} {op : Op} (h : ∀ x ∈ op.operands.toList, ρ x = ρ' x) : evPure ty ρ op = evPure ty ρ' op := by
  cases op
  case build t parts =>
    have : (parts.toList.map fun p => (p.1, (ρ p.2).flat)) = parts.toList.map fun p => (p.1, (ρ' p.2).flat) := by
      apply List.map_congr_left
      intro p hp
      rw [h p.2 (by simp only [Op.operands, List.mem_map]; exact ⟨p, hp, rfl⟩)]
    simp only [evPure, this]
  case makeFunc f first cap =>
    have : (cap.toList.map fun x => (ρ x).share) = cap.toList.map fun x => (ρ' x).share := by
      apply List.map_congr_left
      intro x hx
      rw [h x (by simp only [Op.operands, Array.toList_append, List.mem_append]; exact .inr hx)]
    cases f <;> simp only [evPure, this]
  case slice t x lo hi mx =>
    have hx := h x (by simp [Op.operands])
    have hlo : lo.map ρ = lo.map ρ' := by
      cases lo with
      | none => rfl
      | some y => rw [Option.map_some, Option.map_some, h y (by simp [Op.operands])]
    have hhi : hi.map ρ = hi.map ρ' := by
      cases hi with
      | none => rfl
      | some y => rw [Option.map_some, Option.map_some, h y (by simp [Op.operands])]
    have hmx : mx.map ρ = mx.map ρ' := by
      cases mx with
      | none => rfl
      | some y => rw [Option.map_some, Option.map_some, h y (by simp [Op.operands])]
    simp only [evPure, hx, hlo, hhi, hmx]
  case call c =>
    obtain ⟨callee, args, argTypes⟩ := c
    cases callee with
    | builtin b =>
      have ha : ∀ x ∈ args.toList, ρ x = ρ' x := fun x hx => h x (by simp [Op.operands, Call.operands]; simpa using hx)
      cases b <;> simp only [evPure]
      case len =>
        generalize args.toList = l at ha
        generalize argTypes.toList = k
        match l, k with
        | [x], [t] => simp only [ha x (by simp)]
        | [], _ => rfl
        | [_], [] => rfl
        | [_], _ :: _ :: _ => rfl
        | _ :: _ :: _, _ => rfl
      case max =>
        generalize args.toList = l at ha
        match l with
        | [x, y] => simp only [ha x (by simp), ha y (by simp)]
        | [] => rfl
        | [_] => rfl
        | _ :: _ :: _ :: _ => rfl
      case min =>
        generalize args.toList = l at ha
        match l with
        | [x, y] => simp only [ha x (by simp), ha y (by simp)]
        | [] => rfl
        | [_] => rfl
        | _ :: _ :: _ :: _ => rfl
    | value f => rfl
    | invoke r m => rfl
  case move x => simp only [evPure, h x (by simp [Op.operands])]
  case assign x => simp only [evPure, h x (by simp [Op.operands])]
  case pick c a b => simp only [evPure, h c (by simp [Op.operands]), h a (by simp [Op.operands]), h b (by simp [Op.operands])]
  case nilCheck x => simp only [evPure, h x (by simp [Op.operands])]
  case binOp op t x y t2 => simp only [evPure, h x (by simp [Op.operands]), h y (by simp [Op.operands])]
  case unOp op t x => simp only [evPure, h x (by simp [Op.operands])]
  case convert a b x => simp only [evPure, h x (by simp [Op.operands])]
  case fieldAddr t x f => simp only [evPure, h x (by simp [Op.operands])]
  case field t x f => simp only [evPure, h x (by simp [Op.operands])]
  case indexAddr t x y => simp only [evPure, h x (by simp [Op.operands]), h y (by simp [Op.operands])]
  case sliceToArrayPointer t x => simp only [evPure, h x (by simp [Op.operands])]
  case index t x y => simp only [evPure, h x (by simp [Op.operands]), h y (by simp [Op.operands])]
  case extract x i => simp only [evPure, h x (by simp [Op.operands])]
  all_goals rfl

theorem evMake_congr {ty : Tys} {ρ ρ' : Operand → AV} {op : Op} (h : ∀ x ∈ op.operands.toList, ρ x = ρ' x) : evMake ty ρ op = evMake ty ρ' op := by
  cases op <;> try rfl
  rename_i t n parts
  have : (parts.toList.map fun p => (p.1, (ρ p.2).flat)) = parts.toList.map fun p => (p.1, (ρ' p.2).flat) := by
    apply List.map_congr_left
    intro p hp
    rw [h p.2 (by simp only [Op.operands, List.mem_map]; exact ⟨p, hp, rfl⟩)]
  simp only [evMake, this]

theorem looks_congr {m m' : Mem} : ∀ {ids : List Nat}, (∀ i ∈ ids, look m' i = look m i) → looks m' ids = looks m ids
  | [], _ => rfl
  | i :: r, h => by
    simp only [looks, h i (by simp), looks_congr (fun j hj => h j (List.mem_cons_of_mem _ hj))]

theorem effOf_congr {E : Env} {o : Oper} {ts ts' : List AV} {m m' : Mem} (h : ∀ x ∈ o.op.operands.toList, opv ts' x = opv ts x) (hm : ∀ id ∈ keysR ts o, look m' id = look m id) :
    effOf E o (opv ts') m' = effOf E o (opv ts) m ∧ keysR ts' o = keysR ts o ∧ keysW ts' o = keysW ts o := by
  obtain ⟨dst, op, oty, pos, after, guard⟩ := o
  simp only at h
  cases op
  case alloc t =>
    refine ⟨?_, rfl, rfl⟩
    simp only [effOf]
    cases E.ty t with
    | none => rfl
    | some ti =>
      cases dst with
      | none => rfl
      | some d => simp only [allocA, hm d (by simp [keysR])]
  case box t x =>
    have hx := h x (by simp [Op.operands])
    refine ⟨?_, rfl, rfl⟩
    simp only [effOf, hx]
    cases (opv ts x).laid with
    | none => rfl
    | some cs =>
      cases dst with
      | none => rfl
      | some d => simp only [allocA, hm d (by simp [keysR])]
  case load t x =>
    have hx := h x (by simp [Op.operands])
    refine ⟨?_, by simp only [keysR, hx], rfl⟩
    simp only [effOf, hx]
    cases E.ty t with
    | none => rfl
    | some ti =>
      simp only
      generalize hv : opv ts x = v
      cases v <;> try rfl
      rename_i id off
      simp only [hm id (by simp [keysR, hv])]
  case store t x y =>
    have hx := h x (by simp [Op.operands])
    have hy := h y (by simp [Op.operands])
    refine ⟨?_, by simp only [keysR, hx], by simp only [keysW, hx]⟩
    simp only [effOf, hx, hy]
    cases E.ty t with
    | none => rfl
    | some ti =>
      simp only
      generalize hv : opv ts x = v
      cases v <;> try rfl
      rename_i id off
      simp only [hm id (by simp [keysR, hv])]
  case call c =>
    obtain ⟨callee, args, argTypes⟩ := c
    cases callee with
    | value f =>
      have hf := h f (by simp [Op.operands, Call.operands])
      have ha : args.toList.map (opv ts') = args.toList.map (opv ts) := List.map_congr_left fun x hx => h x (by simp [Op.operands, Call.operands]; exact .inr (by simpa using hx))
      refine ⟨?_, by simp only [keysR, hf, ha], by simp only [keysW, hf, ha]⟩
      simp only [effOf, hf, ha]
      generalize hv : opv ts f = v
      cases v <;> try rfl
      rename_i g cap
      simp only [callA]
      rw [looks_congr (m' := m') (m := m) (fun i hi => hm i (by simp only [keysR, hv]; exact hi))]
    | invoke r n =>
      refine ⟨?_, rfl, rfl⟩
      simp only [effOf, evPure]
    | builtin b =>
      have ha : ∀ x ∈ args.toList, opv ts' x = opv ts x := fun x hx => h x (by simp [Op.operands, Call.operands]; simpa using hx)
      by_cases hb : b = .append
      · subst hb
        have hk : keysR ts' ⟨dst, .call { callee := .builtin .append, args, argTypes }, oty, pos, after, guard⟩ = keysR ts ⟨dst, .call { callee := .builtin .append, args, argTypes }, oty, pos, after, guard⟩ := by
          simp only [keysR]
          have : ∀ l : List Operand, (∀ x ∈ l, opv ts' x = opv ts x) → (l.flatMap fun x => match opv ts' x with | .view id _ _ => [id] | _ => []) = l.flatMap fun x => match opv ts x with | .view id _ _ => [id] | _ => [] := by
            intro l hl
            induction l with
            | nil => rfl
            | cons x l ih => simp only [List.flatMap_cons, hl x (by simp), ih (fun y hy => hl y (List.mem_cons_of_mem _ hy))]
          exact this _ ha
        refine ⟨?_, hk, rfl⟩
        simp only [effOf]
        have hm' : ∀ x ∈ args.toList, ∀ id off n, opv ts x = .view id off n → look m' id = look m id := by
          intro x hx id off n hv
          refine hm id ?_
          simp only [keysR, List.mem_flatMap]
          exact ⟨x, hx, by simp [hv]⟩
        generalize args.toList = l at ha hm'
        generalize argTypes.toList = k
        match l, k, dst with
        | [x, y], [t, t2], some d =>
          simp only [ha x (by simp), ha y (by simp)]
          cases elemOf E.ty t with
          | none => rfl
          | some ei =>
            simp only
            have : srcA E.ty t2 ei m' (opv ts y) = srcA E.ty t2 ei m (opv ts y) := by
              generalize hv : opv ts y = v
              cases v
              case view id off n => simp only [srcA, hm' y (by simp) id off n hv]
              case int k n => cases k <;> rfl
              all_goals rfl
            rw [this]
        | [x, y], [t, t2], none => rfl
        | [], _, _ => rfl
        | [_], _, _ => rfl
        | _ :: _ :: _ :: _, _, _ => rfl
        | [_, _], [], _ => rfl
        | [_, _], [_], _ => rfl
        | [_, _], _ :: _ :: _ :: _, _ => rfl
      · by_cases hb2 : b = .copy
        · subst hb2
          refine ⟨?_, rfl, rfl⟩
          simp only [effOf]
          generalize args.toList = l at ha
          generalize argTypes.toList = k
          match l, k with
          | [x, y], [t, t2] => simp only [ha x (by simp), ha y (by simp)]
          | [], _ => rfl
          | [_], _ => rfl
          | _ :: _ :: _ :: _, _ => rfl
          | [_, _], [] => rfl
          | [_, _], [_] => rfl
          | [_, _], _ :: _ :: _ :: _ => rfl
        have e : ∀ (ρ : Operand → AV) (m : Mem), effOf E ⟨dst, .call { callee := .builtin b, args, argTypes }, oty, pos, after, guard⟩ ρ m = (evPure E.ty ρ (.call { callee := .builtin b, args, argTypes })).map fun v => { val := v } := by
          intro ρ m
          cases b <;> first | rfl | exact absurd rfl hb | exact absurd rfl hb2
        have e2 : ∀ ts, keysR ts ⟨dst, .call { callee := .builtin b, args, argTypes }, oty, pos, after, guard⟩ = [] := by
          intro ts
          cases b <;> first | rfl | exact absurd rfl hb
        have e3 : ∀ ts, keysW ts ⟨dst, .call { callee := .builtin b, args, argTypes }, oty, pos, after, guard⟩ = [] := by
          intro ts
          cases b <;> first | rfl | exact absurd rfl hb | exact absurd rfl hb2
        refine ⟨?_, by rw [e2, e2], by rw [e3, e3]⟩
        rw [e, e, evPure_congr h]
  case buildSlice t n ps =>
    refine ⟨?_, rfl, rfl⟩
    simp only [effOf, evMake_congr h]
  all_goals
    refine ⟨?_, rfl, rfl⟩
    simp only [effOf, evPure_congr h]

/-! ### what an operation writes -/

/-- what a write is -/
structure WrOk (ts : List AV) (o : Oper) (e : Eff) : Prop where
  key : wkey ∈ keysW ts o
  upd : e.upd = []
  ins : e.ins = none
  rt : e.rt = none

theorem copyA_shape {x y : AV} {e : Eff} (h : copyA x y = some e) : e.upd = [] ∧ e.ins = none ∧ e.rt = none := by
  have key : ∀ {k lo xs}, copyL k lo xs y = some e → e.upd = [] ∧ e.ins = none ∧ e.rt = none := by
    intro k lo xs h
    unfold copyL at h
    split at h
    · rename_i sz ys st _
      cases hb : ((sz == 1 || (st == .nil && ys.isEmpty)) && ys.all AV.scal) <;> rw [hb] at h <;> simp only [cond_true, cond_false] at h
      · cases h
      · cases h; exact ⟨rfl, rfl, rfl⟩
    · cases h
  unfold copyA at h
  split at h
  · rename_i sz xs k
    cases hb : sz == 1 <;> rw [hb] at h <;> simp only [cond_true, cond_false] at h
    · cases h
    · exact key h
  · rename_i sz xs k lo
    cases hb : sz == 1 <;> rw [hb] at h <;> simp only [cond_true, cond_false] at h
    · cases h
    · exact key h
  · cases h

theorem appendA_shape {ei : TI} {d : Nat} {x : AV} {ys : List AV} {e : Eff} (h : appendA ei d x ys = some e) : e.upd = [] ∧ e.ins = none ∧ e.wr = none := by
  cases x <;> try (simp [appendA] at h; done)
  rename_i sz xs st
  simp only [appendA] at h
  generalize ((sz == ei.size || (st == .nil && xs.isEmpty)) && ile (((xs.length + ys.length) * ei.bytes : Nat) : Int) 140737488355328 && ile ((xs.length + ys.length : Nat) : Int) 140737488355328) = bb at h
  cases bb <;> simp only [cond_true, cond_false] at h
  · cases h
  cases st <;> simp only at h
  · cases hq : ys.isEmpty <;> rw [hq] at h <;> simp only [cond_true, cond_false] at h <;> cases h <;> exact ⟨rfl, rfl, rfl⟩
  · cases hq : ys.isEmpty <;> rw [hq] at h <;> simp only [cond_true, cond_false] at h <;> cases h <;> exact ⟨rfl, rfl, rfl⟩
  · cases hq : ys.isEmpty <;> rw [hq] at h <;> simp only [cond_true, cond_false] at h
    · cases h
    · cases h; exact ⟨rfl, rfl, rfl⟩
  · cases h; exact ⟨rfl, rfl, rfl⟩
  · cases h

theorem effKeys {E : Env} {o : Oper} {ts : List AV} {m : Mem} {e : Eff} (h : effOf E o (opv ts) m = some e) :
    (∀ p ∈ e.upd, p.1 ∈ keysW ts o) ∧ (∀ d cs, e.ins = some (d, cs) → d ∈ keysW ts o) ∧ (isAppend o = false → e.rt = none) ∧ (e.wr = none ∨ WrOk ts o e) := by
  obtain ⟨dst, op, oty, pos, after, guard⟩ := o
  have plain : ∀ (v : AV), e = { val := v } → (∀ p ∈ e.upd, p.1 ∈ keysW ts ⟨dst, op, oty, pos, after, guard⟩) ∧ (∀ d cs, e.ins = some (d, cs) → d ∈ keysW ts ⟨dst, op, oty, pos, after, guard⟩) ∧ (isAppend ⟨dst, op, oty, pos, after, guard⟩ = false → e.rt = none) ∧ (e.wr = none ∨ WrOk ts ⟨dst, op, oty, pos, after, guard⟩ e) := by
    rintro v rfl
    exact ⟨fun p hp => by simp at hp, fun d cs h => by simp at h, fun _ => rfl, .inl rfl⟩
  have alloc_ : ∀ (d : Nat) cs, allocA m d cs = some e → e.upd = [] ∧ e.ins = some (d, cs) ∧ e.rt = none ∧ e.wr = none := by
    intro d cs ha
    unfold allocA at ha
    split at ha
    · cases ha
    · cases ha; exact ⟨rfl, rfl, rfl, rfl⟩
  cases op
  case alloc t =>
    simp only [effOf] at h
    split at h
    · rename_i ti d h1 h2
      obtain ⟨k1, k2, k3, k4⟩ := alloc_ _ _ h
      rw [k1, k2, k3, k4]
      refine ⟨fun p hp => by simp at hp, fun d' cs' h => ?_, fun _ => rfl, .inl rfl⟩
      cases h; simp [keysW]
    · cases h
  case box t x =>
    simp only [effOf] at h
    split at h
    · rename_i cs d h1 h2
      obtain ⟨k1, k2, k3, k4⟩ := alloc_ _ _ h
      rw [k1, k2, k3, k4]
      refine ⟨fun p hp => by simp at hp, fun d' cs' h => ?_, fun _ => rfl, .inl rfl⟩
      cases h; simp [keysW]
    · cases h
  case load t x =>
    simp only [effOf] at h
    cases ht : E.ty t with
    | none => simp [ht] at h
    | some ti =>
    simp only [ht] at h
    split at h
    · split at h
      · cases hb : ((List.take ti.size (List.drop (_ : Nat) (_ : List AV))).length == ti.size) <;> rw [hb] at h <;> simp only [cond_true, cond_false] at h
        · cases h
        · split at h
          · cases h; exact plain _ rfl
          · cases hs : ti.size == 1 <;> rw [hs] at h <;> simp only [cond_true, cond_false] at h
            · cases h
            · cases h; exact plain _ rfl
      · cases h
    · rename_i el hel
      cases hf : fits ti el <;> rw [hf] at h <;> simp only [cond_true, cond_false] at h
      · cases h
      · cases h; exact plain _ rfl
    · rename_i kk ii el hel
      cases hf : fits ti el <;> rw [hf] at h <;> simp only [cond_true, cond_false] at h
      · cases h
      · cases h; exact plain _ rfl
    · cases h
  case store t x y =>
    simp only [effOf] at h
    cases ht : E.ty t with
    | none => simp [ht] at h
    | some ti =>
    simp only [ht] at h
    split at h
    · rename_i id off hid
      cases hl : look m id with
      | none => simp [hl] at h
      | some cs =>
      simp only [hl] at h
      generalize (opv ts y) = yy at h
      cases hb : (yy.known && !yy.isTup && yy.cells.length == ti.size && Nat.ble (off + ti.size) cs.length) <;> rw [hb] at h <;> simp only [cond_true, cond_false] at h
      · cases h
      · cases h
        exact ⟨fun p hp => by simp at hp; subst hp; simp [keysW, hid], fun d cs h => by simp at h, fun _ => rfl, .inl rfl⟩
    · rename_i kk ii el hel
      generalize (opv ts y) = yy at h
      cases hb : (ti.size == 1 && yy.scal) <;> rw [hb] at h <;> simp only [cond_true, cond_false] at h
      · cases h
      · cases h
        exact ⟨fun p hp => by simp at hp, fun d cs h => by simp at h, fun _ => rfl, .inr ⟨by simp [keysW, hel], rfl, rfl, rfl⟩⟩
    · cases h
  case call c =>
    obtain ⟨callee, args, argTypes⟩ := c
    cases callee with
    | value f =>
      simp only [effOf] at h
      split at h
      · rename_i g cap hg
        unfold callA at h
        cases hl : looks m (ptrIds (args.toList.map (opv ts) ++ cap)) with
        | none => simp [hl] at h
        | some passed =>
        simp only [hl] at h
        split at h
        · rename_i r passed' hsp
          cases hb : passed'.length == (ptrIds (args.toList.map (opv ts) ++ cap)).length <;> rw [hb] at h <;> simp only [cond_true, cond_false] at h
          · cases h
          · cases h
            refine ⟨fun p hp => ?_, fun d cs h => by simp at h, fun _ => rfl, .inl rfl⟩
            simp only [keysW, hg]
            exact (List.of_mem_zip hp).1
        · cases h
      · cases h
    | invoke r n => simp [effOf, evPure] at h
    | builtin b =>
      by_cases hb : b = .append
      · subst hb
        simp only [effOf] at h
        have hna : isAppend ⟨dst, .call { callee := .builtin .append, args, argTypes }, oty, pos, after, guard⟩ = true := rfl
        split at h
        · rename_i x y t t2 d h1 h2
          split at h
          · rename_i ei hel
            cases his : isSlice E.ty t <;> rw [his] at h <;> simp only [cond_true, cond_false] at h
            · cases h
            split at h
            · rename_i ys hys
              have := appendA_shape h
              rw [this.1, this.2.1]
              exact ⟨fun p hp => by simp at hp, fun d cs h => by simp at h, fun h => by (rw [hna] at h; cases h), .inl this.2.2⟩
            · cases h
          · cases h
        · cases h
      · by_cases hb2 : b = .copy
        · subst hb2
          simp only [effOf] at h
          split at h
          · rename_i x y t t2 h1 h2
            split at h
            · rename_i ei hel
              cases his : (isSlice E.ty t && ei.size == 1) <;> rw [his] at h <;> simp only [cond_true, cond_false] at h
              · cases h
              obtain ⟨k1, k2, k3⟩ := copyA_shape h
              refine ⟨fun p hp => by (rw [k1] at hp; simp at hp), fun d cs h => by (rw [k2] at h; cases h), fun _ => k3, .inr ⟨by simp [keysW], k1, k2, k3⟩⟩
            · cases h
          · cases h
        have e1 : ∀ (ρ : Operand → AV) (m : Mem), effOf E ⟨dst, .call { callee := .builtin b, args, argTypes }, oty, pos, after, guard⟩ ρ m = (evPure E.ty ρ (.call { callee := .builtin b, args, argTypes })).map fun v => { val := v } := by
          intro ρ m
          cases b <;> first | rfl | exact absurd rfl hb | exact absurd rfl hb2
        rw [e1, Option.map_eq_some_iff] at h
        obtain ⟨r, _, rfl⟩ := h
        exact plain r rfl
  case buildSlice t n ps =>
    simp only [effOf, Option.map_eq_some_iff] at h
    obtain ⟨r, _, rfl⟩ := h
    exact plain r rfl
  all_goals
    simp only [effOf, Option.map_eq_some_iff] at h
    obtain ⟨r, _, rfl⟩ := h
    exact plain r rfl

end Go.Ev

/- The evaluator: operations that change places (2). -/
set_option linter.unusedVariables false
set_option linter.unusedSimpArgs false
namespace Go.Ev
open Go

def eff1 (E : Env) (ops : Array Oper) (o : Oper) (s : AS) : Option Eff :=
  match wantA ops s.tmps o with
  | some true => effOf E o (opv s.tmps) s.mem
  | some false => some { val := .tup [] }
  | none => none

theorem step1_eff {E : Env} {ops : Array Oper} {i : Nat} {o : Oper} (h : ops[i]? = some o) (s : AS) : step1 E ops i s = (eff1 E ops o s).map fun e => e.app o.dst s := by
  unfold step1 eff1 evOp
  simp only [h]
  cases wantA ops s.tmps o with
  | none => rfl
  | some b => cases b <;> rfl

theorem mem_reads {ops : Array Oper} {o : Oper} {x : Operand} (h : x ∈ o.op.operands.toList) {t : Nat} (ht : x = .tmp t) : t ∈ readsOf ops o := by
  subst ht
  simp only [readsOf, List.mem_append, List.mem_flatMap]
  exact .inl ⟨_, h, by simp [Operand.tmps]⟩

theorem eff1_congr {E : Env} {ops : Array Oper} {o : Oper} {s s' : AS} (ht : ∀ x ∈ readsOf ops o, s'.tmps[x]? = s.tmps[x]?) (hm : ∀ id ∈ keysR s.tmps o, look s'.mem id = look s.mem id) :
    eff1 E ops o s' = eff1 E ops o s ∧ keysR s'.tmps o = keysR s.tmps o ∧ keysW s'.tmps o = keysW s.tmps o := by
  have hop : ∀ x ∈ o.op.operands.toList, opv s'.tmps x = opv s.tmps x := by
    intro x hx
    cases x with
    | tmp t => simp only [opv, List.getD_eq_getElem?_getD, ht t (mem_reads hx rfl)]
    | _ => rfl
  obtain ⟨h1, h2, h3⟩ := effOf_congr (E := E) hop hm
  have hw : wantA ops s'.tmps o = wantA ops s.tmps o := by
    unfold wantA
    cases hg : o.guard with
    | none => rfl
    | some jw =>
      obtain ⟨j, want⟩ := jw
      simp only
      cases hj : (ops[j]?).bind (·.dst) with
      | none => rfl
      | some t =>
        simp only
        rw [ht t]
        simp only [readsOf, hg, List.mem_append]
        exact .inr (by simp [hj])
  exact ⟨by simp only [eff1, hw, h1], h2, h3⟩

theorem eff1_keys {E : Env} {ops : Array Oper} {o : Oper} {s : AS} {e : Eff} (h : eff1 E ops o s = some e) :
    (∀ p ∈ e.upd, p.1 ∈ keysW s.tmps o) ∧ (∀ d cs, e.ins = some (d, cs) → d ∈ keysW s.tmps o) ∧ (isAppend o = false → e.rt = none) ∧ (e.wr = none ∨ WrOk s.tmps o e) := by
  unfold eff1 at h
  split at h
  · exact effKeys h
  · cases h; exact ⟨fun p hp => by simp at hp, fun d cs h => by simp at h, fun _ => rfl, .inl rfl⟩
  · cases h

/-! ### effects that change places -/

/-- an effect on memory and one slot alone -/
def Eff.still (e : Eff) : Prop := e.rt = none ∧ e.wr = none

def Eff.memOf (e : Eff) (m : Mem) : Mem := match e.ins with | some (d, cs) => insM (upds m e.upd) d cs | none => upds m e.upd

theorem app_mem {e : Eff} (h : e.still) (dst : Option Nat) (s : AS) : (e.app dst s).mem = e.memOf s.mem := by
  obtain ⟨v, u, i, r, x⟩ := e
  obtain ⟨h1, h2⟩ := h
  simp only at h1 h2; subst h1 h2
  cases dst <;> cases i <;> rfl

theorem app_tmps {e : Eff} (h : e.still) (dst : Option Nat) (s : AS) : (e.app dst s).tmps = match dst with | some d => s.tmps.set d e.val | none => s.tmps := by
  obtain ⟨v, u, i, r, x⟩ := e
  obtain ⟨h1, h2⟩ := h
  simp only at h1 h2; subst h1 h2
  cases dst <;> cases i <;> rfl

theorem AS.ext' {s t : AS} (h1 : s.tmps = t.tmps) (h2 : s.mem = t.mem) : s = t := by
  cases s; cases t; simp_all

theorem look_insM_ne (m : Mem) {d i : Nat} (cs : List AV) (h : i ≠ d) : look (insM m d cs) i = look m i := by
  induction m with
  | nil => simp [insM, look, Ne.symm h]
  | cons p r ih =>
    obtain ⟨j, c⟩ := p
    simp only [insM]
    split
    · simp [look, Ne.symm h]
    · simp only [look, ih]

theorem look_upds_ne : ∀ (l : List (Nat × List AV)) (m : Mem) {i : Nat}, (∀ p ∈ l, p.1 ≠ i) → look (upds m l) i = look m i
  | [], m, i, _ => rfl
  | p :: r, m, i, h => by
    simp only [upds]
    rw [look_upds_ne r _ (fun q hq => h q (List.mem_cons_of_mem _ hq)), look_upd, if_neg (Ne.symm (h p (by simp)))]

theorem look_memOf {e : Eff} {m : Mem} {i : Nat} (h1 : ∀ p ∈ e.upd, p.1 ≠ i) (h2 : ∀ d cs, e.ins = some (d, cs) → d ≠ i) : look (e.memOf m) i = look m i := by
  unfold Eff.memOf
  cases hi : e.ins with
  | none => exact look_upds_ne _ _ h1
  | some dc =>
    obtain ⟨d, cs⟩ := dc
    simp only
    rw [look_insM_ne _ _ (Ne.symm (h2 d cs hi)), look_upds_ne _ _ h1]

theorem upd_comm (m : Mem) {i j : Nat} (c d : List AV) (h : i ≠ j) : upd (upd m i c) j d = upd (upd m j d) i c := by
  induction m with
  | nil => rfl
  | cons p r ih =>
    obtain ⟨k, x⟩ := p
    by_cases h1 : k = i
    · subst h1
      simp [upd, h]
    · by_cases h2 : k = j
      · subst h2; simp [upd, h1]
      · simp [upd, h1, h2, ih]

theorem upds_upd : ∀ (l : List (Nat × List AV)) (m : Mem) {j : Nat} (d : List AV), (∀ p ∈ l, p.1 ≠ j) → upds (upd m j d) l = upd (upds m l) j d
  | [], m, j, d, _ => rfl
  | p :: r, m, j, d, h => by
    simp only [upds]
    rw [upd_comm _ _ _ (Ne.symm (h p (by simp))), upds_upd r _ d (fun q hq => h q (List.mem_cons_of_mem _ hq))]

theorem upds_comm : ∀ (k : List (Nat × List AV)) (l : List (Nat × List AV)) (m : Mem), (∀ p ∈ l, ∀ q ∈ k, p.1 ≠ q.1) → upds (upds m l) k = upds (upds m k) l
  | [], l, m, _ => rfl
  | q :: k, l, m, h => by
    simp only [upds]
    rw [← upds_upd l m q.2 (fun p hp => h p hp q (by simp)), upds_comm k l _ (fun p hp q' hq => h p hp q' (List.mem_cons_of_mem _ hq))]

theorem upd_insM (m : Mem) {i d : Nat} (c cs : List AV) (h : i ≠ d) : upd (insM m d cs) i c = insM (upd m i c) d cs := by
  induction m with
  | nil => simp [insM, upd, Ne.symm h]
  | cons p r ih =>
    obtain ⟨j, x⟩ := p
    by_cases h1 : j = i
    · subst h1
      by_cases h2 : d < j
      · simp [insM, upd, h2, Ne.symm h]
      · simp [insM, upd, h2]
    · by_cases h2 : d < j
      · simp [insM, upd, h1, h2, Ne.symm h]
      · simp [insM, upd, h1, h2, ih]

theorem upds_insM : ∀ (l : List (Nat × List AV)) (m : Mem) {d : Nat} (cs : List AV), (∀ p ∈ l, p.1 ≠ d) → upds (insM m d cs) l = insM (upds m l) d cs
  | [], m, d, cs, _ => rfl
  | p :: r, m, d, cs, h => by
    simp only [upds]
    rw [upd_insM _ _ _ (h p (by simp)), upds_insM r _ cs (fun q hq => h q (List.mem_cons_of_mem _ hq))]

theorem insM_comm (m : Mem) {a b : Nat} (c d : List AV) (h : a ≠ b) : insM (insM m a c) b d = insM (insM m b d) a c := by
  induction m with
  | nil =>
    simp only [insM]
    by_cases h1 : b < a
    · rw [if_pos h1, if_neg (by omega)]
    · rw [if_neg h1, if_pos (by omega)]
  | cons p r ih =>
    obtain ⟨j, x⟩ := p
    by_cases h1 : a < j
    · by_cases h2 : b < j
      · simp only [insM, if_pos h1, if_pos h2]
        by_cases h3 : b < a
        · simp only [if_pos h3, if_neg (show ¬ a < b by omega), if_pos h1]
        · simp only [if_neg h3, if_pos (show a < b by omega), if_pos h2]
      · simp only [insM, if_pos h1, if_neg h2, if_neg (show ¬ b < a by omega)]
    · by_cases h2 : b < j
      · simp only [insM, if_neg h1, if_pos h2, if_neg (show ¬ a < b by omega)]
      · simp only [insM, if_neg h1, if_neg h2, ih]

theorem memOf_comm {e f : Eff} (m : Mem) (h1 : ∀ p ∈ e.upd, ∀ q ∈ f.upd, p.1 ≠ q.1) (h2 : ∀ p ∈ e.upd, ∀ d cs, f.ins = some (d, cs) → p.1 ≠ d) (h3 : ∀ q ∈ f.upd, ∀ d cs, e.ins = some (d, cs) → q.1 ≠ d)
    (h4 : ∀ a c b d, e.ins = some (a, c) → f.ins = some (b, d) → a ≠ b) : f.memOf (e.memOf m) = e.memOf (f.memOf m) := by
  unfold Eff.memOf
  cases he : e.ins with
  | none =>
    cases hf : f.ins with
    | none => simp only; exact upds_comm _ _ _ h1
    | some bd =>
      obtain ⟨b, d⟩ := bd
      simp only
      rw [upds_insM _ _ _ (fun p hp => h2 p hp b d hf), upds_comm _ _ _ h1]
  | some ac =>
    obtain ⟨a, c⟩ := ac
    cases hf : f.ins with
    | none =>
      simp only
      rw [upds_insM _ _ _ (fun q hq => h3 q hq a c he), upds_comm _ _ _ h1]
    | some bd =>
      obtain ⟨b, d⟩ := bd
      simp only
      rw [upds_insM _ _ _ (fun q hq => h3 q hq a c he), upds_insM _ _ _ (fun p hp => h2 p hp b d hf), upds_comm _ _ _ h1, insM_comm _ _ _ (h4 a c b d he hf)]

theorem app_comm {e f : Eff} {da db : Option Nat} (s : AS) (he : e.still) (hf : f.still) (hd : ∀ a b, da = some a → db = some b → a ≠ b)
    (h1 : ∀ p ∈ e.upd, ∀ q ∈ f.upd, p.1 ≠ q.1) (h2 : ∀ p ∈ e.upd, ∀ d cs, f.ins = some (d, cs) → p.1 ≠ d) (h3 : ∀ q ∈ f.upd, ∀ d cs, e.ins = some (d, cs) → q.1 ≠ d)
    (h4 : ∀ a c b d, e.ins = some (a, c) → f.ins = some (b, d) → a ≠ b) : f.app db (e.app da s) = e.app da (f.app db s) := by
  apply AS.ext'
  · rw [app_tmps hf, app_tmps he, app_tmps he, app_tmps hf]
    cases da with
    | none => rfl
    | some a =>
      cases db with
      | none => rfl
      | some b => exact List.set_comm _ _ (hd a b rfl rfl)
  · rw [app_mem hf, app_mem he, app_mem he, app_mem hf]
    exact memOf_comm _ h1 h2 h3 h4

end Go.Ev

/- The evaluator: operations that change places (3). -/
set_option linter.unusedVariables false
set_option linter.unusedSimpArgs false
namespace Go.Ev
open Go

theorem set_get_ne {l : List AV} {d x : Nat} {v : AV} (h : x ≠ d) : (l.set d v)[x]? = l[x]? := by
  rw [List.getElem?_set_ne (Ne.symm h)]

theorem app_get {e : Eff} (h : e.still) {dst : Option Nat} (s : AS) {x : Nat} (hx : x ∉ dst.toList) : (e.app dst s).tmps[x]? = s.tmps[x]? := by
  rw [app_tmps h]
  cases dst with
  | none => rfl
  | some d => exact set_get_ne (by simpa using hx)

theorem app_look {e : Eff} (h : e.still) {dst : Option Nat} (s : AS) {i : Nat} {K : List Nat} (hi : i ∉ K) (h1 : ∀ p ∈ e.upd, p.1 ∈ K) (h2 : ∀ d cs, e.ins = some (d, cs) → d ∈ K) : look (e.app dst s).mem i = look s.mem i := by
  rw [app_mem h]
  exact look_memOf (fun p hp e => hi (e ▸ h1 p hp)) (fun d cs hd e => hi (e ▸ h2 d cs hd))

theorem swap_plain {E : Env} {ops : Array Oper} {a b : Oper} {t : AS} {ea eb : Eff} (ha : eff1 E ops a t = some ea) (hra : ea.still) (hb : eff1 E ops b (ea.app a.dst t) = some eb) (hrb : eb.still)
    (h1 : ∀ x ∈ a.dst.toList, x ∉ readsOf ops b ++ b.dst.toList) (h2 : ∀ x ∈ b.dst.toList, x ∉ readsOf ops a)
    (h3 : ∀ x ∈ keysR t.tmps a ++ keysW t.tmps a, x ∉ keysW (ea.app a.dst t).tmps b) (h4 : ∀ x ∈ keysW t.tmps a, x ∉ keysR (ea.app a.dst t).tmps b) :
    eff1 E ops b t = some eb ∧ keysR t.tmps b = keysR (ea.app a.dst t).tmps b ∧ keysW t.tmps b = keysW (ea.app a.dst t).tmps b ∧
    eff1 E ops a (eb.app b.dst t) = some ea ∧ keysR (eb.app b.dst t).tmps a = keysR t.tmps a ∧ keysW (eb.app b.dst t).tmps a = keysW t.tmps a ∧
    ea.app a.dst (eb.app b.dst t) = eb.app b.dst (ea.app a.dst t) := by
  obtain ⟨ka1, ka2, _⟩ := eff1_keys ha
  obtain ⟨kb1, kb2, _⟩ := eff1_keys hb
  have cb := eff1_congr (E := E) (ops := ops) (o := b) (s := ea.app a.dst t) (s' := t) (fun x hx => (app_get hra t (fun hd => h1 x hd (List.mem_append_left _ hx))).symm)
    (fun id hid => (app_look hra t (fun hk => h4 id hk hid) ka1 ka2).symm)
  have ca := eff1_congr (E := E) (ops := ops) (o := a) (s := t) (s' := eb.app b.dst t) (fun x hx => app_get hrb t (fun hd => h2 x hd hx))
    (fun id hid => app_look hrb t (h3 id (List.mem_append_left _ hid)) kb1 kb2)
  refine ⟨cb.1.trans hb, cb.2.1, cb.2.2, ca.1.trans ha, ca.2.1, ca.2.2, ?_⟩
  refine (app_comm t hra hrb ?_ ?_ ?_ ?_ ?_).symm
  · intro x y hx hy e
    subst e
    exact h1 x (by simp [hx]) (by simp [hy])
  · intro p hp q hq e
    exact h3 p.1 (List.mem_append_right _ (ka1 p hp)) (e ▸ kb1 q hq)
  · intro p hp d cs hd e
    exact h3 p.1 (List.mem_append_right _ (ka1 p hp)) (e ▸ kb2 d cs hd)
  · intro q hq d cs hd e
    exact h3 d (List.mem_append_right _ (ka2 d cs hd)) (e ▸ kb1 q hq)
  · intro x c y d hx hy e
    exact h3 x (List.mem_append_right _ (ka2 x c hx)) (e ▸ kb2 y d hy)

/-! ### beside an append -/

theorem retag_const (k : Tag) (v : Value) : (ofVal v).retag k = ofVal v := by
  unfold ofVal; split <;> rfl

theorem opv_retag (k : Tag) (ts : List AV) (x : Operand) : opv (ts.map (AV.retag k)) x = (opv ts x).retag k := by
  cases x with
  | tmp t =>
    simp only [opv, List.getD_eq_getElem?_getD, List.getElem?_map]
    cases ts[t]? <;> rfl
  | const v => exact (retag_const k v).symm
  | global g => rfl
  | func f => rfl

theorem bound_retag (k : Tag) (d : Nat) (v : Option AV) (top : Nat) : boundA d (v.map (AV.retag k)) top = boundA d v top := by
  cases v with
  | none => rfl
  | some v =>
    cases v <;> try rfl
    case sl sz xs st =>
      cases st <;> try rfl
      all_goals (simp only [Option.map_some, AV.retag]; split <;> rfl)
    case wp => simp only [Option.map_some, AV.retag]; split <;> rfl

theorem cutSt_retag (k : Tag) (sz : Nat) (xs ys : List AV) (st : St) (l : Nat) (al : Bool) : (AV.sl sz ys (cutSt sz st l al)).retag k = AV.sl sz ys (cutSt sz (match (AV.sl sz xs st).retag k with | .sl _ _ st' => st' | _ => st) l al) := by
  cases st with
  | nil => rfl
  | sh => rfl
  | full => simp only [cutSt, AV.retag]; cases al <;> rfl
  | own k' =>
    simp only [cutSt, AV.retag]
    by_cases e : k' = k
    · rw [if_pos e]
      cases sz == 1 <;> simp only [cond_true, cond_false]
      rw [if_pos e]
    · rw [if_neg e]
      cases sz == 1 <;> simp only [cond_true, cond_false]
      rw [if_neg e]
  | win k' lo =>
    simp only [cutSt, AV.retag]
    by_cases e : k' = k
    · rw [if_pos e]
      cases sz == 1 <;> simp only [cond_true, cond_false]
      rw [if_pos e]
    · rw [if_neg e]
      cases sz == 1 <;> simp only [cond_true, cond_false]
      rw [if_neg e]

theorem slice_retag (ty : Tys) (k : Tag) (t : TypeId) (x : AV) (lo hi mx : Option AV) : sliceA ty t (x.retag k) (lo.map (AV.retag k)) (hi.map (AV.retag k)) (mx.map (AV.retag k)) = (sliceA ty t x lo hi mx).map (AV.retag k) := by
  have h1 := bound_retag k
  cases x
  case sl sz xs st =>
    obtain ⟨st', hst⟩ : ∃ st', (AV.sl sz xs st).retag k = .sl sz xs st' := by
      cases st <;> simp only [AV.retag] <;> first | exact ⟨_, rfl⟩ | (split <;> exact ⟨_, rfl⟩)
    have hcut : ∀ ys l al, (AV.sl sz ys (cutSt sz st l al)).retag k = .sl sz ys (cutSt sz st' l al) := by
      intro ys l al
      rw [cutSt_retag k sz xs, hst]
    have hbool : (st' == St.nil) = (st == St.nil) ∧ (st' != St.nil) = (st != St.nil) := by
      cases st <;> simp only [AV.retag, AV.sl.injEq, true_and] at hst <;> first | (subst hst; exact ⟨rfl, rfl⟩) | (split at hst <;> (cases hst; exact ⟨rfl, rfl⟩))
    have hnil : (st == St.nil) = true → st' = .nil ∧ st = .nil := by
      intro h
      have e : st = .nil := by simpa using h
      subst e
      simp only [AV.retag, AV.sl.injEq, true_and] at hst
      exact ⟨hst.symm, rfl⟩
    rw [hst]
    simp only [sliceA, hbool.1, hbool.2, h1, Option.isSome_map, Option.isNone_map]
    cases elemOf ty t with
    | none => rfl
    | some ei =>
    simp only
    generalize (isSlice ty t && ((sz == ei.size && st != .nil) || (st == .nil && xs.isEmpty))) = b
    cases b <;> simp only [cond_true, cond_false]
    · rfl
    cases boundA xs.length hi xs.length with
    | none => rfl
    | some h =>
    simp only
    cases boundA 0 lo h with
    | none => rfl
    | some l =>
    simp only
    cases mx with
    | none =>
      simp only [Option.map_none]
      cases hq : st == St.nil <;> simp only [cond_true, cond_false]
      · rw [Option.map_some, hcut]
      · obtain ⟨e1, e2⟩ := hnil hq
        subst e1 e2; rfl
    | some m =>
      simp only [Option.map_some]
      have := h1 0 (some m) h
      simp only [Option.map_some] at this
      simp only [this]
      cases boundA 0 (some m) h with
      | none => rfl
      | some m' =>
        simp only
        generalize (hi.isSome && m' == h) = b2
        cases b2 <;> simp only [cond_true, cond_false]
        · rfl
        cases hq : st == St.nil <;> simp only [cond_true, cond_false]
        · rfl
        · obtain ⟨e1, e2⟩ := hnil hq
          subst e1 e2; rfl
  case str s =>
    simp only [AV.retag, sliceA, h1]
    cases mx with
    | some m => rfl
    | none =>
      simp only [Option.map_none]
      cases boundA s.length hi s.length with
      | none => rfl
      | some h =>
        simp only
        cases boundA 0 lo h with
        | none => rfl
        | some l =>
          simp only
          cases isStr ty t <;> rfl
  case ptr id off =>
    simp only [AV.retag, sliceA, h1]
    cases mx with
    | none =>
      simp only [Option.map_none]
      cases arrLen ty t with
      | none => rfl
      | some n =>
        cases elemOf ty t with
        | none => rfl
        | some ei =>
          simp only
          cases boundA n hi n with
          | none => rfl
          | some h =>
            simp only
            cases boundA 0 lo h with
            | none => rfl
            | some l => rfl
    | some m =>
      simp only [Option.map_some]
      cases arrLen ty t with
      | none => rfl
      | some n =>
        cases elemOf ty t with
        | none => rfl
        | some ei => rfl
  case wp k' i e =>
    simp only [AV.retag]
    split <;> rfl
  all_goals rfl

theorem insM_map (f : List AV → List AV) (m : Mem) (d : Nat) (cs : List AV) : (insM m d cs).map (fun p => (p.1, f p.2)) = insM (m.map fun p => (p.1, f p.2)) d (f cs) := by
  induction m with
  | nil => rfl
  | cons p r ih =>
    obtain ⟨j, c⟩ := p
    simp only [insM, List.map_cons]
    split
    · rfl
    · rw [List.map_cons, ih]

theorem look_retag (k : Tag) (m : Mem) (i : Nat) : look (m.map fun p => (p.1, p.2.map (AV.retag k))) i = (look m i).map (List.map (AV.retag k)) := look_map _ m i

theorem want_retag (ops : Array Oper) (k : Tag) (ts : List AV) (o : Oper) : wantA ops (ts.map (AV.retag k)) o = wantA ops ts o := by
  unfold wantA
  cases o.guard with
  | none => rfl
  | some jw =>
    obtain ⟨j, want⟩ := jw
    simp only
    cases (ops[j]?).bind (·.dst) with
    | none => rfl
    | some t =>
      simp only [List.getElem?_map]
      cases ts[t]? with
      | none => rfl
      | some v =>
        cases v <;> try rfl
        case sl sz xs st =>
          cases st with
          | own k' =>
            simp only [Option.map_some, AV.retag]
            by_cases e : k' = k
            · rw [if_pos e]
            · rw [if_neg e]
          | win k' lo =>
            simp only [Option.map_some, AV.retag]
            by_cases e : k' = k
            · rw [if_pos e]
            · rw [if_neg e]
          | _ => rfl
        case wp k' i el =>
          simp only [Option.map_some, AV.retag]
          by_cases e : k' = k
          · rw [if_pos e]
          · rw [if_neg e]

/-- zero values know no tail -/
def ZeroOk (ty : Tys) : Prop := ∀ t ti, ty t = some ti → ∃ vs : List Value, ti.zero = vs.map ofVal

theorem zero_retag {ty : Tys} (h : ZeroOk ty) {t ti} (ht : ty t = some ti) (k : Tag) : ti.zero.map (AV.retag k) = ti.zero := by
  obtain ⟨vs, e⟩ := h t ti ht
  rw [e, List.map_map]
  exact List.map_congr_left fun v _ => retag_const k v

theorem put_retag (k : Tag) (dst : Option Nat) (v : AV) (s : AS) : (s.put dst v).retag k = (s.retag k).put dst (v.retag k) := by
  cases dst with
  | none => rfl
  | some d => simp only [AS.put, AS.retag, List.map_set]

theorem beside_retag {E : Env} (hZ : ZeroOk E.ty) {ops : Array Oper} {b : Oper} (hb : besideAppend b = true) {k : Tag} {t : AS} {e' : Eff} (h : eff1 E ops b (t.retag k) = some e') :
    ∃ e, eff1 E ops b t = some e ∧ e.still ∧ e'.still ∧ (e.app b.dst t).retag k = e'.app b.dst (t.retag k) := by
  unfold eff1 at h ⊢
  have hw := want_retag ops k t.tmps b
  simp only [AS.retag] at h
  rw [hw] at h
  cases hq : wantA ops t.tmps b with
  | none => rw [hq] at h; cases h
  | some bb =>
    rw [hq] at h
    cases bb with
    | false =>
      cases h
      exact ⟨_, rfl, ⟨rfl, rfl⟩, ⟨rfl, rfl⟩, put_retag k _ _ _⟩
    | true =>
      simp only at h ⊢
      obtain ⟨dst, op, oty, pos, after, guard⟩ := b
      cases op <;> try (simp [besideAppend] at hb; done)
      case alloc ty_ =>
        simp only [effOf] at h ⊢
        cases ht : E.ty ty_ with
        | none => simp [ht] at h
        | some ti =>
          cases dst with
          | none => simp [ht] at h
          | some d =>
            simp only [ht, allocA, look_retag] at h ⊢
            cases hl : look t.mem d with
            | some cs => simp [hl] at h
            | none =>
              simp only [hl, Option.map_none, Option.some.injEq] at h ⊢
              subst h
              refine ⟨_, rfl, ⟨rfl, rfl⟩, ⟨rfl, rfl⟩, ?_⟩
              have := zero_retag hZ ht k
              simp only [Eff.app, put_retag, upds]
              simp only [AS.retag, insM_map, this]
              rfl
      case move x =>
        simp only [effOf, evPure, Option.map_some, Option.some.injEq, opv_retag] at h ⊢
        subst h
        exact ⟨_, rfl, ⟨rfl, rfl⟩, ⟨rfl, rfl⟩, put_retag k _ _ _⟩
      case slice ty_ x lo hi mx =>
        simp only [effOf, evPure, Option.map_eq_some_iff] at h ⊢
        obtain ⟨r, h, rfl⟩ := h
        have e1 : ∀ y : Option Operand, y.map (opv (t.tmps.map (AV.retag k))) = (y.map (opv t.tmps)).map (AV.retag k) := by
          intro y
          cases y with
          | none => rfl
          | some y => simp only [Option.map_some, opv_retag]
        rw [opv_retag, e1, e1, e1, slice_retag, Option.map_eq_some_iff] at h
        obtain ⟨r0, h, rfl⟩ := h
        exact ⟨_, ⟨r0, h, rfl⟩, ⟨rfl, rfl⟩, ⟨rfl, rfl⟩, put_retag k dst r0 t⟩

theorem append_shape {E : Env} {ops : Array Oper} {a : Oper} {t : AS} {ea : Eff} {k : Tag} (ha : eff1 E ops a t = some ea) (hr : ea.rt = some k) : ea.upd = [] ∧ ea.ins = none ∧ ea.wr = none := by
  have h3 := (eff1_keys ha).2.2.1
  unfold eff1 at ha
  cases hq : wantA ops t.tmps a with
  | none => rw [hq] at ha; cases ha
  | some bb =>
  rw [hq] at ha
  cases bb with
  | false => cases ha; cases hr
  | true =>
    simp only at ha
    cases hi : isAppend a with
    | false => rw [h3 hi] at hr; cases hr
    | true =>
      obtain ⟨dst, op, oty, pos, after, guard⟩ := a
      cases op <;> try (simp [isAppend] at hi; done)
      rename_i c
      obtain ⟨callee, args, argTypes⟩ := c
      cases callee <;> try (simp [isAppend] at hi; done)
      rename_i bi
      cases bi <;> try (simp [isAppend] at hi; done)
      simp only [effOf] at ha
      split at ha
      · rename_i x y ty1 ty2 d _ _
        split at ha
        · cases his : isSlice E.ty ty1 <;> rw [his] at ha <;> simp only [cond_true, cond_false] at ha
          · cases ha
          split at ha
          · exact appendA_shape ha
          · cases ha
        · cases ha
      · cases ha

theorem beside_keys {b : Oper} (hb : besideAppend b = true) (ts ts' : List AV) : keysR ts b = keysR ts' b ∧ keysW ts b = keysW ts' b := by
  obtain ⟨dst, op, oty, pos, after, guard⟩ := b
  cases op <;> first | exact ⟨rfl, rfl⟩ | (simp [besideAppend] at hb; done)

theorem swap_app {E : Env} (hZ : ZeroOk E.ty) {ops : Array Oper} {a b : Oper} {t : AS} {ea eb' : Eff} {k : Tag} (ha : eff1 E ops a t = some ea) (hra : ea.rt = some k) (hbe : besideAppend b = true)
    (hb : eff1 E ops b (ea.app a.dst t) = some eb')
    (h1 : ∀ x ∈ a.dst.toList, x ∉ readsOf ops b ++ b.dst.toList) (h2 : ∀ x ∈ b.dst.toList, x ∉ readsOf ops a)
    (h3 : ∀ x ∈ keysR t.tmps a ++ keysW t.tmps a, x ∉ keysW (ea.app a.dst t).tmps b) :
    ∃ eb, eff1 E ops b t = some eb ∧ keysR t.tmps b = keysR (ea.app a.dst t).tmps b ∧ keysW t.tmps b = keysW (ea.app a.dst t).tmps b ∧
    eff1 E ops a (eb.app b.dst t) = some ea ∧ keysR (eb.app b.dst t).tmps a = keysR t.tmps a ∧ keysW (eb.app b.dst t).tmps a = keysW t.tmps a ∧
    ea.app a.dst (eb.app b.dst t) = eb'.app b.dst (ea.app a.dst t) := by
  obtain ⟨e1, e2, e3⟩ := append_shape ha hra
  have hk := beside_keys hbe t.tmps (ea.app a.dst t).tmps
  have happ : ∀ s : AS, ea.app a.dst s = Eff.app { val := ea.val } a.dst (s.retag k) := by
    intro s
    obtain ⟨v, u, i, r, x⟩ := ea
    simp only at e1 e2 e3 hra
    subst e1 e2 e3 hra
    rfl
  have hra0 : (Eff.mk ea.val [] none none none).still := ⟨rfl, rfl⟩
  have hb1 : eff1 E ops b (t.retag k) = some eb' := by
    rw [happ] at hb
    refine ((eff1_congr (E := E) (ops := ops) (o := b) ?_ ?_).1.symm).trans hb
    · intro x hx
      exact app_get hra0 _ (fun hd => h1 x hd (List.mem_append_left _ hx))
    · intro id _
      rw [app_mem hra0]; rfl
  obtain ⟨eb, hb2, r1, r2, hc⟩ := beside_retag hZ hbe hb1
  obtain ⟨kb1, kb2, _⟩ := eff1_keys hb2
  have ca := eff1_congr (E := E) (ops := ops) (o := a) (s := t) (s' := eb.app b.dst t) (fun x hx => app_get r1 t (fun hd => h2 x hd hx))
    (fun id hid => app_look r1 t (h3 id (List.mem_append_left _ hid)) (hk.2 ▸ kb1) (hk.2 ▸ kb2))
  refine ⟨eb, hb2, hk.1, hk.2, ca.1.trans ha, ca.2.1, ca.2.2, ?_⟩
  rw [happ, happ, hc]
  refine app_comm _ r2 hra0 ?_ ?_ ?_ ?_ ?_
  · intro x y hx hy e
    subst e
    exact h1 x (by simp [hy]) (by simp [hx])
  · intro p hp q hq; simp at hq
  · intro p hp d cs hd; simp at hd
  · intro q hq; simp at hq
  · intro x c y d hx hy; simp at hy

end Go.Ev

/- The evaluator: operations that change places with a write. -/
set_option linter.unusedVariables false
set_option linter.unusedSimpArgs false
namespace Go.Ev
open Go

/-- values that a write leaves as they are, and that no other value becomes -/
def AV.fixed : AV → Bool
  | .int _ _ => true
  | .bool _ => true
  | .str _ => true
  | _ => false

theorem fixed_wrote {k : Tag} {i : Nat} {vs : List AV} {v : AV} (h : v.fixed = true) : v.wrote k i vs = v := by
  cases v <;> simp [AV.fixed] at h <;> rfl

theorem wrote_sl (k : Tag) (i : Nat) (vs : List AV) (sz : Nat) (xs : List AV) (st : St) : (∃ xs' st', (AV.sl sz xs st).wrote k i vs = .sl sz xs' st') ∨ (AV.sl sz xs st).wrote k i vs = .unk := by
  cases st with
  | nil => exact .inl ⟨_, _, rfl⟩
  | full => exact .inr rfl
  | sh => exact .inr rfl
  | win k' lo => exact .inr rfl
  | own k' =>
    simp only [AV.wrote]
    cases xs.all AV.scal <;> simp only [cond_true, cond_false]
    · exact .inr trivial
    · by_cases e : k' = k
      · rw [if_pos e]; exact .inl ⟨_, _, rfl⟩
      · rw [if_neg e]; exact .inl ⟨_, _, rfl⟩

theorem wrote_fixed (k : Tag) (i : Nat) (vs : List AV) (v : AV) : (v.wrote k i vs).fixed = v.fixed := by
  cases v <;> try rfl
  rename_i sz xs st
  rcases wrote_sl k i vs sz xs st with ⟨xs', st', h⟩ | h <;> rw [h] <;> rfl

theorem unfixed {v : AV} (h : v.fixed = false) : (∀ k n, v ≠ .int k n) ∧ (∀ b, v ≠ .bool b) ∧ ∀ s, v ≠ .str s := by
  refine ⟨?_, ?_, ?_⟩ <;> rintro _ <;> (first | rintro _ rfl | rintro rfl) <;> simp [AV.fixed] at h

theorem wrote_const (k : Tag) (i : Nat) (vs : List AV) (v : Value) : (ofVal v).wrote k i vs = ofVal v := by
  unfold ofVal; split <;> rfl

theorem opv_wrote (k : Tag) (i : Nat) (vs ts : List AV) (x : Operand) : opv (ts.map (AV.wrote k i vs)) x = (opv ts x).wrote k i vs := by
  cases x with
  | tmp t =>
    simp only [opv, List.getD_eq_getElem?_getD, List.getElem?_map]
    cases ts[t]? <;> rfl
  | const v => exact (wrote_const k i vs v).symm
  | global g => rfl
  | func f => rfl

theorem want_wrote (ops : Array Oper) (k : Tag) (i : Nat) (vs ts : List AV) (o : Oper) : wantA ops (ts.map (AV.wrote k i vs)) o = wantA ops ts o := by
  unfold wantA
  cases o.guard with
  | none => rfl
  | some jw =>
    obtain ⟨j, want⟩ := jw
    simp only
    cases (ops[j]?).bind (·.dst) with
    | none => rfl
    | some t =>
      simp only [List.getElem?_map]
      cases ts[t]? with
      | none => rfl
      | some v =>
        cases v <;> try rfl
        rename_i sz xs st
        simp only [Option.map_some]
        rcases wrote_sl k i vs sz xs st with ⟨xs', st', h⟩ | h <;> rw [h]

theorem put_wrote (k : Tag) (i : Nat) (vs : List AV) (dst : Option Nat) (v : AV) (s : AS) : (s.put dst v).wrote k i vs = (s.wrote k i vs).put dst (v.wrote k i vs) := by
  cases dst with
  | none => rfl
  | some d => simp only [AS.put, AS.wrote, List.map_set]

theorem put_comm (s : AS) {d e : Option Nat} (v u : AV) (h : ∀ a b, d = some a → e = some b → a ≠ b) : (s.put d v).put e u = (s.put e u).put d v := by
  cases d with
  | none => rfl
  | some a =>
    cases e with
    | none => rfl
    | some b => simp only [AS.put]; rw [List.set_comm _ _ (h a b rfl rfl)]

theorem intOp_fixed {op k a b r} (h : intOp op k a b = some r) : r.fixed = true := by
  cases op <;> simp only [intOp] at h <;> first | (cases h; rfl) | (cases hc : ieq b 0 <;> rw [hc] at h <;> simp only [cond_true, cond_false] at h <;> first | (cases h; rfl) | cases h) | cases h

theorem strOp_fixed {op a b r} (h : strOp op a b = some r) : r.fixed = true := by
  cases op <;> simp only [strOp] at h <;> first | (cases h; rfl) | (cases hc : ile ((a.length + b.length : Nat) : Int) 9223372036854775807 <;> rw [hc] at h <;> simp only [cond_true, cond_false] at h <;> first | (cases h; rfl) | cases h) | cases h

theorem binA_none {ty : Tys} {op : BinOp} {t : TypeId} {x y : AV} (h1 : op ≠ .eql) (h2 : op ≠ .neq) (h : x.fixed = false ∨ y.fixed = false) : binA ty op t x y = none := by
  unfold binA
  split
  · simp [AV.fixed] at h
  · simp [AV.fixed] at h
  · simp [AV.fixed] at h
  · simp [AV.fixed] at h
  · exact absurd rfl h1
  · exact absurd rfl h2
  · rfl

theorem binA_fixed {ty : Tys} {op : BinOp} {t : TypeId} {x y r : AV} (h : binA ty op t x y = some r) : r.fixed = true := by
  unfold binA at h
  split at h
  · rename_i kk a yk b
    cases hc : ile 0 b <;> rw [hc] at h <;> simp only [cond_true, cond_false] at h <;> first | (cases h; rfl) | cases h
  · rename_i kk a yk b
    cases hc : ile 0 b <;> rw [hc] at h <;> simp only [cond_true, cond_false] at h <;> first | (cases h; rfl) | cases h
  · split at h
    · exact intOp_fixed h
    · cases h
  · exact strOp_fixed h
  · obtain ⟨q, _, rfl⟩ := Option.map_eq_some_iff.1 h; rfl
  · obtain ⟨q, _, rfl⟩ := Option.map_eq_some_iff.1 h; rfl
  · cases h

theorem binA_wrote {ty : Tys} {op : BinOp} {t : TypeId} {x y : AV} (h1 : op ≠ .eql) (h2 : op ≠ .neq) (k : Tag) (i : Nat) (vs : List AV) :
    binA ty op t (x.wrote k i vs) (y.wrote k i vs) = (binA ty op t x y).map (AV.wrote k i vs) := by
  by_cases h : x.fixed = true ∧ y.fixed = true
  · rw [fixed_wrote h.1, fixed_wrote h.2]
    cases hr : binA ty op t x y with
    | none => rfl
    | some r => rw [Option.map_some, fixed_wrote (binA_fixed hr)]
  · have h' : x.fixed = false ∨ y.fixed = false := by
      cases hx : x.fixed
      · exact .inl rfl
      · cases hy : y.fixed
        · exact .inr rfl
        · exact absurd ⟨hx, hy⟩ h
    rw [binA_none h1 h2 h', binA_none h1 h2 (by rw [wrote_fixed, wrote_fixed]; exact h')]
    rfl

theorem unA_wrote {op : UnOp} {x : AV} (k : Tag) (i : Nat) (vs : List AV) : unA op (x.wrote k i vs) = (unA op x).map (AV.wrote k i vs) := by
  cases hx : x.fixed
  · have h := unfixed hx
    have h' := unfixed ((wrote_fixed k i vs x).trans hx)
    have none_ : ∀ y : AV, ((∀ k n, y ≠ .int k n) ∧ (∀ b, y ≠ .bool b) ∧ ∀ s, y ≠ .str s) → unA op y = none := by
      intro y hy
      unfold unA
      split
      · exact absurd rfl (hy.1 _ _)
      · exact absurd rfl (hy.2.1 _)
      · rfl
    rw [none_ _ h, none_ _ h']
    rfl
  · rw [fixed_wrote hx]
    cases hr : unA op x with
    | none => rfl
    | some r =>
      have : r.fixed = true := by
        unfold unA at hr
        split at hr <;> cases hr <;> rfl
      rw [Option.map_some, fixed_wrote this]

/-- what may change places with a write: its value is written too -/
theorem pure_wrote {ty : Tys} {ts : List AV} {o : Oper} (hb : besideWrite o = true) (k : Tag) (i : Nat) (vs : List AV) : evPure ty (opv (ts.map (AV.wrote k i vs))) o.op = (evPure ty (opv ts) o.op).map (AV.wrote k i vs) := by
  obtain ⟨dst, op, oty, pos, after, guard⟩ := o
  cases op <;> try (simp [besideWrite] at hb; done)
  case move x => simp only [evPure, opv_wrote, Option.map_some]
  case binOp op t x y yt =>
    have h12 : op ≠ .eql ∧ op ≠ .neq := by cases op <;> first | (simp [besideWrite] at hb; done) | exact ⟨nofun, nofun⟩
    simp only [evPure, opv_wrote, binA_wrote h12.1 h12.2]
  case unOp op t x => simp only [evPure, opv_wrote, unA_wrote]
  case convert a b x =>
    simp only [evPure, opv_wrote]
    generalize opv ts x = v
    cases hx : v.fixed
    · have h := unfixed hx
      have h' := unfixed ((wrote_fixed k i vs v).trans hx)
      have none_ : ∀ y : AV, (∀ k n, y ≠ .int k n) → (match ty a, ty b, y with
          | some si, some di, .int _ n =>
            match si.td, di.td with
            | .int _, .int k => some (AV.int k (k.wrap n))
            | _, _ => none
          | _, _, _ => none) = none := by
        intro y hy
        split
        · exact absurd rfl (hy _ _)
        · rfl
      exact (none_ _ h'.1).trans (congrArg (Option.map (AV.wrote k i vs)) (none_ _ h.1)).symm
    · rw [fixed_wrote hx]
      split
      · split
        · rfl
        · rfl
      · rfl

theorem effOf_beside {E : Env} {o : Oper} {ρ : Operand → AV} {m : Mem} (hb : besideWrite o = true) : effOf E o ρ m = (evPure E.ty ρ o.op).map fun v => { val := v } := by
  obtain ⟨dst, op, oty, pos, after, guard⟩ := o
  cases op <;> first | rfl | (simp [besideWrite] at hb; done)

theorem beside_keys2 {b : Oper} (hb : besideWrite b = true) (ts : List AV) : keysR ts b = [] ∧ keysW ts b = [] := by
  obtain ⟨dst, op, oty, pos, after, guard⟩ := b
  cases op <;> first | exact ⟨rfl, rfl⟩ | (simp [besideWrite] at hb; done)

theorem beside_wrote {E : Env} {ops : Array Oper} {b : Oper} (hb : besideWrite b = true) (t : AS) (k : Tag) (i : Nat) (vs : List AV) :
    (eff1 E ops b t = none ∧ eff1 E ops b (t.wrote k i vs) = none) ∨ ∃ v, eff1 E ops b t = some { val := v } ∧ eff1 E ops b (t.wrote k i vs) = some { val := v.wrote k i vs } := by
  unfold eff1
  simp only [AS.wrote]
  rw [want_wrote]
  cases wantA ops t.tmps b with
  | none => exact .inl ⟨rfl, rfl⟩
  | some bb =>
    cases bb with
    | false => exact .inr ⟨_, rfl, rfl⟩
    | true =>
      simp only
      rw [effOf_beside hb, effOf_beside hb, pure_wrote hb]
      cases evPure E.ty (opv t.tmps) b.op with
      | none => exact .inl ⟨rfl, rfl⟩
      | some v => exact .inr ⟨v, rfl, rfl⟩

theorem wr_app {e : Eff} {k : Tag} {i : Nat} {vs : List AV} (h : e.wr = some (k, i, vs)) {ts : List AV} {o : Oper} (hw : WrOk ts o e) (dst : Option Nat) (s : AS) : e.app dst s = (s.wrote k i vs).put dst e.val := by
  obtain ⟨h1, h2, h3, h4⟩ := hw
  obtain ⟨v, u, ins, r, x⟩ := e
  simp only at h h2 h3 h4
  subst h h2 h3 h4
  rfl

/-- a write, and what is behind it -/
theorem swap_wrA {E : Env} {ops : Array Oper} {a b : Oper} {t : AS} {ea eb : Eff} {k : Tag} {i : Nat} {vs : List AV} (ha : eff1 E ops a t = some ea) (hwr : ea.wr = some (k, i, vs)) (hw : WrOk t.tmps a ea) (hbe : besideWrite b = true)
    (hb : eff1 E ops b (ea.app a.dst t) = some eb) (h1 : ∀ x ∈ a.dst.toList, x ∉ readsOf ops b ++ b.dst.toList) (h2 : ∀ x ∈ b.dst.toList, x ∉ readsOf ops a) :
    ∃ eb', eff1 E ops b t = some eb' ∧ eff1 E ops a (eb'.app b.dst t) = some ea ∧ keysR (eb'.app b.dst t).tmps a = keysR t.tmps a ∧ keysW (eb'.app b.dst t).tmps a = keysW t.tmps a ∧ ea.app a.dst (eb'.app b.dst t) = eb.app b.dst (ea.app a.dst t) := by
  have happ := wr_app hwr hw
  rw [happ] at hb
  have hm0 : ∀ (s : AS) d v, (AS.put s d v).mem = s.mem := by intro s d v; cases d <;> rfl
  have ht0 : ∀ (s : AS) d v (x : Nat), x ∉ d.toList → (AS.put s d v).tmps[x]? = s.tmps[x]? := by
    intro s d v x hx
    cases d with
    | none => rfl
    | some d => exact set_get_ne (by simpa using hx)
  have cb := eff1_congr (E := E) (ops := ops) (o := b) (s := t.wrote k i vs) (s' := (t.wrote k i vs).put a.dst ea.val) (fun x hx => ht0 _ _ _ _ (fun hd => h1 x hd (List.mem_append_left _ hx))) (fun id _ => by rw [hm0])
  rw [cb.1] at hb
  rcases beside_wrote (E := E) (ops := ops) hbe t k i vs with ⟨_, q⟩ | ⟨v, q1, q2⟩
  · rw [q] at hb; cases hb
  rw [q2] at hb
  cases hb
  have ca := eff1_congr (E := E) (ops := ops) (o := a) (s := t) (s' := Eff.app { val := v } b.dst t) (fun x hx => by rw [put_val]; exact ht0 _ _ _ _ (fun hd => h2 x hd hx)) (fun id _ => by rw [put_val, hm0])
  refine ⟨_, q1, ca.1.trans ha, ca.2.1, ca.2.2, ?_⟩
  rw [happ, happ, put_val, put_val, put_wrote, put_comm]
  intro x y hx hy e
  subst e
  exact h1 x (by simp [hy]) (by simp [hx])

/-- a write, and what is ahead of it -/
theorem swap_wrB {E : Env} {ops : Array Oper} {a b : Oper} {t : AS} {ea eb : Eff} {k : Tag} {i : Nat} {vs : List AV} (ha : eff1 E ops a t = some ea) (hbe : besideWrite a = true) (hb : eff1 E ops b (ea.app a.dst t) = some eb)
    (hwr : eb.wr = some (k, i, vs)) (hw : WrOk (ea.app a.dst t).tmps b eb) (h1 : ∀ x ∈ a.dst.toList, x ∉ readsOf ops b ++ b.dst.toList) (h2 : ∀ x ∈ b.dst.toList, x ∉ readsOf ops a) :
    eff1 E ops b t = some eb ∧ keysR t.tmps b = keysR (ea.app a.dst t).tmps b ∧ keysW t.tmps b = keysW (ea.app a.dst t).tmps b ∧
    ∃ ea', eff1 E ops a (eb.app b.dst t) = some ea' ∧ ea'.app a.dst (eb.app b.dst t) = eb.app b.dst (ea.app a.dst t) := by
  have happ := wr_app hwr hw
  have hm0 : ∀ (s : AS) d v, (AS.put s d v).mem = s.mem := by intro s d v; cases d <;> rfl
  have ht0 : ∀ (s : AS) d v (x : Nat), x ∉ d.toList → (AS.put s d v).tmps[x]? = s.tmps[x]? := by
    intro s d v x hx
    cases d with
    | none => rfl
    | some d => exact set_get_ne (by simpa using hx)
  rcases beside_wrote (E := E) (ops := ops) hbe t k i vs with ⟨q, _⟩ | ⟨v, q1, q2⟩
  · rw [q] at ha; cases ha
  rw [q1] at ha
  cases ha
  have cb := eff1_congr (E := E) (ops := ops) (o := b) (s := Eff.app { val := v } a.dst t) (s' := t) (fun x hx => by rw [put_val]; exact (ht0 _ _ _ _ (fun hd => h1 x hd (List.mem_append_left _ hx))).symm) (fun id _ => by rw [put_val, hm0])
  refine ⟨cb.1.trans hb, cb.2.1, cb.2.2, { val := v.wrote k i vs }, ?_, ?_⟩
  · rw [happ]
    refine (eff1_congr (E := E) (ops := ops) (o := a) (s := t.wrote k i vs) (fun x hx => ht0 _ _ _ _ (fun hd => h2 x hd hx)) (fun id _ => by rw [hm0])).1.trans q2
  · rw [happ, happ, put_val, put_val, put_wrote, put_comm]
    intro x y hx hy e
    subst e
    exact h1 x (by simp [hy]) (by simp [hx])

end Go.Ev

/- The evaluator: a region whose order is drawn. -/
set_option linter.unusedVariables false
set_option linter.unusedSimpArgs false
namespace Go.Ev
open Go

def Run (E : Env) (ops : Array Oper) : List (Nat × FP) → AS → AS → Prop
  | [], s, s' => s = s'
  | (i, f) :: r, s, s' => ∃ s1, step1 E ops i s = some s1 ∧ fpOf ops i s = f ∧ Run E ops r s1 s'

theorem evTr_run {E : Env} {ops : Array Oper} : ∀ (l : List Nat) {s s' : AS} {fps : List FP}, evTr E ops l s = some (s', fps) → fps.length = l.length ∧ Run E ops (l.zip fps) s s'
  | [], s, s', fps, h => by
    simp only [evTr, Option.some.injEq, Prod.mk.injEq] at h
    obtain ⟨rfl, rfl⟩ := h
    exact ⟨rfl, rfl⟩
  | i :: l, s, s', fps, h => by
    simp only [evTr] at h
    cases h1 : step1 E ops i s with
    | none => simp [h1] at h
    | some s1 =>
      simp only [h1] at h
      cases h2 : evTr E ops l s1 with
      | none => simp [h2] at h
      | some p =>
        obtain ⟨s2, fs⟩ := p
        simp only [h2, Option.some.injEq, Prod.mk.injEq] at h
        obtain ⟨rfl, rfl⟩ := h
        obtain ⟨k1, k2⟩ := evTr_run l h2
        exact ⟨by simp [k1], s1, h1, rfl, k2⟩

def Swp (ops : Array Oper) (x y : Nat × FP) : Prop := ∃ a b, ops[x.1]? = some a ∧ ops[y.1]? = some b ∧ swaps ops a b x.2 y.2 = true

theorem step_of {E : Env} {ops : Array Oper} {i : Nat} {o : Oper} (ho : ops[i]? = some o) {s : AS} {e : Eff} (h : eff1 E ops o s = some e) : step1 E ops i s = some (e.app o.dst s) := by
  rw [step1_eff ho, h]; rfl

theorem run_swap {E : Env} (hZ : ZeroOk E.ty) {ops : Array Oper} {x y : Nat × FP} {r : List (Nat × FP)} {s s' : AS} (h : Swp ops x y) (hr : Run E ops (x :: y :: r) s s') : Run E ops (y :: x :: r) s s' := by
  obtain ⟨i, f⟩ := x
  obtain ⟨j, g⟩ := y
  obtain ⟨a, b, ha, hb, hs⟩ := h
  simp only at ha hb hs
  obtain ⟨s1, h1, f1, s2, h2, f2, hr⟩ := hr
  rw [step1_eff ha, Option.map_eq_some_iff] at h1
  obtain ⟨ea, hea, rfl⟩ := h1
  rw [step1_eff hb, Option.map_eq_some_iff] at h2
  obtain ⟨eb, heb, rfl⟩ := h2
  simp only [fpOf, ha] at f1
  simp only [fpOf, hb] at f2
  subst f1 f2
  simp only [swaps, Bool.and_eq_true, disj_iff, Bool.or_eq_true, Bool.not_eq_true'] at hs
  obtain ⟨⟨⟨⟨⟨⟨⟨k1, k2⟩, k3⟩, k4⟩, k5⟩, k6⟩, k7⟩, k8⟩ := hs
  have hrb : eb.rt = none := (eff1_keys heb).2.2.1 k5
  cases hra : ea.rt with
  | none =>
    cases hwa : ea.wr with
    | some kx =>
      obtain ⟨kk, ii, vv⟩ := kx
      have hw : WrOk s.tmps a ea := by
        rcases (eff1_keys hea).2.2.2 with h | h
        · rw [hwa] at h; cases h
        · exact h
      have hbe : besideWrite b = true := by
        rcases k7 with h | h
        · have hc := hw.key
          rw [← List.contains_iff_mem, h] at hc; cases hc
        · exact h
      obtain ⟨eb', q1, q2, q3, q4, q5⟩ := swap_wrA hea hwa hw hbe heb k1 k2
      refine ⟨_, step_of hb q1, ?_, _, step_of ha q2, ?_, ?_⟩
      · simp only [fpOf, hb, (beside_keys2 hbe _).1, (beside_keys2 hbe _).2]
      · simp only [fpOf, ha, q3, q4]
      · rw [q5]; exact hr
    | none =>
      cases hwb : eb.wr with
      | some kx =>
        obtain ⟨kk, ii, vv⟩ := kx
        have hw : WrOk (ea.app a.dst s).tmps b eb := by
          rcases (eff1_keys heb).2.2.2 with h | h
          · rw [hwb] at h; cases h
          · exact h
        have hbe : besideWrite a = true := by
          rcases k8 with h | h
          · have hc := hw.key
            rw [← List.contains_iff_mem, h] at hc; cases hc
          · exact h
        obtain ⟨q1, q2, q3, ea', q4, q5⟩ := swap_wrB hea hbe heb hwb hw k1 k2
        refine ⟨_, step_of hb q1, ?_, _, step_of ha q4, ?_, ?_⟩
        · simp only [fpOf, hb, q2, q3]
        · simp only [fpOf, ha, (beside_keys2 hbe _).1, (beside_keys2 hbe _).2]
        · rw [q5]; exact hr
      | none =>
        obtain ⟨q1, q2, q3, q4, q5, q6, q7⟩ := swap_plain hea ⟨hra, hwa⟩ heb ⟨hrb, hwb⟩ k1 k2 k3 k4
        refine ⟨_, step_of hb q1, ?_, _, step_of ha q4, ?_, ?_⟩
        · simp only [fpOf, hb, q2, q3]
        · simp only [fpOf, ha, q5, q6]
        · rw [q7]; exact hr
  | some k =>
    have hbe : besideAppend b = true := by
      rcases k6 with h | h
      · rw [(eff1_keys hea).2.2.1 h] at hra; cases hra
      · exact h
    obtain ⟨eb', q1, q2, q3, q4, q5, q6, q7⟩ := swap_app hZ hea hra hbe heb k1 k2 k3
    refine ⟨_, step_of hb q1, ?_, _, step_of ha q4, ?_, ?_⟩
    · simp only [fpOf, hb, q2, q3]
    · simp only [fpOf, ha, q5, q6]
    · rw [q7]; exact hr

theorem run_move {E : Env} (hZ : ZeroOk E.ty) {ops : Array Oper} {y : Nat × FP} {r : List (Nat × FP)} {s' : AS} : ∀ (l : List (Nat × FP)) {s : AS}, (∀ x ∈ l, Swp ops x y) → Run E ops (l ++ y :: r) s s' → Run E ops (y :: (l ++ r)) s s'
  | [], s, _, h => h
  | x :: l, s, hs, h => by
    obtain ⟨i, f⟩ := x
    obtain ⟨s1, h1, f1, h2⟩ := h
    have := run_move hZ l (fun z hz => hs z (List.mem_cons_of_mem _ hz)) h2
    exact run_swap hZ (hs _ (by simp)) ⟨s1, h1, f1, this⟩

theorem binds_any (e : Edge) : Region.binds .any e = binding e := by
  unfold Region.binds binding
  cases e.ground <;> rfl

/-- what is not listed yet is not ahead of what is ready -/
theorem not_ahead {ops : Array Oper} {listed : Array Bool} {j : Nat} (hj : listed.getD j false = false)
    (hc : ∀ (i : Nat) o, ops[i]? = some o → listed.getD i false = true → ∀ e ∈ o.after, binding e = true → listed.getD e.on false = true) :
    ∀ (n i : Nat), (∀ o, ops[i]? = some o → ∀ e ∈ o.after, binding e = true → listed.getD e.on false = true) → ahead ops j n i = false
  | 0, i, _ => rfl
  | n + 1, i, h => by
    simp only [ahead]
    cases ho : ops[i]? with
    | none => rfl
    | some o =>
      simp only
      rw [Array.any_eq_false']
      intro e he
      cases hb : binding e with
      | false => simp
      | true =>
        have hl := h o ho e he hb
        have h1 : (e.on == j) = false := by
          apply Bool.eq_false_iff.2
          intro hq
          rw [beq_iff_eq] at hq
          rw [hq, hj] at hl; cases hl
        have h2 := not_ahead hj hc n e.on (fun o' ho' => hc e.on o' ho' hl)
        simp [h1, h2]

theorem step_wpOp {P E} (hE : EnvOk P E) {B G s a w} (h : Sim B G s a w) (hB : B.Ok) {ops : Array Oper} {i : Nat} {s' : AS} (hs : step1 E ops i s = some s') (hk : ∀ k, (ops[i]?).bind makes = some k → G.τ k = none)
    {Q : Exit → Act → World → Prop} {K : Act → World → Prop} (hK : ∀ G' a' w', Sim B G' s' a' w' → TauLe G G' ((ops[i]?).bind makes) → K a' w') : wpOp P ops Q i K a w := by
  unfold wpOp
  unfold step1 at hs
  cases ho : ops[i]? with
  | none =>
    simp only [ho] at hs ⊢
    cases hs
    exact hK G a w h (TauLe.refl _ _)
  | some o =>
    simp only [ho] at hs ⊢
    rw [ho] at hk hK
    split at hs
    · rename_i hw
      rw [want_ok h hw]
      simp only [if_true]
      exact .inl ((op_ok hE h hB o hk hs).wp hK)
    · rename_i hw
      rw [want_ok h hw]
      simp only [Bool.false_eq_true, if_false]
      cases hs
      exact hK G _ w (h.put o.dst (.of RepV_tup0)) (TauLe.refl _ _)
    · cases hs

theorem getD_both {l : Array Bool} {i : Nat} (h : i < l.size) (a b : Bool) : l.getD i a = l.getD i b := by
  simp [Array.getD, h]

theorem any_wp {P E} (hE : EnvOk P E) (hZ : ZeroOk E.ty) {B} (hB : B.Ok) {ops : Array Oper} {Q : Exit → Act → World → Prop} {s' : AS} (hQ : ∀ G' a' w', Sim B G' s' a' w' → Q .normal a' w')
    (hed : ∀ (i : Nat) o, ops[i]? = some o → ∀ e ∈ o.after, binding e = true → e.on < i) :
    ∀ (l : List (Nat × FP)) (n : Nat) (listed : Array Bool) {G s a w}, Sim B G s a w → Run E ops l s s' → l.length = n → (l.map (·.1)).Pairwise (· < ·) → listed.size = ops.size →
      (∀ i, i < ops.size → (listed.getD i false = false ↔ i ∈ l.map (·.1))) → (∀ x ∈ l, x.1 < ops.size) →
      (∀ (i : Nat) o, ops[i]? = some o → listed.getD i false = true → ∀ e ∈ o.after, binding e = true → listed.getD e.on false = true) →
      (∀ x ∈ l, ∀ y ∈ l, x.1 < y.1 → ahead ops x.1 ops.size y.1 = true ∨ Swp ops x y) →
      (l.filterMap fun x => (ops[x.1]?).bind makes).Nodup → (∀ x ∈ l, ∀ k, (ops[x.1]?).bind makes = some k → G.τ k = none) →
      wpAny P .any ops Q n listed a w := by
  intro l n
  induction n generalizing l with
  | zero =>
    intro listed G s a w h hr hn hp hsz hl hlt hc hsw hnd hτ
    have hl0 : l = [] := List.eq_nil_of_length_eq_zero hn
    subst hl0
    cases hr
    refine ⟨?_, hQ G a w h⟩
    unfold Region.ready
    rw [List.filter_eq_nil_iff]
    intro i hi
    have hi := List.mem_range.1 hi
    have : listed.getD i true = true := by
      rw [getD_both (hsz ▸ hi) true false]
      cases hq : listed.getD i false with
      | true => rfl
      | false => exact absurd ((hl i hi).1 hq) (by simp)
    simp only [this, Bool.not_true, Bool.false_and, Bool.false_eq_true, not_false_eq_true]
  | succ n ih =>
    intro listed G s a w h hr hn hp hsz hl hlt hc hsw hnd hτ
    refine ⟨fun hnil => ?_, fun i hi => ?_⟩
    · exfalso
      cases l with
      | nil => simp at hn
      | cons x r =>
        have hx := hlt x (by simp)
        have : x.1 ∈ Region.ready .any ops listed := by
          unfold Region.ready
          refine List.mem_filter.2 ⟨List.mem_range.2 hx, ?_⟩
          have h1 : listed.getD x.1 true = false := by rw [getD_both (hsz ▸ hx) true false]; exact (hl x.1 hx).2 (by simp)
          rw [h1, Array.getElem?_eq_getElem hx]
          simp only [Bool.not_false, Bool.true_and, Option.map_some, Option.getD_some, Array.all_eq_true']
          intro e he
          rw [binds_any]
          cases hb : binding e with
          | false => rfl
          | true =>
            have hlt1 := hed x.1 _ (Array.getElem?_eq_getElem hx) e he hb
            simp only [Bool.not_true, Bool.false_or]
            cases hq : listed.getD e.on false with
            | true => rfl
            | false =>
              have hm := (hl e.on (by omega)).1 hq
              simp only [List.map_cons, List.mem_cons] at hm
              rcases hm with hm | hm
              · omega
              · simp only [List.map_cons, List.pairwise_cons] at hp
                have := hp.1 _ hm
                omega
        rw [hnil] at this
        cases this
    · unfold Region.ready at hi
      obtain ⟨hir, hi2⟩ := List.mem_filter.1 hi
      have hin := List.mem_range.1 hir
      simp only [Bool.and_eq_true, Bool.not_eq_true'] at hi2
      obtain ⟨hi3, hi4⟩ := hi2
      rw [getD_both (hsz ▸ hin) true false] at hi3
      have hi5 : ∀ o, ops[i]? = some o → ∀ e ∈ o.after, binding e = true → listed.getD e.on false = true := by
        intro o ho e he hb
        rw [ho] at hi4
        simp only [Option.map_some, Option.getD_some, Array.all_eq_true'] at hi4
        have := hi4 e he
        rw [binds_any, hb] at this
        simpa using this
      obtain ⟨⟨i', g⟩, hmem, rfl⟩ := List.mem_map.1 ((hl i hin).1 hi3)
      obtain ⟨l1, l2, rfl⟩ := List.append_of_mem hmem
      simp only at hi3 hi5 hin hi4 hir
      rw [List.map_append, List.map_cons, List.pairwise_append] at hp
      obtain ⟨hp1, hp2, hp3⟩ := hp
      rw [List.pairwise_cons] at hp2
      have hlt1 : ∀ x ∈ l1, x.1 < i' := fun x hx => hp3 x.1 (List.mem_map_of_mem hx) i' (by simp)
      have hmv := run_move hZ l1 (fun x hx => by
        have hxl := hlt x (by simp [hx])
        rcases hsw x (by simp [hx]) (i', g) (by simp) (hlt1 x hx) with h1 | h1
        · rw [not_ahead ((hl x.1 hxl).2 (List.mem_map_of_mem (by simp [hx]))) hc _ _ hi5] at h1; cases h1
        · exact h1) hr
      obtain ⟨s1, q1, _, q2⟩ := hmv
      refine step_wpOp hE h hB q1 (hτ _ hmem) fun G' a' w' h' hT => ?_
      have hsub : ∀ x, x ∈ l1 ++ l2 → x ∈ l1 ++ (i', g) :: l2 := fun x hx => by
        rcases List.mem_append.1 hx with h | h <;> simp [h]
      have hnot : i' ∉ (l1 ++ l2).map (·.1) := by
        intro hm
        rw [List.map_append, List.mem_append] at hm
        rcases hm with hm | hm
        · obtain ⟨x, hx, e⟩ := List.mem_map.1 hm
          have := hlt1 x hx
          omega
        · have := hp2.1 _ hm
          omega
      refine ih (l1 ++ l2) _ h' q2 (by simp at hn ⊢; omega) ?_ (by simp [hsz]) ?_ (fun x hx => hlt x (hsub x hx)) ?_ (fun x hx y hy => hsw x (hsub x hx) y (hsub y hy)) ?_ ?_
      · rw [List.map_append, List.pairwise_append]
        exact ⟨hp1, hp2.2, fun x hx y hy => hp3 x hx y (List.mem_cons_of_mem _ hy)⟩
      · intro k hk
        by_cases e : k = i'
        · subst e
          have : (listed.setIfInBounds k true).getD k false = true := by simp [Array.getD, hsz, hk]
          rw [this]
          simp only [Bool.true_eq_false, false_iff]
          exact hnot
        · have : (listed.setIfInBounds i' true).getD k false = listed.getD k false := by
            simp [Array.getD, hsz, hk, Array.getElem_setIfInBounds, Ne.symm e]
          rw [this, hl k hk]
          simp [e]
      · intro k o ho hk e he hb
        have mono : ∀ m, listed.getD m false = true → (listed.setIfInBounds i' true).getD m false = true := by
          intro m hm
          simp only [Array.getD_eq_getD_getElem?, Array.getElem?_setIfInBounds] at hm ⊢
          by_cases h1 : i' = m
          · subst h1
            simp [hsz, hin]
          · rw [if_neg h1]; exact hm
        by_cases ek : k = i'
        · subst ek
          exact mono _ (hi5 o ho e he hb)
        · refine mono _ (hc k o ho ?_ e he hb)
          have hks : k < ops.size := (Array.getElem?_eq_some_iff.1 ho).1
          have : (listed.setIfInBounds i' true).getD k false = listed.getD k false := by
            simp [Array.getD, hsz, hks, Array.getElem_setIfInBounds, Ne.symm ek]
          rw [← this]; exact hk
      · rw [List.filterMap_append] at hnd ⊢
        rw [List.filterMap_cons] at hnd
        split at hnd
        · exact hnd
        · rw [List.nodup_append] at hnd ⊢
          exact ⟨hnd.1, (List.nodup_cons.1 hnd.2.1).2, fun x hx y hy => hnd.2.2 x hx y (List.mem_cons_of_mem _ hy)⟩
      · intro x hx k hk
        cases hg : G'.τ k with
        | none => rfl
        | some v =>
          rcases hT k v hg with h1 | h1
          · exfalso
            rw [List.filterMap_append, List.filterMap_cons] at hnd
            have h1' : (ops[((i', g) : Nat × FP).1]?).bind makes = some k := h1
            rw [h1'] at hnd
            rw [List.nodup_append] at hnd
            rcases List.mem_append.1 hx with hx | hx
            · exact hnd.2.2 k (List.mem_filterMap.2 ⟨x, hx, hk⟩) k (by simp) rfl
            · exact (List.nodup_cons.1 hnd.2.1).1 (List.mem_filterMap.2 ⟨x, hx, hk⟩)
          · exact absurd (hτ x (hsub x hx) k hk) h1

end Go.Ev

/- The evaluator: what a loop's head forgets; code. -/
set_option linter.unusedVariables false
set_option linter.unusedSimpArgs false
namespace Go.Ev
open Go

def Gh.clean (fr m : List Nat) (G : Gh) : Gh :=
  { S := G.S, β := fun i => if keepsKey m i then G.β i else none, τ := fun k => match k with | [d, 1] => if fr.contains d then G.τ [d] else G.τ [d, 1] | _ => none }

theorem clean_τ {fr m : List Nat} {G : Gh} {k : Tag} {x} (h : (G.clean fr m).τ k = some x) : ∃ d, k = [d, 1] ∧ G.τ (if fr.contains d then [d] else [d, 1]) = some x := by
  simp only [Gh.clean] at h
  split at h
  · rename_i d
    refine ⟨d, rfl, ?_⟩
    by_cases e : fr.contains d = true
    · rw [if_pos e] at h ⊢; exact h
    · rw [if_neg e] at h ⊢; exact h
  · cases h

def ownTag (k : Tag) : AV → Bool
  | .sl _ _ (.own k') => k' == k
  | _ => false

theorem RepT.kept {G w a v} (fr m : List Nat) (h : RepT G w a v) (hf : ∀ d, ownTag [d] a = true → d ∈ fr) : RepT (G.clean fr m) w (a.kept fr m) v := by
  have triv : ∀ (a : AV), (∀ (β β' : Nat → Option Nat), RepV G.S w β a v → RepV G.S w β' a v) → RepV G.S w G.β a v → RepT (G.clean fr m) w a v := fun a h1 h3 => .of (h1 G.β _ h3)
  cases a
  case unk => exact .of (.unk v)
  case int k n => exact triv _ (fun _ _ h => by cases h; exact .int _ _) h
  case bool b => exact triv _ (fun _ _ h => by cases h; exact .bool _) h
  case str s => exact triv _ (fun _ _ h => by cases h; exact .str _) h
  case agg cs => exact triv _ (fun _ _ h => by cases h with | agg h1 h2 => exact .agg h1 h2) h
  case tup cs => exact triv _ (fun _ _ h => by cases h with | tup h1 => exact .tup h1) h
  case ptr id off =>
    simp only [AV.kept]
    split
    · rename_i hc
      refine .of ?_
      have h : RepV G.S w G.β (.ptr id off) v := h
      cases h with
      | ptr hb => exact .ptr (by simp only [Gh.clean, if_pos hc]; exact hb)
    · exact .of (.unk v)
  case nilp => exact triv _ (fun _ _ h => by cases h; exact .nilp) h
  case ro e => exact triv _ (fun _ _ h => by cases h with | ro h1 h2 => exact .ro h1 h2) h
  case sl sz xs st =>
    cases st with
    | nil => exact triv _ (fun _ _ h => by cases h; exact .slNil) h
    | full => exact triv _ (fun _ _ h => by cases h with | slFull h1 h2 => exact .slFull h1 h2 | slFullNil => exact .slFullNil) h
    | sh => exact triv _ (fun _ _ h => by cases h with | slSh c h1 h2 h3 => exact .slSh c h1 h2 h3 | slShNil => exact .slShNil) h
    | own k =>
      have hsh : RepT (G.clean fr m) w (.sl sz xs .sh) v := by
        have h0 := h.share
        simp only [AV.share] at h0
        refine .of ?_
        cases h0 with
        | slSh c h1 h2 h3 => exact .slSh c h1 h2 h3
        | slShNil => exact .slShNil
      have hown : ∀ k', (G.clean fr m).τ k' = G.τ k → RepT (G.clean fr m) w (.sl sz xs (.own k')) v := by
        intro k' e
        obtain ⟨g, cap, vs, rfl, hr, hd, ht, hl⟩ := h
        exact ⟨g, cap, vs, rfl, hr, hd, e.trans ht, hl⟩
      simp only [AV.kept]
      split
      · rename_i heq
        cases heq
      · rename_i heq; cases heq
      · rename_i heq; cases heq
      · rename_i sz' xs' d heq
        cases heq
        refine hown _ ?_
        have : fr.contains d = true := List.contains_iff_mem.2 (hf d (by simp [ownTag]))
        simp only [Gh.clean, if_pos this]
      · rename_i sz' xs' d heq
        cases heq
        split
        · exact hsh
        · rename_i hn
          refine hown _ ?_
          simp only [Gh.clean, if_neg hn]
      · rename_i heq; cases heq
        exact hsh
      · rename_i heq; cases heq
      · rename_i heq; cases heq
      · rename_i hne _ _
        exact absurd rfl (hne _ _ _)
    | win k lo =>
      have h0 := h.share
      simp only [AV.share] at h0
      refine .of ?_
      cases h0 with
      | slSh c h1 h2 h3 => exact .slSh c h1 h2 h3
      | slShNil => exact .slShNil
  case wp k i e =>
    have h0 := h.share
    simp only [AV.share] at h0
    refine .of ?_
    cases h0 with
    | ro h1 h2 => exact .ro h1 h2
  case view id off n =>
    simp only [AV.kept]
    split
    · rename_i hc
      refine .of ?_
      have h : RepV G.S w G.β (.view id off n) v := h
      cases h with
      | view cap hb hl => exact .view cap (by simp only [Gh.clean, if_pos hc]; exact hb) hl
    · exact .of (.unk v)
  case fn f cap =>
    obtain ⟨us, rfl, hu⟩ := h.fn_inv
    refine .of (.fn (RepL.of_get (by simp [hu.length]) fun i c v hc hv => ?_))
    simp only [List.getElem?_map, Option.map_eq_some_iff] at hc
    obtain ⟨c0, hc, rfl⟩ := hc
    obtain ⟨v', h1, h2⟩ := hu.get hc
    rw [h1] at hv; cases hv
    cases c0 <;> try exact h2.loose
    rename_i id off
    simp only [AV.keptC]
    split
    · rename_i hk
      cases h2 with
      | ptr hb => exact .ptr (by simp only [Gh.clean, if_pos hk]; exact hb)
    · exact .unk _
  case niliface => exact triv _ (fun _ _ h => by cases h; exact .niliface) h
  case nilfn => exact triv _ (fun _ _ h => by cases h; exact .nilfn) h

theorem look_filter (m : List Nat) (mm : Mem) (i : Nat) : look (mm.filter fun p => keepsKey m p.1) i = if keepsKey m i then look mm i else none := by
  induction mm with
  | nil => simp [look]
  | cons p r ih =>
    obtain ⟨j, c⟩ := p
    simp only [List.filter_cons]
    by_cases hj : keepsKey m j = true
    · rw [if_pos hj]
      simp only [look, ih]
      split
      · rename_i e
        have e : j = i := by simpa using e
        subst e
        rw [if_pos hj]
      · rfl
    · rw [if_neg hj, ih]
      simp only [look]
      split
      · rename_i hi
        split
        · rename_i e
          have e : j = i := by simpa using e
          subst e
          exact absurd hi hj
        · rfl
      · rfl

theorem pickT_get (l : List Nat) : ∀ (ts : List AV) (k i : Nat), (pickT l k ts)[i]? = (ts[i]?).map fun v => if l.contains (k + i) then v else .unk
  | [], k, i => by simp [pickT]
  | v :: r, k, 0 => by simp [pickT]
  | v :: r, k, i + 1 => by
    simp only [pickT, List.getElem?_cons_succ, pickT_get l r (k + 1) i]
    rw [show k + 1 + i = k + (i + 1) by omega]

theorem mem_fresh {d : Nat} : ∀ {l : List AV} {a : AV}, a ∈ l → ownTag [d] a = true → d ∈ freshOf l
  | x :: r, a, h, ht => by
    rcases List.mem_cons.1 h with rfl | h
    · cases a <;> try (simp [ownTag] at ht; done)
      rename_i sz xs st
      cases st <;> try (simp [ownTag] at ht; done)
      rename_i k
      have : k = [d] := by simpa [ownTag] using ht
      subst this
      simp [freshOf]
    · have := mem_fresh h ht
      unfold freshOf
      split
      · cases ‹x :: r = []›
      · rename_i e; cases e; exact List.mem_cons_of_mem _ this
      · rename_i e; cases e; exact this

theorem Sim.clean {B G s a w} (h : Sim B G s a w) (hB : B.Ok) (l m : List Nat) : ∃ G', Sim B G' (s.clean l m) a w := by
  let ts := pickT l 0 s.tmps
  let mm := s.mem.filter fun p => keepsKey m p.1
  let fr := freshOf ts ++ mm.flatMap fun p => freshOf p.2
  refine ⟨G.clean fr m, ?_, ?_, fun i => ?_, h.defers⟩
  · have hi := h.inv
    constructor
    · exact hi.size
    · exact hi.os
    · exact hi.tape
    · exact hi.output
    · exact hi.old
    · exact hi.S0
    · exact hi.Snew
    · exact hi.Slt
    · intro i j b h1 h2
      simp only [Gh.clean] at h1 h2
      split at h1
      · split at h2
        · exact hi.βinj i j b h1 h2
        · cases h2
      · cases h1
    · intro i b o h1
      simp only [Gh.clean] at h1 ⊢
      split at h1
      · exact hi.βS i b o h1
      · cases h1
    · intro i b h1
      simp only [Gh.clean] at h1
      split at h1
      · exact hi.βnew i b h1
      · cases h1
    · intro i hl
      simp only [AS.clean, look_map, Option.map_eq_none_iff, look_filter] at hl
      simp only [Gh.clean]
      split
      · rename_i hc
        rw [if_pos hc] at hl
        exact hi.dom i hl
      · rfl
    · intro i cs hl
      simp only [AS.clean, look_map, Option.map_eq_some_iff] at hl
      obtain ⟨cs0, hl, rfl⟩ := hl
      have hl0 := hl
      rw [look_filter] at hl
      split at hl
      · rename_i hc
        obtain ⟨b, vs, t, h1, h2, h3, h4, h5⟩ := hi.mem i cs0 hl
        refine ⟨b, vs, t, by simp only [Gh.clean, if_pos hc]; exact h1, h2, by simp [h3], fun j c v hcj hv => ?_, h5⟩
        simp only [List.getElem?_map, Option.map_eq_some_iff] at hcj
        obtain ⟨c0, hcj, rfl⟩ := hcj
        refine (h4 j c0 v hcj hv).kept fr m fun d hd => ?_
        refine List.mem_append_right _ (List.mem_flatMap.2 ⟨(i, cs0), look_mem hl0, mem_fresh (List.mem_of_getElem? hcj) hd⟩)
      · cases hl
    · intro k g e l' hk
      obtain ⟨d, rfl, hk'⟩ := clean_τ hk
      obtain ⟨h1, h2, h3, h4⟩ := hi.τ _ g e l' hk'
      refine ⟨h1, fun i hb => ?_, h3, h4⟩
      simp only [Gh.clean] at hb
      split at hb
      · exact h2 i hb
      · cases hb
    · intro k k' g e l1 e' l2 h1 h2
      obtain ⟨d, rfl, q1⟩ := clean_τ h1
      obtain ⟨d', rfl, q2⟩ := clean_τ h2
      have := hi.τinj _ _ g e l1 e' l2 q1 q2
      by_cases a1 : fr.contains d = true <;> by_cases a2 : fr.contains d' = true
      · rw [if_pos a1, if_pos a2] at this; simp at this; rw [this]
      · rw [if_pos a1, if_neg a2] at this; simp at this
      · rw [if_neg a1, if_pos a2] at this; simp at this
      · rw [if_neg a1, if_neg a2] at this; simp at this; rw [this]
    · intro i b hb
      have : keepsKey m i = true := by
        have h1 : Nat.ble 1000 i = true := by rw [Nat.ble_eq]; exact hB.b0 i b hb
        simp only [keepsKey, h1, Bool.true_or]
      simp only [Gh.clean, if_pos this]
      exact hi.β0 i b hb
    · exact hi.fro
  · simp only [AS.clean, List.length_map]
    rw [← h.len]
    have : ∀ (ts : List AV) k, (pickT l k ts).length = ts.length := by
      intro ts
      induction ts with
      | nil => intro k; rfl
      | cons v r ih => intro k; simp [pickT, ih]
    exact this _ _
  · have := h.tmps i
    simp only [AS.clean, List.getD_eq_getElem?_getD, List.getElem?_map, pickT_get] at this ⊢
    cases hx : s.tmps[i]? with
    | none => simp only [Option.map_none, Option.getD_none]; exact .of (.unk _)
    | some c =>
      simp only [hx, Option.map_some, Option.getD_some] at this ⊢
      split
      · rename_i hc
        refine this.kept fr m fun d hd => ?_
        refine List.mem_append_left _ (mem_fresh (a := c) (List.mem_of_getElem? (i := i) ?_) hd)
        show (pickT l 0 s.tmps)[i]? = some c
        rw [pickT_get, hx, Option.map_some, if_pos hc]
      · exact .of (.unk _)

/-! ### code -/

theorem evCode_wp {P E} (hE : EnvOk P E) (hZ : ZeroOk E.ty) (hm : P.follows .mixedOrders = true) {B} (hB : B.Ok) : ∀ (c : Code) {G s a w} {r : Ex} {s' : AS}, Sim B G s a w → ev E c s = some (r, s') →
    c.wp P (fun e a' w' => e = r.of ∧ ∃ G', Sim B G' s' a' w') a w := by
  intro c
  induction c with
  | skip =>
    intro G s a w r s' h he
    simp only [ev, Option.some.injEq, Prod.mk.injEq] at he
    obtain ⟨rfl, rfl⟩ := he
    exact wp_skip ⟨rfl, G, h⟩
  | label l =>
    intro G s a w r s' h he
    simp only [ev, Option.some.injEq, Prod.mk.injEq] at he
    obtain ⟨rfl, rfl⟩ := he
    exact wp_label ⟨rfl, G, h⟩
  | exit id =>
    intro G s a w r s' h he
    simp only [ev, Option.some.injEq, Prod.mk.injEq] at he
    obtain ⟨rfl, rfl⟩ := he
    exact wp_exit ⟨rfl, G, h⟩
  | ret =>
    intro G s a w r s' h he
    simp only [ev, Option.some.injEq, Prod.mk.injEq] at he
    obtain ⟨rfl, rfl⟩ := he
    exact wp_ret ⟨rfl, G, h⟩
  | region rid ops draw =>
    intro G s a w r s' h he
    cases draw with
    | false =>
      simp only [ev, cond_false, Option.map_eq_some_iff] at he
      obtain ⟨s1, he, hq⟩ := he
      cases hq
      exact wp_region (evSeq_wp hE hB (fun G' a' w' h' => ⟨rfl, G', h'⟩) _ h he)
    | true =>
      simp only [ev, cond_true] at he
      cases ht : evTr E ops (List.range ops.size) s with
      | none => simp [ht] at he
      | some p =>
        obtain ⟨s1, fps⟩ := p
        simp only [ht] at he
        cases hd2 : drawOk2 ops s fps <;> rw [hd2] at he <;> simp only [cond_true, cond_false] at he
        · cases he
        cases he
        obtain ⟨hl, hr⟩ := evTr_run _ ht
        have hd := drawOk_of hd2
        simp only [drawOk, Bool.and_eq_true] at hd
        obtain ⟨⟨⟨d1, d2⟩, d3⟩, d4⟩ := hd
        have hdrop : ∃ G1, Sim B G1 s a w ∧ ∀ (i : Nat) k, (ops[i]?).bind makes = some k → G1.τ k = none := by
          have key : ∀ (ks : List Tag) (G : Gh), Sim B G s a w → (∀ k ∈ ks, s.noTag k = true) → ∃ G1, Sim B G1 s a w ∧ (∀ k ∈ ks, G1.τ k = none) := by
            intro ks
            induction ks with
            | nil => intro G h _; exact ⟨G, h, fun k hk => by cases hk⟩
            | cons k ks ih =>
              intro G h hk
              obtain ⟨G1, h1, h2⟩ := ih G h (fun k' hk' => hk k' (List.mem_cons_of_mem _ hk'))
              refine ⟨G1.drop k, h1.drop (hk k (by simp)), fun k' hk' => ?_⟩
              simp only [Gh.drop]
              split
              · rfl
              · rename_i hne
                rcases List.mem_cons.1 hk' with e | e
                · exact absurd e hne
                · exact h2 k' e
          obtain ⟨G1, h1, h2⟩ := key (ops.toList.filterMap makes) G h (fun k hk => by
            obtain ⟨o, ho, hmk⟩ := List.mem_filterMap.1 hk
            rw [Array.all_eq_true'] at d4
            have := d4 o (by simpa using ho)
            rw [hmk] at this
            exact this)
          refine ⟨G1, h1, fun i k hk => h2 k ?_⟩
          obtain ⟨o, ho, hmk⟩ := Option.bind_eq_some_iff.1 hk
          exact List.mem_filterMap.2 ⟨o, by simpa using Array.mem_of_getElem? ho, hmk⟩
        obtain ⟨G1, h1, hτ⟩ := hdrop
        have hfst : ((List.range ops.size).zip fps).map (·.1) = List.range ops.size := by
          rw [List.map_fst_zip]; omega
        refine wp_region_any hm (any_wp hE hZ hB (s' := s') (fun G' a' w' h' => ⟨rfl, G', h'⟩) ?_ ((List.range ops.size).zip fps) ops.size _ h1.drew hr ?_ ?_ (by simp) ?_ ?_ ?_ ?_ ?_ ?_)
        · intro i o ho e he hb
          simp only [edgesOk, List.all_eq_true] at d1
          have := d1 i (List.mem_range.2 (Array.getElem?_eq_some_iff.1 ho).1)
          rw [ho] at this
          simp only [Array.all_eq_true'] at this
          have := this e he
          rw [hb] at this
          simp at this
          omega
        · simp [hl]
        · rw [hfst]; exact List.pairwise_lt_range
        · intro i hi
          rw [hfst]
          simp [Array.getD, hi]
        · intro x hx
          have := (List.of_mem_zip (a := x.1) (b := x.2) hx).1
          exact List.mem_range.1 this
        · intro i o ho hl'
          exfalso
          simp only [Array.getD_eq_getD_getElem?, Array.getElem?_replicate] at hl'
          split at hl' <;> simp at hl'
        · intro x hx y hy hlt
          have hget : ∀ x ∈ (List.range ops.size).zip fps, x.1 < ops.size ∧ fps.getD x.1 ([], []) = x.2 := by
            intro x hx
            obtain ⟨n, hn⟩ := List.getElem?_of_mem hx
            rw [List.getElem?_zip_eq_some] at hn
            obtain ⟨n1, n2⟩ := hn
            rw [List.getElem?_eq_some_iff] at n1
            obtain ⟨n3, n4⟩ := n1
            simp at n3 n4
            rw [← n4, List.getD_eq_getElem?_getD, n2]
            exact ⟨n3, rfl⟩
          obtain ⟨x1, x2⟩ := hget x hx
          obtain ⟨y1, y2⟩ := hget y hy
          rw [List.all_eq_true] at d3
          have := d3 y.1 (List.mem_range.2 y1)
          rw [List.all_eq_true] at this
          have := this x.1 (List.mem_range.2 hlt)
          rw [Bool.or_eq_true] at this
          rcases this with h | h
          · exact .inl h
          · refine .inr ⟨ops[x.1], ops[y.1], Array.getElem?_eq_getElem x1, Array.getElem?_eq_getElem y1, ?_⟩
            rw [Array.getElem?_eq_getElem x1, Array.getElem?_eq_getElem y1] at h
            simp only [x2, y2] at h
            exact h
        · have e : (List.range ops.size).map (fun i => (ops[i]?).bind makes) = ops.toList.map makes := by
            apply List.ext_getElem?
            intro i
            simp only [List.getElem?_map, List.getElem?_range', Array.getElem?_toList]
            by_cases hi : i < ops.size
            · simp [hi]
            · simp [hi]
          have e2 : ((List.range ops.size).zip fps).filterMap (fun x => (ops[x.1]?).bind makes) = ops.toList.filterMap makes := by
            rw [show (fun x : Nat × FP => (ops[x.1]?).bind makes) = (fun i => (ops[i]?).bind makes) ∘ (·.1) from rfl, ← List.filterMap_map, hfst]
            have h1 : (List.range ops.size).filterMap (fun i => (ops[i]?).bind makes) = ((List.range ops.size).map (fun i => (ops[i]?).bind makes)).filterMap id := by
              rw [List.filterMap_map]; rfl
            have h2 : ops.toList.filterMap makes = (ops.toList.map makes).filterMap id := by rw [List.filterMap_map]; rfl
            rw [h1, h2, e]
          rw [e2]
          simpa [makesOk] using d2
        · intro x hx k hk
          exact hτ x.1 k hk
  | seq x y ihx ihy =>
    intro G s a w r s' h he
    simp only [ev] at he
    cases hx : ev E x s with
    | none => simp [hx] at he
    | some p =>
      obtain ⟨r1, s1⟩ := p
      simp only [hx] at he
      refine wp_seq (wp_mono (ihx h hx) ?_)
      rintro e a1 w1 ⟨rfl, G1, h1⟩
      cases r1 with
      | normal => exact ihy h1 he
      | exit id => cases he; exact ⟨rfl, G1, h1⟩
      | ret => cases he; exact ⟨rfl, G1, h1⟩
  | cond c x y ihx ihy =>
    intro G s a w r s' h he
    simp only [ev] at he
    have hc := h.opv c
    split at he
    · rename_i t ht
      rw [ht] at hc
      have e := RepT.bool_inv hc
      cases t with
      | true => exact wp_cond_true e (ihx h he)
      | false => exact wp_cond_false e (ihy h he)
    · cases he
  | block id c ih =>
    intro G s a w r s' h he
    simp only [ev] at he
    cases hx : ev E c s with
    | none => simp [hx] at he
    | some p =>
      obtain ⟨r1, s1⟩ := p
      simp only [hx] at he
      refine wp_block (wp_mono (ih h hx) ?_)
      rintro e a1 w1 ⟨rfl, G1, h1⟩
      cases r1 with
      | normal => cases he; exact ⟨rfl, G1, h1⟩
      | ret => cases he; exact ⟨rfl, G1, h1⟩
      | exit id' =>
        cases he
        simp only [Ex.of, Exit.inBlock]
        split
        · exact ⟨rfl, G1, h1⟩
        · exact ⟨rfl, G1, h1⟩
  | scope c ih =>
    intro G s a w r s' h he
    simp only [ev] at he
    refine wp_scope_straight (wp_mono (ih h he) ?_)
    rintro e a1 w1 ⟨rfl, G1, h1⟩
    cases r <;> exact ⟨rfl, G1, h1⟩
  | loop c ih =>
    intro G s a w r s' h he
    simp only [ev] at he
    have key : ∀ (cl : AS → AS), (∀ {G s a w}, Sim B G s a w → ∃ G', Sim B G' (cl s) a w) → ∀ n {G s a w r s'}, Sim B G s a w → loopN (ev E c) cl n s = some (r, s') →
        ∀ (b : Frame) (k : List Item) (cs : List Frame), ∃ e a' w', (e = r.of ∧ ∃ G', Sim B G' s' a' w') ∧ Arrives P (lone (b.at a (.code c :: .inLoop c :: k)) cs w) b k cs e a' w' := by
      intro cl hcl
      intro n
      induction n with
      | zero => intro G s a w r s' _ h; cases h
      | succ n ihn =>
        intro G s a w r s' h he b k cs
        simp only [loopN] at he
        obtain ⟨G1, h1⟩ := hcl h
        cases hx : ev E c (cl s) with
        | none => simp [hx] at he
        | some p =>
          obtain ⟨r1, s1⟩ := p
          simp only [hx] at he
          obtain ⟨e, a2, w2, ⟨rfl, G2, h2⟩, harr⟩ := ih h1 hx b (.inLoop c :: k) cs
          cases r1 with
          | normal =>
            obtain ⟨e3, a3, w3, hq, harr3⟩ := ihn h2 he b k cs
            exact ⟨e3, a3, w3, hq, .of_steps (Steps.trans harr (.one step_inLoop)) harr3⟩
          | exit id =>
            cases he
            exact ⟨_, a2, w2, ⟨rfl, G2, h2⟩, .pass (x := .inLoop c) rfl (fun _ _ => .inl (by simp [Ex.of])) harr⟩
          | ret =>
            cases he
            exact ⟨_, a2, w2, ⟨rfl, G2, h2⟩, .pass (x := .inLoop c) rfl (fun _ _ => .inl (by simp [Ex.of])) harr⟩
    intro b k cs
    obtain ⟨r0, he0, hr0⟩ := Option.map_eq_some_iff.1 he
    obtain ⟨r1, s1⟩ := r0
    simp only [Prod.mk.injEq] at hr0
    obtain ⟨rfl, hs1⟩ := hr0
    have out : ∀ {e a' w'}, (e = r1.of ∧ ∃ G', Sim B G' s1 a' w') → (e = r1.of ∧ ∃ G', Sim B G' s' a' w') := by
      rintro e a' w' ⟨h1, G', h2⟩
      refine ⟨h1, ?_⟩
      rw [← hs1]
      cases hk : E.keep (firstKey c + 500) with
      | none => exact ⟨G', h2⟩
      | some p => obtain ⟨l, m⟩ := p; exact h2.clean hB l m
    replace he := he0
    obtain ⟨e, a', w', hq, harr⟩ : ∃ e a' w', (e = r1.of ∧ ∃ G', Sim B G' s1 a' w') ∧ Arrives P (lone (b.at a (.code c :: .inLoop c :: k)) cs w) b k cs e a' w' := by
      cases hk : E.keep (firstKey c) with
      | none =>
        rw [hk] at he
        exact key _ (fun h => ⟨_, h⟩) _ h he b k cs
      | some p =>
        obtain ⟨l, m⟩ := p
        rw [hk] at he
        exact key _ (fun h => h.clean hB l m) _ h he b k cs
    exact ⟨e, a', w', out hq, .of_steps (.one step_loop) harr⟩
  | _ =>
    intro G s a w r s' h he
    simp [ev] at he

end Go.Ev

/- The evaluator: functions. -/
set_option linter.unusedVariables false
set_option linter.unusedSimpArgs false
namespace Go.Ev
open Go

def resRun (tmps : Array Value) : ResultVar → Sem Value
  | .tmp t => pure (tmps.getD t undef)
  | .cell a t => do loadVar t (← asAddr (tmps.getD a undef))

theorem res_one {P ty} (hT : TyOk P ty) {B G s a w} (h : Sim B G s a w) {rv : ResultVar} {c : AV} (hr : resA ty s rv = some c) : ∃ v, (resRun a.tmps rv).run P w = .ok v w ∧ RepT G w c v := by
  cases rv with
  | tmp t =>
    simp only [resA, Option.some.injEq] at hr
    subst hr
    exact ⟨_, rfl, h.tmps t⟩
  | cell ad t =>
    simp only [resA] at hr
    cases ht : ty t with
    | none => simp [ht] at hr
    | some ti =>
    simp only [ht] at hr
    have hx := h.tmps ad
    generalize s.tmps.getD ad .unk = x at hr hx
    cases x <;> try (cases hr; done)
    rename_i id off
    simp only at hr
    cases hl : look s.mem id with
    | none => simp [hl] at hr
    | some cs =>
    simp only [hl] at hr
    cases hb : (((cs.drop off).take ti.size).length == ti.size) <;> rw [hb] at hr <;> simp only [cond_true, cond_false] at hr
    · cases hr
    have hr' : (∃ id' off' cs, AV.ptr id off = .ptr id' off' ∧ look s.mem id' = some cs ∧ ((cs.drop off').take ti.size).length = ti.size ∧
      ((ti.td.agg = true ∧ c = .agg (((cs.drop off').take ti.size).map AV.flat)) ∨ (ti.td.agg = false ∧ ti.size = 1 ∧ c = ((cs.drop off').take ti.size).headD .unk))) ∨ (AV.ptr id off = .ro c ∧ fits ti c = true) := by
      refine .inl ⟨id, off, cs, rfl, hl, by simpa using hb, ?_⟩
      cases ha : ti.td.agg with
      | true => rw [ha] at hr; simp only [if_true, Option.some.injEq] at hr; exact .inl ⟨rfl, hr.symm⟩
      | false =>
        rw [ha] at hr
        simp only [Bool.false_eq_true, if_false] at hr
        cases hs : ti.size == 1 <;> rw [hs] at hr <;> simp only [cond_true, cond_false] at hr
        · cases hr
        · cases hr; exact .inr ⟨rfl, by simpa using hs, rfl⟩
    obtain ⟨v, h1, h2⟩ := load_ok (P := P) hT h ht hx hr'
    obtain ⟨b, hβ, e⟩ := hx.ptr_inv
    refine ⟨v, ?_, h2⟩
    rw [e] at h1
    simp only [resRun, e]
    simpa [Instr.loadAt, Instr.sureAddr, asAddr] using h1

theorem resAll_ok {P ty} (hT : TyOk P ty) {B G s a w} (h : Sim B G s a w) : ∀ {l : List ResultVar} {cs : List AV}, resAll ty s l = some cs →
    ∃ us : List Value, (l.mapM (resRun a.tmps)).run P w = .ok us w ∧ cs.length = us.length ∧ ∀ (j : Nat) c v, cs[j]? = some c → us[j]? = some v → RepT G w c v
  | [], cs, hr => by
    simp only [resAll, Option.some.injEq] at hr
    subst hr
    exact ⟨[], by simp, rfl, fun j c v hc => by simp at hc⟩
  | r :: rs, cs, hr => by
    simp only [resAll] at hr
    cases h1 : resA ty s r with
    | none => simp [h1] at hr
    | some c =>
    cases h2 : resAll ty s rs with
    | none => simp [h1, h2] at hr
    | some cs' =>
    simp only [h1, h2, Option.some.injEq] at hr
    subst hr
    obtain ⟨v, k1, k2⟩ := res_one hT h h1
    obtain ⟨us, k3, k4, k5⟩ := resAll_ok hT h h2
    refine ⟨v :: us, by simp [List.mapM_cons, k1, k3], by simp [k4], fun j c' v' hc hv => ?_⟩
    cases j with
    | zero => simp at hc hv; subst hc hv; exact k2
    | succ j => exact k5 j c' v' (by simpa using hc) (by simpa using hv)

def resOf : List Value → Value
  | [v] => v
  | us => .tuple us.toArray

theorem results_run {P : Program} {fn : Func} {tmps : Array Value} {w : World} {us : List Value} (h : (fn.results.toList.mapM (resRun tmps)).run P w = .ok us w) :
    (results fn tmps).run P w = .ok (resOf us) w := by
  have e : fn.results.mapM (resRun tmps) = List.toArray <$> fn.results.toList.mapM (resRun tmps) := Array.mapM_eq_mapM_toList
  have e2 : results fn tmps = (do let vs ← fn.results.mapM (resRun tmps); pure (if h : vs.size = 1 then vs[0] else .tuple vs)) := by
    unfold results
    congr 1
  rw [e2, e]
  simp only [Sem.run_bind, Sem.run_map, h, Result.andThen_ok]
  rcases us with _ | ⟨v, _ | ⟨v2, us⟩⟩ <;> rfl

theorem RepRes_flat {S w w' r v} (h : RepV S w' (fun _ => none) r v) : RepRes S w w' r v := by
  unfold RepRes
  split
  · cases h
  · exact h

theorem ret_ok {B G s a w} (h : Sim B G s a w) {c : AV} {v : Value} (hc : RepT G w c v) : RepRes G.S B.w0 w c.ret v := by
  have other : RepRes G.S B.w0 w c.flat v := RepRes_flat hc.flat
  cases c <;> try exact other
  rename_i sz xs st
  cases st <;> try exact other
  rename_i k
  obtain ⟨g, cap, vs, rfl, hr, hd, ht, hl⟩ := hc
  obtain ⟨h1, h2, ⟨us, t, h3, h4⟩, h5⟩ := h.inv.τ k g _ _ ht
  exact ⟨g, cap, vs, us, t, h1, rfl, hr, hd, hl, h3, h4, h5⟩

theorem out_ok {B G s a w} (h : Sim B G s a w) {cs : List AV} {us : List Value} (hl : cs.length = us.length) (hc : ∀ (j : Nat) c v, cs[j]? = some c → us[j]? = some v → RepT G w c v) :
    RepRes G.S B.w0 w (outA cs) (resOf us) := by
  have tup : RepRes G.S B.w0 w (.tup (cs.map AV.flat)) (.tuple us.toArray) := by
    refine RepRes_flat (.tup (RepL.of_get (by simp [hl]) fun i c v h1 h2 => ?_))
    simp only [List.getElem?_map, Option.map_eq_some_iff] at h1
    obtain ⟨c0, h1, rfl⟩ := h1
    exact (hc i c0 v h1 h2).flat
  match cs, us, hl with
  | [], [], _ => exact tup
  | [c], [v], _ => exact ret_ok h (hc 0 c v rfl rfl)
  | _ :: _ :: _, _ :: _ :: _, _ => exact tup

theorem look_passed : ∀ (ps : List (List AV)) (k i : Nat), look (passedMem k ps) i = if k ≤ i then ps[i - k]? else none
  | [], k, i => by simp [passedMem, look]
  | cs :: r, k, i => by
    simp only [passedMem, look, look_passed r (k + 1) i]
    by_cases e : k = i
    · subst e; simp
    · rw [if_neg e]
      by_cases h : k ≤ i
      · have h2 : k + 1 ≤ i := by omega
        rw [if_pos h2, if_pos h, show i - k = (i - (k + 1)) + 1 by omega, List.getElem?_cons_succ]
      · rw [if_neg h, if_neg (by omega)]

theorem passedBack_ok {m : Mem} : ∀ {n k : Nat} {l : List (List AV)}, passedBack m k n = some l → l.length = n ∧ ∀ (j : Nat) cs, l[j]? = some cs → ∃ cs0, look m (k + j) = some cs0 ∧ cs = cs0.map AV.flat
  | 0, k, l, h => by
    simp only [passedBack, Option.some.injEq] at h
    subst h
    exact ⟨rfl, fun j cs h => by simp at h⟩
  | n + 1, k, l, h => by
    simp only [passedBack] at h
    cases h1 : look m k with
    | none => simp [h1] at h
    | some cs =>
    cases h2 : passedBack m (k + 1) n with
    | none => simp [h1, h2] at h
    | some l' =>
    simp only [h1, h2, Option.some.injEq] at h
    subst h
    obtain ⟨k1, k2⟩ := passedBack_ok h2
    refine ⟨by simp [k1], fun j cs' hc => ?_⟩
    cases j with
    | zero => simp at hc; subst hc; exact ⟨cs, h1, rfl⟩
    | succ j =>
      obtain ⟨cs0, q1, q2⟩ := k2 j cs' (by simpa using hc)
      exact ⟨cs0, by rw [show k + (j + 1) = k + 1 + j by omega]; exact q1, q2⟩

theorem runF_ok {P E} (hE : EnvOk P E) (hZ : ZeroOk E.ty) (hm : P.follows .mixedOrders = true) {f : FuncId} {fn : Func} (hf : P.funcs[f]? = some fn) (hn : (fn.name == "runtime.NumGoroutine") = false)
    {args : List AV} {passed : List (List AV)} {r : AV} {passed' : List (List AV)} (h : runF E fn args passed = some (r, passed')) : CallsA P f args passed r passed' := by
  unfold runF at h
  cases hb : fn.body with
  | none => simp [hb] at h
  | some c =>
  simp only [hb] at h
  refine ⟨⟨fn, hf, by rw [hb]; rfl, hn⟩, fun w S β vs hp hv => ?_⟩
  cases he : ev E c (enterA fn args passed) with
  | none => simp [he] at h
  | some q =>
  obtain ⟨ex, s'⟩ := q
  simp only [he] at h
  let B : Base := { w0 := w, S0 := S, Wr := fun b => ∃ i, β i = some b, β0 := β }
  let G : Gh := { S := S, β := β, τ := fun _ => none }
  have hB : B.Ok := by
    refine ⟨hp.lt, fun g o hs ⟨i, hi⟩ => hp.avoid i g o hi hs, fun g ⟨i, hi⟩ => ?_, fun i b hi => ?_⟩
    · obtain ⟨j, hj, rfl⟩ := hp.dom i g hi
      obtain ⟨b, us, t, h1, h2, _⟩ := hp.mem j _ (List.getElem?_eq_getElem hj)
      rw [hi] at h1; cases h1
      exact h2.lt
    · obtain ⟨j, hj, rfl⟩ := hp.dom i b hi
      omega
  have hal : args.length = vs.length := hv.length
  have hS : Sim B G (enterA fn args passed) { tmps := vs.toArray ++ Array.replicate (fn.ntmps - vs.toArray.size) undef, defers := [] } w := by
    refine ⟨?_, by simp [enterA, hal], fun i => ?_, rfl⟩
    · constructor
      · exact Nat.le_refl _
      · rfl
      · rfl
      · rfl
      · exact fun b _ _ => rfl
      · exact fun _ _ h => h
      · exact fun _ _ h => .inl h
      · exact hp.lt
      · exact hp.inj
      · exact hp.avoid
      · exact fun i b hi => .inr ⟨i, hi⟩
      · intro i hi
        show β i = none
        cases hq : β i with
        | none => rfl
        | some b =>
          obtain ⟨j, hj, rfl⟩ := hp.dom i b hq
          simp only [enterA, look_passed] at hi
          rw [if_pos (by omega), Nat.add_sub_cancel_left] at hi
          rw [List.getElem?_eq_none_iff] at hi
          omega
      · intro i cs hi
        simp only [enterA, look_passed] at hi
        split at hi
        · rename_i hle
          obtain ⟨b, us, t, h1, h2, h3, h4⟩ := hp.mem _ _ hi
          rw [show 1000 + (i - 1000) = i by omega] at h1
          refine ⟨b, us, t, h1, h2, h3.length, fun j c v hc hv => ?_, h4⟩
          obtain ⟨v', q1, q2⟩ := h3.get hc
          rw [q1] at hv; cases hv
          exact .of q2.bare
        · cases hi
      · intro k g e l hk; cases hk
      · intro k k' g e l e' l' hk; cases hk
      · exact fun _ _ h => h
      · exact Fro.top (Nat.le_refl _)
    · have hlt : (enterA fn args passed).tmps = args ++ List.replicate (fn.ntmps - args.length) (.tup []) := rfl
      rw [hlt]
      simp only [List.getD_eq_getElem?_getD, Array.getD_eq_getD_getElem?, Array.getElem?_append, List.getElem?_append, List.size_toArray, ← hal, List.getElem?_toArray]
      by_cases hi : i < args.length
      · rw [if_pos hi, if_pos hi]
        obtain ⟨v, q1, q2⟩ := hv.get (List.getElem?_eq_getElem hi)
        rw [q1, List.getElem?_eq_getElem hi]
        exact .of q2
      · rw [if_neg hi, if_neg hi]
        by_cases hj : i - args.length < fn.ntmps - args.length
        · rw [List.getElem?_replicate, if_pos hj, Array.getElem?_replicate, if_pos hj]
          exact .of RepV_tup0
        · rw [List.getElem?_replicate, if_neg hj, Array.getElem?_replicate, if_neg hj]
          exact .of (.unk _)
  have hw := evCode_wp hE hZ hm hB c hS he
  refine calls_of_wp hf hb (wp_mono hw ?_)
  rintro e a' w' ⟨rfl, G', h'⟩
  have fin : ∀ {q : Option (AV × List (List AV))}, q = (match resAll E.ty s' fn.results.toList, passedBack s'.mem 1000 passed.length with
      | some vs, some l => some (outA vs, l)
      | _, _ => none) → q = some (r, passed') → a'.defers = [] ∧ ∃ v, (results fn a'.tmps).run P w' = .ok v w' ∧ ∃ v' S', Ending.returned v = .returned v' ∧ Done w S β passed r passed' v' w' S' := by
    intro q hq hq2
    subst hq
    cases h1 : resAll E.ty s' fn.results.toList with
    | none => simp [h1] at hq2
    | some cs =>
    cases h2 : passedBack s'.mem 1000 passed.length with
    | none => simp [h1, h2] at hq2
    | some l =>
    simp only [h1, h2, Option.some.injEq, Prod.mk.injEq] at hq2
    obtain ⟨rfl, rfl⟩ := hq2
    obtain ⟨us, k1, k2, k3⟩ := resAll_ok (P := P) hE.ty h' h1
    obtain ⟨k4, k5⟩ := passedBack_ok h2
    refine ⟨h'.defers, _, results_run k1, _, G'.S, rfl, ?_⟩
    have hi := h'.inv
    refine ⟨hi.size, hi.os, hi.tape, hi.output, fun b hb hne => hi.old b hb fun ⟨i, hi⟩ => hne i hi, hi.S0, hi.Snew, hi.Slt, k4, fun j cs' hc => ?_, out_ok h' k2 k3, hi.fro⟩
    obtain ⟨cs0, q1, rfl⟩ := k5 j cs' hc
    obtain ⟨b, us', t, q2, q3, q4, q5, q6⟩ := hi.mem _ _ q1
    have hj : j < passed.length := by rw [← k4]; exact (List.getElem?_eq_some_iff.1 hc).1
    obtain ⟨b0, _, _, q7, _⟩ := hp.mem j _ (List.getElem?_eq_getElem hj)
    have := hi.β0 _ _ q7
    rw [q2] at this; cases this
    refine ⟨b, us', t, q7, q3, RepL.of_get (by simp [q4]) fun i c v hc hv => ?_, q6⟩
    simp only [List.getElem?_map, Option.map_eq_some_iff] at hc
    obtain ⟨c0, hc, rfl⟩ := hc
    exact (q5 i c0 v hc hv).flat
  cases ex with
  | exit id => cases h
  | normal => exact fin rfl h
  | ret => exact fin rfl h

end Go.Ev

/- The evaluator: types from the program; contracts put together; closed calls. -/
set_option linter.unusedVariables false
set_option linter.unusedSimpArgs false
namespace Go.Ev
open Go

def tyOf (P : Program) (t : TypeId) : Option TI :=
  match P.underlying t, P.info? t with
  | some d, some i =>
    match i.zero with
    | some z =>
      bif z.cells.toList.all oc && z.cells.toList.length == i.size && !P.stoodInHeld t && !P.eqGuardType P.depth t then
        some { td := tdOf d, size := i.size, bytes := i.bytes, zero := z.cells.toList.map ofVal }
      else none
    | none => none
  | _, _ => none

theorem tyOf_ok1 {P : Program} {t : TypeId} {ti : TI} (h : tyOf P t = some ti) : TyOk1 P t ti ∧ ∃ vs : List Value, ti.zero = vs.map ofVal := by
  unfold tyOf at h
  cases h1 : P.underlying t with
  | none => simp [h1] at h
  | some d =>
  cases h2 : P.info? t with
  | none => simp [h1, h2] at h
  | some i =>
  simp only [h1, h2] at h
  cases h3 : i.zero with
  | none => simp [h3] at h
  | some z =>
  simp only [h3] at h
  cases hb : (z.cells.toList.all oc && z.cells.toList.length == i.size && !P.stoodInHeld t && !P.eqGuardType P.depth t) <;> rw [hb] at h <;> simp only [cond_true, cond_false] at h
  · cases h
  cases h
  simp only [Bool.and_eq_true, Bool.not_eq_true', beq_iff_eq, List.all_eq_true] at hb
  obtain ⟨⟨⟨b1, b2⟩, b3⟩, b4⟩ := hb
  exact ⟨⟨⟨d, h1, rfl⟩, ⟨i, z, h2, rfl, rfl, h3, rfl, b1⟩, by simpa using b2, b3, b4⟩, _, rfl⟩

inductive Tr (α : Type) where
  | leaf
  | node (l : Tr α) (k : Nat) (v : α) (r : Tr α)

def Tr.get {α : Type} : Tr α → Nat → Option α
  | .leaf, _ => none
  | .node l k v r, n => bif Nat.blt n k then l.get n else bif Nat.blt k n then r.get n else some v

def Tr.All {α : Type} (p : Nat → α → Prop) : Tr α → Prop
  | .leaf => True
  | .node l k v r => l.All p ∧ p k v ∧ r.All p

theorem Tr.All.get {α : Type} {p : Nat → α → Prop} : ∀ {t : Tr α}, t.All p → ∀ {n v}, t.get n = some v → p n v
  | .leaf, _, n, v, h => by cases h
  | .node l k x r, ha, n, v, h => by
    obtain ⟨h1, h2, h3⟩ := ha
    simp only [Tr.get] at h
    cases hb : Nat.blt n k <;> rw [hb] at h <;> simp only [cond_true, cond_false] at h
    · cases hc : Nat.blt k n <;> rw [hc] at h <;> simp only [cond_true, cond_false] at h
      · cases h
        have : n = k := by
          have e1 : ¬ n < k := by rw [← Nat.blt_eq, hb]; simp
          have e2 : ¬ k < n := by rw [← Nat.blt_eq, hc]; simp
          omega
        rw [this]; exact h2
      · exact h3.get h
    · exact h1.get h

abbrev TT := Tr TI
abbrev FT := Tr Func
abbrev KT := Tr (List Nat × List Nat)

/-! ### contracts -/

abbrev Sum := List AV → List (List AV) → Option (AV × List (List AV))

def SumOk (P : Program) (f : FuncId) (S : Sum) : Prop := ∀ args passed r passed', S args passed = some (r, passed') → CallsA P f args passed r passed'

def specOf : List (FuncId × Sum) → FuncId → Sum
  | [], _ => fun _ _ => none
  | (g, S) :: r, f => bif g == f then S else specOf r f

def SpecL (P : Program) : List (FuncId × Sum) → Prop
  | [] => True
  | p :: r => SumOk P p.1 p.2 ∧ SpecL P r

theorem specOf_ok {P : Program} : ∀ {l : List (FuncId × Sum)}, SpecL P l → SpecOk P (specOf l)
  | [], _ => fun f args passed r passed' h => by cases h
  | p :: l, hl => fun f args passed r passed' h => by
    simp only [specOf] at h
    cases hb : p.1 == f <;> rw [hb] at h <;> simp only [cond_true, cond_false] at h
    · exact specOf_ok hl.2 f args passed r passed' h
    · rw [beq_iff_eq] at hb
      rw [← hb]; exact hl.1 _ _ _ _ h

/-- a program's types and functions, as tables -/
structure Book where
  ty : TT
  fn : FT
  keep : KT
  eqs : TypeId → Option ((List AV → List AV → Bool) × (List AV → Bool)) := fun _ => none
  eqok : ∀ t p, eqs t = some p → ∀ xs ys, p.2 xs = true → p.2 ys = true → eqT ty.get 50 t (.agg xs) (.agg ys) = some (p.1 xs ys) := by intro t p h; cases h

structure Book.Ok (P : Program) (K : Book) : Prop where
  ty : K.ty.All fun t ti => tyOf P t = some ti
  fn : K.fn.All fun f g => P.funcs[f]? = some g ∧ (g.name == "runtime.NumGoroutine") = false
  mixed : P.follows .mixedOrders = true

theorem Book.Ok.tys {P : Program} {K : Book} (h : K.Ok P) : TyOk P K.ty.get := fun _ _ ht => (tyOf_ok1 (h.ty.get ht)).1
theorem Book.Ok.zero {P : Program} {K : Book} (h : K.Ok P) : ZeroOk K.ty.get := fun _ _ ht => (tyOf_ok1 (h.ty.get ht)).2

def Book.env (K : Book) (f : FuncId) (spec : FuncId → Sum) (fuel : Nat) : Env := { ty := K.ty.get, spec, keep := fun r => K.keep.get (f * 1000 + r), fuel }

/-- a function's run by its code, calls by contracts -/
def Book.run (K : Book) (spec : FuncId → Sum) (fuel : Nat) (f : FuncId) : Sum := fun args passed =>
  match K.fn.get f with
  | some g => runF (K.env f spec fuel) g args passed
  | none => none

theorem Book.run_ok {P : Program} {K : Book} (hK : K.Ok P) {spec : FuncId → Sum} (hs : SpecOk P spec) (fuel : Nat) (f : FuncId) : SumOk P f (K.run spec fuel f) := by
  intro args passed r passed' h
  unfold Book.run at h
  cases hf : K.fn.get f with
  | none => simp [hf] at h
  | some g =>
    simp only [hf] at h
    obtain ⟨h1, h2⟩ := hK.fn.get hf
    exact runF_ok (E := K.env f spec fuel) ⟨hK.tys, hs⟩ hK.zero hK.mixed h1 h2 h

/-- all by code -/
def Book.all (K : Book) (fuel : Nat) : Nat → FuncId → Sum
  | 0 => fun _ _ _ => none
  | n + 1 => K.run (K.all fuel n) fuel

theorem Book.all_ok {P : Program} {K : Book} (hK : K.Ok P) (fuel : Nat) : ∀ n, SpecOk P (K.all fuel n)
  | 0 => fun f args passed r passed' h => by cases h
  | n + 1 => fun f => K.run_ok hK (K.all_ok hK fuel n) fuel f

theorem SumOk.mono {P : Program} {f : FuncId} {S S' : Sum} (h : SumOk P f S) (hs : ∀ a p r q, S' a p = some (r, q) → S a p = some (r, q)) : SumOk P f S' :=
  fun a p r q e => h a p r q (hs a p r q e)

end Go.Ev

/- The evaluator, along a path: what a path needs is listed, branches are taken as told. -/
set_option linter.unusedVariables false
set_option linter.unusedSimpArgs false
namespace Go.Ev
open Go

inductive T (α : Type) where
  | no
  | ret (a : α)
  | need (b : Bool) (t : T α)
  | must (p : Prop) (t : T α)

def T.Ret {α : Type} : T α → α → Prop
  | .no, _ => False
  | .ret a, r => a = r
  | .need b t, r => b = true ∧ t.Ret r
  | .must p t, r => p ∧ t.Ret r

/-- a check: closed ones go away by themselves -/
def chk {α : Type} (b : Bool) (t : T α) : T α := bif b then t else .no

theorem chk_ok {α : Type} {b : Bool} {t : T α} {r : α} (h : (chk b t).Ret r) : b = true ∧ t.Ret r := by
  cases b with
  | true => exact ⟨rfl, h⟩
  | false => exact h.elim

theorem T.Ret.of_eq {α : Type} {t t' : T α} {r : α} (e : t = t') (h : t'.Ret r) : t.Ret r := e ▸ h

def T.bind {α β : Type} : T α → (α → T β) → T β
  | .no, _ => .no
  | .ret a, k => k a
  | .need b t, k => chk b (t.bind k)
  | .must p t, k => .must p (t.bind k)

theorem T.Ret.uniq {α : Type} : ∀ {t : T α} {a b : α}, t.Ret a → t.Ret b → a = b
  | .no, _, _, h, _ => h.elim
  | .ret _, _, _, h, k => h.symm.trans k
  | .need _ _, _, _, h, k => T.Ret.uniq h.2 k.2
  | .must _ _, _, _, h, k => T.Ret.uniq h.2 k.2

theorem T.Ret.bind {α β : Type} : ∀ {t : T α} {k : α → T β} {r : β}, (t.bind k).Ret r → ∃ a, t.Ret a ∧ (k a).Ret r
  | .no, _, _, h => h.elim
  | .ret a, k, r, h => ⟨a, rfl, h⟩
  | .need b t, k, r, h => by
    obtain ⟨h0, h⟩ := chk_ok h
    obtain ⟨a, h1, h2⟩ := T.Ret.bind h
    exact ⟨a, ⟨h0, h1⟩, h2⟩
  | .must p t, k, r, h => by
    obtain ⟨a, h1, h2⟩ := T.Ret.bind h.2
    exact ⟨a, ⟨h.1, h1⟩, h2⟩

/-- one of some results, by tests -/
inductive Tree (α : Type) where
  | leaf (a : α)
  | ite (b : Bool) (l r : Tree α)

def Tree.val {α : Type} : Tree α → α
  | .leaf a => a
  | .ite b l r => bif b then l.val else r.val

noncomputable def T.opt {α : Type} (t : T α) : Option α := by
  classical
  exact if h : ∃ r, t.Ret r then some h.choose else none

theorem T.opt_of {α : Type} {t : T α} {r : α} (h : t.Ret r) : t.opt = some r := by
  classical
  unfold T.opt
  have he : ∃ r, t.Ret r := ⟨r, h⟩
  simp only [he, dif_pos]
  exact congrArg some (he.choose_spec.uniq h)

theorem T.of_opt {α : Type} {t : T α} {r : α} (h : t.opt = some r) : t.Ret r := by
  classical
  unfold T.opt at h
  split at h
  · rename_i he
    cases h
    exact he.choose_spec
  · cases h

/-! ### a value as its type says -/

def AV.asInt : AV → Int
  | .int _ n => n
  | _ => 0
def AV.asBool : AV → Bool
  | .bool b => b
  | _ => false
def AV.asStr : AV → List UInt8
  | .str s => s
  | _ => []

def cellAs (z v : AV) : AV :=
  match z with
  | .int k _ => .int k v.asInt
  | .bool _ => .bool v.asBool
  | .str _ => .str v.asStr
  | _ => v

def cellIs (z v : AV) : Bool :=
  match z with
  | .int k _ => match v with | .int k' _ => decide (k' = k) | _ => false
  | .bool _ => match v with | .bool _ => true | _ => false
  | .str _ => match v with | .str _ => true | _ => false
  | _ => true

theorem cellAs_eq {z v : AV} (h : cellIs z v = true) : cellAs z v = v := by
  cases z <;> try rfl
  all_goals (cases v <;> simp [cellIs] at h)
  · subst h; rfl
  · rfl
  · rfl

def cellsAs : List AV → List AV → Nat → List AV
  | [], _, _ => []
  | z :: zs, cs, j => cellAs z (cs.getD j .unk) :: cellsAs zs cs (j + 1)

def cellsIs : List AV → List AV → Nat → Bool
  | [], _, _ => true
  | z :: zs, cs, j => cellIs z (cs.getD j .unk) && cellsIs zs cs (j + 1)

theorem cellsAs_get : ∀ (zs cs : List AV) (j : Nat), cellsIs zs cs j = true → ∀ i, i < zs.length → (cellsAs zs cs j)[i]? = some (cs.getD (j + i) .unk)
  | [], cs, j, _, i, hi => by simp at hi
  | z :: zs, cs, j, h, i, hi => by
    simp only [cellsIs, Bool.and_eq_true] at h
    cases i with
    | zero => simp only [cellsAs, List.getElem?_cons_zero, cellAs_eq h.1, Nat.add_zero]
    | succ i =>
      have := cellsAs_get zs cs (j + 1) h.2 i (by simpa using hi)
      simp only [cellsAs, List.getElem?_cons_succ, this, show j + 1 + i = j + (i + 1) by omega]

theorem cellsAs_len : ∀ (zs cs : List AV) (j : Nat), (cellsAs zs cs j).length = zs.length
  | [], cs, j => rfl
  | z :: zs, cs, j => by simp [cellsAs, cellsAs_len zs cs (j + 1)]

theorem cellsAs_eq {zs cs : List AV} (h : cellsIs zs cs 0 = true) (hl : cs.length = zs.length) : cellsAs zs cs 0 = cs := by
  apply List.ext_getElem?
  intro i
  by_cases hi : i < zs.length
  · rw [cellsAs_get zs cs 0 h i hi, Nat.zero_add, List.getD_eq_getElem?_getD, List.getElem?_eq_getElem (by omega)]
    rfl
  · rw [List.getElem?_eq_none (by rw [cellsAs_len]; omega), List.getElem?_eq_none (by omega)]

/-- a value with its type's shape to be seen -/
def AV.as (ti : TI) (v : AV) : AV := bif ti.td.agg then .agg (cellsAs ti.zero v.cells 0) else cellAs (ti.zero.headD .unk) v

def AV.has (ti : TI) (v : AV) : Bool := bif ti.td.agg then v.isAgg && (v.cells.length == ti.zero.length && cellsIs ti.zero v.cells 0) else cellIs (ti.zero.headD .unk) v

theorem AV.as_eq {ti : TI} {v : AV} (h : v.has ti = true) : v.as ti = v := by
  unfold AV.has at h
  unfold AV.as
  cases ha : ti.td.agg <;> rw [ha] at h <;> simp only [cond_true, cond_false] at h ⊢
  · exact cellAs_eq h
  · simp only [Bool.and_eq_true, beq_iff_eq] at h
    cases v <;> try (simp [AV.isAgg] at h; done)
    rename_i cs
    simp only [AV.cells] at h ⊢
    rw [cellsAs_eq h.2.2 h.2.1]

/-- a value whose shape is seen -/
def seen {α : Type} (ti : TI) (v : AV) (k : AV → T α) : T α := chk (v.has ti) (k (v.as ti))

theorem seen_ok {α : Type} {ti : TI} {v : AV} {k : AV → T α} {r : α} (h : (seen ti v k).Ret r) : (k v).Ret r := by
  obtain ⟨h1, h2⟩ := chk_ok h
  rwa [AV.as_eq h1] at h2

/-! ### operations -/

section ops
variable {α : Type}

def ofO {β : Type} (o : Option β) (k : β → T α) : T α :=
  match o with
  | some v => k v
  | none => .no

theorem ofO_ok {β : Type} {o : Option β} {k : β → T α} {r : α} (h : (ofO o k).Ret r) : ∃ v, o = some v ∧ (k v).Ret r := by
  cases o with
  | none => exact h.elim
  | some v => exact ⟨v, rfl, h⟩

def boundP (d : Nat) (v : Option AV) (top : Nat) (k : Nat → T α) : T α :=
  match v with
  | none => k d
  | some (.int _ i) => chk (inR i (top + 1)) (k i.toNat)
  | some _ => .no

theorem boundP_ok {d : Nat} {v : Option AV} {top : Nat} {k : Nat → T α} {r : α} (h : (boundP d v top k).Ret r) : ∃ n, boundA d v top = some n ∧ (k n).Ret r := by
  cases v with
  | none => exact ⟨d, rfl, h⟩
  | some v =>
    cases v <;> try exact h.elim
    rename_i kk i
    obtain ⟨h1, h2⟩ := chk_ok h
    exact ⟨i.toNat, by simp only [boundA, h1, cond_true], h2⟩

/-- a list's part -/
def cutL (hi : Option AV) (xs : List AV) (l h : Nat) : List AV :=
  match hi with
  | none => xs.drop l
  | some _ => (xs.drop l).take (h - l)

theorem cutL_eq {hi : Option AV} {xs : List AV} {l n : Nat} (h : boundA xs.length hi xs.length = some n) : cutL hi xs l n = (xs.drop l).take (n - l) := by
  cases hi with
  | none =>
    simp only [boundA, Option.some.injEq] at h
    subst h
    show xs.drop l = (xs.drop l).take (xs.length - l)
    rw [List.take_of_length_le]
    rw [List.length_drop]
    exact Nat.le_refl _
  | some v => rfl

def sliceP (ty : Tys) (t : TypeId) (x : AV) (lo hi mx : Option AV) (k : AV → T α) : T α :=
  match x with
  | .str s =>
    match mx with
    | some _ => .no
    | none => boundP s.length hi s.length fun h => boundP 0 lo h fun l => bif isStr ty t then k (.str ((s.drop l).take (h - l))) else .no
  | .sl sz xs st =>
    match elemOf ty t with
    | none => .no
    | some ei =>
      bif isSlice ty t && ((sz == ei.size && st != .nil) || (st == .nil && xs.isEmpty)) then
        boundP xs.length hi xs.length fun h => boundP 0 lo h fun l =>
          match mx with
          | none => bif st == .nil then k x else k (.sl sz (cutL hi xs l h) (cutSt sz st l (hi.isNone || h == xs.length)))
          | some m => boundP 0 (some m) h fun m' => chk (hi.isSome && m' == h) (bif st == .nil then k x else k (.sl sz ((xs.drop l).take (h - l)) .full))
      else .no
  | .ptr id off =>
    match arrLen ty t, elemOf ty t, mx with
    | some n, some ei, none => boundP n hi n fun h => boundP 0 lo h fun l => k (.view id (if n == l then off else off + l * ei.size) (h - l))
    | _, _, _ => .no
  | _ => .no

theorem sliceP_ok {ty t x lo hi mx} {k : AV → T α} {r : α} (h : (sliceP ty t x lo hi mx k).Ret r) : ∃ v, sliceA ty t x lo hi mx = some v ∧ (k v).Ret r := by
  cases x <;> try exact h.elim
  case str s =>
    simp only [sliceP, sliceA] at h ⊢
    cases mx with
    | some m => exact h.elim
    | none =>
      obtain ⟨n, h1, h⟩ := boundP_ok h
      obtain ⟨l, h2, h⟩ := boundP_ok h
      simp only [h1, h2]
      cases hb : isStr ty t <;> rw [hb] at h <;> simp only [cond_true, cond_false] at h ⊢
      · exact h.elim
      · exact ⟨_, rfl, h⟩
  case sl sz xs st =>
    simp only [sliceP, sliceA] at h ⊢
    cases he : elemOf ty t with
    | none => simp only [he] at h; exact h.elim
    | some ei =>
      simp only [he] at h ⊢
      generalize hb : (isSlice ty t && ((sz == ei.size && st != .nil) || (st == .nil && xs.isEmpty))) = b at h
      cases b <;> simp only [cond_true, cond_false] at h ⊢
      · exact h.elim
      obtain ⟨n, h1, h⟩ := boundP_ok h
      obtain ⟨l, h2, h⟩ := boundP_ok h
      simp only [h1, h2]
      cases mx with
      | none =>
        have hsame : cutL hi xs l n = (xs.drop l).take (n - l) := cutL_eq h1
        simp only at h ⊢
        rw [hsame] at h
        cases hq : st == St.nil <;> rw [hq] at h <;> simp only [cond_true, cond_false] at h ⊢ <;> exact ⟨_, rfl, h⟩
      | some m =>
        simp only at h ⊢
        obtain ⟨m', h3, h⟩ := boundP_ok h
        obtain ⟨h4, h⟩ := chk_ok h
        simp only [h3, h4, cond_true]
        cases hq : st == St.nil <;> rw [hq] at h <;> simp only [cond_true, cond_false] at h ⊢ <;> exact ⟨_, rfl, h⟩
  case ptr id off =>
    simp only [sliceP, sliceA] at h ⊢
    cases h1 : arrLen ty t with
    | none => simp only [h1] at h; exact h.elim
    | some n =>
    cases h2 : elemOf ty t with
    | none => simp only [h1, h2] at h; exact h.elim
    | some ei =>
    cases mx with
    | some m => simp only [h1, h2] at h; exact h.elim
    | none =>
      simp only [h1, h2] at h ⊢
      obtain ⟨n', h3, h⟩ := boundP_ok h
      obtain ⟨l, h4, h⟩ := boundP_ok h
      simp only [h3, h4]
      exact ⟨_, rfl, h⟩

def partP (ti : TI) (cs : List AV) (off : Nat) (k : AV → T α) : T α :=
  bif ti.td.agg then seen ti (.agg ((cs.drop off).take ti.size)) (fun v => bif fits ti v then k v else .no)
  else chk (Nat.blt off cs.length) (seen ti (cs.getD off .unk) (fun v => bif fits ti v then k v else .no))

theorem partP_ok {ti : TI} {cs : List AV} {off : Nat} {k : AV → T α} {r : α} (h : (partP ti cs off k).Ret r) :
    ∃ v, ((partA ti cs off).bind fun v => bif fits ti v then some v else none) = some v ∧ (k v).Ret r := by
  unfold partP at h
  unfold partA
  have fin : ∀ v : AV, (bif fits ti v then k v else T.no).Ret r → fits ti v = true ∧ (k v).Ret r := by
    intro v h
    cases hf : fits ti v <;> rw [hf] at h <;> simp only [cond_true, cond_false] at h
    · exact h.elim
    · exact ⟨rfl, h⟩
  cases ha : ti.td.agg <;> rw [ha] at h <;> simp only [cond_true, cond_false] at h
  · obtain ⟨h0, h⟩ := chk_ok h
    obtain ⟨h1, h2⟩ := fin _ (seen_ok h)
    have hlt : off < cs.length := by rwa [Nat.blt_eq] at h0
    have e : cs[off]? = some (cs.getD off .unk) := by rw [List.getD_eq_getElem?_getD, List.getElem?_eq_getElem hlt]; rfl
    simp only [Bool.false_eq_true, if_false]
    exact ⟨_, by rw [e]; simp only [Option.bind_some, h1, cond_true], h2⟩
  · obtain ⟨h1, h2⟩ := fin _ (seen_ok h)
    simp only [if_true, Option.bind_some, h1, cond_true]
    exact ⟨_, rfl, h2⟩

def fieldAddrP (ty : Tys) (t : TypeId) (x : AV) (f : Nat) (k : AV → T α) : T α :=
  match fieldOf ty t f with
  | none => .no
  | some (off, fi) =>
    bif fi.size == 0 then .no else
    match x with
    | .ptr id o => k (.ptr id (o + off))
    | .ro (.agg cs) => partP fi cs off fun v => k (.ro v)
    | _ => .no

theorem fieldAddrP_ok {ty t x f} {k : AV → T α} {r : α} (h : (fieldAddrP ty t x f k).Ret r) : ∃ v, fieldAddrA ty t x f = some v ∧ (k v).Ret r := by
  unfold fieldAddrP at h
  unfold fieldAddrA
  cases hf : fieldOf ty t f with
  | none => simp only [hf] at h; exact h.elim
  | some p =>
    obtain ⟨off, fi⟩ := p
    simp only [hf] at h ⊢
    cases hs : fi.size == 0 <;> rw [hs] at h <;> simp only [cond_true, cond_false] at h ⊢
    · cases x <;> try exact h.elim
      · exact ⟨_, rfl, h⟩
      · rename_i e
        cases e <;> try exact h.elim
        rename_i cs
        obtain ⟨v, h1, h2⟩ := partP_ok h
        refine ⟨.ro v, ?_, h2⟩
        simp only
        cases hp : partA fi cs off with
        | none => simp [hp] at h1
        | some u =>
          simp only [hp, Option.bind_some] at h1 ⊢
          cases hq : fits fi u <;> rw [hq] at h1 <;> simp only [cond_true, cond_false] at h1 ⊢ <;> cases h1
          rfl
    · exact h.elim

def fieldP (ty : Tys) (t : TypeId) (x : AV) (f : Nat) (k : AV → T α) : T α :=
  match fieldOf ty t f with
  | none => .no
  | some (off, fi) =>
    match x with
    | .agg cs => partP fi cs off k
    | _ => .no

theorem fieldP_ok {ty t x f} {k : AV → T α} {r : α} (h : (fieldP ty t x f k).Ret r) : ∃ v, fieldA ty t x f = some v ∧ (k v).Ret r := by
  unfold fieldP at h
  unfold fieldA
  cases hf : fieldOf ty t f with
  | none => simp only [hf] at h; exact h.elim
  | some p =>
    obtain ⟨off, fi⟩ := p
    simp only [hf] at h ⊢
    cases x <;> try exact h.elim
    exact partP_ok h

def indexAddrP (ty : Tys) (t : TypeId) (x i : AV) (k : AV → T α) : T α :=
  match elemOf ty t with
  | none => .no
  | some ei =>
    match i with
    | .int _ i =>
      match x with
      | .sl sz xs st => bif isSlice ty t && sz == ei.size then chk (inR i xs.length) (seen ei (xs.getD i.toNat .unk) fun v => k (elemPtr sz st i.toNat v)) else .no
      | .view id off n => bif isSlice ty t then chk (inR i n) (k (.ptr id (off + i.toNat * ei.size))) else .no
      | .ptr id off =>
        match arrLen ty t with
        | some n => chk (inR i n) (k (.ptr id (off + i.toNat * ei.size)))
        | none => .no
      | .ro (.agg cs) =>
        match arrLen ty t with
        | some n => chk (inR i n) (partP ei cs (i.toNat * ei.size) fun v => k (.ro v))
        | none => .no
      | _ => .no
    | _ => .no

theorem indexAddrP_ok {ty t x i} {k : AV → T α} {r : α} (h : (indexAddrP ty t x i k).Ret r) : ∃ v, indexAddrA ty t x i = some v ∧ (k v).Ret r := by
  unfold indexAddrP at h
  unfold indexAddrA
  cases he : elemOf ty t with
  | none => simp only [he] at h; exact h.elim
  | some ei =>
    simp only [he] at h ⊢
    cases i <;> try exact h.elim
    rename_i kk i
    cases x <;> try exact h.elim
    case sl sz xs st =>
      simp only at h ⊢
      cases hb : isSlice ty t && sz == ei.size <;> rw [hb] at h <;> simp only [cond_true, cond_false] at h ⊢
      · exact h.elim
      obtain ⟨h1, h⟩ := chk_ok h
      have h2 := seen_ok h
      simp only [inR, decide_eq_true_eq] at h1
      refine ⟨elemPtr sz st i.toNat (xs.getD i.toNat .unk), ?_, h2⟩
      unfold idx
      rw [if_pos h1.1, List.getD_eq_getElem?_getD, List.getElem?_eq_getElem (by omega)]
      rfl
    case view id off n =>
      simp only at h ⊢
      cases hb : isSlice ty t <;> rw [hb] at h <;> simp only [cond_true, cond_false] at h
      · exact h.elim
      · obtain ⟨q1, q2⟩ := chk_ok h
        simp only [q1, Bool.true_and, cond_true]
        exact ⟨_, rfl, q2⟩
    case ptr id off =>
      simp only at h ⊢
      cases ha : arrLen ty t with
      | none => simp only [ha] at h; exact h.elim
      | some n =>
        simp only [ha] at h ⊢
        obtain ⟨q1, q2⟩ := chk_ok h
        simp only [q1, cond_true]
        exact ⟨_, rfl, q2⟩
    case ro e =>
      cases e <;> try exact h.elim
      rename_i cs
      simp only at h ⊢
      cases ha : arrLen ty t with
      | none => simp only [ha] at h; exact h.elim
      | some n =>
        simp only [ha] at h ⊢
        obtain ⟨h0, h⟩ := chk_ok h
        obtain ⟨v, h1, h2⟩ := partP_ok h
        refine ⟨.ro v, ?_, h2⟩
        simp only [h0, cond_true]
        cases hp : partA ei cs (i.toNat * ei.size) with
        | none => simp [hp] at h1
        | some u =>
          simp only [hp, Option.bind_some] at h1 ⊢
          cases hq : fits ei u <;> rw [hq] at h1 <;> simp only [cond_true, cond_false] at h1 ⊢ <;> cases h1
          rfl

def indexP (ty : Tys) (t : TypeId) (x i : AV) (k : AV → T α) : T α :=
  match i with
  | .int _ i =>
    match x with
    | .agg cs =>
      match arrLen ty t with
      | none => .no
      | some n =>
        match elemOf ty t with
        | none => .no
        | some ei => chk (inR i n) (partP ei cs (i.toNat * ei.size) k)
    | .str s => bif isStr ty t then chk (inR i s.length) (k (.int .u8 (s.getD i.toNat 0).toNat)) else .no
    | _ => .no
  | _ => .no

theorem indexP_ok {ty t x i} {k : AV → T α} {r : α} (h : (indexP ty t x i k).Ret r) : ∃ v, indexA ty t x i = some v ∧ (k v).Ret r := by
  unfold indexP at h
  unfold indexA
  cases i <;> try exact h.elim
  rename_i kk i
  cases x <;> try exact h.elim
  case agg cs =>
    simp only at h ⊢
    cases ha : arrLen ty t with
    | none => simp only [ha] at h; exact h.elim
    | some n =>
    cases he : elemOf ty t with
    | none => simp only [ha, he] at h; exact h.elim
    | some ei =>
      simp only [ha, he] at h ⊢
      obtain ⟨h0, h⟩ := chk_ok h
      simp only [h0, cond_true]
      exact partP_ok h
  case str s =>
    simp only at h ⊢
    cases hb : isStr ty t <;> rw [hb] at h <;> simp only [cond_true, cond_false] at h
    · exact h.elim
    obtain ⟨h1, h2⟩ := chk_ok h
    simp only [inR, decide_eq_true_eq] at h1
    unfold isStr at hb
    cases ht : ty t with
    | none => simp [ht] at hb
    | some ti =>
      simp only [ht] at hb ⊢
      cases hd : ti.td <;> simp [hd] at hb
      simp only [hd]
      refine ⟨_, ?_, h2⟩
      rw [if_pos h1.1, List.getD_eq_getElem?_getD, List.getElem?_eq_getElem (by omega)]
      rfl

def intP (op : BinOp) (kk : IntKind) (a b : Int) (k : AV → T α) : T α :=
  match op with
  | .quo => chk (!ieq b 0) (k (.int kk (iquo kk a b)))
  | .rem => chk (!ieq b 0) (k (.int kk (irem a b)))
  | op => ofO (intOp op kk a b) k

theorem intP_ok {op kk a b} {k : AV → T α} {r : α} (h : (intP op kk a b k).Ret r) : ∃ v, intOp op kk a b = some v ∧ (k v).Ret r := by
  cases op <;> try exact ofO_ok h
  all_goals
    obtain ⟨h1, h2⟩ := chk_ok h
    simp only [Bool.not_eq_true'] at h1
    simp only [intOp, h1, cond_false]
    exact ⟨_, rfl, h2⟩

def strP (op : BinOp) (a b : List UInt8) (k : AV → T α) : T α :=
  match op with
  | .add => chk (Nat.ble (a.length + b.length) 9223372036854775807) (k (.str (a ++ b)))
  | op => ofO (strOp op a b) k

theorem strP_ok {op a b} {k : AV → T α} {r : α} (h : (strP op a b k).Ret r) : ∃ v, strOp op a b = some v ∧ (k v).Ret r := by
  cases op <;> try exact ofO_ok h
  obtain ⟨h1, h2⟩ := chk_ok h
  have h1 : ile ((a.length + b.length : Nat) : Int) 9223372036854775807 = true := by
    rw [Nat.ble_eq] at h1
    simp only [ile, decide_eq_true_eq]
    omega
  simp only [strOp, h1, cond_true]
  exact ⟨_, rfl, h2⟩

/-- how whole values of a type are held against each other -/
abbrev EqFn := (List AV → List AV → Bool) × (List AV → Bool)

def EqOk (ty : Tys) (eqs : TypeId → Option EqFn) : Prop :=
  ∀ t p, eqs t = some p → ∀ xs ys, p.2 xs = true → p.2 ys = true → eqT ty 50 t (.agg xs) (.agg ys) = some (p.1 xs ys)

def aggP (ty : Tys) (eqs : TypeId → Option EqFn) (op : BinOp) (t : TypeId) (xs ys : List AV) (k : AV → T α) : T α :=
  match eqs t with
  | none => ofO (binA ty op t (.agg xs) (.agg ys)) k
  | some p =>
    match op with
    | .eql => chk (p.2 xs) (chk (p.2 ys) (k (.bool (p.1 xs ys))))
    | .neq => chk (p.2 xs) (chk (p.2 ys) (k (.bool (!p.1 xs ys))))
    | _ => .no

theorem aggP_ok {ty eqs op t xs ys} (hq : EqOk ty eqs) {k : AV → T α} {r : α} (h : (aggP ty eqs op t xs ys k).Ret r) : ∃ v, binA ty op t (.agg xs) (.agg ys) = some v ∧ (k v).Ret r := by
  unfold aggP at h
  cases he : eqs t with
  | none => simp only [he] at h; exact ofO_ok h
  | some p =>
    simp only [he] at h
    cases op <;> try exact h.elim
    all_goals
      obtain ⟨h1, h⟩ := chk_ok h
      obtain ⟨h2, h⟩ := chk_ok h
      have := hq t p he xs ys h1 h2
      exact ⟨_, by simp only [binA, AV.flat, this, Option.map_some], h⟩

def binP (ty : Tys) (eqs : TypeId → Option EqFn) (op : BinOp) (t : TypeId) (x y : AV) (k : AV → T α) : T α :=
  match x, y with
  | .int kk a, .int k' b =>
    match op with
    | .shl => chk (ile 0 b) (k (.int kk (ishl kk a b)))
    | .shr => chk (ile 0 b) (k (.int kk (ishr kk a b)))
    | op => if kk = k' then intP op kk a b k else .no
  | .str a, .str b => strP op a b k
  | .agg xs, .agg ys => aggP ty eqs op t xs ys k
  | x, y => ofO (binA ty op t x y) k

theorem binP_ok {ty eqs op t x y} (hq : EqOk ty eqs) {k : AV → T α} {r : α} (h : (binP ty eqs op t x y k).Ret r) : ∃ v, binA ty op t x y = some v ∧ (k v).Ret r := by
  unfold binP at h
  split at h
  · rename_i kk a k' b
    split at h
    · obtain ⟨q1, q2⟩ := chk_ok h
      exact ⟨_, by simp only [binA, q1, cond_true], q2⟩
    · obtain ⟨q1, q2⟩ := chk_ok h
      exact ⟨_, by simp only [binA, q1, cond_true], q2⟩
    · rename_i op' h1 h2
      split at h
      · rename_i e
        obtain ⟨v, q1, q2⟩ := intP_ok h
        refine ⟨v, ?_, q2⟩
        cases op' <;> first | exact (h1 rfl).elim | exact (h2 rfl).elim | (simp only [binA]; rw [if_pos e]; exact q1)
      · exact h.elim
  · obtain ⟨v, q1, q2⟩ := strP_ok h
    refine ⟨v, ?_, q2⟩
    cases op <;> exact q1
  · exact aggP_ok hq h
  · exact ofO_ok h

def takeI (k : IntKind) (xs : List AV) : Nat → Nat → List AV
  | 0, _ => []
  | n + 1, i => .int k (xs.getD i .unk).asInt :: takeI k xs n (i + 1)
def takeIs (k : IntKind) (xs : List AV) : Nat → Nat → Bool
  | 0, _ => true
  | n + 1, i => isIntK k (xs.getD i .unk) && takeIs k xs n (i + 1)
theorem takeI_ok {k : IntKind} {xs : List AV} : ∀ {n i : Nat}, i + n ≤ xs.length → takeIs k xs n i = true → takeI k xs n i = (xs.drop i).take n ∧ ((xs.drop i).take n).all (isIntK k) = true
  | 0, i, _, _ => by simp [takeI]
  | n + 1, i, hl, h => by
    simp only [takeIs, Bool.and_eq_true] at h
    obtain ⟨h1, h2⟩ := takeI_ok (n := n) (i := i + 1) (by omega) h.2
    have e : xs.drop i = xs.getD i .unk :: xs.drop (i + 1) := by
      rw [List.drop_eq_getElem_cons (by omega), List.getD_eq_getElem?_getD, List.getElem?_eq_getElem (by omega)]; rfl
    have e2 : (AV.int k (xs.getD i .unk).asInt) = xs.getD i .unk := by
      have h3 := h.1
      generalize xs.getD i .unk = v at h3
      cases v <;> try (cases h3; done)
      simp only [isIntK, decide_eq_true_eq] at h3
      rw [h3]; rfl
    rw [e, List.take_succ_cons, takeI, h1, e2]
    exact ⟨rfl, by rw [List.all_cons, h.1, h2]; rfl⟩

def arrPtrP (ty : Tys) (t : TypeId) (x : AV) (k : AV → T α) : T α :=
  match arrLen ty t, elemOf ty t, x with
  | some n, some ei, .sl sz xs _ =>
    match ei.td with
    | .int kk => bif sz == 1 && Nat.blt 0 n then chk (Nat.ble n xs.length) (chk (takeIs kk xs n 0) (k (.ro (.agg (takeI kk xs n 0))))) else .no
    | _ => .no
  | _, _, _ => .no
theorem arrPtrP_ok {ty t x} {k : AV → T α} {r : α} (h : (arrPtrP ty t x k).Ret r) : ∃ v, arrPtrA ty t x = some v ∧ (k v).Ret r := by
  unfold arrPtrP at h
  unfold arrPtrA
  cases hn : arrLen ty t with
  | none => simp only [hn] at h; exact h.elim
  | some n =>
  cases he : elemOf ty t with
  | none => simp only [hn, he] at h; exact h.elim
  | some ei =>
  simp only [hn, he] at h ⊢
  cases x <;> try exact h.elim
  rename_i sz xs st
  simp only at h ⊢
  cases htd : ei.td <;> simp only [htd] at h ⊢ <;> try exact h.elim
  rename_i kk
  cases hb : (sz == 1 && Nat.blt 0 n) <;> rw [hb] at h <;> simp only [cond_true, cond_false] at h
  · exact h.elim
  obtain ⟨h1, h⟩ := chk_ok h
  obtain ⟨h2, h⟩ := chk_ok h
  obtain ⟨h3, h4⟩ := takeI_ok (n := n) (i := 0) (by rw [Nat.ble_eq] at h1; omega) h2
  rw [List.drop_zero] at h3 h4
  rw [h3] at h
  rw [h1, h4]
  exact ⟨_, rfl, h⟩

def pureP (ty : Tys) (eqs : TypeId → Option EqFn) (ρ : Operand → AV) (op : Op) (k : AV → T α) : T α :=
  match op with
  | .binOp op t x y _ => binP ty eqs op t (ρ x) (ρ y) k
  | .fieldAddr t x f => fieldAddrP ty t (ρ x) f k
  | .field t x f => fieldP ty t (ρ x) f k
  | .indexAddr t x i => indexAddrP ty t (ρ x) (ρ i) k
  | .index t x i => indexP ty t (ρ x) (ρ i) k
  | .sliceToArrayPointer t x => arrPtrP ty t (ρ x) k
  | .slice t x lo hi mx => sliceP ty t (ρ x) (lo.map ρ) (hi.map ρ) (mx.map ρ) k
  | op => ofO (evPure ty ρ op) k

theorem pureP_ok {ty eqs ρ op} (hq : EqOk ty eqs) {k : AV → T α} {r : α} (h : (pureP ty eqs ρ op k).Ret r) : ∃ v, evPure ty ρ op = some v ∧ (k v).Ret r := by
  cases op <;> try exact ofO_ok h
  · exact binP_ok hq h
  · exact arrPtrP_ok h
  · exact sliceP_ok h
  · exact fieldAddrP_ok h
  · exact fieldP_ok h
  · exact indexAddrP_ok h
  · exact indexP_ok h

end ops

end Go.Ev

/- The evaluator, along a path (2): memory, calls, code. -/
set_option linter.unusedVariables false
set_option linter.unusedSimpArgs false
namespace Go.Ev
open Go

abbrev SumT := List AV → List (List AV) → T (Tree (AV × List (List AV)))

/-- which way to go where a test is open: as told, or both ways -/
inductive Q where
  | z
  | t (q : Q)
  | f (q : Q)
  | s (q1 q2 : Q)

/-- a call that is gone through by its code -/
structure InlT where
  run : (α : Type) → List AV → List (List AV) → Q → ((AV × List (List AV)) → Q → T α) → T α
  sum : List AV → List (List AV) → Option (AV × List (List AV))
  ok : ∀ (α : Type) (a : List AV) (p : List (List AV)) (q : Q) (k : (AV × List (List AV)) → Q → T α) (r : α), (run α a p q k).Ret r → ∃ x q', sum a p = some x ∧ (k x q').Ret r

structure EnvP where
  ty : Tys
  spec : FuncId → SumT
  keep : Nat → Option (List Nat × List Nat)
  fuel : Nat
  loops : Nat → Option (AS → T (Tree (Ex × AS)))
  eqs : TypeId → Option EqFn
  eqok : EqOk ty eqs
  inl : FuncId → Option InlT := fun _ => none

noncomputable def EnvP.env (E : EnvP) : Env := { ty := E.ty, spec := fun f a p => match E.inl f with | some i => i.sum a p | none => (E.spec f a p).opt.map Tree.val, keep := E.keep, fuel := E.fuel }

/-- is b as told -/
def asTold (b c : Bool) : Bool := match c with | true => b | false => !b

theorem asTold_eq {b c : Bool} (h : asTold b c = true) : b = c := by
  cases c <;> cases b <;> simp [asTold] at h ⊢

def onQ {α : Type} (b : Bool) (q : Q) (k : Bool → Q → T α) : T α :=
  match q with
  | .z => .no
  | .t q => chk (asTold b true) (k true q)
  | .f q => chk (asTold b false) (k false q)
  | .s q1 q2 => bif b then k true q1 else k false q2

theorem onQ_ok {α : Type} {b : Bool} {q : Q} {k : Bool → Q → T α} {r : α} (h : (onQ b q k).Ret r) : ∃ q', (k b q').Ret r := by
  cases q with
  | z => exact h.elim
  | t q =>
    obtain ⟨h1, h2⟩ := chk_ok h
    rw [asTold_eq h1]; exact ⟨q, h2⟩
  | f q =>
    obtain ⟨h1, h2⟩ := chk_ok h
    rw [asTold_eq h1]; exact ⟨q, h2⟩
  | s q1 q2 =>
    cases b with
    | true => exact ⟨q1, h⟩
    | false => exact ⟨q2, h⟩

def onTree {α β : Type} (t : Tree β) (q : Q) (k : β → Q → T α) : T α :=
  match t with
  | .leaf a => k a q
  | .ite b l r => onQ b q fun c q => bif c then onTree l q k else onTree r q k

theorem onTree_ok {α β : Type} : ∀ {t : Tree β} {q : Q} {k : β → Q → T α} {r : α}, (onTree t q k).Ret r → ∃ q', (k t.val q').Ret r
  | .leaf a, q, k, r, h => ⟨q, h⟩
  | .ite b l r', q, k, r, h => by
    obtain ⟨q', h⟩ := onQ_ok h
    cases b with
    | true => exact onTree_ok (t := l) h
    | false => exact onTree_ok (t := r') h

section ops
variable {α : Type}

def srcP (ty : Tys) (t2 : TypeId) (ei : TI) (m : Mem) (y : AV) (k : List AV → T α) : T α :=
  match y with
  | .sl sz ys st => bif isSlice ty t2 && (sz == ei.size || (st == .nil && ys.isEmpty)) then k ys else .no
  | .view id off n =>
    match look m id with
    | some cs =>
      chk (isSlice ty t2 && ((cs.drop off).take (n * ei.size)).length == n * ei.size && (ei.td.agg || ei.size == 1))
        (k (rows ei.td.agg ei.size (((cs.drop off).take (n * ei.size)).map AV.flat) n))
    | none => .no
  | .int .i64 n =>
    chk (ile 0 n) (chk (ile n 140737488355328) (chk (ile ((ei.bytes : Int) * n) 140737488355328)
      (bif isInt ty t2 && ei.zero.length == ei.size && (ei.td.agg || ei.size == 1) then k (List.replicate n.toNat ei.elemZero) else .no)))
  | _ => .no

theorem srcP_ok {ty t2 ei m y} {k : List AV → T α} {r : α} (h : (srcP ty t2 ei m y k).Ret r) : ∃ ys, srcA ty t2 ei m y = some ys ∧ (k ys).Ret r := by
  cases y <;> try exact h.elim
  case sl sz ys st =>
    simp only [srcP, srcA] at h ⊢
    generalize (isSlice ty t2 && (sz == ei.size || (st == .nil && ys.isEmpty))) = b at h
    cases b <;> simp only [cond_true, cond_false] at h ⊢
    · exact h.elim
    · exact ⟨_, rfl, h⟩
  case view id off n =>
    simp only [srcP, srcA] at h ⊢
    cases hl : look m id with
    | none => simp only [hl] at h; exact h.elim
    | some cs =>
      simp only [hl] at h ⊢
      obtain ⟨q1, q2⟩ := chk_ok h
      simp only [q1, cond_true]
      exact ⟨_, rfl, q2⟩
  case int kk n =>
    cases kk <;> try exact h.elim
    obtain ⟨h1, h⟩ := chk_ok h
    obtain ⟨h2, h⟩ := chk_ok h
    obtain ⟨h3, h⟩ := chk_ok h
    simp only [srcA, h1, h2, h3, Bool.and_true]
    generalize hb : (isInt ty t2 && ei.zero.length == ei.size && (ei.td.agg || ei.size == 1)) = b at h
    cases b <;> simp only [cond_true, cond_false] at h ⊢
    · exact h.elim
    · exact ⟨_, rfl, h⟩

def appendP (ei : TI) (d : Nat) (x : AV) (ys : List AV) (q : Q) (k : Eff → Q → T α) : T α :=
  match x with
  | .sl sz xs st =>
    bif (sz == ei.size || (st == .nil && xs.isEmpty)) then
      chk (Nat.ble ((xs.length + ys.length) * ei.bytes) 140737488355328) (chk (Nat.ble (xs.length + ys.length) 140737488355328)
        (match st with
        | .own g => k { val := .sl ei.size (xs ++ ys) (.own [d]), rt := some g } q
        | .sh => chk ys.isEmpty (k { val := x } q)
        | .win _ _ => .no
        | .nil => onQ ys.isEmpty q fun c q => bif c then k { val := x } q else k { val := .sl ei.size ys (.own [d]) } q
        | .full => onQ ys.isEmpty q fun c q => bif c then k { val := x } q else k { val := .sl ei.size (xs ++ ys) (.own [d]) } q))
    else .no
  | _ => .no

theorem ble_ile {a : Nat} (h : Nat.ble a 140737488355328 = true) : ile (a : Int) 140737488355328 = true := by
  rw [Nat.ble_eq] at h
  simp only [ile, decide_eq_true_eq]
  omega

theorem appendP_ok {ei d x ys q} {k : Eff → Q → T α} {r : α} (h : (appendP ei d x ys q k).Ret r) : ∃ e q', appendA ei d x ys = some e ∧ (k e q').Ret r := by
  cases x <;> try exact h.elim
  rename_i sz xs st
  simp only [appendP, appendA] at h ⊢
  generalize (sz == ei.size || (st == .nil && xs.isEmpty)) = b at h
  cases b <;> simp only [cond_true, cond_false] at h
  · exact h.elim
  obtain ⟨h1, h⟩ := chk_ok h
  obtain ⟨h2, h⟩ := chk_ok h
  replace h1 := ble_ile h1
  replace h2 := ble_ile h2
  simp only [h1, h2, Bool.true_and, cond_true]
  cases st <;> simp only at h ⊢
  · obtain ⟨q', h⟩ := onQ_ok h
    cases hc : ys.isEmpty <;> rw [hc] at h <;> simp only [cond_true, cond_false] at h ⊢ <;> exact ⟨_, q', rfl, h⟩
  · obtain ⟨q', h⟩ := onQ_ok h
    cases hc : ys.isEmpty <;> rw [hc] at h <;> simp only [cond_true, cond_false] at h ⊢ <;> exact ⟨_, q', rfl, h⟩
  · obtain ⟨q1, q2⟩ := chk_ok h
    simp only [q1, cond_true]
    exact ⟨_, q, rfl, q2⟩
  · exact ⟨_, q, rfl, h⟩
  · exact h.elim

def loadP (ty : Tys) (t : TypeId) (x : AV) (m : Mem) (k : AV → T α) : T α :=
  match ty t with
  | none => .no
  | some ti =>
    match x with
    | .ptr id off =>
      match look m id with
      | some cs =>
        chk (((cs.drop off).take ti.size).length == ti.size)
          (bif ti.td.agg then (bif Nat.ble ti.size 8 then seen ti (.agg (((cs.drop off).take ti.size).map AV.flat)) k else k (.agg (((cs.drop off).take ti.size).map AV.flat))) else bif ti.size == 1 then seen ti (((cs.drop off).take ti.size).headD .unk) k else .no)
      | none => .no
    | .ro e => bif fits ti e then k e else .no
    | .wp _ _ e => bif fits ti e then k e else .no
    | _ => .no

def storeP (ty : Tys) (t : TypeId) (x y : AV) (m : Mem) (k : Eff → T α) : T α :=
  match ty t with
  | none => .no
  | some ti =>
    match x with
    | .ptr id off =>
      match look m id with
      | some cs =>
        chk (y.known && !y.isTup && y.cells.length == ti.size && Nat.ble (off + ti.size) cs.length) (k { val := .tup [], upd := [(id, setAt cs off y.cells)] })
      | none => .no
    | .wp g i _ => bif ti.size == 1 then chk y.scal (k { val := .tup [], wr := some (g, i, [y]) }) else .no
    | _ => .no

def copyLP (g : Tag) (lo : Nat) (xs : List AV) (y : AV) (k : Eff → T α) : T α :=
  match y with
  | .sl sz ys st => bif sz == 1 || (st == .nil && ys.isEmpty) then chk (ys.all AV.scal) (k { val := .int .i64 (Nat.min ys.length xs.length), wr := some (g, lo, ys.take xs.length) }) else .no
  | _ => .no

def copyP (x y : AV) (k : Eff → T α) : T α :=
  match x with
  | .sl sz xs (.own g) => bif sz == 1 then copyLP g 0 xs y k else .no
  | .sl sz xs (.win g lo) => bif sz == 1 then copyLP g lo xs y k else .no
  | _ => .no

theorem copyP_ok {x y} {k : Eff → T α} {r : α} (h : (copyP x y k).Ret r) : ∃ e, copyA x y = some e ∧ (k e).Ret r := by
  have key : ∀ {g lo xs}, (copyLP g lo xs y k).Ret r → ∃ e, copyL g lo xs y = some e ∧ (k e).Ret r := by
    intro g lo xs h
    cases y <;> try exact h.elim
    rename_i sz ys st _
    simp only [copyLP, copyL] at h ⊢
    generalize hb : (sz == 1 || (st == .nil && ys.isEmpty)) = b at h
    cases b <;> simp only [cond_true, cond_false] at h
    · exact h.elim
    obtain ⟨h1, h2⟩ := chk_ok h
    simp only [h1, Bool.and_self, cond_true]
    exact ⟨_, rfl, h2⟩
  cases x <;> try exact h.elim
  rename_i sz xs st
  cases st <;> try exact h.elim
  all_goals
    simp only [copyP, copyA] at h ⊢
    generalize hb : (sz == 1) = b at h
    cases b <;> simp only [cond_true, cond_false] at h ⊢
    · exact h.elim
    · exact key h

def pickP (c a b : AV) (q : Q) (k : AV → Q → T α) : T α :=
  match c with
  | .bool t =>
    match a, b with
    | .bool x, .bool y => k (.bool (bif t then x else y)) q
    | a, b => onQ t q fun c q => k (bif c then a else b) q
  | _ => .no

theorem pickP_ok {ty ρ c a b q} {k : AV → Q → T α} {r : α} (h : (pickP (ρ c) (ρ a) (ρ b) q k).Ret r) : ∃ v q', evPure ty ρ (.pick c a b) = some v ∧ (k v q').Ret r := by
  unfold pickP at h
  simp only [evPure]
  generalize ρ c = cv at h
  cases cv <;> try exact h.elim
  rename_i t
  simp only at h ⊢
  split at h
  · rename_i x y hx hy
    rw [hx, hy]
    exact ⟨_, q, rfl, h⟩
  · rename_i x y hne
    obtain ⟨q', h⟩ := onQ_ok h
    refine ⟨_, q', rfl, ?_⟩
    have : pickA t (ρ a) (ρ b) = bif t then ρ a else ρ b := by
      unfold pickA
      split
      · rename_i x y hx hy
        exact absurd hy (hne x y hx)
      · rfl
    rw [this]
    exact h

def callP (E : EnvP) (m : Mem) (dst : Option Nat) (g : FuncId) (args : List AV) (q : Q) (k : Eff → Q → T α) : T α :=
  match looks m (ptrIds args) with
  | none => .no
  | some passed =>
    match E.inl g with
    | some i => i.run α (args.map (AV.renum (ptrIds args))) passed q fun p q =>
      chk (p.2.length == (ptrIds args).length) (k { val := p.1.named dst, upd := (ptrIds args).zip p.2 } q)
    | none => (E.spec g (args.map (AV.renum (ptrIds args))) passed).bind fun t => onTree t q fun p q =>
      chk (p.2.length == (ptrIds args).length) (k { val := p.1.named dst, upd := (ptrIds args).zip p.2 } q)

def effP (E : EnvP) (o : Oper) (ρ : Operand → AV) (m : Mem) (q : Q) (k : Eff → Q → T α) : T α :=
  match o.op with
  | .load t x => loadP E.ty t (ρ x) m fun v => k { val := v } q
  | .store t x y => storeP E.ty t (ρ x) (ρ y) m fun e => k e q
  | .call { callee := .builtin .copy, args, argTypes } =>
    match args.toList, argTypes.toList with
    | [x, y], [t, _] =>
      match elemOf E.ty t with
      | some ei => bif isSlice E.ty t && ei.size == 1 then copyP (ρ x) (ρ y) fun e => k e q else .no
      | none => .no
    | _, _ => .no
  | .call { callee := .builtin .append, args, argTypes } =>
    match args.toList, argTypes.toList, o.dst with
    | [x, y], [t, t2], some d =>
      match elemOf E.ty t with
      | some ei => bif isSlice E.ty t then srcP E.ty t2 ei m (ρ y) fun ys => appendP ei d (ρ x) ys q k else .no
      | none => .no
    | _, _, _ => .no
  | .call { callee := .value f, args, .. } =>
    match ρ f with
    | .fn g cap => callP E m o.dst g (args.toList.map ρ ++ cap) q k
    | _ => .no
  | .alloc e =>
    match E.ty e, o.dst with
    | some ti, some d => ofO (allocA m d ti.zero) fun e => k e q
    | _, _ => .no
  | .box _ x =>
    match (ρ x).laid, o.dst with
    | some cs, some d => ofO (allocA m d cs) fun e => k e q
    | _, _ => .no
  | .buildSlice t n ps => ofO (evMake E.ty ρ (.buildSlice t n ps)) fun v => k { val := v } q
  | .pick c a b => pickP (ρ c) (ρ a) (ρ b) q fun v q => k { val := v } q
  | op => pureP E.ty E.eqs ρ op fun v => k { val := v } q

theorem effP_ok {E : EnvP} {o : Oper} {ρ m q} {k : Eff → Q → T α} {r : α} (h : (effP E o ρ m q k).Ret r) : ∃ e q', effOf E.env o ρ m = some e ∧ (k e q').Ret r := by
  obtain ⟨dst, op, oty, pos, after, guard⟩ := o
  have pure_ : ∀ op' : Op, (pureP E.ty E.eqs ρ op' fun v => k { val := v } q).Ret r → ∃ e q', (evPure E.ty ρ op').map (fun v => ({ val := v } : Eff)) = some e ∧ (k e q').Ret r := by
    intro op' h
    obtain ⟨v, h1, h2⟩ := pureP_ok E.eqok h
    exact ⟨_, q, by rw [h1]; rfl, h2⟩
  cases hop : op
  case alloc t =>
    rw [hop] at h
    simp only [effP, effOf, EnvP.env] at h ⊢
    cases ht : E.ty t with
    | none => simp only [ht] at h; exact h.elim
    | some ti =>
    cases dst with
    | none => simp only [ht] at h; exact h.elim
    | some d =>
      simp only [ht] at h ⊢
      obtain ⟨e, h1, h2⟩ := ofO_ok h
      exact ⟨e, q, h1, h2⟩
  case box t x =>
    rw [hop] at h
    simp only [effP, effOf, EnvP.env] at h ⊢
    cases ht : (ρ x).laid with
    | none => simp only [ht] at h; exact h.elim
    | some cs =>
    cases dst with
    | none => simp only [ht] at h; exact h.elim
    | some d =>
      simp only [ht] at h ⊢
      obtain ⟨e, h1, h2⟩ := ofO_ok h
      exact ⟨e, q, h1, h2⟩
  case load t x =>
    rw [hop] at h
    simp only [effP, effOf, EnvP.env, loadP] at h ⊢
    cases ht : E.ty t with
    | none => simp only [ht] at h; exact h.elim
    | some ti =>
    simp only [ht] at h ⊢
    generalize ρ x = xv at h
    cases xv <;> try exact h.elim
    case ptr id off =>
      simp only at h ⊢
      cases hl : look m id with
      | none => simp only [hl] at h; exact h.elim
      | some cs =>
      simp only [hl] at h ⊢
      obtain ⟨h0, h⟩ := chk_ok h
      simp only [h0, cond_true]
      cases ha : ti.td.agg <;> rw [ha] at h <;> simp only [cond_true, cond_false] at h
      · cases hs : ti.size == 1 <;> rw [hs] at h <;> simp only [cond_true, cond_false] at h
        · exact h.elim
        · simp only [Bool.false_eq_true, if_false, cond_true]
          exact ⟨_, q, rfl, seen_ok h⟩
      · simp only [if_true]
        cases hs : Nat.ble ti.size 8 <;> rw [hs] at h <;> simp only [cond_true, cond_false] at h
        · exact ⟨_, q, rfl, h⟩
        · exact ⟨_, q, rfl, seen_ok h⟩
    case ro e =>
      simp only at h ⊢
      cases hf : fits ti e <;> rw [hf] at h <;> simp only [cond_true, cond_false] at h ⊢
      · exact h.elim
      · exact ⟨_, q, rfl, h⟩
    case wp g i e =>
      simp only at h ⊢
      cases hf : fits ti e <;> rw [hf] at h <;> simp only [cond_true, cond_false] at h ⊢
      · exact h.elim
      · exact ⟨_, q, rfl, h⟩
  case store t x y =>
    rw [hop] at h
    simp only [effP, effOf, EnvP.env, storeP] at h ⊢
    cases ht : E.ty t with
    | none => simp only [ht] at h; exact h.elim
    | some ti =>
    simp only [ht] at h ⊢
    generalize ρ x = xv at h
    cases xv <;> try exact h.elim
    case ptr id off =>
      simp only at h ⊢
      cases hl : look m id with
      | none => simp only [hl] at h; exact h.elim
      | some cs =>
      simp only [hl] at h ⊢
      obtain ⟨q1, q2⟩ := chk_ok h
      simp only [q1, cond_true]
      exact ⟨_, q, rfl, q2⟩
    case wp g i e =>
      simp only at h ⊢
      cases hs : ti.size == 1 <;> rw [hs] at h <;> simp only [cond_true, cond_false] at h
      · exact h.elim
      obtain ⟨q1, q2⟩ := chk_ok h
      simp only [q1, Bool.and_self, cond_true]
      exact ⟨_, q, rfl, q2⟩
  case call c =>
    rw [hop] at h
    obtain ⟨callee, args, argTypes⟩ := c
    cases callee with
    | value f =>
      simp only [effP, effOf, EnvP.env, callP, callA] at h ⊢
      generalize ρ f = fv at h
      cases fv <;> try exact h.elim
      simp only at h ⊢
      rename_i g cap
      generalize args.toList.map ρ ++ cap = as at h
      cases hl : looks m (ptrIds as) with
      | none => simp only [hl] at h; exact h.elim
      | some passed =>
      simp only [hl] at h ⊢
      cases hi : E.inl g with
      | some i =>
        simp only [hi] at h ⊢
        obtain ⟨x, q', h1, h⟩ := i.ok _ _ _ _ _ _ h
        obtain ⟨h2, h3⟩ := chk_ok h
        rw [h1]
        simp only [h2, cond_true]
        exact ⟨_, q', rfl, h3⟩
      | none =>
      simp only [hi] at h ⊢
      obtain ⟨tr, h1, h⟩ := h.bind
      obtain ⟨q', h⟩ := onTree_ok h
      obtain ⟨h2, h3⟩ := chk_ok h
      rw [T.opt_of h1]
      simp only [Option.map_some, h2, cond_true]
      exact ⟨_, q', rfl, h3⟩
    | invoke rr n => exact pure_ (.call { callee := .invoke rr n, args, argTypes }) h
    | builtin b =>
      by_cases hb : b = .append
      · subst hb
        simp only [effP, effOf, EnvP.env] at h ⊢
        split at h
        · rename_i x y t t2 d h1 h2
          simp only [h1, h2]
          cases hel : elemOf E.ty t with
          | none => simp only [hel] at h; exact h.elim
          | some ei =>
          simp only [hel] at h ⊢
          cases his : isSlice E.ty t <;> rw [his] at h <;> simp only [cond_true, cond_false] at h ⊢
          · exact h.elim
          obtain ⟨ys, h3, h⟩ := srcP_ok h
          rw [h3]
          exact appendP_ok h
        · exact h.elim
      · by_cases hb2 : b = .copy
        · subst hb2
          simp only [effP, effOf, EnvP.env] at h ⊢
          split at h
          · rename_i x y t t2 h1 h2
            simp only [h1, h2]
            cases hel : elemOf E.ty t with
            | none => simp only [hel] at h; exact h.elim
            | some ei =>
            simp only [hel] at h ⊢
            cases his : (isSlice E.ty t && ei.size == 1) <;> rw [his] at h <;> simp only [cond_true, cond_false] at h ⊢
            · exact h.elim
            obtain ⟨e, h3, h⟩ := copyP_ok h
            exact ⟨e, q, h3, h⟩
          · exact h.elim
        have e1 : effP E ⟨dst, .call { callee := .builtin b, args, argTypes }, oty, pos, after, guard⟩ ρ m q k = pureP E.ty E.eqs ρ (.call { callee := .builtin b, args, argTypes }) fun v => k { val := v } q := by
          cases b <;> first | rfl | exact absurd rfl hb | exact absurd rfl hb2
        have e2 : effOf E.env ⟨dst, .call { callee := .builtin b, args, argTypes }, oty, pos, after, guard⟩ ρ m = (evPure E.ty ρ (.call { callee := .builtin b, args, argTypes })).map fun v => { val := v } := by
          cases b <;> first | rfl | exact absurd rfl hb | exact absurd rfl hb2
        rw [e1] at h
        rw [e2]
        exact pure_ _ h
  case buildSlice t n ps =>
    rw [hop] at h
    simp only [effP, effOf, EnvP.env] at h ⊢
    obtain ⟨v, h1, h2⟩ := ofO_ok h
    exact ⟨_, q, by rw [h1]; rfl, h2⟩
  case pick c a b =>
    rw [hop] at h
    simp only [effP] at h
    obtain ⟨v, q', h1, h2⟩ := pickP_ok (ty := E.ty) h
    exact ⟨{ val := v }, q', by simp only [effOf, EnvP.env, h1, Option.map_some], h2⟩
  all_goals
    rw [hop] at h
    have := pure_ op (by rw [hop]; exact h)
    rw [hop] at this
    exact this

end ops

/-! ### code -/

section code
variable {α : Type}

def wantP (ops : Array Oper) (ts : List AV) (o : Oper) (q : Q) (run skip : Q → T α) : T α :=
  match o.guard with
  | none => run q
  | some (j, want) =>
    match (ops[j]?).bind (·.dst) with
    | none => skip q
    | some t =>
      match ts[t]? with
      | some (.bool b) => onQ b q fun c q => bif c == want then run q else skip q
      | some (.tup _) => skip q
      | none => skip q
      | _ => .no

def AV.ownOk : AV → Bool
  | .sl _ xs (.own _) => xs.all AV.scal
  | _ => true

def AV.wroteQ (k : Tag) (i : Nat) (vs : List AV) : AV → AV
  | .sl sz xs (.own k') => if k' = k then .sl sz (setAt xs i vs) (.own k') else .sl sz xs (.own k')
  | v => v.wrote k i vs

def AS.ownOk (s : AS) : Bool := s.tmps.all AV.ownOk && s.mem.all fun p => p.2.all AV.ownOk
def AS.wroteQ (k : Tag) (i : Nat) (vs : List AV) (s : AS) : AS := { tmps := s.tmps.map (AV.wroteQ k i vs), mem := s.mem.map fun p => (p.1, p.2.map (AV.wroteQ k i vs)) }

theorem AV.wroteQ_eq {k : Tag} {i : Nat} {vs : List AV} {v : AV} (h : v.ownOk = true) : v.wroteQ k i vs = v.wrote k i vs := by
  cases v <;> try rfl
  rename_i sz xs st
  cases st <;> try rfl
  simp only [AV.ownOk] at h
  simp only [AV.wroteQ, AV.wrote, h, cond_true]

theorem AS.wroteQ_eq {k : Tag} {i : Nat} {vs : List AV} {s : AS} (h : s.ownOk = true) : s.wroteQ k i vs = s.wrote k i vs := by
  simp only [AS.ownOk, Bool.and_eq_true, List.all_eq_true] at h
  unfold AS.wroteQ AS.wrote
  congr 1
  · exact List.map_congr_left fun v hv => AV.wroteQ_eq (h.1 v hv)
  · refine List.map_congr_left fun p hp => ?_
    congr 1
    exact List.map_congr_left fun v hv => AV.wroteQ_eq (h.2 p hp v hv)

/-- an effect put into a state -/
def appP (e : Eff) (dst : Option Nat) (s : AS) (k : AS → T α) : T α :=
  match e.wr with
  | none => k (e.app dst s)
  | some (g, i, vs) => chk (Eff.app { e with wr := none } none s).ownOk (k (((Eff.app { e with wr := none } none s).wroteQ g i vs).put dst e.val))

theorem appP_ok {e : Eff} {dst : Option Nat} {s : AS} {k : AS → T α} {r : α} (h : (appP e dst s k).Ret r) : (k (e.app dst s)).Ret r := by
  unfold appP at h
  cases hw : e.wr with
  | none => simp only [hw] at h; exact h
  | some x =>
    obtain ⟨g, i, vs⟩ := x
    simp only [hw] at h
    obtain ⟨h1, h2⟩ := chk_ok h
    rw [AS.wroteQ_eq h1] at h2
    have : e.app dst s = ((Eff.app { e with wr := none } none s).wrote g i vs).put dst e.val := by
      unfold Eff.app
      simp only [hw]
      rfl
    rw [this]
    exact h2

def step1P (E : EnvP) (ops : Array Oper) (i : Nat) (s : AS) (q : Q) (k : AS → Q → T α) : T α :=
  match ops[i]? with
  | none => k s q
  | some o => wantP ops s.tmps o q (fun q => effP E o (opv s.tmps) s.mem q fun e q => appP e o.dst s fun s => k s q) (fun q => k (s.put o.dst (.tup [])) q)

theorem step1P_ok {E : EnvP} {ops : Array Oper} {i : Nat} {s : AS} {q : Q} {k : AS → Q → T α} {r : α} (h : (step1P E ops i s q k).Ret r) : ∃ s' q', step1 E.env ops i s = some s' ∧ (k s' q').Ret r := by
  unfold step1P at h
  unfold step1
  cases ho : ops[i]? with
  | none => simp only [ho] at h ⊢; exact ⟨_, _, rfl, h⟩
  | some o =>
    simp only [ho] at h ⊢
    have run : ∀ q, (effP E o (opv s.tmps) s.mem q fun e q => appP e o.dst s fun s => k s q).Ret r → ∃ s' q', evOp E.env o s = some s' ∧ (k s' q').Ret r := by
      intro q h
      obtain ⟨e, q', h1, h2⟩ := effP_ok h
      exact ⟨_, q', by unfold evOp; rw [h1]; rfl, appP_ok h2⟩
    unfold wantP at h
    unfold wantA
    cases hg : o.guard with
    | none =>
      simp only [hg] at h ⊢
      exact run q h
    | some jw =>
      obtain ⟨j, want⟩ := jw
      simp only [hg] at h ⊢
      cases hj : (ops[j]?).bind (·.dst) with
      | none => simp only [hj] at h ⊢; exact ⟨_, q, rfl, h⟩
      | some t =>
        simp only [hj] at h ⊢
        cases hx : s.tmps[t]? with
        | none => simp only [hx] at h ⊢; exact ⟨_, q, rfl, h⟩
        | some v =>
          simp only [hx] at h ⊢
          cases v <;> try exact h.elim
          case bool b =>
            simp only at h ⊢
            obtain ⟨q', h⟩ := onQ_ok h
            cases hc : b == want <;> rw [hc] at h <;> simp only [cond_true, cond_false] at h ⊢
            · exact ⟨_, q', rfl, h⟩
            · exact run q' h
          case tup vs => exact ⟨_, q, rfl, h⟩

def evSeqP (E : EnvP) (ops : Array Oper) : List Nat → AS → Q → (AS → Q → T α) → T α
  | [], s, q, k => k s q
  | i :: rest, s, q, k =>
    match (ops[i]?).bind makes with
    | none => step1P E ops i s q fun s q => evSeqP E ops rest s q k
    | some g => chk (s.noTag g) (step1P E ops i s q fun s q => evSeqP E ops rest s q k)

theorem evSeqP_ok {E : EnvP} {ops : Array Oper} : ∀ {l : List Nat} {s : AS} {q : Q} {k : AS → Q → T α} {r : α}, (evSeqP E ops l s q k).Ret r → ∃ s' q', evSeq E.env ops l s = some s' ∧ (k s' q').Ret r
  | [], s, q, k, r, h => ⟨s, q, rfl, h⟩
  | i :: rest, s, q, k, r, h => by
    simp only [evSeqP] at h
    simp only [evSeq]
    cases hm : (ops[i]?).bind makes with
    | none =>
      simp only [hm] at h ⊢
      obtain ⟨s1, q1, h1, h⟩ := step1P_ok h
      rw [h1]
      exact evSeqP_ok h
    | some g =>
      simp only [hm] at h ⊢
      obtain ⟨h0, h⟩ := chk_ok h
      obtain ⟨s1, q1, h1, h⟩ := step1P_ok h
      rw [h0, h1]
      exact evSeqP_ok h

def evTrP (E : EnvP) (ops : Array Oper) : List Nat → AS → Q → (AS → List FP → Q → T α) → T α
  | [], s, q, k => k s [] q
  | i :: rest, s, q, k => step1P E ops i s q fun s' q => evTrP E ops rest s' q fun s'' l q => k s'' (fpOf ops i s :: l) q

theorem evTrP_ok {E : EnvP} {ops : Array Oper} : ∀ {l : List Nat} {s : AS} {q : Q} {k : AS → List FP → Q → T α} {r : α}, (evTrP E ops l s q k).Ret r → ∃ s' fs q', evTr E.env ops l s = some (s', fs) ∧ (k s' fs q').Ret r
  | [], s, q, k, r, h => ⟨s, [], q, rfl, h⟩
  | i :: rest, s, q, k, r, h => by
    simp only [evTrP] at h
    simp only [evTr]
    obtain ⟨s1, q1, h1, h⟩ := step1P_ok h
    obtain ⟨s2, fs, q2, h2, h⟩ := evTrP_ok h
    rw [h1]
    simp only [h2]
    exact ⟨_, _, q2, rfl, h⟩

def loopP (f : AS → Q → (Ex → AS → Q → T α) → T α) (c : AS → AS) : Nat → AS → Q → (Ex → AS → Q → T α) → T α
  | 0, _, _, _ => .no
  | n + 1, s, q, k => f (c s) q fun ex s' q => match ex with | .normal => loopP f c n s' q k | ex => k ex s' q

def EnvP.clean (E : EnvP) (key : Nat) : AS → AS := match E.keep key with | some (l, m) => AS.clean l m | none => id

def evP (E : EnvP) : Code → AS → Q → (Ex → AS → Q → T α) → T α
  | .skip, s, q, k => k .normal s q
  | .region _ ops draw, s, q, k =>
    bif draw then evTrP E ops (List.range ops.size) s q fun s' l q => chk (drawOk2 ops s l) (k .normal s' q)
    else evSeqP E ops (List.range ops.size) s q fun s q => k .normal s q
  | .seq a b, s, q, k => evP E a s q fun ex s' q => match ex with | .normal => evP E b s' q k | ex => k ex s' q
  | .cond c a b, s, q, k =>
    match opv s.tmps c with
    | .bool t => onQ t q fun c q => bif c then evP E a s q k else evP E b s q k
    | _ => .no
  | .block id c, s, q, k => evP E c s q fun ex s' q => match ex with | .exit id' => k (if id' = id then .normal else .exit id') s' q | ex => k ex s' q
  | .loop c, s, q, k =>
    match E.loops (firstKey c) with
    | some f => (f s).bind fun t => onTree t q fun p q => k p.1 p.2 q
    | none => loopP (evP E c) (E.clean (firstKey c)) E.fuel s q fun ex s q => k ex (E.clean (firstKey c + 500) s) q
  | .exit id, s, q, k => k (.exit id) s q
  | .label _, s, q, k => k .normal s q
  | .scope c, s, q, k => evP E c s q k
  | .ret, s, q, k => k .ret s q
  | _, _, _, _ => .no

def loopsOf : Code → List Code
  | .seq a b => loopsOf a ++ loopsOf b
  | .cond _ a b => loopsOf a ++ loopsOf b
  | .block _ c => loopsOf c
  | .scope c => loopsOf c
  | .loop c => c :: loopsOf c
  | _ => []

def LoopOk (E : EnvP) (c : Code) (f : AS → T (Tree (Ex × AS))) : Prop := ∀ s t, (f s).Ret t → ev E.env (.loop c) s = some t.val

def LoopsOk (E : EnvP) (l : List Code) : Prop := ∀ c ∈ l, ∀ f, E.loops (firstKey c) = some f → LoopOk E c f

theorem evP_ok {E : EnvP} : ∀ (c : Code) {s : AS} {q : Q} {k : Ex → AS → Q → T α} {r : α}, LoopsOk E (loopsOf c) → (evP E c s q k).Ret r → ∃ ex s' q', ev E.env c s = some (ex, s') ∧ (k ex s' q').Ret r := by
  intro c
  induction c with
  | skip => intro s q k r _ h; exact ⟨_, _, _, rfl, h⟩
  | label l => intro s q k r _ h; exact ⟨_, _, _, rfl, h⟩
  | exit id => intro s q k r _ h; exact ⟨_, _, _, rfl, h⟩
  | ret => intro s q k r _ h; exact ⟨_, _, _, rfl, h⟩
  | region rid ops draw =>
    intro s q k r _ h
    cases draw with
    | false =>
      simp only [evP, ev, cond_false] at h ⊢
      obtain ⟨s', q', h1, h⟩ := evSeqP_ok h
      exact ⟨_, s', q', by rw [h1]; rfl, h⟩
    | true =>
      simp only [evP, ev, cond_true] at h ⊢
      obtain ⟨s', fs, q', h1, h⟩ := evTrP_ok h
      obtain ⟨h2, h⟩ := chk_ok h
      exact ⟨_, s', q', by simp only [h1, h2, cond_true], h⟩
  | seq a b iha ihb =>
    intro s q k r hL h
    simp only [evP, ev] at h ⊢
    obtain ⟨ex, s1, q1, h1, h⟩ := iha (fun c hc => hL c (List.mem_append_left _ hc)) h
    rw [h1]
    cases ex with
    | normal => exact ihb (fun c hc => hL c (List.mem_append_right _ hc)) h
    | exit id => exact ⟨_, _, _, rfl, h⟩
    | ret => exact ⟨_, _, _, rfl, h⟩
  | cond c a b iha ihb =>
    intro s q k r hL h
    simp only [evP, ev] at h ⊢
    generalize opv s.tmps c = v at h
    cases v <;> try exact h.elim
    rename_i t
    simp only at h ⊢
    obtain ⟨q', h⟩ := onQ_ok h
    cases t with
    | true => exact iha (fun c hc => hL c (List.mem_append_left _ hc)) h
    | false => exact ihb (fun c hc => hL c (List.mem_append_right _ hc)) h
  | block id c ih =>
    intro s q k r hL h
    simp only [evP, ev] at h ⊢
    obtain ⟨ex, s1, q1, h1, h⟩ := ih hL h
    rw [h1]
    cases ex with
    | normal => exact ⟨_, _, _, rfl, h⟩
    | exit id' => exact ⟨_, _, _, rfl, h⟩
    | ret => exact ⟨_, _, _, rfl, h⟩
  | scope c ih =>
    intro s q k r hL h
    simp only [evP, ev] at h ⊢
    exact ih hL h
  | loop c ih =>
    intro s q k r hL h
    have hLc : LoopsOk E (loopsOf c) := fun c' hc => hL c' (List.mem_cons_of_mem _ hc)
    simp only [evP] at h
    cases hf : E.loops (firstKey c) with
    | some f =>
      simp only [hf] at h
      obtain ⟨tr, h1, h⟩ := h.bind
      obtain ⟨q', h⟩ := onTree_ok h
      exact ⟨_, _, q', hL c (by simp [loopsOf]) f hf s tr h1, h⟩
    | none =>
      simp only [hf] at h
      simp only [ev]
      have key : ∀ (k : Ex → AS → Q → T α) (cl : AS → AS) (n : Nat) {s : AS} {q : Q}, (loopP (evP E c) cl n s q k).Ret r → ∃ ex s' q', loopN (ev E.env c) cl n s = some (ex, s') ∧ (k ex s' q').Ret r := by
        intro k cl n
        induction n with
        | zero => intro s q h; exact h.elim
        | succ n ihn =>
          intro s q h
          simp only [loopP] at h
          simp only [loopN]
          obtain ⟨ex, s1, q1, h1, h⟩ := ih hLc h
          rw [h1]
          cases ex with
          | normal => exact ihn h
          | exit id => exact ⟨_, _, _, rfl, h⟩
          | ret => exact ⟨_, _, _, rfl, h⟩
      obtain ⟨ex, s', q', h1, h2⟩ := key _ _ _ h
      have e := congrArg (Option.map fun r : Ex × AS => (r.1, E.clean (firstKey c + 500) r.2)) h1
      exact ⟨ex, _, q', e, h2⟩
  | _ => intro s q k r _ h; exact h.elim

end code

def resP {α : Type} (ty : Tys) (s : AS) (r : ResultVar) (k : AV → T α) : T α :=
  match r with
  | .tmp t => k (s.tmps.getD t .unk)
  | .cell a t =>
    match ty t, s.tmps.getD a .unk with
    | some ti, .ptr id off =>
      match look s.mem id with
      | some cs =>
        chk (((cs.drop off).take ti.size).length == ti.size)
          (bif ti.td.agg then k (.agg (((cs.drop off).take ti.size).map AV.flat)) else bif ti.size == 1 then k (((cs.drop off).take ti.size).headD .unk) else .no)
      | none => .no
    | _, _ => .no

theorem resP_ok {α : Type} {ty : Tys} {s : AS} {rv : ResultVar} {k : AV → T α} {r : α} (h : (resP ty s rv k).Ret r) : ∃ v, resA ty s rv = some v ∧ (k v).Ret r := by
  cases rv with
  | tmp t => exact ⟨_, rfl, h⟩
  | cell a t =>
    simp only [resP, resA] at h ⊢
    cases ht : ty t with
    | none => simp only [ht] at h; exact h.elim
    | some ti =>
    simp only [ht] at h ⊢
    generalize s.tmps.getD a .unk = x at h
    cases x <;> try exact h.elim
    rename_i id off
    simp only at h ⊢
    cases hl : look s.mem id with
    | none => simp only [hl] at h; exact h.elim
    | some cs =>
    simp only [hl] at h ⊢
    obtain ⟨h0, h⟩ := chk_ok h
    simp only [h0, cond_true]
    cases ha : ti.td.agg <;> rw [ha] at h <;> simp only [cond_true, cond_false] at h
    · cases hs : ti.size == 1 <;> rw [hs] at h <;> simp only [cond_true, cond_false] at h
      · exact h.elim
      · simp only [Bool.false_eq_true, if_false, cond_true]
        exact ⟨_, rfl, h⟩
    · simp only [if_true]
      exact ⟨_, rfl, h⟩

def resAllP {α : Type} (ty : Tys) (s : AS) : List ResultVar → (List AV → T α) → T α
  | [], k => k []
  | r :: rs, k => resP ty s r fun v => resAllP ty s rs fun vs => k (v :: vs)

theorem resAllP_ok {α : Type} {ty : Tys} {s : AS} : ∀ {l : List ResultVar} {k : List AV → T α} {r : α}, (resAllP ty s l k).Ret r → ∃ vs, resAll ty s l = some vs ∧ (k vs).Ret r
  | [], k, r, h => ⟨[], rfl, h⟩
  | rv :: rs, k, r, h => by
    obtain ⟨v, h1, h⟩ := resP_ok h
    obtain ⟨vs, h2, h⟩ := resAllP_ok h
    exact ⟨v :: vs, by simp only [resAll, h1, h2], h⟩

def doneP (E : EnvP) (fn : Func) (n : Nat) (ex : Ex) (s : AS) : T (AV × List (List AV)) :=
  match ex with
  | .exit _ => .no
  | _ => resAllP E.ty s fn.results.toList fun vs => match passedBack s.mem 1000 n with | some l => .ret (outA vs, l) | none => .no

/-- a function's run along a path -/
def runP (E : EnvP) (fn : Func) (args : List AV) (passed : List (List AV)) (q : Q) : T (AV × List (List AV)) :=
  match fn.body with
  | none => .no
  | some c => evP E c (enterA fn args passed) q fun ex s _ => doneP E fn passed.length ex s

theorem runP_ok {E : EnvP} {fn : Func} {args : List AV} {passed : List (List AV)} {q : Q} {r : AV × List (List AV)} (hL : ∀ c, fn.body = some c → LoopsOk E (loopsOf c)) (h : (runP E fn args passed q).Ret r) :
    runF E.env fn args passed = some r := by
  unfold runP at h
  unfold runF
  cases hb : fn.body with
  | none => simp only [hb] at h; exact h.elim
  | some c =>
    simp only [hb] at h ⊢
    obtain ⟨ex, s, q', h1, h⟩ := evP_ok c (hL c hb) h
    rw [h1]
    unfold doneP at h
    have fin : (resAllP E.ty s fn.results.toList fun vs => (match passedBack s.mem 1000 passed.length with | some l => .ret (outA vs, l) | none => .no : T (AV × List (List AV)))).Ret r → (match resAll E.env.ty s fn.results.toList, passedBack s.mem 1000 passed.length with
        | some vs, some l => some (outA vs, l)
        | _, _ => none) = some r := by
      intro h
      obtain ⟨vs, h2, h⟩ := resAllP_ok h
      rw [show E.env.ty = E.ty from rfl, h2]
      cases hp : passedBack s.mem 1000 passed.length with
      | none => simp only [hp] at h; exact h.elim
      | some l => simp only [hp] at h; exact congrArg some h
    cases ex with
    | exit id => exact h.elim
    | normal => exact fin h
    | ret => exact fin h

/-! ### contracts -/

def SumTOk (P : Program) (f : FuncId) (S : SumT) : Prop := ∀ args passed t, (S args passed).Ret t → CallsA P f args passed t.val.1 t.val.2

def specT : List (FuncId × SumT) → FuncId → SumT
  | [], _ => fun _ _ => .no
  | (g, S) :: r, f => bif g == f then S else specT r f

def SpecTL (P : Program) : List (FuncId × SumT) → Prop
  | [] => True
  | p :: r => SumTOk P p.1 p.2 ∧ SpecTL P r

theorem specT_ok {P : Program} : ∀ {l : List (FuncId × SumT)}, SpecTL P l → ∀ f, SumTOk P f (specT l f)
  | [], _, f => fun args passed t h => h.elim
  | p :: l, hl, f => fun args passed t h => by
    simp only [specT] at h
    cases hb : p.1 == f <;> rw [hb] at h <;> simp only [cond_true, cond_false] at h
    · exact specT_ok hl.2 f args passed t h
    · rw [beq_iff_eq] at hb
      rw [← hb]; exact hl.1 _ _ _ h

def Book.envP (K : Book) (f : FuncId) (spec : List (FuncId × SumT)) (fuel : Nat) (loops : Nat → Option (AS → T (Tree (Ex × AS)))) : EnvP :=
  { ty := K.ty.get, spec := specT spec, keep := fun r => K.keep.get (f * 1000 + r), fuel, loops, eqs := K.eqs, eqok := K.eqok }

def noLoops : Nat → Option (AS → T (Tree (Ex × AS))) := fun _ => none

theorem noLoops_ok {K : Book} {f spec fuel l} : LoopsOk (K.envP f spec fuel noLoops) l := fun _ _ _ h => by cases h

/-- a contract that is a path of the code -/
theorem Book.Ok.path {P : Program} {K : Book} (hK : K.Ok P) {f : FuncId} {fn : Func} (hf : K.fn.get f = some fn) {spec : List (FuncId × SumT)} (hs : SpecTL P spec) (fuel : Nat) (loops : Nat → Option (AS → T (Tree (Ex × AS))))
    (hL : ∀ c, fn.body = some c → LoopsOk (K.envP f spec fuel loops) (loopsOf c)) {args : List AV} {passed : List (List AV)} (q : Q) {r : AV} {passed' : List (List AV)}
    (h : (runP (K.envP f spec fuel loops) fn args passed q).Ret (r, passed')) : CallsA P f args passed r passed' := by
  obtain ⟨h1, h2⟩ := hK.fn.get hf
  refine runF_ok (E := (K.envP f spec fuel loops).env) ⟨hK.tys, fun g a p r p' hr => by
    obtain ⟨t, h1, h2⟩ := Option.map_eq_some_iff.1 hr
    have := specT_ok hs g a p t (T.of_opt h1)
    rw [h2] at this
    exact this⟩ hK.zero hK.mixed h1 h2 (runP_ok hL h)

end Go.Ev

/- The evaluator: contracts of a kind. -/
set_option linter.unusedVariables false
set_option linter.unusedSimpArgs false
namespace Go.Ev
open Go

/-- a contract of a function that writes nothing that it was passed -/
def sumOf (g : List AV → Option AV) : SumT := fun a p =>
  match p with
  | [] => (match g a with | some r => .ret (.leaf (r, [])) | none => .no)
  | _ => .no

theorem sumOf_ok {P : Program} {f : FuncId} {g : List AV → Option AV} (h : ∀ a r, g a = some r → CallsA P f a [] r []) : SumTOk P f (sumOf g) := by
  intro args passed t hr
  unfold sumOf at hr
  cases passed with
  | cons => exact hr.elim
  | nil =>
    cases hg : g args with
    | none => simp only [hg] at hr; exact hr.elim
    | some v =>
      simp only [hg, T.Ret] at hr
      subst hr
      exact h _ _ hg

/-- a function of an int -/
def gI (k : IntKind) (g : Int → AV) : List AV → Option AV := fun a =>
  match a with
  | [.int k' n] => bif decide (k' = k) then some (g n) else none
  | _ => none

theorem gI_ok {P : Program} {f : FuncId} {k : IntKind} {g : Int → AV} (h : ∀ n, CallsA P f [.int k n] [] (g n) []) : SumTOk P f (sumOf (gI k g)) := by
  refine sumOf_ok fun a r hr => ?_
  unfold gI at hr
  split at hr
  · rename_i k' n
    cases hk : decide (k' = k) <;> rw [hk] at hr <;> simp only [cond_true, cond_false] at hr
    · cases hr
    · cases hr
      have : k' = k := of_decide_eq_true hk
      subst this
      exact h n
  · cases hr

/-- a function of nothing -/
def g0 (r : AV) : List AV → Option AV := fun a =>
  match a with
  | [] => some r
  | _ => none

theorem g0_ok {P : Program} {f : FuncId} {r : AV} (h : CallsA P f [] [] r []) : SumTOk P f (sumOf (g0 r)) := by
  refine sumOf_ok fun a r' hr => ?_
  unfold g0 at hr
  split at hr
  · cases hr; exact h
  · cases hr

def noSpec : List (FuncId × SumT) := []
theorem noSpec_ok {P : Program} : SpecTL P noSpec := trivial

def T.run {α : Type} : T α → Option α
  | .no => none
  | .ret a => some a
  | .need b t => bif b then t.run else none
  | .must _ _ => none

theorem T.of_run {α : Type} : ∀ {t : T α} {a : α}, t.run = some a → t.Ret a
  | .no, _, h => by cases h
  | .ret _, _, h => Option.some.inj h
  | .need b t, a, h => by
    simp only [T.run] at h
    cases b <;> simp only [cond_true, cond_false] at h
    · cases h
    · exact ⟨rfl, T.of_run h⟩
  | .must _ _, _, h => by cases h

abbrev TR := T (AV × List (List AV))

/-- what a path ends with -/
structure Goes (t : TR) (r : AV × List (List AV)) : Prop where
  ret : t.Ret r

theorem Goes.of_eq {t t' : TR} {r : AV × List (List AV)} (e : t = t') (h : Goes t' r) : Goes t r := e ▸ h
theorem Goes.step {b : Bool} {t : TR} {r : AV × List (List AV)} (hb : b = true) (h : Goes t r) : Goes (Bool.rec (motive := fun _ => TR) .no t b) r := by
  subst hb; exact h
theorem Goes.leaf {r : AV × List (List AV)} : Goes (.ret r) r := ⟨rfl⟩
theorem Goes.of_run {t : TR} {r : AV × List (List AV)} (h : t.run = some r) : Goes t r := ⟨T.of_run h⟩

/-- without loops that are told apart -/
theorem Book.Ok.pth {P : Program} {K : Book} (hK : K.Ok P) {f : FuncId} {fn : Func} (hf : K.fn.get f = some fn) {spec : List (FuncId × SumT)} (hs : SpecTL P spec) {fuel : Nat} {args : List AV} {passed : List (List AV)} {q : Q} {r : AV} {passed' : List (List AV)}
    (h : Goes (runP (K.envP f spec fuel noLoops) fn args passed q) (r, passed')) : CallsA P f args passed r passed' :=
  hK.path hf hs fuel noLoops (fun _ _ => noLoops_ok) q h.ret

theorem told {b c : Bool} (h : b = c) : asTold b c = true := by subst h; cases b <;> rfl

end Go.Ev
