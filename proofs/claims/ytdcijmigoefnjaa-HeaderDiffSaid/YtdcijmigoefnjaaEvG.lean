/- The evaluator: operations that leave the world as it is are sound (2). -/
import Derived.Test.YtdcijmigoefnjaaEvF
set_option linter.unusedVariables false
set_option linter.unusedSimpArgs false
namespace Go.Ev
open Go

theorem fits_size {ti : TI} {v : AV} (h : fits ti v = true) : v.cells.length = ti.size ∧ v.isAgg = ti.td.agg ∧ v.isTup = false ∧ v.known = true := by
  cases v <;> simp [fits, AV.cells, AV.isAgg, AV.isTup, AV.known] at h ⊢ <;> (obtain ⟨h1, h2⟩ := h; simp [h1, h2])

theorem setAt_fold (new : List Value) : ∀ (cs : List Value) (off k : Nat), (new.zipIdx k).foldl (fun (a : Array Value) (p : Value × Nat) => a.setIfInBounds (off + p.2) p.1) cs.toArray = (setAtV cs (off + k) new).toArray := by
  induction new with
  | nil => intro cs off k; rfl
  | cons v new ih =>
    intro cs off k
    simp only [List.zipIdx_cons, List.foldl_cons, List.setIfInBounds_toArray, setAtV]
    rw [ih (cs.set (off + k) v) off (k + 1)]
    rfl

theorem fill_ok {S w} (place : Nat → Option (Nat × Nat)) : ∀ (parts : List (Nat × AV)) (pv : List (Nat × Value)) {cs : List AV} {vs : List Value} {r : List AV},
    parts.length = pv.length → (∀ (i : Nat) p q, parts[i]? = some p → pv[i]? = some q → p.1 = q.1 ∧ RepV S w (fun _ => none) p.2 q.2) → RepL S w (fun _ => none) cs vs → (∀ v ∈ vs, oc v = true) →
    fillA place cs parts = some r → ∃ us : List Value, Instr.fill place vs.toArray pv = some us.toArray ∧ RepL S w (fun _ => none) r us ∧ ∀ v ∈ us, oc v = true
  | [], pv, cs, vs, r, hl, _, hr, ho, h => by
    simp [fillA] at h; subst h
    cases pv with
    | nil => exact ⟨vs, rfl, hr, ho⟩
    | cons q pv => simp at hl
  | (i, c) :: parts, pv, cs, vs, r, hl, hp, hr, ho, h => by
    cases pv with
    | nil => simp at hl
    | cons q pv =>
      obtain ⟨i', u⟩ := q
      obtain ⟨he, hc⟩ := hp 0 _ _ rfl rfl
      simp at he; subst he
      simp only [fillA] at h
      cases hpl : place i with
      | none => simp [hpl] at h
      | some os =>
        obtain ⟨off, size⟩ := os
        simp only [hpl] at h
        cases hb : (c.known && !c.isTup && c.cells.length == size && Nat.ble (off + size) cs.length)
        · rw [hb] at h; simp at h
        · rw [hb] at h; simp only [cond_true] at h
          simp only [Bool.and_eq_true, beq_iff_eq, Nat.ble_eq, Bool.not_eq_true'] at hb
          obtain ⟨⟨⟨hk, ht⟩, hs⟩, hle⟩ := hb
          have hcells : ∃ us : List Value, u.cells = us.toArray ∧ RepL S w (fun _ => none) c.cells us ∧ ∀ v ∈ us, oc v = true := by
            cases hc with
            | agg l o => exact ⟨_, rfl, l, o⟩
            | unk _ => simp [AV.known] at hk
            | tup _ => simp [AV.isTup] at ht
            | int k n => exact ⟨[_], rfl, .cons (.int k n) .nil, by simp [oc]⟩
            | bool b => exact ⟨[_], rfl, .cons (.bool b) .nil, by simp [oc]⟩
            | str s => exact ⟨[_], rfl, .cons (.str s) .nil, by simp [oc]⟩
            | ptr e => cases e
            | nilp => exact ⟨[_], rfl, .cons .nilp .nil, by simp [oc]⟩
            | ro c r => exact ⟨[_], rfl, .cons (.ro c r) .nil, by simp [oc]⟩
            | slNil => exact ⟨[_], rfl, .cons .slNil .nil, by simp [oc]⟩
            | slFull c r => exact ⟨[_], rfl, .cons (.slFull c r) .nil, by simp [oc]⟩
            | slSh cap c r l => exact ⟨[_], rfl, .cons (.slSh cap c r l) .nil, by simp [oc]⟩
            | slFullNil => exact ⟨[_], rfl, .cons .slFullNil .nil, by simp [oc]⟩
            | slShNil => exact ⟨[_], rfl, .cons .slShNil .nil, by simp [oc]⟩
            | view cap e l => cases e
            | fn l => exact ⟨[_], rfl, .cons (.fn l) .nil, by simp [oc]⟩
            | niliface => exact ⟨[_], rfl, .cons .niliface .nil, by simp [oc]⟩
            | nilfn => exact ⟨[_], rfl, .cons .nilfn .nil, by simp [oc]⟩
          obtain ⟨us, hu, hus, hou⟩ := hcells
          obtain ⟨us', h1, h2, h3⟩ := fill_ok place parts pv (by simpa using hl) (fun j p q h1 h2 => hp (j + 1) p q (by simpa using h1) (by simpa using h2))
            (hr.setAt off hus) (fun v hv => (mem_setAtV hv).elim (ho v) (hou v)) h
          refine ⟨us', ?_, h2, h3⟩
          simp only [Instr.fill, hpl, hu]
          have e1 : us.toArray.size = size := by simp [← hus.length, hs]
          have e2 : vs.toArray.size = cs.length := by simp [hr.length]
          rw [if_neg (by simp [e1, e2]; omega)]
          have := setAt_fold us vs off 0
          simp only [Nat.add_zero] at this
          rw [← h1]
          congr 1
          rw [← Array.foldl_toList, Array.toList_zipIdx]
          exact this

theorem run_mapM {α β : Type} {P : Program} {w : World} (f : α → Sem β) (g : α → β) : ∀ (l : List α), (∀ x ∈ l, (f x).run P w = .ok (g x) w) → (l.mapM f).run P w = .ok (l.map g) w
  | [], _ => by simp
  | x :: l, h => by
    have h1 := h x (by simp)
    have h2 := run_mapM f g l (fun y hy => h y (by simp [hy]))
    simp [List.mapM_cons, h1, h2]

theorem run_mapMA {α β : Type} {P : Program} {w : World} (f : α → Sem β) (g : α → β) (a : Array α) (h : ∀ x ∈ a.toList, (f x).run P w = .ok (g x) w) : (a.mapM f).run P w = .ok (a.toList.map g).toArray w := by
  obtain ⟨l⟩ := a
  rw [List.mapM_toArray]
  simp [run_mapM f g l h]

/-- parts and what they stand for -/
theorem parts_ok {G w} {ρ : Operand → AV} {ρc : Operand → Value} (hρ : ∀ x, RepT G w (ρ x) (ρc x)) (parts : Array (Nat × Operand)) :
    (parts.toList.map fun p => (p.1, (ρ p.2).flat)).length = ((parts.map fun p => (p.1, ρc p.2)).toList).length ∧
    ∀ (i : Nat) p q, (parts.toList.map fun p => (p.1, (ρ p.2).flat))[i]? = some p → ((parts.map fun p => (p.1, ρc p.2)).toList)[i]? = some q → p.1 = q.1 ∧ RepV G.S w (fun _ => none) p.2 q.2 := by
  refine ⟨by simp, fun i p q h1 h2 => ?_⟩
  simp only [Array.toList_map, List.getElem?_map, Option.map_eq_some_iff] at h1 h2
  obtain ⟨a, h1, rfl⟩ := h1
  obtain ⟨b, h2, rfl⟩ := h2
  rw [h1] at h2; cases h2
  exact ⟨rfl, (hρ _).flat⟩

theorem build_ok {P ty} (hT : TyOk P ty) {G w} {ρ : Operand → AV} {ρc : Operand → Value} (hρ : ∀ x, RepT G w (ρ x) (ρc x)) {t : TypeId} {parts : Array (Nat × Operand)} {r : AV}
    (h : evPure ty ρ (.build t parts) = some r) : ∃ v, (Instr.build t (parts.map fun p => (p.1, ρc p.2))).run P w = .ok v w ∧ RepT G w r v := by
  simp only [evPure] at h
  cases ht : ty t with
  | none => simp [ht] at h
  | some ti =>
    simp only [ht] at h
    obtain ⟨z, hz, hz1, hz2⟩ := run_zero hT ht w
    have hzr : RepL G.S w (fun _ => none) ti.zero z.cells.toList := by rw [← hz1]; exact map_ofVal _
    obtain ⟨hp1, hp2⟩ := parts_ok hρ parts
    split at h
    · rename_i fs hd
      obtain ⟨gs, h1, h2⟩ := und_struct hT ht hd
      cases hall0 : fs.all (fun f => (ty f.2.1).isSome) <;> simp only [hall0, cond_true, cond_false] at h
      · cases h
      simp only [Option.map_eq_some_iff] at h
      obtain ⟨cs, h, rfl⟩ := h
      have hall : ∀ f ∈ gs.toList, ∃ fi, ty f.type = some fi := by
        intro f hf
        subst h2
        have := List.all_eq_true.1 hall0 _ (List.mem_map_of_mem hf)
        exact Option.isSome_iff_exists.1 this
      have hsz : ∀ f : Field, ∀ fi, ty f.type = some fi → (sizeOf f.type).run P w = .ok fi.size w := fun f fi hf => run_size hT hf w
      · have hrun := run_mapMA (P := P) (w := w) (fun f : Field => do let s ← sizeOf f.type; pure (f.offset, s)) (fun f => (f.offset, ((ty f.type).map TI.size).getD 0)) gs (fun f hf => by
          obtain ⟨fi, hfi⟩ := hall f hf
          simp [hsz f fi hfi, hfi])
        have hplace : structPlace ty fs = fun i => ((gs.toList.map fun f => (f.offset, ((ty f.type).map TI.size).getD 0)).toArray)[i]? := by
          funext i
          rw [← h2]
          simp only [structPlace, List.getElem?_map, List.getElem?_toArray]
          cases hg : gs.toList[i]? with
          | none => simp
          | some f =>
            obtain ⟨fi, hfi⟩ := hall f (List.mem_of_getElem? hg)
            simp [hfi]
        rw [hplace] at h
        obtain ⟨us, hu1, hu2, hu3⟩ := fill_ok _ _ _ hp1 hp2 hzr hz2 h
        refine ⟨.agg us.toArray, ?_, .of (.agg hu2 hu3)⟩
        simp only [Instr.build, Sem.run_bind, hz, Result.andThen_ok, run_underlying h1, hrun]
        simp only [Array.toArray_toList] at hu1
        rw [hu1]
        simp
    · rename_i n e hd
      cases he : ty e with
      | none => simp [he] at h
      | some ei =>
        simp only [he, Option.map_eq_some_iff] at h
        obtain ⟨cs, h, rfl⟩ := h
        obtain ⟨us, hu1, hu2, hu3⟩ := fill_ok _ _ _ hp1 hp2 hzr hz2 h
        refine ⟨.agg us.toArray, ?_, .of (.agg hu2 hu3)⟩
        simp only [Instr.build, Sem.run_bind, hz, Result.andThen_ok, run_underlying (und_arr hT ht hd), run_size hT he]
        simp only [Array.toArray_toList] at hu1
        rw [hu1]
        simp
    · cases h

theorem fieldOf_ok {P ty} (hT : TyOk P ty) {t f off fi} (h : fieldOf ty t f = some (off, fi)) : ∃ (gs : Array Field) (g : Field), P.underlying t = some (.struct gs) ∧ gs[f]? = some g ∧ g.offset = off ∧ ty g.type = some fi := by
  unfold fieldOf at h
  cases ht : ty t with
  | none => simp [ht] at h
  | some ti =>
    simp only [ht] at h
    split at h
    · rename_i fs hd
      obtain ⟨gs, h1, h2⟩ := und_struct hT ht hd
      subst h2
      cases hg : gs.toList[f]? with
      | none => simp [List.getElem?_map, hg] at h
      | some g =>
        simp [List.getElem?_map, hg] at h
        obtain ⟨h3, h4⟩ := h
        exact ⟨gs, g, h1, by simpa using hg, h4, h3⟩
    · cases h

theorem elemOf_ok {P ty} (hT : TyOk P ty) {t ei} (h : elemOf ty t = some ei) : (isSlice ty t = true → ∃ e, P.underlying t = some (.slice e) ∧ ty e = some ei) ∧ (∀ n, arrLen ty t = some n → ∃ e, P.underlying t = some (.array n e) ∧ ty e = some ei) := by
  unfold elemOf at h
  unfold isSlice arrLen
  cases ht : ty t with
  | none => simp [ht] at h
  | some ti =>
    simp only [ht] at h ⊢
    split at h
    · rename_i e hd
      simp only [hd]
      exact ⟨fun _ => ⟨e, und_slice hT ht hd, h⟩, fun n hn => by simp at hn⟩
    · rename_i n e hd
      simp only [hd]
      exact ⟨fun h => by simp at h, fun m hm => by simp at hm; subst hm; exact ⟨e, und_arr hT ht hd, h⟩⟩
    · cases h

theorem idx_ok {xs : List AV} {i : Int} {e : AV} (h : idx xs i = some e) : 0 ≤ i ∧ i < xs.length ∧ xs[i.toNat]? = some e := by
  unfold idx at h
  split at h
  · rename_i h0
    have := (List.getElem?_eq_some_iff.1 h).1
    exact ⟨h0, by omega, h⟩
  · cases h

theorem inR_ok {i : Int} {n : Nat} (h : inR i n = true) : 0 ≤ i ∧ i < n := by simpa [inR] using h

theorem part_ro {P ty} (hT : TyOk P ty) {t ti} (ht : ty t = some ti) {S w a cs vs off v} (hl : RepL S w (fun _ => none) cs vs) (ho : ∀ v ∈ vs, oc v = true) (hd : Rd S w a vs)
    (hp : partA ti cs off = some v) (hq : fits ti v = true) {β} : RepV S w β (.ro v) (.pointer (some (a.add off))) := by
  by_cases hagg : ti.td.agg
  · simp [partA, hagg] at hp
    subst hp
    exact .ro (vs := (vs.drop off).take ti.size) (.agg ((hl.drop _).take _) fun v hv => ho v (List.mem_of_mem_drop (List.mem_of_mem_take hv))) ((hd.add _).take _)
  · simp [partA, hagg] at hp
    obtain ⟨u', hu', hr'⟩ := hl.get hp
    refine .ro (vs := [u']) (.one hr' ?_ (ho _ (List.mem_of_getElem? hu'))) ?_
    · rw [(fits_size hq).2.1]; simpa using hagg
    · have := (hd.add off).take 1
      have e : (vs.drop off).take 1 = [u'] := by
        obtain ⟨hlt, he⟩ := List.getElem?_eq_some_iff.1 hu'
        rw [List.drop_eq_getElem_cons hlt, he]; rfl
      rwa [e] at this

theorem fieldAddr_ok {P ty} (hT : TyOk P ty) {G w t x f r xv} (hx : RepT G w x xv) (h : fieldAddrA ty t x f = some r) : ∃ v, (Instr.fieldAt t xv f).run P w = .ok v w ∧ RepT G w r v := by
  unfold fieldAddrA at h
  cases hf : fieldOf ty t f with
  | none => simp [hf] at h
  | some p =>
  obtain ⟨off, fi⟩ := p
  simp only [hf] at h
  obtain ⟨gs, g, h1, h2, rfl, h4⟩ := fieldOf_ok hT hf
  cases hz : fi.size == 0 <;> rw [hz] at h <;> simp only [cond_true, cond_false] at h
  case true => cases h
  have hz' : ¬ fi.size = 0 := by simpa using hz
  split at h
  · rename_i id o
    cases h
    obtain ⟨b, hb, rfl⟩ := hx.ptr_inv
    refine ⟨.pointer (some ((Addr.mk b o none).add g.offset)), ?_, ?_⟩
    · simp [Instr.fieldAt, run_underlying h1, h2, Instr.sureAddr, fieldPlace, run_size hT h4, hz']
    · rw [add_mk]; exact .of (.ptr hb)
  · rw [Option.bind_eq_some_iff] at h
    obtain ⟨v, hv, h⟩ := h
    cases hq : fits fi v <;> rw [hq] at h <;> simp at h
    subst h
    obtain ⟨a, vs, rfl, hc, hd⟩ := hx.ro_inv
    cases hc with
    | one c ha ho => simp [AV.isAgg] at ha
    | agg hl ho =>
    refine ⟨.pointer (some (a.add g.offset)), ?_, ?_⟩
    · simp [Instr.fieldAt, run_underlying h1, h2, Instr.sureAddr, fieldPlace, run_size hT h4, hz']
    · exact .of (part_ro hT h4 hl ho hd hv hq)
  · cases h

theorem field_ok {P ty} (hT : TyOk P ty) {G w t x f r xv} (hx : RepT G w x xv) (h : fieldA ty t x f = some r) : ∃ v, (Instr.field t xv f).run P w = .ok v w ∧ RepT G w r v := by
  unfold fieldA at h
  cases hf : fieldOf ty t f with
  | none => simp [hf] at h
  | some p =>
  obtain ⟨off, fi⟩ := p
  simp only [hf] at h
  obtain ⟨gs, g, h1, h2, rfl, h4⟩ := fieldOf_ok hT hf
  split at h
  · rw [Option.bind_eq_some_iff] at h
    obtain ⟨v, hv, h⟩ := h
    cases hq : fits fi v <;> rw [hq] at h <;> simp at h
    subst h
    obtain ⟨vs, rfl, hl, ho⟩ := hx.agg_inv
    obtain ⟨u, hu, hr, _⟩ := part_ok hT h4 hl ho hv
    exact ⟨u, by simp [Instr.field, run_underlying h1, h2, asAgg, hu], .of hr.bare⟩
  · cases h

theorem indexAddr_ok {P ty} (hT : TyOk P ty) {G w t x i r xv iv} (hx : RepT G w x xv) (hi : RepT G w i iv) (h : indexAddrA ty t x i = some r) : ∃ v, (Instr.indexAt t xv iv).run P w = .ok v w ∧ RepT G w r v := by
  unfold indexAddrA at h
  cases he : elemOf ty t with
  | none => simp [he] at h
  | some ei =>
  simp only [he] at h
  obtain ⟨hs, hal⟩ := elemOf_ok hT he
  split at h
  · rename_i k i
    have := hi.int_inv; subst iv
    split at h
    · rename_i sz xs st
      cases hb : (isSlice ty t && sz == ei.size) <;> rw [hb] at h <;> simp at h
      obtain ⟨e, hidx, rfl⟩ := h
      simp at hb
      obtain ⟨hb1, rfl⟩ := hb
      obtain ⟨et, hu, hte⟩ := hs hb1
      obtain ⟨h0, h1, h2⟩ := idx_ok hidx
      obtain ⟨a, cap, rfl, hle, hn, hf, hr⟩ := hx.sl_inv
      have hne : st ≠ .nil := fun e => by
        have := (hn e).2.1; subst this; simp at h2
      obtain ⟨ad, vs, rfl, hrr, hd⟩ : ∃ ad vs, a = some ad ∧ RepR G.S w ei.size xs vs ∧ Rd G.S w ad vs := by
        rcases hr hne with h | ⟨_, h, _⟩
        · exact h
        · subst h; simp at h2
      have ce : P.elem t = et := by simp [Program.elem, hu]
      refine ⟨_, by
        rw [run_indexAt_slice w t ad xs.length cap k i (by rw [ce]; exact hu), if_pos ⟨h0, h1⟩, ce, run_size hT hte]
        rfl, ?_⟩
      obtain ⟨hc, hcl⟩ := hrr.get h2
      exact .of (.ro hc ((hd.add _).take _))
    · rename_i id off n
      cases hb : (isSlice ty t && inR i n) <;> rw [hb] at h <;> simp at h
      subst h
      simp at hb
      obtain ⟨hb1, hb2⟩ := hb
      obtain ⟨et, hu, hte⟩ := hs hb1
      obtain ⟨h0, h1⟩ := inR_ok hb2
      obtain ⟨b, cap, hβ, rfl, hle⟩ := hx.view_inv
      have ce : P.elem t = et := by simp [Program.elem, hu]
      refine ⟨_, by
        rw [run_indexAt_slice w t _ n cap k i (by rw [ce]; exact hu), if_pos ⟨h0, h1⟩, ce, run_size hT hte]
        rfl, ?_⟩
      rw [add_mk]; exact .of (.ptr hβ)
    · rename_i id off
      split at h
      · rename_i n hn
        cases hb : inR i n <;> rw [hb] at h <;> simp at h
        subst h
        obtain ⟨h0, h1⟩ := inR_ok hb
        obtain ⟨et, hu, hte⟩ := hal n hn
        obtain ⟨b, hβ, rfl⟩ := hx.ptr_inv
        have ce : P.elem t = et := by simp [Program.elem, hu]
        have cl : P.arrayLen t = n := by simp [Program.arrayLen, hu]
        refine ⟨_, by
          rw [run_indexAt_array w t _ k i (by rw [ce, cl]; exact hu), cl, if_pos ⟨h0, h1⟩, ce, run_size hT hte]
          rfl, ?_⟩
        rw [add_mk]; exact .of (.ptr hβ)
      · cases h
    · rename_i cs
      split at h
      · rename_i n hn
        cases hb : inR i n <;> rw [hb] at h <;> simp only [cond_true, cond_false] at h
        · cases h
        rw [Option.bind_eq_some_iff] at h
        obtain ⟨v, hv, h⟩ := h
        cases hq : fits ei v <;> rw [hq] at h <;> simp at h
        subst h
        obtain ⟨h0, h1⟩ := inR_ok hb
        obtain ⟨et, hu, hte⟩ := hal n hn
        obtain ⟨a, vs, rfl, hc, hd⟩ := hx.ro_inv
        have ce : P.elem t = et := by simp [Program.elem, hu]
        have cl : P.arrayLen t = n := by simp [Program.arrayLen, hu]
        cases hc with
        | one c ha ho => simp [AV.isAgg] at ha
        | agg hl ho =>
        refine ⟨_, by
          rw [run_indexAt_array w t _ k i (by rw [ce, cl]; exact hu), cl, if_pos ⟨h0, h1⟩, ce, run_size hT hte]
          rfl, ?_⟩
        exact .of (part_ro hT hte hl ho hd hv hq)
      · cases h
    · cases h
  · cases h

theorem index_ok {P ty} (hT : TyOk P ty) {G w t x i r xv iv} (hx : RepT G w x xv) (hi : RepT G w i iv) (h : indexA ty t x i = some r) : ∃ v, (Instr.index t xv iv).run P w = .ok v w ∧ RepT G w r v := by
  unfold indexA at h
  split at h
  · rename_i k i
    have := hi.int_inv; subst iv
    split at h
    · rename_i cs
      cases hn : arrLen ty t with
      | none => simp [hn] at h
      | some n =>
      simp only [hn] at h
      cases he : elemOf ty t with
      | none => simp [he] at h
      | some ei =>
      simp only [he] at h
      obtain ⟨et, hu, hte⟩ := (elemOf_ok hT he).2 n hn
      cases hb : inR i n <;> rw [hb] at h <;> simp only [cond_true, cond_false] at h
      · cases h
      rw [Option.bind_eq_some_iff] at h
      obtain ⟨v, hv, h⟩ := h
      cases hq : fits ei v <;> rw [hq] at h <;> simp at h
      subst h
      obtain ⟨h0, h1⟩ := inR_ok hb
      obtain ⟨vs, rfl, hl, ho⟩ := hx.agg_inv
      obtain ⟨u, hu', hr, _⟩ := part_ok hT hte hl ho hv
      refine ⟨u, ?_, .of hr.bare⟩
      simp only [Instr.index, Sem.run_bind, asIntOf, Sem.run_pure, Result.andThen_ok, run_underlying hu]
      rw [if_pos ⟨h0, h1⟩]
      simp [run_size hT hte, hu']
    · rename_i s
      cases ht : ty t with
      | none => simp [ht] at h
      | some ti =>
      simp only [ht] at h
      split at h
      · rename_i hd
        have := hx.str_inv; subst xv
        rw [Option.map_eq_some_iff] at h
        obtain ⟨b, hb, rfl⟩ := h
        refine ⟨.int .u8 b.toNat, ?_, .of (.int _ _)⟩
        split at hb
        · rename_i h0
          simp only [Instr.index, Sem.run_bind, asIntOf, Sem.run_pure, Result.andThen_ok, run_underlying (und_str hT ht hd)]
          have e : (ByteArray.mk s.toArray)[i.toNat]? = some b := by
            obtain ⟨hlt, he⟩ := List.getElem?_eq_some_iff.1 hb
            rw [getElem?_pos _ _ (by simpa [ByteArray.size] using hlt)]
            simp [ByteArray.getElem_eq_getElem_data, he]
          rw [if_pos h0, e]
          simp
        · cases hb
      · cases h
    · cases h
  · cases h

end Go.Ev
