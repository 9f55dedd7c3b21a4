import Derived.Test.YtdcijmigoefnjaaEv1
import Derived.Orders
import Derived.Scope
set_option linter.unusedVariables false
set_option linter.unusedSimpArgs false
namespace Go.Ev
open Go
theorem find_zip : ∀ (ids : List Nat) (ps : List (List AV)) (i : Nat),ids.Nodup → ps.length = ids.length →
  (∀ p,(ids.zip ps).find? (fun p => p.1 == i) = some p → ∃ j : Nat,ids[j]? = some i ∧ ps[j]? = some p.2) ∧ ((ids.zip ps).find? (fun p => p.1 == i) = none → i ∉ ids)
 | [],ps,i,_,_ => ⟨fun p h => by simp at h,fun _ => by simp⟩
 | x :: ids,[],i,_,h => by simp at h
 | x :: ids,c :: ps,i,hn,hl => by
  simp only [List.nodup_cons] at hn
  obtain ⟨h1,h2⟩ := find_zip ids ps i hn.2 (by simpa using hl)
  simp only [List.zip_cons_cons,List.find?_cons]
  by_cases hx : x = i
  ·subst hx
   simp only [beq_self_eq_true]
   exact ⟨fun p hp => by cases hp; exact ⟨0,rfl,rfl⟩,fun h => by cases h⟩
  ·have : (x == i) = false := by simpa using hx
   simp only [this]
   refine ⟨fun p hp => ?_,fun h => ?_⟩
   ·obtain ⟨j,k1,k2⟩ := h1 p hp
    exact ⟨j + 1,by simpa using k1,by simpa using k2⟩
   ·simp [Ne.symm hx,h2 h]
theorem zip_fst : ∀ (ids : List Nat) (ps : List (List AV)),ps.length = ids.length → (ids.zip ps).map (·.1) = ids
 | [],ps,_ => by simp
 | x :: ids,[],h => by simp at h
 | x :: ids,c :: ps,h => by simp [zip_fst ids ps (by simpa using h)]
theorem done_inv {B G s a w} (h : Sim B G s a w) {args : List AV} {passed passed' : List (List AV)} (hl : looks s.mem (ptrIds args) = some passed) {r : AV} {v : Value} {w' : World} {S' : Nat → Nat → Prop}
  (hd : Done w G.S (βof G.β (ptrIds args)) passed r passed' v w' S') :
  Inv B { G with S := S' } w' (upds s.mem ((ptrIds args).zip passed')) ∧ Ext G.S w S' w' := by
 obtain ⟨_,_,hnd⟩ := ptrIds_mem args
 obtain ⟨k1,k2⟩ := looks_ok hl
 have hlen : passed'.length = (ptrIds args).length := by rw [hd.len,k1]
 have hfst := zip_fst _ _ hlen
 have get : ∀ i b,βof G.β (ptrIds args) i = some b → ∃ (j id : Nat),i = 1000 + j ∧ (ptrIds args)[j]? = some id ∧ G.β id = some b := by
  intro i b hi
  unfold βof at hi
  split at hi
  ·rw [Option.bind_eq_some_iff] at hi
   obtain ⟨id,h1,h2⟩ := hi
   exact ⟨i - 1000,id,by omega,h1,h2⟩
  ·cases hi
 have hlook : ∀ i,look (upds s.mem ((ptrIds args).zip passed')) i = match ((ptrIds args).zip passed').find? (fun p => p.1 == i) with | some p => (look s.mem i).map (fun _ => p.2) | none => look s.mem i :=
  fun i => look_upds _ s.mem i (by rw [hfst]; exact hnd)
 have hold : ∀ b,b < w.heap.size → (∀ (j : Nat) id,(ptrIds args)[j]? = some id → G.β id ≠ some b) → w'.heap[b]? = w.heap[b]? := by
  intro b hb hne
  refine hd.old b hb fun i hi => ?_
  obtain ⟨j,id,rfl,h1,h2⟩ := get i b hi
  exact hne j id h1 h2
 have hE : Ext G.S w S' w' := by
  refine ⟨hd.sub,fun g o hs => cell_of_heap (hold g (h.inv.Slt g o hs) fun j id h1 h2 => ?_) o⟩
  exact h.inv.βS id g o h2 hs
 refine ⟨?_,hE⟩
 constructor
 ·have := h.inv.size; have := hd.size; omega
 ·exact hd.os.trans h.inv.os
 ·exact hd.tape.trans h.inv.tape
 ·exact hd.output.trans h.inv.output
 ·intro b hb hw hne
  rw [hold b (by have := h.inv.size; omega) fun j id h1 h2 => ?_]
  ·exact h.inv.old b hb hw hne
  ·rcases h.inv.βnew id b h2 with h3 | h3
   ·omega
   ·exact hw h3
 ·intro g o hs; exact hd.sub g o (h.inv.S0 g o hs)
 ·intro g o hs
  rcases hd.new g o hs with h1 | h1
  ·exact h.inv.Snew g o h1
  ·exact .inr (.inl (by have := h.inv.size; omega))
 ·exact hd.lt
 ·exact h.inv.βinj
 ·intro i b o hi hs
  rcases hd.new b o hs with h1 | h1
  ·exact h.inv.βS i b o hi h1
  ·have := βlt h.inv i b hi; omega
 ·exact h.inv.βnew
 ·intro i hi
  rw [hlook] at hi
  split at hi
  ·exact h.inv.dom i (by simpa using hi)
  ·exact h.inv.dom i hi
 ·intro i cs hi
  rw [hlook] at hi
  cases hf : ((ptrIds args).zip passed').find? (fun p => p.1 == i) with
  | some p =>
   rw [hf] at hi
   simp only [Option.map_eq_some_iff] at hi
   obtain ⟨cs0,h1,rfl⟩ := hi
   obtain ⟨j,h2,h3⟩ := (find_zip _ _ i hnd hlen).1 p hf
   obtain ⟨b,us,t,h4,h5,h6,h7⟩ := hd.mem j _ h3
   have hb : G.β i = some b := by
    unfold βof at h4
    rw [if_pos (by omega),Nat.add_sub_cancel_left,h2] at h4
    exact h4
   refine ⟨b,us,t,hb,h5,h6.length,fun j c v hc hv => ?_,h7⟩
   obtain ⟨v',h8,h9⟩ := h6.get hc
   rw [h8] at hv; cases hv
   exact .of h9.bare
  | none =>
   rw [hf] at hi
   have hni := (find_zip _ _ i hnd hlen).2 hf
   obtain ⟨b,us,t,h1,h2,h3,h4,h5⟩ := h.inv.mem i cs hi
   refine ⟨b,us,t,h1,?_,h3,fun j c v hc hv => (h4 j c v hc hv).mono hE (fun _ _ h => h) (fun _ _ h => h),h5⟩
   unfold Blk at h2 ⊢
   rw [hold b (Blk.lt h2) fun j id h6 h7 => ?_]
   ·exact h2
   ·have := h.inv.βinj _ _ _ h1 h7
    subst this
    exact hni (List.mem_of_getElem? h6)
 ·intro k g e l hk
  obtain ⟨h1,h2,⟨vs',t',h3,h4⟩,h5⟩ := h.inv.τ k g e l hk
  refine ⟨h1,h2,⟨vs',t',?_,h4⟩,fun o ho hs => ?_⟩
  ·unfold Blk at h3 ⊢
   rw [hold g (Blk.lt h3) fun j id h6 h7 => h2 id h7]; exact h3
  ·rcases hd.new g o hs with h6 | h6
   ·exact h5 o ho h6
   ·have := h3.lt; omega
 ·exact h.inv.τinj
 ·exact h.inv.β0
 ·intro a ha
  by_cases h1 : a.block < w.heap.size
  ·by_cases h2 : ∃ i,βof G.β (ptrIds args) i = some a.block
   ·obtain ⟨i,hi⟩ := h2
    obtain ⟨j,id,rfl,h3,h4⟩ := get i _ hi
    have hj : j < passed'.length := by rw [hlen]; exact (List.getElem?_eq_some_iff.1 h3).1
    obtain ⟨b,us,t,h5,h6,_⟩ := hd.mem j _ (List.getElem?_eq_getElem hj)
    rw [hi] at h5; cases h5
    exact h6.fro rfl
   ·rw [frozen_heap (hd.old _ h1 fun i hi => h2 ⟨i,hi⟩)]
    exact h.inv.fro a ha
  ·exact hd.fro a (by omega)
 ·intro b e hb
  obtain ⟨us,us',t',h1,h2,h3,h4⟩ := h.inv.owk b e hb
  refine ⟨us,us',t',h1,?_,h3,h4⟩
  unfold Blk at h2 ⊢
  rw [hold b (Blk.lt h2) fun j id h5 h6 => h.inv.owβ b e hb id h6]; exact h2
 ·exact h.inv.owβ
 ·exact h.inv.owS
theorem done_sim {B G s a w} (h : Sim B G s a w) {args : List AV} {passed passed' : List (List AV)} (hl : looks s.mem (ptrIds args) = some passed) {r : AV} {v : Value} {w' : World} {S' : Nat → Nat → Prop} {dst : Option Nat}
  (hd : Done w G.S (βof G.β (ptrIds args)) passed r passed' v w' S') (ht : ∀ d,dst = some d → G.τ [d] = none) :
  ∃ G',Sim B G' (Eff.app { val := r.named dst,upd := (ptrIds args).zip passed' } dst s) (a.put dst v) w' ∧ TauLe G G' (dst.map fun d => [d]) := by
 obtain ⟨hi,he⟩ := done_inv h hl hd
 have h1 : Sim B { G with S := S' } { s with mem := upds s.mem ((ptrIds args).zip passed') } a w' := h.mono hi he (fun _ _ h => h) (fun _ _ h => h)
 have eapp : Eff.app { val := r.named dst,upd := (ptrIds args).zip passed' } dst s = AS.put { s with mem := upds s.mem ((ptrIds args).zip passed') } dst (r.named dst) := rfl
 rw [eapp]
 have hres := hd.res
 unfold RepRes at hres
 split at hres
 ·rename_i sz xs k
  obtain ⟨g,cap,vs,us,t,h2,rfl,h3,h4,h5,h6,h7,h8⟩ := hres
  cases dst with
  | none =>
   exact ⟨_,h1.put none (.of (.slSh cap h3 h4 h5)),TauLe.of_eq rfl _⟩
  | some d =>
   have hτ : ∀ k' e' l',G.τ k' = some (g,e',l') → k' = [d] := by
    intro k' e' l' hk
    obtain ⟨_,_,⟨vs,t,hb,_⟩,_⟩ := h.inv.τ k' _ _ _ hk
    have := hb.lt; omega
   have hβ : ∀ i,G.β i ≠ some g := fun i hi => by have := βlt h.inv i _ hi; omega
   have h9 := h1.own (k := [d]) (g := g) (e := xs.length * sz) (l := cap * sz) (ht d rfl) (.inl (by have := h.inv.size; omega)) hβ h6 h7 h8 hτ
   refine ⟨_,h9.put (some d) ?_,fun k' x hx => ?_⟩
   rotate_left
   ·simp only [Gh.own] at hx
    split at hx
    ·rename_i e; exact .inl (by rw [e]; rfl)
    ·exact .inr (by rw [hx]; simp)
   unfold RepT AV.named
   simp only
   exact ⟨g,cap,vs,rfl,h3,h4,by simp [Gh.own],h5⟩
 ·have : r.named dst = r := by
   rename_i hne
   cases r <;> try rfl
   rename_i sz xs st
   cases st <;> try rfl
   exact (hne _ _ _ rfl).elim
  rw [this]
  exact ⟨_,h1.put dst (.of hres.bare),TauLe.of_eq rfl _⟩
end Go.Ev
set_option linter.unusedVariables false
set_option linter.unusedSimpArgs false
namespace Go.Ev
open Go
theorem RepV.scal {S w S' w'} {β β' : Nat → Option Nat} {a v} (h : RepV S w β a v) (hs : a.scal = true) : RepV S' w' β' a v := by
 cases h <;> first | (simp [AV.scal] at hs; done) | constructor
theorem RepV.loose {S w S' w'} {β β' : Nat → Option Nat} {a v} (h : RepV S w β a v) : RepV S' w' β' a.loose v := by
 unfold AV.loose
 cases hs : a.scal
 ·exact .unk v
 ·exact h.scal hs
theorem RepV.loosep {S w S' w'} {β : Nat → Option Nat} {a v} (h : RepV S w β a v) : RepV S' w' β a.loosep v := by
 cases a <;> try exact h.loose
 cases h with | ptr e => exact .ptr e
theorem RepL.looseM {S w S' w'} {β β' : Nat → Option Nat} : ∀ {cs vs},RepL S w β cs vs → RepL S' w' β' (cs.map AV.loose) vs
 | [],_,.nil => .nil
 | c :: cs,_,.cons h l => .cons h.loose l.looseM
theorem RepL.loosepM {S w S' w'} {β : Nat → Option Nat} : ∀ {cs vs},RepL S w β cs vs → RepL S' w' β (cs.map AV.loosep) vs
 | [],_,.nil => .nil
 | c :: cs,_,.cons h l => .cons h.loosep l.loosepM
theorem RepR.scal {S w} : ∀ {xs vs sz},RepR S w sz xs vs → xs.all AV.scal = true → (xs = [] ∨ sz = 1) ∧ RepL S w (fun _ => none) xs vs ∧ ∀ v ∈ vs,Ev.oc v = true
 | [],_,_,.nil,_ => ⟨.inl rfl,.nil,by simp⟩
 | x :: xs,_,sz,.cons c e l,hs => by
  rw [List.all_cons,Bool.and_eq_true] at hs
  obtain ⟨_,h2,h3⟩ := l.scal hs.2
  cases c with
  | agg => simp [AV.scal] at hs
  | one hv ha ho =>
   refine ⟨.inr (by simpa using e.symm),.cons hv h2,?_⟩
   intro v hv
   simp only [List.singleton_append,List.mem_cons] at hv
   rcases hv with rfl | hv
   ·exact ho
   ·exact h3 v hv
theorem scal_notAgg {a : AV} (h : a.scal = true) : a.isAgg = false := by cases a <;> simp [AV.scal] at h <;> rfl
theorem RepL.toR {S w S' w'} : ∀ {xs vs},RepL S w (fun _ => none) xs vs → xs.all AV.scal = true → (∀ v ∈ vs,Ev.oc v = true) → RepR S' w' 1 xs vs
 | [],_,.nil,_,_ => .nil
 | x :: xs,_,.cons (v := v) h l,hs,ho => by
  rw [List.all_cons,Bool.and_eq_true] at hs
  exact .cons (vs := [v]) (.one (h.scal hs.1) (scal_notAgg hs.1) (ho v (by simp))) rfl (l.toR hs.2 fun u hu => ho u (by simp [hu]))
theorem all_setAt : ∀ (ns cs : List AV) (o : Nat),cs.all AV.scal = true → ns.all AV.scal = true → (setAt cs o ns).all AV.scal = true
 | [],cs,o,h,_ => h
 | n :: ns,cs,o,h,hn => by
  rw [List.all_cons,Bool.and_eq_true] at hn
  refine all_setAt ns _ _ ?_ hn.2
  rw [List.all_eq_true] at h ⊢
  intro x hx
  rcases List.mem_or_eq_of_mem_set hx with hx | rfl
  ·exact h x hx
  ·exact hn.1
theorem RepT.wrote {G w w' a v} {k : Tag} {g m c i : Nat} {ns : List AV} {us cells : List Value} {t : TypeId} (h : RepT G w a v) (hk : G.τ k = some (g,m,c)) (hinj : ∀ k' e l,G.τ k' = some (g,e,l) → k' = k)
  (hb : Blk w g cells t) (hb' : Blk w' g (setAtV cells i us) t) (ho : Only g w w') (hn : RepL G.S w (fun _ => none) ns us) (hs : ns.all AV.scal = true) (hu : ∀ v ∈ us,oc v = true) : RepT G w' (a.wrote k i ns) v := by
 have hc : ∀ b o,b ≠ g → w'.cell? ⟨b,o,none⟩ = w.cell? ⟨b,o,none⟩ := fun b o hne => cell_of_heap (ho.other b hne) o
 have flat : ∀ {b : AV},RepV G.S w G.β b v → b.scal = true → RepT G w' b v := fun h hs => .of (h.scal hs)
 cases a
 case sl sz xs st =>
  cases st with
  | own k' =>
   simp only [AV.wrote]
   cases hall : xs.all AV.scal <;> simp only [cond_true,cond_false]
   ·exact .of (.unk v)
   obtain ⟨g',cap,vs,rfl,hr,hd,ht,hl⟩ := h
   obtain ⟨hsz,hL,hoc⟩ := hr.scal hall
   by_cases e : k' = k
   ·subst e
    rw [if_pos rfl]
    rw [hk] at ht; cases ht
    unfold RepT
    refine ⟨g,cap,setAtV vs i us,by rw [setAt_length],?_,?_,by rw [setAt_length]; exact hk,by rw [setAt_length]; exact hl⟩
    ·rcases hsz with rfl | rfl
     ·cases hr
      have e1 : setAt [] i ns = [] := List.eq_nil_of_length_eq_zero (setAt_length _ _ _)
      have e2 : setAtV [] i us = [] := List.eq_nil_of_length_eq_zero (setAtV_length _ _ _)
      rw [e1,e2]; exact .nil
     ·exact (hL.setAt i hn).toR (all_setAt _ _ _ hall hs) fun v hv => (mem_setAtV hv).elim (hoc v) (hu v)
    ·refine ⟨rfl,fun j v hv => ?_⟩
     have hj : j < vs.length := by have := (List.getElem?_eq_some_iff.1 hv).1; rwa [setAtV_length] at this
     obtain ⟨h1,h2⟩ := hd.2 j _ (List.getElem?_eq_getElem hj)
     refine ⟨h1,?_⟩
     simp only [Nat.zero_add] at h2 ⊢
     rw [hb.cell] at h2
     rw [hb'.cell]
     have hjc := (List.getElem?_eq_some_iff.1 h2).1
     rw [setAtV_get] at hv ⊢
     by_cases hin : i ≤ j ∧ j < i + us.length
     ·rw [if_pos ⟨hin.1,hin.2,hjc⟩]
      rwa [if_pos ⟨hin.1,hin.2,hj⟩] at hv
     ·rw [if_neg (fun hh => hin ⟨hh.1,hh.2.1⟩)]
      rw [if_neg (fun hh => hin ⟨hh.1,hh.2.1⟩)] at hv
      rw [h2,← hv,List.getElem?_eq_getElem hj]
   ·rw [if_neg e]
    have hg : g' ≠ g := by rintro rfl; exact e (hinj _ _ _ ht)
    unfold RepT
    refine ⟨g',cap,vs,rfl,?_,⟨rfl,fun j v hv => ⟨(hd.2 j v hv).1,?_⟩⟩,ht,hl⟩
    ·rcases hsz with rfl | rfl
     ·cases hr; exact .nil
     ·exact hL.toR hall hoc
    ·simp only
     rw [hc _ _ hg]; exact (hd.2 j v hv).2
  | nil => exact .of (by cases h; exact .slNil)
  | full => exact .of (.unk v)
  | sh => exact .of (.unk v)
  | win k' lo => exact .of (.unk v)
 case wp k' j e =>
  obtain ⟨g',m',c',u,rfl,hr,hou,hd,ht,hj⟩ := h
  unfold AV.wrote RepT
  obtain ⟨h1,h2⟩ := hd.2 0 u rfl
  simp only [Nat.add_zero] at h1 h2
  obtain ⟨u',hu1,hu2⟩ : ∃ u',oc u' = true ∧ w'.cell? ⟨g',j,none⟩ = some u' := by
   by_cases hg : g' = g
   ·subst hg
    rw [hb.cell] at h2
    have hjc := (List.getElem?_eq_some_iff.1 h2).1
    rw [hb'.cell,setAtV_get]
    by_cases hin : i ≤ j ∧ j < i + us.length
    ·rw [if_pos ⟨hin.1,hin.2,hjc⟩]
     have hlt : j - i < us.length := by omega
     exact ⟨us[j - i],hu _ (List.getElem_mem hlt),List.getElem?_eq_getElem hlt⟩
    ·rw [if_neg (fun hh => hin ⟨hh.1,hh.2.1⟩)]
     exact ⟨u,hou,h2⟩
   ·exact ⟨u,hou,by rw [hc _ _ hg]; exact h2⟩
  refine ⟨g',m',c',u',rfl,.one (.unk _) rfl hu1,hu1,⟨rfl,fun n v hv => ?_⟩,ht,hj⟩
  match n with
  | 0 =>
   simp only [List.getElem?_cons_zero,Option.some.injEq] at hv
   subst hv
   exact ⟨h1,hu2⟩
  | n + 1 => simp at hv
 case ro e => exact .of (.unk v)
 case fn f cap =>
  obtain ⟨us',rfl,hl⟩ := h.fn_inv
  exact .of (.fn hl.loosepM)
 case agg cs =>
  obtain ⟨vs,rfl,hl,ho'⟩ := h.agg_inv
  exact .of (.agg hl.looseM ho')
 case tup cs =>
  obtain ⟨vs,rfl,hl⟩ := h.tup_inv
  exact .of (.tup hl.looseM)
 case unk => exact .of (.unk v)
 case int => have := h.int_inv; subst this; exact .of (.int _ _)
 case bool => have := h.bool_inv; subst this; exact .of (.bool _)
 case str => have := h.str_inv; subst this; exact .of (.str _)
 case ptr id off => obtain ⟨b,hb,rfl⟩ := h.ptr_inv; exact .of (.ptr hb)
 case view id off n => obtain ⟨b,cap,hb,rfl,hle⟩ := h.view_inv; exact .of (.view cap hb hle)
 case nilp => unfold RepT at h; cases h; exact .of .nilp
 case niliface => unfold RepT at h; cases h; exact .of .niliface
 case nilfn => unfold RepT at h; cases h; exact .of .nilfn
theorem Sim.wrote {P : Program} {B G s a w} (h : Sim B G s a w) {k : Tag} (hk0 : k.isEmpty = false) {g m c i : Nat} {ns : List AV} {us : List Value} (hk : G.τ k = some (g,m,c)) (hn : RepL G.S w (fun _ => none) ns us) (hs : ns.all AV.scal = true) (hu : ∀ v ∈ us,oc v = true)
  (hi : us = [] ∨ ∃ v,w.cell? ⟨g,i + us.length - 1,none⟩ = some v) : ∃ w',(storeCells ⟨g,i,none⟩ us).run P w = .ok () w' ∧ Sim B G (s.wrote k i ns) a w' := by
 obtain ⟨hg,hβ,⟨cells,t,hb,hl⟩,hS⟩ := h.inv.τ k g m c hk
 have hg : B.w0.heap.size ≤ g := by
  rcases hg with hg | ⟨rfl,_⟩
  ·exact hg
  ·cases hk0
 obtain ⟨w',hrun,hb',ho⟩ : ∃ w',(storeCells ⟨g,i,none⟩ us).run P w = .ok () w' ∧ Blk w' g (setAtV cells i us) t ∧ Only g w w' := by
  rcases hi with rfl | ⟨v,hi⟩
  ·exact ⟨w,by simp [storeCells],hb,Only.refl _ _⟩
  ·rw [hb.cell] at hi
   have hlt := (List.getElem?_eq_some_iff.1 hi).1
   have := run_storeCells P (b := g) (o := i) us 0 hb (by omega) hu
   simpa using this
 refine ⟨w',hrun,?_⟩
 have hinj : ∀ k' e l,G.τ k' = some (g,e,l) → k' = k := fun k' e l h' => h.inv.τinj _ _ _ _ _ _ _ h' hk
 have hT : ∀ {a v},RepT G w a v → RepT G w' (a.wrote k i ns) v := fun h => h.wrote hk hinj hb hb' ho hn hs hu
 refine ⟨?_,by simp [AS.wrote,h.len],fun j => ?_,h.defers⟩
 ·have hv := h.inv
  constructor
  ·rw [ho.size]; exact hv.size
  ·exact ho.os.trans hv.os
  ·exact ho.tape.trans hv.tape
  ·exact ho.output.trans hv.output
  ·intro b hb1 hw hne
   rw [ho.other b (by omega)]; exact hv.old b hb1 hw hne
  ·exact hv.S0
  ·exact hv.Snew
  ·intro g' o hs'; rw [ho.size]; exact hv.Slt g' o hs'
  ·exact hv.βinj
  ·exact hv.βS
  ·exact hv.βnew
  ·intro j hj
   simp only [AS.wrote,look_map,Option.map_eq_none_iff] at hj
   exact hv.dom j hj
  ·intro j cs hj
   simp only [AS.wrote,look_map,Option.map_eq_some_iff] at hj
   obtain ⟨cs0,hj,rfl⟩ := hj
   obtain ⟨b,vs',t',h1,h2,h3,h4,h5⟩ := hv.mem j cs0 hj
   have hbg : b ≠ g := fun e => hβ j (e ▸ h1)
   refine ⟨b,vs',t',h1,?_,by simp [h3],fun n c' v hc hv' => ?_,h5⟩
   ·unfold Blk at h2 ⊢
    rw [ho.other b hbg]; exact h2
   ·simp only [List.getElem?_map,Option.map_eq_some_iff] at hc
    obtain ⟨c0,hc,rfl⟩ := hc
    exact hT (h4 n c0 v hc hv')
  ·intro k' g' e l hk'
   obtain ⟨h1,h2,⟨vs',t',h3,h4⟩,h5⟩ := hv.τ k' g' e l hk'
   refine ⟨h1,h2,?_,h5⟩
   by_cases hgg : g' = g
   ·subst hgg
    refine ⟨_,t,hb',?_⟩
    rw [setAtV_length]
    unfold Blk at h3 hb
    rw [h3] at hb
    simp only [Option.some.injEq,Obj.cells.injEq] at hb
    have : vs' = cells := by have := hb.1; simpa using this
    rw [← this]; exact h4
   ·refine ⟨vs',t',?_,h4⟩
    unfold Blk at h3 ⊢
    rw [ho.other g' hgg]; exact h3
  ·exact hv.τinj
  ·exact hv.β0
  ·exact hv.fro.only ho hb'
  ·intro b e hb1
   obtain ⟨us',us'',t',h1,h2,h3,h4⟩ := hv.owk b e hb1
   refine ⟨us',us'',t',h1,?_,h3,h4⟩
   have := h1.lt
   unfold Blk at h2 ⊢
   rw [ho.other b (by omega)]; exact h2
  ·exact hv.owβ
  ·exact hv.owS
 ·have := hT (h.tmps j)
  simp only [AS.wrote,List.getD_eq_getElem?_getD,List.getElem?_map] at this ⊢
  cases hx : s.tmps[j]? with
  | none => simp [hx,AV.wrote] at this ⊢; exact .of (.unk _)
  | some c => simp [hx] at this ⊢; exact this
theorem put_wr (s : AS) (dst : Option Nat) (v : AV) (k : Tag) (i : Nat) (vs : List AV) : Eff.app { val := v,wr := some (k,i,vs) } dst s = (s.wrote k i vs).put dst v := by
 cases s; rfl
theorem RepT.scal {G w a v} (h : RepT G w a v) (hs : a.scal = true) : RepV G.S w (fun _ => none) a v ∧ v.cells = #[v] ∧ oc v = true := by
 cases a <;> try (simp [AV.scal] at hs; done)
 case int => have := h.int_inv; subst this; exact ⟨.int _ _,rfl,rfl⟩
 case bool => have := h.bool_inv; subst this; exact ⟨.bool _,rfl,rfl⟩
 case str => have := h.str_inv; subst this; exact ⟨.str _,rfl,rfl⟩
 case nilp => unfold RepT at h; cases h; exact ⟨.nilp,rfl,rfl⟩
 case niliface => unfold RepT at h; cases h; exact ⟨.niliface,rfl,rfl⟩
 case nilfn => unfold RepT at h; cases h; exact ⟨.nilfn,rfl,rfl⟩
theorem storeW_ok {P ty} (hT : TyOk P ty) {B G s a w} (h : Sim B G s a w) {t : TypeId} {ti : TI} (ht : ty t = some ti) {k : Tag} {i : Nat} {e : AV} {xv y yv} (hx : RepT G w (.wp k i e) xv) (hy : RepT G w y yv)
  (hz : ti.size = 1) (hs : y.scal = true) (hk0 : k.isEmpty = false) (dst : Option Nat) :
  ∃ w',(Instr.storeAt t xv yv).run P w = .ok () w' ∧ Sim B G ((s.wrote k i [y]).put dst (.tup [])) (a.put dst undef) w' := by
 obtain ⟨g,m,c,u,rfl,_,_,hd,hτ,hlt⟩ := hx.wp_inv
 obtain ⟨h1,h2,h3⟩ := hy.scal hs
 obtain ⟨w',hrun,hG⟩ := h.wrote (P := P) hk0 (ns := [y]) (us := [yv]) hτ (.cons h1 .nil) (by simp [hs]) (by simpa using h3) (.inr ⟨u,(hd.2 0 u rfl).2⟩)
 refine ⟨w',?_,hG.put dst (.of RepV_tup0)⟩
 simp [Instr.storeAt,Instr.sureAddr,storeVar,run_size hT ht,h2,hz,hrun]
theorem copy_ok {P ty} (hT : TyOk P ty) {B G s a w} (h : Sim B G s a w) {t t2 oty : TypeId} {ei : TI} (he : elemOf ty t = some ei) (his : isSlice ty t = true) (hz : ei.size = 1) {x y : AV} {xv yv : Value} (hx : RepT G w x xv) (hy : RepT G w y yv)
  {e : Eff} (hc : copyA x y = some e) (dst : Option Nat) :
  ∃ v w',(Builtin.copy_ #[t,t2] oty #[xv,yv]).run P w = .ok v w' ∧ Sim B G (e.app dst s) (a.put dst v) w' := by
 obtain ⟨et,hu,hte⟩ := (elemOf_ok hT he).1 his
 have key : ∀ {k lo xs g o m c cap},List.isEmpty k = false → xv = .slice (some ⟨g,o,none⟩) xs.length cap → G.τ k = some (g,m,c) → (xs = [] ∨ o = lo) → (∃ vs,RepR G.S w 1 xs vs ∧ Rd G.S w ⟨g,o,none⟩ vs) → copyL k lo xs y = some e →
   ∃ v w',(Builtin.copy_ #[t,t2] oty #[xv,yv]).run P w = .ok v w' ∧ Sim B G (e.app dst s) (a.put dst v) w' := by
  rintro k lo xs g o m c cap hk0 rfl hτ hlo ⟨ds,hdr,hdd⟩ hcp
  unfold copyL at hcp
  split at hcp
  ·rename_i sz ys st
   cases hb : ((sz == 1 || (st == .nil && ys.isEmpty)) && ys.all AV.scal) <;> rw [hb] at hcp <;> simp only [cond_true,cond_false] at hcp
   ·cases hcp
   cases hcp
   simp only [Bool.and_eq_true,Bool.or_eq_true,beq_iff_eq,List.isEmpty_iff] at hb
   obtain ⟨hb1,hb2⟩ := hb
   obtain ⟨ad,ycap,rfl,hle,hnil,_,hr⟩ := hy.sl_inv
   obtain ⟨vs,hL,hoc,hload⟩ : ∃ vs : List Value,RepL G.S w (fun _ => none) ys vs ∧ (∀ v ∈ vs,oc v = true) ∧
     ∀ n,n ≤ ys.length → (Builtin.firstCells 1 n (.slice ad ys.length ycap)).run P w = .ok (vs.take n).toArray w := by
    by_cases hst : st = .nil
    ·obtain ⟨rfl,rfl,rfl⟩ := hnil hst
     exact ⟨[],.nil,by simp,fun n _ => by simp [Builtin.firstCells]⟩
    ·rcases hr hst with ⟨ad',vs,rfl,hrr,hd⟩ | ⟨rfl,rfl,rfl,_⟩
     rotate_left
     ·exact ⟨[],.nil,by simp,fun n _ => by simp [Builtin.firstCells]⟩
     obtain ⟨_,hL,hoc⟩ := hrr.scal hb2
     refine ⟨vs,hL,hoc,fun n hn => ?_⟩
     have := run_loadCells P (w := w) (a := ad') (vs := vs.take n) ((hd.take n).cells)
     rw [List.length_take,← hL.length,Nat.min_eq_left hn] at this
     simpa [Builtin.firstCells] using this
   have hlen : (vs.take (Nat.min ys.length xs.length)).length = Nat.min ys.length xs.length := by
    rw [List.length_take,← hL.length]
    exact Nat.min_eq_left (Nat.min_le_left _ _)
   have htake : vs.take (Nat.min ys.length xs.length) = vs.take xs.length := by
    rw [hL.length]
    by_cases hq : vs.length ≤ xs.length
    ·rw [show Nat.min vs.length xs.length = vs.length from Nat.min_eq_left hq,List.take_of_length_le hq,List.take_length]
    ·rw [show Nat.min vs.length xs.length = xs.length from Nat.min_eq_right (by omega)]
   have hsub : ∀ v ∈ vs.take xs.length,oc v = true := fun v hv => hoc v (List.mem_of_mem_take hv)
   have hall : (ys.take xs.length).all AV.scal = true := by
    rw [List.all_eq_true] at hb2 ⊢
    exact fun v hv => hb2 v (List.mem_of_mem_take hv)
   have hplace : vs.take xs.length = [] ∨ ∃ v,w.cell? ⟨g,o + (vs.take xs.length).length - 1,none⟩ = some v := by
    by_cases hq : (vs.take xs.length).length = 0
    ·exact .inl (List.eq_nil_of_length_eq_zero hq)
    ·right
     have h1 : (vs.take xs.length).length ≤ xs.length := by rw [List.length_take]; exact Nat.min_le_left _ _
     have h2 := hdr.length
     have hlt : (vs.take xs.length).length - 1 < ds.length := by omega
     have h3 := hdd.2 ((vs.take xs.length).length - 1) _ (List.getElem?_eq_getElem hlt)
     exact ⟨ds[(vs.take xs.length).length - 1],by
      rw [show o + (vs.take xs.length).length - 1 = o + ((vs.take xs.length).length - 1) by omega]
      exact h3.2⟩
   obtain ⟨w',hrun,hG⟩ := h.wrote (P := P) hk0 (i := o) (ns := ys.take xs.length) (us := vs.take xs.length) hτ (hL.take _) hall hsub hplace
   have hsame : s.wrote k lo (ys.take xs.length) = s.wrote k o (ys.take xs.length) := by
    rcases hlo with rfl | rfl
    ·simp only [List.length_nil,List.take_zero]; rfl
    ·rfl
   refine ⟨goInt (Nat.min ys.length xs.length),w',?_,?_⟩
   ·have hs1 : (sizeOf et).run P w = .ok 1 w := by rw [run_size hT hte,hz]
    simp only [Builtin.copy_,Sem.run_bind]
    simp [run_underlying hu,Builtin.lenOf,hs1,hload _ (Nat.min_le_left ys.length xs.length),htake,hrun]
   ·rw [put_wr,hsame]
    exact hG.put dst (.of (.int _ _))
  ·cases hcp
 unfold copyA at hc
 split at hc
 ·rename_i sz xs k
  cases hb : (sz == 1 && !k.isEmpty) <;> rw [hb] at hc <;> simp only [cond_true,cond_false] at hc
  ·cases hc
  simp only [Bool.and_eq_true,beq_iff_eq,Bool.not_eq_true'] at hb
  obtain ⟨rfl,hk0⟩ := hb
  obtain ⟨g,cap,vs,hxv,hr,hd,ht,hl⟩ := hx
  exact key hk0 hxv ht (.inr rfl) ⟨vs,hr,hd⟩ hc
 ·rename_i sz xs k lo
  cases hb : (sz == 1 && !k.isEmpty) <;> rw [hb] at hc <;> simp only [cond_true,cond_false] at hc
  ·cases hc
  simp only [Bool.and_eq_true,beq_iff_eq,Bool.not_eq_true'] at hb
  obtain ⟨rfl,hk0⟩ := hb
  obtain ⟨g,cap,vs,m,c,o,hxv,hr,hd,hl,ht,hm⟩ := hx
  exact key hk0 hxv ht (by rcases hm with hm | ⟨h1,h2⟩; exact .inl hm; exact .inr (by omega)) ⟨vs,hr,hd⟩ hc
 ·cases hc
end Go.Ev
set_option linter.unusedVariables false
set_option linter.unusedSimpArgs false
namespace Go.Ev
open Go
def RepH (S : Nat → Nat → Prop) (w : World) (t : Tag) (x : Option (Nat × Nat × Nat)) (c : AV) (v : Value) : Prop :=
 match c with
 | .sl sz xs (.own k) => k = t ∧ ∃ g cap vs,v = .slice (some ⟨g,0,none⟩) xs.length cap ∧ RepR S w sz xs vs ∧ Rd S w ⟨g,0,none⟩ vs ∧ x = some (g,xs.length * sz,cap * sz) ∧ xs.length ≤ cap
 | c => RepV S w (fun _ => none) c v
theorem RepH.of {S w t x c v} (h : RepV S w (fun _ => none) c v) : RepH S w t x c v := by
 unfold RepH
 split
 ·cases h
 ·exact h
theorem RepH.flat {S w t x c v} (h : RepH S w t x c v) : RepV S w (fun _ => none) c.flat v := by
 unfold RepH at h
 split at h
 ·obtain ⟨_,g,cap,vs,rfl,hr,hd,_,hl⟩ := h
  exact .slSh cap hr hd hl
 ·exact h.flat
theorem RepH.toT {G : Gh} {w t x c v} (h : RepH G.S w t x c v) {k : Tag} (hk : G.τ k = x) : RepT G w (c.reown k) v := by
 unfold RepH at h
 split at h
 ·rename_i sz xs k'
  obtain ⟨_,g,cap,vs,rfl,hr,hd,hx,hl⟩ := h
  unfold AV.reown RepT
  exact ⟨g,cap,vs,rfl,hr,hd,hk.trans hx,hl⟩
 ·rename_i hne
  have e : c.reown k = c := by
   cases c <;> try rfl
   rename_i sz xs st
   cases st <;> try rfl
   exact (hne _ _ _ rfl).elim
  rw [e]
  exact .of h.bare
theorem RepH.plain {G : Gh} {w t x c v} (h : RepH G.S w t x c v) (hn : ∀ sz xs k,c ≠ .sl sz xs (.own k)) : RepT G w c v := by
 unfold RepH at h
 split at h
 ·exact (hn _ _ _ rfl).elim
 ·exact .of h.bare
theorem ownTags_mem : ∀ {cs : List AV} {sz : Nat} {xs : List AV} {k : Tag},AV.sl sz xs (.own k) ∈ cs → k ∈ ownTags cs
 | c :: cs,sz,xs,k,h => by
  rcases List.mem_cons.1 h with h | h
  ·subst h; simp [ownTags]
  ·have := ownTags_mem h
   unfold ownTags
   split
   ·cases ‹c :: cs = []›
   ·rename_i e; cases e; exact List.mem_cons_of_mem _ this
   ·rename_i e; cases e; exact this
theorem ownTags_get : ∀ {cs : List AV} {k : Tag},k ∈ ownTags cs → ∃ (j sz : Nat) (xs : List AV),cs[j]? = some (.sl sz xs (.own k))
 | [],k,h => by simp [ownTags] at h
 | c :: cs,k,h => by
  unfold ownTags at h
  split at h
  ·cases ‹c :: cs = []›
  ·rename_i e; cases e
   rcases List.mem_cons.1 h with rfl | h
   ·exact ⟨0,_,_,rfl⟩
   ·obtain ⟨j,sz,xs,hj⟩ := ownTags_get h
    exact ⟨j + 1,sz,xs,by simpa using hj⟩
  ·rename_i e; cases e
   obtain ⟨j,sz,xs,hj⟩ := ownTags_get h
   exact ⟨j + 1,sz,xs,by simpa using hj⟩
structure PassO (w : World) (S : Nat → Nat → Prop) (b : Nat) (x : Option (Nat × Nat × Nat)) (cs : List AV) : Prop where
 lt : ∀ g o,S g o → g < w.heap.size
 avoid : ∀ o,¬ S b o
 mem : ∃ (us : List Value) (t : TypeId),Blk w b us t ∧ cs.length = us.length ∧ (∀ (j : Nat) c v,cs[j]? = some c → us[j]? = some v → RepH S w [] x c v) ∧ ∀ v ∈ us,oc v = true
 own : ∀ g e l,x = some (g,e,l) → g ≠ b ∧ (∃ (us : List Value) (t : TypeId),Blk w g us t ∧ l ≤ us.length) ∧ (∀ o,e ≤ o → ¬ S g o) ∧ ∀ o,o < e → S g o
structure DoneO (w : World) (S : Nat → Nat → Prop) (b : Nat) (x : Option (Nat × Nat × Nat)) (r : AV) (cs : List AV) (t : Tag) (x' : Option (Nat × Nat × Nat)) (v : Value) (w' : World) (S' : Nat → Nat → Prop) : Prop where
 size : w.heap.size ≤ w'.heap.size
 os : w'.os = w.os
 tape : w'.tape = w.tape
 output : w'.output = w.output
 old : ∀ b',b' < w.heap.size → b' ≠ b → (∀ e l,x ≠ some (b',e,l)) → w'.heap[b']? = w.heap[b']?
 owk : ∀ g e l,x = some (g,e,l) → ∃ (us us' : List Value) (t : TypeId),Blk w g us t ∧ Blk w' g us' t ∧ us'.length = us.length ∧ ∀ o,o < e → us'[o]? = us[o]?
 sub : ∀ g o,S g o → S' g o
 new : ∀ g o,S' g o → S g o ∨ w.heap.size ≤ g ∨ ∃ e l,x = some (g,e,l) ∧ e ≤ o
 lt : ∀ g o,S' g o → g < w'.heap.size
 mem : ∃ (us : List Value) (tt : TypeId),Blk w' b us tt ∧ cs.length = us.length ∧ (∀ (j : Nat) c v,cs[j]? = some c → us[j]? = some v → RepH S' w' t x' c v) ∧ ∀ v ∈ us,oc v = true
 own : ∀ g e l,x' = some (g,e,l) → (w.heap.size ≤ g ∨ (t = [] ∧ ∃ e0 l0,x = some (g,e0,l0) ∧ e0 ≤ e)) ∧ g ≠ b ∧ (∃ (us : List Value) (tt : TypeId),Blk w' g us tt ∧ l ≤ us.length) ∧ ∀ o,e ≤ o → ¬ S' g o
 tags : ∀ k,k ∈ ownTags cs → k = t ∧ x' ≠ none
 res : RepV S' w' (fun _ => none) r v
 fro : Fro w.heap.size w'
def CallsO (P : Program) (f : FuncId) (args cs : List AV) (r : AV) (cs' : List AV) : Prop :=
 (∃ fn, P.funcs[f]? = some fn ∧ fn.body.isSome = true ∧ (fn.name == "runtime.NumGoroutine") = false) ∧
 ∀ (w : World) (S : Nat → Nat → Prop) (b : Nat) (x : Option (Nat × Nat × Nat)) (vs : List Value),PassO w S b x cs → RepL S w (fun i => if i = 1000 then some b else none) args vs →
  Calls P f vs.toArray w fun e w' => ∃ v S' x' t,e = .returned v ∧ DoneO w S b x r cs' t x' v w' S'
theorem doneO_inv {B G s a w} (h : Sim B G s a w) {id b : Nat} {cs0 : List AV} (hβ : G.β id = some b) (hl : look s.mem id = some cs0) {x : Option (Nat × Nat × Nat)}
  (hx : ∀ g e l,x = some (g,e,l) → (∃ k,B.New k g e) ∧ (∀ i,G.β i ≠ some g) ∧ (∀ k e' l',G.τ k ≠ some (g,e',l')) ∧ ∀ o,e ≤ o → ¬ G.S g o) {r : AV} {cs' : List AV} {t : Tag} {x' : Option (Nat × Nat × Nat)} {v : Value} {w' : World} {S' : Nat → Nat → Prop}
  (hd : DoneO w G.S b x r cs' t x' v w' S') : Inv B { G with S := S' } w' (upd s.mem id (cs'.map AV.flat)) ∧ Ext G.S w S' w' := by
 have hi := h.inv
 have hold := hd.old
 have hnx : ∀ {b' : Nat},(∀ e l,x ≠ some (b',e,l)) ∨ ∃ e l,x = some (b',e,l) := fun {b'} => by
  by_cases hq : ∃ e l,x = some (b',e,l)
  ·exact .inr hq
  ·exact .inl fun e l he => hq ⟨e,l,he⟩
 have hE : Ext G.S w S' w' := by
  refine ⟨hd.sub,fun g o hs => ?_⟩
  have hgb : g ≠ b := fun e => hi.βS id b o hβ (e ▸ hs)
  rcases hnx (b' := g) with hn | ⟨e,l,hq⟩
  ·exact cell_of_heap (hold g (hi.Slt g o hs) hgb hn) o
  ·obtain ⟨us,us',tt,h1,h2,h3,h4⟩ := hd.owk g e l hq
   rw [h1.cell,h2.cell]
   refine h4 o (Nat.lt_of_not_le fun hle => ?_)
   exact (hx g e l hq).2.2.2 o hle hs
 refine ⟨?_,hE⟩
 constructor
 ·have := hi.size; have := hd.size; omega
 ·exact hd.os.trans hi.os
 ·exact hd.tape.trans hi.tape
 ·exact hd.output.trans hi.output
 ·intro b' hb hw hne
  rw [hold b' (by have := hi.size; omega) (by
   rintro rfl
   rcases hi.βnew id b' hβ with h3 | h3
   ·omega
   ·exact hw h3) fun e l hq => ?_]
  ·exact hi.old b' hb hw hne
  ·obtain ⟨⟨k,hk⟩,_⟩ := hx b' e l hq
   rcases hk with hk | ⟨_,e0,h1,_⟩
   ·omega
   ·exact hne e0 h1
 ·intro g o hs; exact hd.sub g o (hi.S0 g o hs)
 ·intro g o hs
  rcases hd.new g o hs with h1 | h1 | ⟨e,l,h1,h2⟩
  ·exact hi.Snew g o h1
  ·exact .inr (.inl (by have := hi.size; omega))
  ·obtain ⟨⟨k,hk⟩,_⟩ := hx g e l h1
   rcases hk with hk | ⟨_,e0,h3,h4⟩
   ·exact .inr (.inl hk)
   ·exact .inr (.inr ⟨e0,h3,by omega⟩)
 ·exact hd.lt
 ·exact hi.βinj
 ·intro i b' o hb hs
  rcases hd.new b' o hs with h1 | h1 | ⟨e,l,h1,h2⟩
  ·exact hi.βS i b' o hb h1
  ·have := βlt hi i b' hb; omega
  ·exact (hx b' e l h1).2.1 i hb
 ·exact hi.βnew
 ·intro i hi'
  rw [look_upd] at hi'
  split at hi'
  ·rename_i e; subst e; rw [hl] at hi'; cases hi'
  ·exact hi.dom i hi'
 ·intro i cs hc
  rw [look_upd] at hc
  split at hc
  ·rename_i e; subst e
   rw [hl] at hc; cases hc
   obtain ⟨us,tt,h1,h2,h3,h4⟩ := hd.mem
   refine ⟨b,us,tt,hβ,h1,by simpa using h2,fun j c v hc hv => ?_,h4⟩
   simp only [List.getElem?_map,Option.map_eq_some_iff] at hc
   obtain ⟨c0,hc,rfl⟩ := hc
   exact .of (h3 j c0 v hc hv).flat.bare
  ·rename_i hne
   obtain ⟨b',us,tt,h1,h2,h3,h4,h5⟩ := hi.mem i cs hc
   refine ⟨b',us,tt,h1,?_,h3,fun j c v hc hv => (h4 j c v hc hv).mono hE (fun _ _ h => h) (fun _ _ h => h),h5⟩
   unfold Blk at h2 ⊢
   rw [hold b' (Blk.lt h2) (fun e => hne (hi.βinj _ _ _ (e ▸ h1) hβ)) fun e l hq => (hx b' e l hq).2.1 i h1]; exact h2
 ·intro k g e l hk
  obtain ⟨h1,h2,⟨vs',t',h3,h4⟩,h5⟩ := hi.τ k g e l hk
  refine ⟨h1,h2,⟨vs',t',?_,h4⟩,fun o ho hs => ?_⟩
  ·unfold Blk at h3 ⊢
   rw [hold g (Blk.lt h3) (fun e => h2 id (e ▸ hβ)) fun e' l' hq => (hx g e' l' hq).2.2.1 k e l hk]; exact h3
  ·rcases hd.new g o hs with h6 | h6 | ⟨e',l',h6,_⟩
   ·exact h5 o ho h6
   ·have := h3.lt; omega
   ·exact (hx g e' l' h6).2.2.1 k e l hk
 ·exact hi.τinj
 ·exact hi.β0
 ·intro ad ha
  by_cases h1 : ad.block < w.heap.size
  ·by_cases h2 : ad.block = b
   ·obtain ⟨us,tt,h3,_⟩ := hd.mem
    exact h3.fro h2
   ·rcases hnx (b' := ad.block) with hn | ⟨e,l,hq⟩
    ·rw [frozen_heap (hold _ h1 h2 hn)]
     exact hi.fro ad ha
    ·obtain ⟨us,us',tt,_,h4,_⟩ := hd.owk _ e l hq
     exact h4.fro rfl
  ·exact hd.fro ad (by omega)
 ·intro b' e hb
  obtain ⟨us,us',tt,h1,h2,h3,h4⟩ := hi.owk b' e hb
  rcases hnx (b' := b') with hn | ⟨e1,l,hq⟩
  ·refine ⟨us,us',tt,h1,?_,h3,h4⟩
   unfold Blk at h2 ⊢
   rw [hold b' (Blk.lt h2) (fun e' => hi.owβ b' e hb id (e' ▸ hβ)) hn]; exact h2
  ·obtain ⟨vs,vs',t2,k1,k2,k3,k4⟩ := hd.owk b' e1 l hq
   obtain ⟨rfl,rfl⟩ := k1.inj h2
   refine ⟨us,vs',t2,h1,k2,by omega,fun o hlt => ?_⟩
   obtain ⟨⟨k,hk⟩,_⟩ := hx b' e1 l hq
   rcases hk with hk | ⟨_,e0,h6,h7⟩
   ·have := h1.lt; omega
   ·rw [hb] at h6; cases h6
    rw [k4 o (by omega)]; exact h4 o hlt
 ·exact hi.owβ
 ·exact hi.owS
theorem upd_upd (m : Mem) (i : Nat) (a b : List AV) : upd (upd m i a) i b = upd m i b := by
 induction m with
 | nil => rfl
 | cons p r ih =>
  obtain ⟨k,c⟩ := p
  by_cases hk : k = i
  ·subst hk; simp [upd]
  ·simp [upd,hk,ih]
theorem Inv.see {B G w m} (h : Inv B G w m) {id b : Nat} {cs ns : List AV} {us : List Value} {t : TypeId} (hl : look m id = some cs) (hb : G.β id = some b) (hw : Blk w b us t) (hn : ns.length = us.length)
  (hr : ∀ (j : Nat) c v,ns[j]? = some c → us[j]? = some v → RepT G w c v) (hoc : ∀ v ∈ us,oc v = true) : Inv B G w (upd m id ns) :=
 (h.write (vs := us) hl hb hw (Only.refl _ _) hn hr hoc).1
theorem doneO_sim {B G s a w} (h : Sim B G s a w) {id b : Nat} {cs0 : List AV} (hβ : G.β id = some b) (hl : look s.mem id = some cs0) {x : Option (Nat × Nat × Nat)}
  (hx : ∀ g e l,x = some (g,e,l) → (∃ k,B.New k g e) ∧ (∀ i,G.β i ≠ some g) ∧ (∀ k e' l',G.τ k ≠ some (g,e',l')) ∧ ∀ o,e ≤ o → ¬ G.S g o) {r : AV} {cs' : List AV} {t : Tag} {x' : Option (Nat × Nat × Nat)} {v : Value} {w' : World} {S' : Nat → Nat → Prop}
  (hd : DoneO w G.S b x r cs' t x' v w' S') (dst : Option Nat) :
  (ownTags cs' = [] → ∃ G',Sim B G' (AS.put { s with mem := upd s.mem id cs' } dst r) (a.put dst v) w' ∧ TauLe G G' none) ∧
  (∀ k,G.τ k = none → ownTags cs' ≠ [] → (∀ g e l,x' = some (g,e,l) → B.New k g e) → ∃ G',Sim B G' (AS.put { s with mem := upd s.mem id (cs'.map (AV.reown k)) } dst r) (a.put dst v) w' ∧ TauLe G G' (some k)) := by
 obtain ⟨hi,he⟩ := doneO_inv h hβ hl hx hd
 have hl' : look (upd s.mem id (cs'.map AV.flat)) id = some (cs'.map AV.flat) := by rw [look_upd,if_pos rfl,hl]; rfl
 obtain ⟨us,tt,h1,h2,h3,h4⟩ := hd.mem
 refine ⟨fun hn => ?_,fun k hk hn hN => ?_⟩
 ·have hi2 := hi.see hl' hβ h1 h2 (fun j c v hc hv => (h3 j c v hc hv).plain (G := { G with S := S' }) fun sz xs k e => by
   subst e
   have := ownTags_mem (List.mem_of_getElem? hc)
   rw [hn] at this; cases this) h4
  rw [upd_upd] at hi2
  have h5 : Sim B { G with S := S' } { s with mem := upd s.mem id cs' } a w' := h.mono hi2 he (fun _ _ h => h) (fun _ _ h => h)
  exact ⟨_,h5.put dst (.of hd.res.bare),TauLe.of_eq rfl _⟩
 ·obtain ⟨k',hk'⟩ : ∃ k',k' ∈ ownTags cs' := by
   cases hq : ownTags cs' with
   | nil => exact absurd hq hn
   | cons k' _ => exact ⟨k',by simp⟩
  have hne := (hd.tags k' hk').2
  cases hx' : x' with
  | none => exact absurd hx' hne
  | some y =>
  obtain ⟨g,e,l⟩ := y
  obtain ⟨k1,k2,⟨vs2,t2,k3,k4⟩,k5⟩ := hd.own g e l hx'
  have kβ : ∀ i,G.β i ≠ some g := by
   intro i hi'
   rcases k1 with k1 | ⟨_,e0,l0,k1,_⟩
   ·have := βlt h.inv i g hi'; omega
   ·exact (hx g e0 l0 k1).2.1 i hi'
  have kτ : ∀ k' e' l',G.τ k' ≠ some (g,e',l') := by
   intro k' e' l' hq
   rcases k1 with k1 | ⟨_,e0,l0,k1,_⟩
   ·obtain ⟨_,_,⟨_,_,hb,_⟩,_⟩ := h.inv.τ k' _ _ _ hq
    have := hb.lt; omega
   ·exact (hx g e0 l0 k1).2.2.1 k' e' l' hq
  have hi1 := hi.own (k := k) (g := g) (e := e) (l := l) hk (hN g e l hx') kβ k3 k4 k5 (fun k' e' l' hq => (kτ k' e' l' hq).elim)
  have hi2 := hi1.see hl' hβ h1 (ns := cs'.map (AV.reown k)) (by simpa using h2) (fun j c v hc hv => by
   simp only [List.getElem?_map,Option.map_eq_some_iff] at hc
   obtain ⟨c0,hc,rfl⟩ := hc
   exact (h3 j c0 v hc hv).toT (G := ({ G with S := S' } : Gh).own k (g,e,l)) (k := k) (by simp [Gh.own,hx'])) h4
  rw [upd_upd] at hi2
  have h5 : Sim B (({ G with S := S' } : Gh).own k (g,e,l)) { s with mem := upd s.mem id (cs'.map (AV.reown k)) } a w' := h.mono hi2 he (fun _ _ h => h) (fun k' y hy => by
   simp only [Gh.own]
   rw [if_neg]
   ·exact hy
   ·rintro rfl; rw [hk] at hy; cases hy)
  refine ⟨_,h5.put dst (.of hd.res.bare),fun k' y hy => ?_⟩
  simp only [Gh.own] at hy
  split at hy
  ·rename_i e'; exact .inl (by rw [e'])
  ·exact .inr (by rw [hy]; simp)
theorem passO_ok {B G s a w} (h : Sim B G s a w) {id b : Nat} {cs : List AV} (hβ : G.β id = some b) (hl : look s.mem id = some cs) {x : Option (Nat × Nat × Nat)} (hx : (ownTags cs = [] ∧ x = none) ∨ ∃ k,ownTags cs = [k] ∧ x = G.τ k) :
  PassO w G.S b x (cs.map AV.pass) := by
 obtain ⟨b',us,t,h1,h2,h3,h4,h5⟩ := h.inv.mem id cs hl
 rw [hβ] at h1; cases h1
 refine ⟨h.inv.Slt,fun o => h.inv.βS id b o hβ,⟨us,t,h2,by simpa using h3,fun j c v hc hv => ?_,h5⟩,fun g e l hq => ?_⟩
 ·simp only [List.getElem?_map,Option.map_eq_some_iff] at hc
  obtain ⟨c0,hc,rfl⟩ := hc
  have hr := h4 j c0 v hc hv
  have other : RepH G.S w [] x c0.flat v := .of hr.flat
  cases c0 <;> try exact other
  rename_i sz xs st
  cases st <;> try exact other
  rename_i k
  have hm := ownTags_mem (List.mem_of_getElem? hc)
  rcases hx with ⟨e,_⟩ | ⟨k',e,hx⟩
  ·rw [e] at hm; cases hm
  ·rw [e] at hm
   simp only [List.mem_singleton] at hm
   subst hm
   unfold RepT at hr
   obtain ⟨g,cap,vs,rfl,hrr,hrd,hτ,hle⟩ := hr
   exact ⟨rfl,g,cap,vs,rfl,hrr,hrd,hx.trans hτ,hle⟩
 ·rcases hx with ⟨_,e'⟩ | ⟨k,ek,hx⟩
  ·rw [e'] at hq; cases hq
  ·rw [hx] at hq
   obtain ⟨k1,k2,k3,k4⟩ := h.inv.τ k g _ l hq
   refine ⟨fun e' => k2 id (e' ▸ hβ),k3,k4,fun o ho => ?_⟩
   obtain ⟨j,sz,xs,hj⟩ := ownTags_get (cs := cs) (k := k) (by rw [ek]; simp)
   have hjl : j < us.length := by rw [← h3]; exact (List.getElem?_eq_some_iff.1 hj).1
   have hr := h4 j _ _ hj (List.getElem?_eq_getElem hjl)
   unfold RepT at hr
   obtain ⟨g',cap,vs,_,hrr,hrd,hτ,hle⟩ := hr
   rw [hq] at hτ
   simp only [Option.some.injEq,Prod.mk.injEq] at hτ
   obtain ⟨rfl,rfl,rfl⟩ := hτ
   have := hrr.length
   have := (hrd.2 o _ (List.getElem?_eq_getElem (show o < vs.length by omega))).1
   simpa using this
end Go.Ev
set_option linter.unusedVariables false
set_option linter.unusedSimpArgs false
namespace Go.Ev
open Go
structure PassV (w : World) (S : Nat → Nat → Prop) (x : Option (Nat × Nat × Nat)) (args : List AV) (vs : List Value) : Prop where
 lt : ∀ g o,S g o → g < w.heap.size
 len : args.length = vs.length
 arg : ∀ (j : Nat) c v,args[j]? = some c → vs[j]? = some v → RepH S w [] x c v
 own : ∀ g e l,x = some (g,e,l) → (∃ (us : List Value) (t : TypeId),Blk w g us t ∧ l ≤ us.length) ∧ (∀ o,e ≤ o → ¬ S g o) ∧ ∀ o,o < e → S g o
structure DoneV (w : World) (S : Nat → Nat → Prop) (x : Option (Nat × Nat × Nat)) (r : AV) (t : Tag) (x' : Option (Nat × Nat × Nat)) (v : Value) (w' : World) (S' : Nat → Nat → Prop) : Prop where
 size : w.heap.size ≤ w'.heap.size
 os : w'.os = w.os
 tape : w'.tape = w.tape
 output : w'.output = w.output
 old : ∀ b',b' < w.heap.size → (∀ e l,x ≠ some (b',e,l)) → w'.heap[b']? = w.heap[b']?
 owk : ∀ g e l,x = some (g,e,l) → ∃ (us us' : List Value) (t : TypeId),Blk w g us t ∧ Blk w' g us' t ∧ us'.length = us.length ∧ ∀ o,o < e → us'[o]? = us[o]?
 sub : ∀ g o,S g o → S' g o
 new : ∀ g o,S' g o → S g o ∨ w.heap.size ≤ g ∨ ∃ e l,x = some (g,e,l) ∧ e ≤ o
 lt : ∀ g o,S' g o → g < w'.heap.size
 own : ∀ g e l,x' = some (g,e,l) → (w.heap.size ≤ g ∨ (t = [] ∧ ∃ e0 l0,x = some (g,e0,l0) ∧ e0 ≤ e)) ∧ (∃ (us : List Value) (tt : TypeId),Blk w' g us tt ∧ l ≤ us.length) ∧ ∀ o,e ≤ o → ¬ S' g o
 res : RepH S' w' t x' r v
 fro : Fro w.heap.size w'
def CallsV (P : Program) (f : FuncId) (args : List AV) (r : AV) : Prop :=
 (∃ fn, P.funcs[f]? = some fn ∧ fn.body.isSome = true ∧ (fn.name == "runtime.NumGoroutine") = false) ∧
 ∀ (w : World) (S : Nat → Nat → Prop) (x : Option (Nat × Nat × Nat)) (vs : List Value),PassV w S x args vs →
  Calls P f vs.toArray w fun e w' => ∃ v S' x' t,e = .returned v ∧ DoneV w S x r t x' v w' S'
theorem doneV_inv {B G s a w} (h : Sim B G s a w) {x : Option (Nat × Nat × Nat)}
  (hx : ∀ g e l,x = some (g,e,l) → (∃ k,B.New k g e) ∧ (∀ i,G.β i ≠ some g) ∧ (∀ k e' l',G.τ k ≠ some (g,e',l')) ∧ ∀ o,e ≤ o → ¬ G.S g o) {r : AV} {t : Tag} {x' : Option (Nat × Nat × Nat)} {v : Value} {w' : World} {S' : Nat → Nat → Prop}
  (hd : DoneV w G.S x r t x' v w' S') : Inv B { G with S := S' } w' s.mem ∧ Ext G.S w S' w' := by
 have hi := h.inv
 have hold := hd.old
 have hnx : ∀ {b' : Nat},(∀ e l,x ≠ some (b',e,l)) ∨ ∃ e l,x = some (b',e,l) := fun {b'} => by
  by_cases hq : ∃ e l,x = some (b',e,l)
  ·exact .inr hq
  ·exact .inl fun e l he => hq ⟨e,l,he⟩
 have hE : Ext G.S w S' w' := by
  refine ⟨hd.sub,fun g o hs => ?_⟩
  rcases hnx (b' := g) with hn | ⟨e,l,hq⟩
  ·exact cell_of_heap (hold g (hi.Slt g o hs) hn) o
  ·obtain ⟨us,us',tt,h1,h2,h3,h4⟩ := hd.owk g e l hq
   rw [h1.cell,h2.cell]
   refine h4 o (Nat.lt_of_not_le fun hle => ?_)
   exact (hx g e l hq).2.2.2 o hle hs
 refine ⟨?_,hE⟩
 constructor
 ·have := hi.size; have := hd.size; omega
 ·exact hd.os.trans hi.os
 ·exact hd.tape.trans hi.tape
 ·exact hd.output.trans hi.output
 ·intro b' hb hw hne
  rw [hold b' (by have := hi.size; omega) fun e l hq => ?_]
  ·exact hi.old b' hb hw hne
  ·obtain ⟨⟨k,hk⟩,_⟩ := hx b' e l hq
   rcases hk with hk | ⟨_,e0,h1,_⟩
   ·omega
   ·exact hne e0 h1
 ·intro g o hs; exact hd.sub g o (hi.S0 g o hs)
 ·intro g o hs
  rcases hd.new g o hs with h1 | h1 | ⟨e,l,h1,h2⟩
  ·exact hi.Snew g o h1
  ·exact .inr (.inl (by have := hi.size; omega))
  ·obtain ⟨⟨k,hk⟩,_⟩ := hx g e l h1
   rcases hk with hk | ⟨_,e0,h3,h4⟩
   ·exact .inr (.inl hk)
   ·exact .inr (.inr ⟨e0,h3,by omega⟩)
 ·exact hd.lt
 ·exact hi.βinj
 ·intro i b' o hb hs
  rcases hd.new b' o hs with h1 | h1 | ⟨e,l,h1,h2⟩
  ·exact hi.βS i b' o hb h1
  ·have := βlt hi i b' hb; omega
  ·exact (hx b' e l h1).2.1 i hb
 ·exact hi.βnew
 ·exact hi.dom
 ·intro i cs hc
  obtain ⟨b',us,tt,h1,h2,h3,h4,h5⟩ := hi.mem i cs hc
  refine ⟨b',us,tt,h1,?_,h3,fun j c v hc hv => (h4 j c v hc hv).mono hE (fun _ _ h => h) (fun _ _ h => h),h5⟩
  unfold Blk at h2 ⊢
  rw [hold b' (Blk.lt h2) fun e l hq => (hx b' e l hq).2.1 i h1]; exact h2
 ·intro k g e l hk
  obtain ⟨h1,h2,⟨vs',t',h3,h4⟩,h5⟩ := hi.τ k g e l hk
  refine ⟨h1,h2,⟨vs',t',?_,h4⟩,fun o ho hs => ?_⟩
  ·unfold Blk at h3 ⊢
   rw [hold g (Blk.lt h3) fun e' l' hq => (hx g e' l' hq).2.2.1 k e l hk]; exact h3
  ·rcases hd.new g o hs with h6 | h6 | ⟨e',l',h6,_⟩
   ·exact h5 o ho h6
   ·have := h3.lt; omega
   ·exact (hx g e' l' h6).2.2.1 k e l hk
 ·exact hi.τinj
 ·exact hi.β0
 ·intro ad ha
  by_cases h1 : ad.block < w.heap.size
  ·rcases hnx (b' := ad.block) with hn | ⟨e,l,hq⟩
   ·rw [frozen_heap (hold _ h1 hn)]
    exact hi.fro ad ha
   ·obtain ⟨us,us',tt,_,h4,_⟩ := hd.owk _ e l hq
    exact h4.fro rfl
  ·exact hd.fro ad (by omega)
 ·intro b' e hb
  obtain ⟨us,us',tt,h1,h2,h3,h4⟩ := hi.owk b' e hb
  rcases hnx (b' := b') with hn | ⟨e1,l,hq⟩
  ·refine ⟨us,us',tt,h1,?_,h3,h4⟩
   unfold Blk at h2 ⊢
   rw [hold b' (Blk.lt h2) hn]; exact h2
  ·obtain ⟨vs,vs',t2,k1,k2,k3,k4⟩ := hd.owk b' e1 l hq
   obtain ⟨rfl,rfl⟩ := k1.inj h2
   refine ⟨us,vs',t2,h1,k2,by omega,fun o hlt => ?_⟩
   obtain ⟨⟨k,hk⟩,_⟩ := hx b' e1 l hq
   rcases hk with hk | ⟨_,e0,h6,h7⟩
   ·have := h1.lt; omega
   ·rw [hb] at h6; cases h6
    rw [k4 o (by omega)]; exact h4 o hlt
 ·exact hi.owβ
 ·exact hi.owS
theorem doneV_sim {B G s a w} (h : Sim B G s a w) {x : Option (Nat × Nat × Nat)}
  (hx : ∀ g e l,x = some (g,e,l) → (∃ k,B.New k g e) ∧ (∀ i,G.β i ≠ some g) ∧ (∀ k e' l',G.τ k ≠ some (g,e',l')) ∧ ∀ o,e ≤ o → ¬ G.S g o) {sz : Nat} {xs : List AV} {k0 t : Tag} {x' : Option (Nat × Nat × Nat)} {v : Value} {w' : World} {S' : Nat → Nat → Prop}
  (hd : DoneV w G.S x (.sl sz xs (.own k0)) t x' v w' S') (dst : Option Nat) {k : Tag} (hk : G.τ k = none) (hN : ∀ g e l,x' = some (g,e,l) → B.New k g e) :
  ∃ G',Sim B G' (AS.put s dst (.sl sz xs (.own k))) (a.put dst v) w' ∧ TauLe G G' (some k) := by
 obtain ⟨hi,he⟩ := doneV_inv h hx hd
 have hr := hd.res
 unfold RepH at hr
 obtain ⟨rfl,g,cap,vs,rfl,hrr,hrd,hx',hle⟩ := hr
 obtain ⟨k1,⟨vs2,t2,k3,k4⟩,k5⟩ := hd.own _ _ _ hx'
 have kβ : ∀ i,G.β i ≠ some g := by
  intro i hi'
  rcases k1 with k1 | ⟨_,e0,l0,k1,_⟩
  ·have := βlt h.inv i g hi'; omega
  ·exact (hx g e0 l0 k1).2.1 i hi'
 have kτ : ∀ k' e' l',G.τ k' ≠ some (g,e',l') := by
  intro k' e' l' hq
  rcases k1 with k1 | ⟨_,e0,l0,k1,_⟩
  ·obtain ⟨_,_,⟨_,_,hb,_⟩,_⟩ := h.inv.τ k' _ _ _ hq
   have := hb.lt; omega
  ·exact (hx g e0 l0 k1).2.2.1 k' e' l' hq
 have hi1 := hi.own (k := k) (g := g) hk (hN g _ _ hx') kβ k3 k4 k5 (fun k' e' l' hq => (kτ k' e' l' hq).elim)
 have h5 : Sim B (({ G with S := S' } : Gh).own k (g,_,_)) s a w' := h.mono hi1 he (fun _ _ h => h) (fun k' y hy => by
  simp only [Gh.own]
  rw [if_neg]
  ·exact hy
  ·rintro rfl; rw [hk] at hy; cases hy)
 refine ⟨_,h5.put dst ?_,fun k' y hy => ?_⟩
 ·unfold RepT
  exact ⟨g,cap,vs,rfl,hrr,hrd,by simp [Gh.own],hle⟩
 ·simp only [Gh.own] at hy
  split at hy
  ·rename_i e'; exact .inl (by rw [e'])
  ·exact .inr (by rw [hy]; simp)
theorem passV_ok {B G s a w} (h : Sim B G s a w) {as : List AV} {vs : List Value} (hlen : as.length = vs.length) (hr : ∀ (j : Nat) c v,as[j]? = some c → vs[j]? = some v → RepT G w c v) {k : Tag} (ek : ownTags as = [k]) :
  PassV w G.S (G.τ k) (as.map AV.pass) vs := by
 refine ⟨h.inv.Slt,by simpa using hlen,fun j c v hc hv => ?_,fun g e l hq => ?_⟩
 ·simp only [List.getElem?_map,Option.map_eq_some_iff] at hc
  obtain ⟨c0,hc,rfl⟩ := hc
  have hr := hr j c0 v hc hv
  have other : RepH G.S w [] (G.τ k) c0.flat v := .of hr.flat
  cases c0 <;> try exact other
  rename_i sz xs st
  cases st <;> try exact other
  rename_i k'
  have hm := ownTags_mem (List.mem_of_getElem? hc)
  rw [ek] at hm
  simp only [List.mem_singleton] at hm
  subst hm
  unfold RepT at hr
  obtain ⟨g,cap,vs,rfl,hrr,hrd,hτ,hle⟩ := hr
  exact ⟨rfl,g,cap,vs,rfl,hrr,hrd,hτ,hle⟩
 ·obtain ⟨k1,k2,k3,k4⟩ := h.inv.τ k g _ l hq
  refine ⟨k3,k4,fun o ho => ?_⟩
  obtain ⟨j,sz,xs,hj⟩ := ownTags_get (cs := as) (k := k) (by rw [ek]; simp)
  have hjl : j < vs.length := by rw [← hlen]; exact (List.getElem?_eq_some_iff.1 hj).1
  have hr := hr j _ _ hj (List.getElem?_eq_getElem hjl)
  unfold RepT at hr
  obtain ⟨g',cap,vs,_,hrr,hrd,hτ,hle⟩ := hr
  rw [hq] at hτ
  simp only [Option.some.injEq,Prod.mk.injEq] at hτ
  obtain ⟨rfl,rfl,rfl⟩ := hτ
  have := hrr.length
  have := (hrd.2 o _ (List.getElem?_eq_getElem (show o < vs.length by omega))).1
  simpa using this
structure EnvOk (P : Program) (E : Env) : Prop where
 ty : TyOk P E.ty
 spec : SpecOk P E.spec
 specO : ∀ g sp,E.specO g = some sp → ∀ args cs r cs',sp args cs = some (r,cs') → CallsO P g args cs r cs'
 specV : ∀ g args r,E.specV g args = some r → CallsV P g args r
end Go.Ev
set_option linter.unusedVariables false
set_option linter.unusedSimpArgs false
namespace Go.Ev
open Go
theorem look_insM (m : Mem) (d : Nat) (cs : List AV) (h : look m d = none) (i : Nat) : look (insM m d cs) i = if i = d then some cs else look m i := by
 induction m with
 | nil =>
  simp only [insM,look]
  by_cases hi : i = d
  ·subst hi; simp
  ·simp [hi,Ne.symm hi]
 | cons p r ih =>
  obtain ⟨j,c⟩ := p
  simp only [look] at h
  split at h
  ·cases h
  ·rename_i hj
   simp only [insM]
   split
   ·simp only [look]
    by_cases hi : i = d
    ·subst hi; simp
    ·simp [hi,Ne.symm hi]
   ·simp only [look,ih h]
    by_cases hi : i = d
    ·subst hi; simp [hj]
    ·simp [hi]
theorem ins_sim {B G s a w} (h : Sim B G s a w) (hB : B.Ok) {d : Nat} (hd : look s.mem d = none) {cs : List AV} {vs : List Value} (t : TypeId) (hr : RepL G.S w G.β cs vs) (ho : ∀ v ∈ vs,oc v = true) :
  ∃ G',Sim B G' (Eff.app { val := .ptr d 0,ins := some (d,cs) } (some d) s) (a.put (some d) (.pointer (some ⟨w.heap.size,0,none⟩))) (w.alloc (.cells vs.toArray t)) ∧ G'.τ = G.τ := by
 obtain ⟨hi,he,hβ⟩ := h.inv.alloc hB hd t hr ho
 have hi' := hi.congr (m' := insM s.mem d cs) (fun i => by
  rw [look_insM _ _ _ hd]
  simp only [look]
  by_cases hi : i = d
  ·subst hi; simp
  ·simp [hi,Ne.symm hi])
 have h1 := h.mono hi' he hβ (fun _ _ h => h)
 exact ⟨_,h1.put (some d) (.of (.ptr (by simp))),rfl⟩
theorem laid_ok {G w} {v : AV} {u : Value} {cs : List AV} (h : RepT G w v u) (hl : v.laid = some cs) : ∃ vs : List Value,u.cells = vs.toArray ∧ RepL G.S w (fun _ => none) cs vs ∧ ∀ v ∈ vs,oc v = true := by
 cases v <;> simp only [AV.laid] at hl
 case unk => cases hl
 case tup => cases hl
 case agg l =>
  cases hl
  obtain ⟨vs,rfl,h1,h2⟩ := h.agg_inv
  exact ⟨vs,rfl,h1,h2⟩
 all_goals
  cases hl
  have hf := h.flat
  refine ⟨[u],?_,.cons hf .nil,?_⟩
 case int => rw [h.int_inv]; rfl
 case bool => rw [h.bool_inv]; rfl
 case str => rw [h.str_inv]; rfl
 case ptr => obtain ⟨b,_,rfl⟩ := h.ptr_inv; rfl
 case nilp => unfold RepT at h; cases h; rfl
 case ro => obtain ⟨a,vs,rfl,_⟩ := h.ro_inv; rfl
 case sl => obtain ⟨a,cap,rfl,_⟩ := h.sl_inv; rfl
 case view => obtain ⟨b,cap,_,rfl,_⟩ := h.view_inv; rfl
 case fn => obtain ⟨vs,rfl,_⟩ := h.fn_inv; rfl
 case niliface => unfold RepT at h; cases h; rfl
 case wp => obtain ⟨_,_,_,_,rfl,_⟩ := h.wp_inv; rfl
 case nilfn => unfold RepT at h; cases h; rfl
 case int => rw [h.int_inv]; simp [oc]
 case bool => rw [h.bool_inv]; simp [oc]
 case str => rw [h.str_inv]; simp [oc]
 case ptr => obtain ⟨b,_,rfl⟩ := h.ptr_inv; simp [oc]
 case nilp => unfold RepT at h; cases h; simp [oc]
 case ro => obtain ⟨a,vs,rfl,_⟩ := h.ro_inv; simp [oc]
 case sl => obtain ⟨a,cap,rfl,_⟩ := h.sl_inv; simp [oc]
 case view => obtain ⟨b,cap,_,rfl,_⟩ := h.view_inv; simp [oc]
 case fn => obtain ⟨vs,rfl,_⟩ := h.fn_inv; simp [oc]
 case niliface => unfold RepT at h; cases h; simp [oc]
 case wp => obtain ⟨_,_,_,_,rfl,_⟩ := h.wp_inv; simp [oc]
 case nilfn => unfold RepT at h; cases h; simp [oc]
theorem cellsT {G w} {v : AV} {u : Value} (h : RepT G w v u) (hk : v.known = true) (ht : v.isTup = false) : ∃ vs : List Value,u.cells = vs.toArray ∧ v.cells.length = vs.length ∧
  (∀ (j : Nat) c x,v.cells[j]? = some c → vs[j]? = some x → RepT G w c x) ∧ ∀ v ∈ vs,oc v = true := by
 have one : ∀ (v : AV),RepT G w v u → v.cells = [v] → u.cells = #[u] → oc u = true → ∃ vs : List Value,u.cells = vs.toArray ∧ v.cells.length = vs.length ∧
  (∀ (j : Nat) c x,v.cells[j]? = some c → vs[j]? = some x → RepT G w c x) ∧ ∀ v ∈ vs,oc v = true := by
  intro v h e1 e2 e3
  refine ⟨[u],e2,by rw [e1]; rfl,fun j c x hc hx => ?_,by simpa using e3⟩
  rw [e1] at hc
  cases j with
  | zero => simp at hc hx; subst hc; subst hx; exact h
  | succ j => simp at hc
 cases v
 case unk => simp [AV.known] at hk
 case tup => simp [AV.isTup] at ht
 case agg l =>
  obtain ⟨vs,rfl,h1,h2⟩ := h.agg_inv
  refine ⟨vs,rfl,h1.length,fun j c x hc hx => ?_,h2⟩
  obtain ⟨y,h3,h4⟩ := h1.get hc
  rw [h3] at hx; cases hx
  exact .of h4.bare
 all_goals refine one _ h rfl ?_ ?_
 case int => rw [h.int_inv]; rfl
 case bool => rw [h.bool_inv]; rfl
 case str => rw [h.str_inv]; rfl
 case ptr => obtain ⟨b,_,rfl⟩ := h.ptr_inv; rfl
 case nilp => unfold RepT at h; cases h; rfl
 case ro => obtain ⟨a,vs,rfl,_⟩ := h.ro_inv; rfl
 case sl => obtain ⟨a,cap,rfl,_⟩ := h.sl_inv; rfl
 case view => obtain ⟨b,cap,_,rfl,_⟩ := h.view_inv; rfl
 case fn => obtain ⟨vs,rfl,_⟩ := h.fn_inv; rfl
 case niliface => unfold RepT at h; cases h; rfl
 case wp => obtain ⟨_,_,_,_,rfl,_⟩ := h.wp_inv; rfl
 case nilfn => unfold RepT at h; cases h; rfl
 case int => rw [h.int_inv]; simp [oc]
 case bool => rw [h.bool_inv]; simp [oc]
 case str => rw [h.str_inv]; simp [oc]
 case ptr => obtain ⟨b,_,rfl⟩ := h.ptr_inv; simp [oc]
 case nilp => unfold RepT at h; cases h; simp [oc]
 case ro => obtain ⟨a,vs,rfl,_⟩ := h.ro_inv; simp [oc]
 case sl => obtain ⟨a,cap,rfl,_⟩ := h.sl_inv; simp [oc]
 case view => obtain ⟨b,cap,_,rfl,_⟩ := h.view_inv; simp [oc]
 case fn => obtain ⟨vs,rfl,_⟩ := h.fn_inv; simp [oc]
 case niliface => unfold RepT at h; cases h; simp [oc]
 case wp => obtain ⟨_,_,_,_,rfl,_⟩ := h.wp_inv; simp [oc]
 case nilfn => unfold RepT at h; cases h; simp [oc]
theorem setAt_get (ns : List AV) : ∀ (c : List AV) (o j : Nat),(setAt c o ns)[j]? = if o ≤ j ∧ j < o + ns.length ∧ j < c.length then ns[j - o]? else c[j]? := by
 induction ns with
 | nil => intro c o j; rw [if_neg (by rintro ⟨h1,h2,_⟩; simp at h2; omega)]; rfl
 | cons n ns ih =>
  intro c o j
  simp only [setAt,ih,List.length_set,List.length_cons]
  by_cases hj : j = o
  ·subst hj
   rw [if_neg (by omega)]
   by_cases hl : j < c.length
   ·rw [if_pos ⟨by omega,by omega,hl⟩]
    simp [hl]
   ·rw [if_neg (by omega)]
    simp [List.getElem?_set,hl]
  ·by_cases h1 : o + 1 ≤ j ∧ j < o + 1 + ns.length ∧ j < c.length
   ·rw [if_pos h1,if_pos ⟨by omega,by omega,h1.2.2⟩]
    have : j - o = (j - (o + 1)) + 1 := by omega
    rw [this,List.getElem?_cons_succ]
   ·rw [if_neg h1,if_neg (by omega)]
    rw [List.getElem?_set_ne (Ne.symm hj)]
def Runs (P : Program) (B : Base) (G : Gh) (s' : AS) (o : Oper) (a : Act) (w : World) : Prop :=
 (∃ v w' G',(execOp a.eval o).run P w = .ok (.value v) w' ∧ Sim B G' s' (a.put o.dst v) w' ∧ TauLe G G' (makes o)) ∨
 (∃ w' G',(execOp a.eval o).run P w = .ok .skip w' ∧ Sim B G' s' (a.put o.dst undef) w' ∧ TauLe G G' (makes o)) ∨
 (∃ f args,(execOp a.eval o).run P w = .ok (.enter f args) w ∧ Calls P f args w fun e w' => ∃ v G',e = .returned v ∧ Sim B G' s' (a.put o.dst v) w' ∧ TauLe G G' (makes o))
theorem Runs.wp {P B G s' o a w} (h : Runs P B G s' o a w) {K : Act → World → Prop} {Q : Exit → Act → World → Prop} (hK : ∀ G' a' w',Sim B G' s' a' w' → TauLe G G' (makes o) → K a' w') : o.wp P a w K Q := by
 unfold Oper.wp
 rcases h with ⟨v,w',G',hr,hs,ht⟩ | ⟨w',G',hr,hs,ht⟩ | ⟨f,args,hr,hc⟩
 ·rw [hr,Oper.upon_value]; exact hK _ _ _ hs ht
 ·rw [hr,Oper.upon_skip]; exact hK _ _ _ hs ht
 ·rw [hr,Oper.upon_enter]
  refine hc.mono ?_
  rintro e w' ⟨v,G',rfl,hs,ht⟩
  exact hK _ _ _ hs ht
theorem load_ok {P ty} (hT : TyOk P ty) {B G s a w} (h : Sim B G s a w) {t : TypeId} {ti : TI} (ht : ty t = some ti) {x : AV} {xv : Value} (hx : RepT G w x xv) {r : AV}
  (hr : (∃ id off cs,x = .ptr id off ∧ look s.mem id = some cs ∧ ((cs.drop off).take ti.size).length = ti.size ∧
   ((ti.td.agg = true ∧ r = .agg (((cs.drop off).take ti.size).map AV.flat)) ∨ (ti.td.agg = false ∧ ti.size = 1 ∧ r = ((cs.drop off).take ti.size).headD .unk))) ∨ (x = .ro r ∧ fits ti r = true)) :
  ∃ v,(Instr.loadAt t xv).run P w = .ok v w ∧ RepT G w r v := by
 rcases hr with ⟨id,off,cs,rfl,hl,hlen,hr⟩ | ⟨rfl,hf⟩
 ·obtain ⟨b,hβ,rfl⟩ := hx.ptr_inv
  obtain ⟨b',vs,t',h1,h2,h3,h4,h5⟩ := h.inv.mem id cs hl
  rw [hβ] at h1; cases h1
  have hvl : ((vs.drop off).take ti.size).length = ti.size := by
   have := hlen; simp at this ⊢; omega
  have hcell : ∀ (j : Nat) v,((vs.drop off).take ti.size)[j]? = some v → w.cell? ((Addr.mk b off none).add j) = some v := by
   intro j v hv
   rw [add_mk,h2.cell]
   rw [List.getElem?_take] at hv
   split at hv
   ·rwa [List.getElem?_drop] at hv
   ·cases hv
  rcases hr with ⟨ha,rfl⟩ | ⟨ha,hs1,rfl⟩
  ·have hrun := run_loadCells P hcell
   rw [hvl] at hrun
   refine ⟨.agg ((vs.drop off).take ti.size).toArray,?_,.of (.agg (RepL.of_get (by simp [h3]) fun i c v hc hv => ?_) fun v hv => h5 v (List.mem_of_mem_drop (List.mem_of_mem_take hv)))⟩
   ·simp [Instr.loadAt,Instr.sureAddr,loadVar,run_isAgg hT ht,ha,run_size hT ht,hrun]
   ·simp only [List.getElem?_map,Option.map_eq_some_iff] at hc
    obtain ⟨c0,hc,rfl⟩ := hc
    rw [List.getElem?_take] at hc hv
    split at hc
    ·rename_i hi
     rw [if_pos hi] at hv
     rw [List.getElem?_drop] at hc hv
     exact (h4 _ _ _ hc hv).flat
    ·cases hc
  ·rw [hs1] at hvl hcell hlen ⊢
   obtain ⟨c,hc⟩ : ∃ c,cs[off]? = some c := by
    have : off < cs.length := by simp at hlen; omega
    exact ⟨_,List.getElem?_eq_getElem this⟩
   obtain ⟨v,hv⟩ : ∃ v,vs[off]? = some v := by
    have : off < vs.length := by rw [← h3]; exact (List.getElem?_eq_some_iff.1 hc).1
    exact ⟨_,List.getElem?_eq_getElem this⟩
   have e1 : ((cs.drop off).take 1).headD .unk = c := by
    rw [List.drop_eq_getElem_cons (List.getElem?_eq_some_iff.1 hc).1]
    simp [(List.getElem?_eq_some_iff.1 hc).2]
   rw [e1]
   refine ⟨v,?_,h4 _ _ _ hc hv⟩
   have : w.cell? ⟨b,off,none⟩ = some v := by rw [h2.cell]; exact hv
   simp [Instr.loadAt,Instr.sureAddr,loadVar,run_isAgg hT ht,ha,load,Sem.run,this]
 ·obtain ⟨ad,vs,rfl,hc,hd⟩ := hx.ro_inv
  obtain ⟨f1,f2,f3,f4⟩ := fits_size hf
  cases hc with
  | agg hl ho =>
   simp only [AV.isAgg,AV.cells] at f1 f2
   have hrun := run_loadCells P hd.cells
   rw [← hl.length,f1] at hrun
   exact ⟨.agg vs.toArray,by simp [Instr.loadAt,Instr.sureAddr,loadVar,run_isAgg hT ht,← f2,run_size hT ht,hrun],.of (.agg hl ho)⟩
  | one hv ha ho =>
   rename_i v
   have := hd.cells 0 v rfl
   rw [Addr.add_zero'] at this
   refine ⟨v,?_,.of hv.bare⟩
   simp [Instr.loadAt,Instr.sureAddr,loadVar,run_isAgg hT ht,← f2,ha,load,Sem.run,this]
theorem upd1 (s : AS) (dst : Option Nat) (v : AV) (id : Nat) (cs : List AV) : Eff.app { val := v,upd := [(id,cs)] } dst s = AS.put { s with mem := upd s.mem id cs } dst v := rfl
theorem store_ok {P ty} (hT : TyOk P ty) {B G s a w} (h : Sim B G s a w) {t : TypeId} {ti : TI} (ht : ty t = some ti) {id off : Nat} {cs : List AV} {xv y yv} (hx : RepT G w (.ptr id off) xv) (hy : RepT G w y yv)
  (hl : look s.mem id = some cs) (hk : y.known = true) (hp : y.isTup = false) (hsz : y.cells.length = ti.size) (hle : off + ti.size ≤ cs.length) (dst : Option Nat) :
  ∃ w',(Instr.storeAt t xv yv).run P w = .ok () w' ∧ Sim B G (AS.put { s with mem := upd s.mem id (setAt cs off y.cells) } dst (.tup [])) (a.put dst undef) w' := by
 obtain ⟨b,hβ,rfl⟩ := hx.ptr_inv
 obtain ⟨b',vs,t',h1,h2,h3,h4,h5⟩ := h.inv.mem id cs hl
 rw [hβ] at h1; cases h1
 obtain ⟨us,hu1,hu2,hu3,hu4⟩ := cellsT hy hk hp
 obtain ⟨w',hrun,hb',ho⟩ := run_storeCells P (b := b) (o := off) us 0 h2 (by omega) hu4
 simp only [Nat.add_zero] at hb'
 obtain ⟨hi,he⟩ := h.inv.write (vs := vs) hl hβ hb' ho (ns := setAt cs off y.cells) (by rw [setAt_length,setAtV_length,h3]) (fun j c v hc hv => by
  rw [setAt_get] at hc
  rw [setAtV_get] at hv
  split at hc
  ·rename_i hj
   rw [if_pos ⟨hj.1,by omega,by omega⟩] at hv
   exact hu3 _ _ _ hc hv
  ·rename_i hj
   rw [if_neg (by omega)] at hv
   exact h4 _ _ _ hc hv) (fun v hv => (mem_setAtV hv).elim (h5 v) (hu4 v))
 have h6 := h.mono hi he (fun _ _ h => h) (fun _ _ h => h)
 refine ⟨w',?_,h6.put dst (.of RepV_tup0)⟩
 have : us.length = ti.size := by omega
 simp [Instr.storeAt,Instr.sureAddr,storeVar,run_size hT ht,hu1,this,hrun]
theorem call_ok {P E} (hE : EnvOk P E) {B G s a w} (h : Sim B G s a w) (hB : B.Ok) {o : Oper} {f : Operand} {args : Array Operand} {argTypes : Array TypeId} (ho : o.op = .call { callee := .value f,args,argTypes }) {g : FuncId} {cap : List AV}
  (hf : opv s.tmps f = .fn g cap) {e : Eff} (he : callA E s.mem o.dst g (args.toList.map (opv s.tmps) ++ cap) = some e) (hk : ∀ d,o.dst = some d → G.τ [d] = none) : Runs P B G (e.app o.dst s) o a w := by
 have h1 := h.opv f
 rw [hf] at h1
 obtain ⟨cv,hcv,hcl⟩ := h1.fn_inv
 unfold callA at he
 generalize hargs : args.toList.map (opv s.tmps) ++ cap = as at he
 cases hl : looks s.mem (ptrIds as) with
 | none => simp [hl] at he
 | some passed =>
 simp only [hl] at he
 cases hsp : E.spec g (as.map (AV.renum (ptrIds as))) passed with
 | none => simp [hsp] at he
 | some rp =>
 obtain ⟨r,passed'⟩ := rp
 simp only [hsp] at he
 cases hb : passed'.length == (ptrIds as).length <;> rw [hb] at he <;> simp only [cond_true,cond_false,Option.some.injEq] at he
 ·cases he
 subst he
 obtain ⟨⟨fn,hfn,hbody,hname⟩,hcalls⟩ := hE.spec _ _ _ _ _ hsp
 refine .inr (.inr ⟨g,(args.toList.map a.eval ++ cv).toArray,?_,?_⟩)
 ·obtain ⟨args⟩ := args
  have hb' : fn.body ≠ none := by cases hq : fn.body <;> simp_all
  have hn' : fn.name ≠ "runtime.NumGoroutine" := by simpa using hname
  simp [execOp,ho,resolve,hcv,Deferred.ofValue,invoke,callFunc,hfn,hn',hb']
 ·have hrep : RepL G.S w (βof G.β (ptrIds as)) (as.map (AV.renum (ptrIds as))) (args.toList.map a.eval ++ cv) := by
   refine args_ok (by rw [← hargs]; simp [hcl.length]) fun i c v hc hv => ?_
   rw [← hargs] at hc
   by_cases hi : i < args.size
   ·rw [List.getElem?_append_left (by simpa using hi)] at hc hv
    simp only [List.getElem?_map,Option.map_eq_some_iff] at hc hv
    obtain ⟨x,hx,rfl⟩ := hc
    obtain ⟨y,hy,rfl⟩ := hv
    rw [hx] at hy; cases hy
    exact h.opv x
   ·rw [List.getElem?_append_right (by simpa using hi)] at hc hv
    simp only [List.length_map] at hc hv
    obtain ⟨v',h2,h3⟩ := hcl.get hc
    rw [h2] at hv; cases hv
    exact .of h3
  refine (hcalls w G.S (βof G.β (ptrIds as)) _ (pass_ok h hl) hrep).mono ?_
  rintro ee w' ⟨v,S',rfl,hd⟩
  obtain ⟨G',hG,hT⟩ := done_sim h hl hd hk
  refine ⟨v,G',rfl,hG,fun k x hx => ?_⟩
  rcases hT k x hx with h4 | h4
  ·left
   unfold makes
   rw [ho]
   cases hdst : o.dst with
   | none => rw [hdst] at h4; cases h4
   | some d => rw [hdst] at h4; simpa using h4
  ·exact .inr h4
theorem app_pre (r : AV) (id : Nat) (ns : List AV) (k : Tag) (dst : Option Nat) (s : AS) : Eff.app { val := r,upd := [(id,ns)],pre := some k } dst s = AS.put { s.retag k with mem := upd (s.retag k).mem id ns } dst r := by
 cases s; cases dst <;> rfl
theorem app_pre0 (r : AV) (k : Tag) (dst : Option Nat) (s : AS) : Eff.app { val := r,pre := some k } dst s = AS.put (s.retag k) dst r := by
 cases s; cases dst <;> rfl
theorem callV_ok {P : Program} {B G s a w} (h : Sim B G s a w) {o : Oper} {f : Operand} {args : Array Operand} {argTypes : Array TypeId} (ho : o.op = .call { callee := .value f,args,argTypes }) {g : FuncId} {cap : List AV}
  (hf : opv s.tmps f = .fn g cap) {r : AV} (hsp : CallsV P g ((args.toList.map (opv s.tmps) ++ cap).map AV.pass) r)
  {e : Eff} (he : effV (args.toList.map (opv s.tmps) ++ cap) r o.dst = some e) (hk : ∀ d,o.dst = some d → G.τ [d] = none) : Runs P B G (e.app o.dst s) o a w := by
 have h1 := h.opv f
 rw [hf] at h1
 obtain ⟨cv,hcv,hcl⟩ := h1.fn_inv
 have hlen : (args.toList.map (opv s.tmps) ++ cap).length = (args.toList.map a.eval ++ cv).length := by simp [hcl.length]
 have hrep : ∀ (i : Nat) c v,(args.toList.map (opv s.tmps) ++ cap)[i]? = some c → (args.toList.map a.eval ++ cv)[i]? = some v → RepT G w c v := by
  intro i c v hc hv
  by_cases hi : i < args.size
  ·rw [List.getElem?_append_left (by simpa using hi)] at hc hv
   simp only [List.getElem?_map,Option.map_eq_some_iff] at hc hv
   obtain ⟨x,hx,rfl⟩ := hc
   obtain ⟨y,hy,rfl⟩ := hv
   rw [hx] at hy; cases hy
   exact h.opv x
  ·rw [List.getElem?_append_right (by simpa using hi)] at hc hv
   simp only [List.length_map] at hc hv
   obtain ⟨v',h2,h3⟩ := hcl.get hc
   rw [h2] at hv; cases hv
   exact .of h3
 generalize args.toList.map (opv s.tmps) ++ cap = as at he hlen hrep hsp
 obtain ⟨⟨fn,hfn,hbody,hname⟩,hcalls⟩ := hsp
 have fin : ∀ k,ownTags as = [k] → (∀ v w' S' x' t,DoneV w G.S (G.τ k) r t x' v w' S' → ∃ G',Sim B G' (e.app o.dst s) (a.put o.dst v) w' ∧ TauLe G G' (makes o)) → Runs P B G (e.app o.dst s) o a w := by
  intro k hk hfin
  refine .inr (.inr ⟨g,(args.toList.map a.eval ++ cv).toArray,?_,?_⟩)
  ·obtain ⟨args⟩ := args
   have hb' : fn.body ≠ none := by cases hq : fn.body <;> simp_all
   have hn' : fn.name ≠ "runtime.NumGoroutine" := by simpa using hname
   simp [execOp,ho,resolve,hcv,Deferred.ofValue,invoke,callFunc,hfn,hn',hb']
  ·refine (hcalls w G.S (G.τ k) _ (passV_ok h hlen hrep hk)).mono ?_
   rintro ee w' ⟨v,S',x',t,rfl,hd⟩
   obtain ⟨G',hG,hT⟩ := hfin v w' S' x' t hd
   exact ⟨v,G',rfl,hG,hT⟩
 have hmk : ∀ d,o.dst = some d → makes o = some [d] := fun d hd => by unfold makes; rw [ho,hd]
 have drop : ∀ k,ownTags as = [k] → G.τ k ≠ none ∧ ∀ g e l,G.τ k = some (g,e,l) → (∃ k,B.New k g e) ∧ (∀ i,(G.drop k).β i ≠ some g) ∧ (∀ k' e' l',(G.drop k).τ k' ≠ some (g,e',l')) ∧ ∀ o,e ≤ o → ¬ (G.drop k).S g o := by
  intro k hk1
  refine ⟨?_,fun g e l hτ => ?_⟩
  ·obtain ⟨j,sz,xs,hj⟩ := ownTags_get (cs := as) (k := k) (by rw [hk1]; simp)
   have hjl : j < (args.toList.map a.eval ++ cv).length := by rw [← hlen]; exact (List.getElem?_eq_some_iff.1 hj).1
   have hr := hrep j _ _ hj (List.getElem?_eq_getElem hjl)
   unfold RepT at hr
   obtain ⟨_,_,_,_,_,_,hτ,_⟩ := hr
   rw [hτ]; simp
  ·obtain ⟨k1,k2,_,k4⟩ := h.inv.τ k g e l hτ
   refine ⟨⟨k,k1⟩,k2,fun k' e' l' hq => ?_,k4⟩
   simp only [Gh.drop] at hq
   split at hq
   ·cases hq
   ·rename_i hne
    exact hne (h.inv.τinj k' k g e' l' e l hq hτ)
 have hTd : ∀ {k : Tag} {G' : Gh} {m : Option Tag},TauLe (G.drop k) G' m → (∀ k',m = some k' → makes o = some k' ∨ G.τ k' ≠ none) → TauLe G G' (makes o) := fun {k G' m} hT hm k' y hy => by
  rcases hT k' y hy with h4 | h4
  ·exact hm k' h4
  ·refine .inr fun e => h4 ?_
   simp only [Gh.drop]; split
   ·rfl
   ·exact e
 unfold effV at he
 split at he
 ·rename_i k sz xs q1
  cases he
  obtain ⟨hkn,hx⟩ := drop k q1
  refine fin k q1 fun v w' S' x' t hd => ?_
  obtain ⟨G',hG,hT⟩ := doneV_sim (h.retag k) hx hd o.dst (k := k) (by simp [Gh.drop]) fun g e l hx' => by
   rcases (hd.own g e l hx').1 with k1 | ⟨_,e0,l0,k1,k2⟩
   ·exact .inl (by have := h.inv.size; omega)
   ·obtain ⟨k3,_⟩ := h.inv.τ k g e0 l0 k1
    rcases k3 with k3 | ⟨k3,e1,k4,k5⟩
    ·exact .inl k3
    ·exact .inr ⟨k3,e1,k4,by omega⟩
  rw [app_pre0]
  exact ⟨G',hG,hTd hT fun k' h => by cases h; exact .inr hkn⟩
 ·rename_i k sz xs t0 ts d q1 q3
  cases he
  obtain ⟨hkn,hx⟩ := drop k q1
  refine fin k q1 fun v w' S' x' t hd => ?_
  have ht : t ≠ [] := by
   have hr := hd.res
   unfold RepH at hr
   rw [← hr.1]; simp
  obtain ⟨G',hG,hT⟩ := doneV_sim (h.retag k) hx hd o.dst (k := [d]) (by
   simp only [Gh.drop]; split
   ·rfl
   ·exact hk d q3) fun g e l hx' => by
   rcases (hd.own g e l hx').1 with k1 | ⟨k1,_⟩
   ·exact .inl (by have := h.inv.size; omega)
   ·exact absurd k1 ht
  rw [app_pre0]
  refine ⟨G',hG,hTd hT fun k' h => .inl ?_⟩
  rw [hmk d q3]; exact h
 ·cases he
theorem callO_ok {P : Program} {B G s a w} (h : Sim B G s a w) {o : Oper} {f : Operand} {args : Array Operand} {argTypes : Array TypeId} (ho : o.op = .call { callee := .value f,args,argTypes }) {g : FuncId} {cap : List AV}
  (hf : opv s.tmps f = .fn g cap) {sp : List AV → List AV → Option (AV × List AV)} (hsp : ∀ args cs r cs',sp args cs = some (r,cs') → CallsO P g args cs r cs')
  {sv : List AV → Option AV} (hsv : ∀ args r,sv args = some r → CallsV P g args r) {e : Eff} (he : callO sp sv s.mem o.dst (args.toList.map (opv s.tmps) ++ cap) = some e) (hk : ∀ d,o.dst = some d → G.τ [d] = none) : Runs P B G (e.app o.dst s) o a w := by
 have h1 := h.opv f
 rw [hf] at h1
 obtain ⟨cv,hcv,hcl⟩ := h1.fn_inv
 unfold callO at he
 generalize hargs : args.toList.map (opv s.tmps) ++ cap = as at he
 split at he
 case h_3 => cases he
 case h_2 =>
  split at he
  ·rename_i r hr
   exact callV_ok h ho hf (by rw [hargs]; exact hsv _ _ hr) (by rw [hargs]; exact he) hk
  ·cases he
 rename_i id hids
 cases hl : look s.mem id with
 | none => simp [hl] at he
 | some cs =>
 simp only [hl] at he
 cases hq : sp (as.map (AV.renum [id])) (cs.map AV.pass) with
 | none => simp [hq] at he
 | some rp =>
 obtain ⟨r,cs'⟩ := rp
 simp only [hq] at he
 unfold effO at he
 obtain ⟨⟨fn,hfn,hbody,hname⟩,hcalls⟩ := hsp _ _ _ _ hq
 obtain ⟨b,us0,tt0,hβ,hb0,hlen0,hcell0,hoc0⟩ := h.inv.mem id cs hl
 have hrep : RepL G.S w (fun i => if i = 1000 then some b else none) (as.map (AV.renum [id])) (args.toList.map a.eval ++ cv) := by
  have h2 : RepL G.S w (βof G.β (ptrIds as)) (as.map (AV.renum (ptrIds as))) (args.toList.map a.eval ++ cv) := by
   refine args_ok (by rw [← hargs]; simp [hcl.length]) fun i c v hc hv => ?_
   rw [← hargs] at hc
   by_cases hi : i < args.size
   ·rw [List.getElem?_append_left (by simpa using hi)] at hc hv
    simp only [List.getElem?_map,Option.map_eq_some_iff] at hc hv
    obtain ⟨x,hx,rfl⟩ := hc
    obtain ⟨y,hy,rfl⟩ := hv
    rw [hx] at hy; cases hy
    exact h.opv x
   ·rw [List.getElem?_append_right (by simpa using hi)] at hc hv
    simp only [List.length_map] at hc hv
    obtain ⟨v',h2,h3⟩ := hcl.get hc
    rw [h2] at hv; cases hv
    exact .of h3
  rw [hids] at h2
  refine h2.ext (Ext.refl _ _) fun i b' hb' => ?_
  unfold βof at hb'
  split at hb'
  ·rename_i hle
   cases hm : i - 1000 with
   | zero =>
    rw [hm] at hb'
    simp only [List.getElem?_cons_zero,Option.bind_some] at hb'
    rw [hβ] at hb'
    rw [if_pos (by omega)]; exact hb'
   | succ m => rw [hm] at hb'; simp at hb'
  ·cases hb'
 have fin : ∀ (x : Option (Nat × Nat × Nat)),((ownTags cs = [] ∧ x = none) ∨ ∃ k,ownTags cs = [k] ∧ x = G.τ k) →
   (∀ v w' S' x' t,DoneO w G.S b x r cs' t x' v w' S' → ∃ G',Sim B G' (e.app o.dst s) (a.put o.dst v) w' ∧ TauLe G G' (makes o)) → Runs P B G (e.app o.dst s) o a w := by
  intro x hx hfin
  refine .inr (.inr ⟨g,(args.toList.map a.eval ++ cv).toArray,?_,?_⟩)
  ·obtain ⟨args⟩ := args
   have hb' : fn.body ≠ none := by cases hq : fn.body <;> simp_all
   have hn' : fn.name ≠ "runtime.NumGoroutine" := by simpa using hname
   simp [execOp,ho,resolve,hcv,Deferred.ofValue,invoke,callFunc,hfn,hn',hb']
  ·refine (hcalls w G.S b x _ (passO_ok h hβ hl hx) hrep).mono ?_
   rintro ee w' ⟨v,S',x',t,rfl,hd⟩
   obtain ⟨G',hG,hT⟩ := hfin v w' S' x' t hd
   exact ⟨v,G',rfl,hG,hT⟩
 have hmk : ∀ d,o.dst = some d → makes o = some [d] := fun d hd => by unfold makes; rw [ho,hd]
 have drop : ∀ k,ownTags cs = [k] → G.τ k ≠ none ∧ ∀ g e l,G.τ k = some (g,e,l) → (∃ k,B.New k g e) ∧ (∀ i,(G.drop k).β i ≠ some g) ∧ (∀ k' e' l',(G.drop k).τ k' ≠ some (g,e',l')) ∧ ∀ o,e ≤ o → ¬ (G.drop k).S g o := by
  intro k hk1
  refine ⟨?_,fun g e l hτ => ?_⟩
  ·obtain ⟨j,sz,xs,hj⟩ := ownTags_get (cs := cs) (k := k) (by rw [hk1]; simp)
   have hjl : j < us0.length := by rw [← hlen0]; exact (List.getElem?_eq_some_iff.1 hj).1
   have hr := hcell0 j _ _ hj (List.getElem?_eq_getElem hjl)
   unfold RepT at hr
   obtain ⟨_,_,_,_,_,_,hτ,_⟩ := hr
   rw [hτ]; simp
  ·obtain ⟨k1,k2,_,k4⟩ := h.inv.τ k g e l hτ
   refine ⟨⟨k,k1⟩,k2,fun k' e' l' hq => ?_,k4⟩
   simp only [Gh.drop] at hq
   split at hq
   ·cases hq
   ·rename_i hne
    exact hne (h.inv.τinj k' k g e' l' e l hq hτ)
 have hl1 : ∀ k,look (s.retag k).mem id = some (cs.map (AV.retag k)) := fun k => by
  have := look_map (List.map (AV.retag k)) s.mem id
  rw [hl] at this
  exact this
 have hTd : ∀ {k : Tag} {G' : Gh} {m : Option Tag},TauLe (G.drop k) G' m → (∀ k',m = some k' → makes o = some k' ∨ G.τ k' ≠ none) → TauLe G G' (makes o) := fun {k G' m} hT hm k' y hy => by
  rcases hT k' y hy with h4 | h4
  ·exact hm k' h4
  ·refine .inr fun e => h4 ?_
   simp only [Gh.drop]; split
   ·rfl
   ·exact e
 split at he
 ·rename_i q1 q2
  cases he
  refine fin none (.inl ⟨q1,rfl⟩) fun v w' S' x' t hd => ?_
  obtain ⟨G',hG,hT⟩ := (doneO_sim h hβ hl (fun _ _ _ hq => by cases hq) hd o.dst).1 q2
  exact ⟨G',hG,fun k' y hy => (hT k' y hy).elim (fun h => by cases h) .inr⟩
 ·rename_i t0 d q1 q2 q3
  cases he
  refine fin none (.inl ⟨q1,rfl⟩) fun v w' S' x' t hd => ?_
  obtain ⟨G',hG,hT⟩ := (doneO_sim h hβ hl (fun _ _ _ hq => by cases hq) hd o.dst).2 [d] (hk d q3) (by rw [q2]; simp) fun g e l hx' => by
   rcases (hd.own g e l hx').1 with k1 | ⟨_,_,_,k1,_⟩
   ·exact .inl (by have := h.inv.size; omega)
   ·cases k1
  refine ⟨G',hG,fun k' y hy => (hT k' y hy).elim (fun h => .inl ?_) .inr⟩
  rw [hmk d q3]; exact h
 ·rename_i k q1 q2
  cases he
  obtain ⟨hkn,hx⟩ := drop k q1
  refine fin (G.τ k) (.inr ⟨k,q1,rfl⟩) fun v w' S' x' t hd => ?_
  obtain ⟨G',hG,hT⟩ := (doneO_sim (h.retag k) hβ (hl1 k) hx hd o.dst).1 q2
  rw [app_pre]
  exact ⟨G',hG,hTd hT fun k' h => by cases h⟩
 ·rename_i k q1 q2
  cases he
  obtain ⟨hkn,hx⟩ := drop k q1
  refine fin (G.τ k) (.inr ⟨k,q1,rfl⟩) fun v w' S' x' t hd => ?_
  obtain ⟨G',hG,hT⟩ := (doneO_sim (h.retag k) hβ (hl1 k) hx hd o.dst).2 k (by simp [Gh.drop]) (by rw [q2]; simp) fun g e l hx' => by
   rcases (hd.own g e l hx').1 with k1 | ⟨_,e0,l0,k1,k2⟩
   ·exact .inl (by have := h.inv.size; omega)
   ·obtain ⟨k3,_⟩ := h.inv.τ k g e0 l0 k1
    rcases k3 with k3 | ⟨k3,e1,k4,k5⟩
    ·exact .inl k3
    ·exact .inr ⟨k3,e1,k4,by omega⟩
  rw [app_pre]
  exact ⟨G',hG,hTd hT fun k' h => by cases h; exact .inr hkn⟩
 ·rename_i k t0 ts d q1 q2 q3
  cases he
  obtain ⟨hkn,hx⟩ := drop k q1
  refine fin (G.τ k) (.inr ⟨k,q1,rfl⟩) fun v w' S' x' t hd => ?_
  have ht : t ≠ [] := by
   have := (hd.tags (t0 :: ts) (by rw [q2]; simp)).1
   rw [← this]; simp
  obtain ⟨G',hG,hT⟩ := (doneO_sim (h.retag k) hβ (hl1 k) hx hd o.dst).2 [d] (by
   simp only [Gh.drop]; split
   ·rfl
   ·exact hk d q3) (by rw [q2]; simp) fun g e l hx' => by
   rcases (hd.own g e l hx').1 with k1 | ⟨k1,_⟩
   ·exact .inl (by have := h.inv.size; omega)
   ·exact absurd k1 ht
  rw [app_pre]
  refine ⟨G',hG,hTd hT fun k' h => .inl ?_⟩
  rw [hmk d q3]; exact h
 ·cases he
theorem op_ok {P E} (hE : EnvOk P E) {B G s a w} (h : Sim B G s a w) (hB : B.Ok) (o : Oper) (hk : ∀ k,makes o = some k → G.τ k = none) {s' : AS} (he : evOp E o s = some s') : Runs P B G s' o a w := by
 unfold evOp at he
 rw [Option.map_eq_some_iff] at he
 obtain ⟨e,he,rfl⟩ := he
 have pure_ : ∀ r,evPure E.ty (opv s.tmps) o.op = some r → e = { val := r } → Runs P B G (e.app o.dst s) o a w := by
  intro r hr he
  obtain ⟨v,h1,h2⟩ := evPure_ok hE.ty (fun x => h.opv x) o hr
  subst he
  rw [put_val]
  exact .inl ⟨v,w,G,h1,h.put o.dst h2,TauLe.refl _ _⟩
 have make_ : ∀ r,evMake E.ty (opv s.tmps) o.op = some r → e = { val := r } → Runs P B G (e.app o.dst s) o a w := by
  intro r hr he
  obtain ⟨v,w',G',h1,h2,h3,h4⟩ := make_ok hE.ty h o hr
  subst he
  rw [put_val]
  exact .inl ⟨v,w',G',h1,h2.put o.dst h3,TauLe.of_eq h4 _⟩
 obtain ⟨dst,op,oty,pos,after,guard⟩ := o
 cases op
 case alloc el =>
  simp only [effOf] at he
  cases ht : E.ty el with
  | none => simp [ht] at he
  | some ti =>
  cases dst with
  | none => simp [ht] at he
  | some d =>
  simp only [ht] at he
  unfold allocA at he
  cases hl : look s.mem d with
  | some _ => simp [hl] at he
  | none =>
  simp only [hl,Option.some.injEq] at he
  subst he
  obtain ⟨z,hz,hz1,hz2⟩ := run_zero hE.ty ht w
  obtain ⟨G',hG,hGτ⟩ := ins_sim h hB hl el (cs := ti.zero) (vs := z.cells.toList) (by rw [← hz1]; exact map_ofVal _) hz2
  refine .inl ⟨_,_,G',?_,hG,TauLe.of_eq hGτ _⟩
  simp [execOp,Instr.alloc,hz,newVar,run_newRow]
 case box el x =>
  simp only [effOf] at he
  cases hl0 : (opv s.tmps x).laid with
  | none => simp [hl0] at he
  | some cs =>
  cases dst with
  | none => simp [hl0] at he
  | some d =>
  simp only [hl0] at he
  unfold allocA at he
  cases hl : look s.mem d with
  | some _ => simp [hl] at he
  | none =>
  simp only [hl,Option.some.injEq] at he
  subst he
  obtain ⟨vs,h1,h2,h3⟩ := laid_ok (h.opv x) hl0
  obtain ⟨G',hG,hGτ⟩ := ins_sim h hB hl el (cs := cs) (vs := vs) (h2.ext (Ext.refl _ _) (fun _ _ h => by cases h)) h3
  refine .inl ⟨_,_,G',?_,hG,TauLe.of_eq hGτ _⟩
  simp [execOp,Instr.box,newVar,h1,run_newRow]
 case load t x =>
  simp only [effOf] at he
  cases ht : E.ty t with
  | none => simp [ht] at he
  | some ti =>
  simp only [ht] at he
  have hx := h.opv x
  have fin : ∀ r,((∃ id off cs,opv s.tmps x = .ptr id off ∧ look s.mem id = some cs ∧ ((cs.drop off).take ti.size).length = ti.size ∧
   ((ti.td.agg = true ∧ r = .agg (((cs.drop off).take ti.size).map AV.flat)) ∨ (ti.td.agg = false ∧ ti.size = 1 ∧ r = ((cs.drop off).take ti.size).headD .unk))) ∨ (opv s.tmps x = .ro r ∧ fits ti r = true)) →
    e = { val := r } → Runs P B G (e.app dst s) ⟨dst,.load t x,oty,pos,after,guard⟩ a w := by
   intro r hr he
   obtain ⟨v,h1,h2⟩ := load_ok (P := P) hE.ty h ht hx hr
   subst he
   rw [put_val]
   refine .inl ⟨v,w,G,?_,h.put dst h2,TauLe.refl _ _⟩
   simp [execOp,h1]
  split at he
  ·rename_i id off hid
   cases hl : look s.mem id with
   | none => simp [hl] at he
   | some cs =>
   simp only [hl] at he
   cases hb : (((cs.drop off).take ti.size).length == ti.size) <;> rw [hb] at he <;> simp only [cond_true,cond_false] at he
   ·cases he
   have hb' : ((cs.drop off).take ti.size).length = ti.size := by simpa using hb
   split at he
   ·rename_i ha
    cases he
    exact fin _ (.inl ⟨id,off,cs,hid,hl,hb',.inl ⟨ha,rfl⟩⟩) rfl
   ·rename_i ha
    cases hs : ti.size == 1 <;> rw [hs] at he <;> simp only [cond_true,cond_false] at he
    ·cases he
    ·cases he
     exact fin _ (.inl ⟨id,off,cs,hid,hl,hb',.inr ⟨by simpa using ha,by simpa using hs,rfl⟩⟩) rfl
  ·rename_i el hel
   cases hf : fits ti el <;> rw [hf] at he <;> simp only [cond_true,cond_false] at he
   ·cases he
   ·cases he
    exact fin _ (.inr ⟨hel,hf⟩) rfl
  ·rename_i kk ii el hel
   cases hf : fits ti el <;> rw [hf] at he <;> simp only [cond_true,cond_false] at he
   ·cases he
   ·cases he
    rw [hel] at hx
    obtain ⟨g,m,c,u,hxv,hcu,_,hdu,_⟩ := hx.wp_inv
    obtain ⟨v,h1,h2⟩ := load_ok (P := P) hE.ty h ht (x := .ro el) (xv := a.eval x) (by rw [hxv]; exact .of (.ro hcu hdu)) (.inr ⟨rfl,hf⟩)
    rw [put_val]
    refine .inl ⟨v,w,G,?_,h.put dst h2,TauLe.refl _ _⟩
    simp [execOp,h1]
  ·cases he
 case store t x y =>
  simp only [effOf] at he
  cases ht : E.ty t with
  | none => simp [ht] at he
  | some ti =>
  simp only [ht] at he
  split at he
  ·rename_i id off hid
   cases hl : look s.mem id with
   | none => simp [hl] at he
   | some cs =>
   simp only [hl] at he
   generalize hy : opv s.tmps y = yy at he
   cases hb : (yy.known && !yy.isTup && yy.cells.length == ti.size && Nat.ble (off + ti.size) cs.length) <;> rw [hb] at he <;> simp only [cond_true,cond_false] at he
   ·cases he
   cases he
   simp only [Bool.and_eq_true,Nat.ble_eq,beq_iff_eq,Bool.not_eq_true'] at hb
   obtain ⟨⟨⟨hk1,hp⟩,hsz⟩,hle⟩ := hb
   have hx := h.opv x
   rw [hid] at hx
   have hyr := h.opv y
   rw [hy] at hyr
   rw [upd1]
   obtain ⟨w',h1,h2⟩ := store_ok (P := P) hE.ty h ht hx hyr hl hk1 hp hsz hle dst
   refine .inr (.inl ⟨w',G,?_,h2,TauLe.refl _ _⟩)
   simp [execOp,h1]
  ·rename_i kk ii el hel
   generalize hy : opv s.tmps y = yy at he
   cases hb : (ti.size == 1 && yy.scal && !kk.isEmpty) <;> rw [hb] at he <;> simp only [cond_true,cond_false] at he
   ·cases he
   cases he
   simp only [Bool.and_eq_true,beq_iff_eq,Bool.not_eq_true'] at hb
   have hx := h.opv x
   rw [hel] at hx
   have hyr := h.opv y
   rw [hy] at hyr
   rw [put_wr]
   obtain ⟨w',h1,h2⟩ := storeW_ok (P := P) hE.ty h ht hx hyr hb.1.1 hb.1.2 hb.2 dst
   refine .inr (.inl ⟨w',G,?_,h2,TauLe.refl _ _⟩)
   simp [execOp,h1]
  ·cases he
 case call c =>
  obtain ⟨callee,args,argTypes⟩ := c
  cases callee with
  | value f =>
   simp only [effOf] at he
   split at he
   ·rename_i g cap hg
    cases hO : E.own <;> rw [hO] at he <;> simp only [cond_true,cond_false] at he
    ·exact call_ok hE h hB rfl hg he fun d hd => hk [d] (by simp at hd; simp [makes,hd])
    ·split at he
     ·rename_i sp hsp
      exact callO_ok h rfl hg (hE.specO g sp hsp) (hE.specV g) he fun d hd => hk [d] (by simp at hd; simp [makes,hd])
     ·exact call_ok hE h hB rfl hg he fun d hd => hk [d] (by simp at hd; simp [makes,hd])
   ·cases he
  | invoke r m =>
   simp only [effOf] at he
   simp [evPure] at he
  | builtin b =>
   by_cases hb : b = .append
   ·subst hb
    simp only [effOf] at he
    obtain ⟨args⟩ := args
    obtain ⟨argTypes⟩ := argTypes
    split at he
    ·rename_i x y t t2 d h1 h2
     simp at h1 h2
     subst h1; subst h2
     cases hel : elemOf E.ty t with
     | none => simp [hel] at he
     | some ei =>
     simp only [hel] at he
     cases his : isSlice E.ty t <;> rw [his] at he <;> simp only [cond_true,cond_false] at he
     ·cases he
     cases hsrc : srcA E.ty t2 ei s.mem (opv s.tmps y) with
     | none => simp [hsrc] at he
     | some ys =>
     simp only [hsrc] at he
     obtain ⟨v,w',G',h1,h2,h3⟩ := append_ok (P := P) (oty := oty) hE.ty h hel his (hk [d] (by simp [makes])) (h.opv x) (h.opv y) hsrc he
     refine .inl ⟨v,w',G',?_,h2,h3⟩
     simp [execOp,resolve,invoke,builtin,h1]
    ·cases he
   ·by_cases hb2 : b = .copy
    ·subst hb2
     simp only [effOf] at he
     obtain ⟨args⟩ := args
     obtain ⟨argTypes⟩ := argTypes
     split at he
     ·rename_i x y t t2 h1 h2
      simp at h1 h2
      subst h1; subst h2
      cases hel : elemOf E.ty t with
      | none => simp [hel] at he
      | some ei =>
      simp only [hel] at he
      cases his : (isSlice E.ty t && ei.size == 1) <;> rw [his] at he <;> simp only [cond_true,cond_false] at he
      ·cases he
      simp only [Bool.and_eq_true,beq_iff_eq] at his
      obtain ⟨v,w',h1,h2⟩ := copy_ok (P := P) (t2 := t2) (oty := oty) hE.ty h hel his.1 his.2 (h.opv x) (h.opv y) he dst
      refine .inl ⟨v,w',G,?_,h2,TauLe.refl _ _⟩
      simp [execOp,resolve,invoke,builtin,h1]
     ·cases he
    have : effOf E ⟨dst,.call { callee := .builtin b,args,argTypes },oty,pos,after,guard⟩ (opv s.tmps) s.mem = (evPure E.ty (opv s.tmps) (.call { callee := .builtin b,args,argTypes })).map fun v => { val := v } := by
     cases b <;> first | rfl | exact absurd rfl hb | exact absurd rfl hb2
    rw [this,Option.map_eq_some_iff] at he
    obtain ⟨r,hr,rfl⟩ := he
    exact pure_ r hr rfl
 case buildSlice t n ps =>
  simp only [effOf,Option.map_eq_some_iff] at he
  obtain ⟨r,hr,rfl⟩ := he
  exact make_ r hr rfl
 all_goals
  simp only [effOf,Option.map_eq_some_iff] at he
  obtain ⟨r,hr,rfl⟩ := he
  exact pure_ r hr rfl
end Go.Ev
set_option linter.unusedVariables false
set_option linter.unusedSimpArgs false
namespace Go.Ev
open Go
theorem want_ok {B G s a w} (h : Sim B G s a w) {ops : Array Oper} {o : Oper} {b : Bool} (hw : wantA ops s.tmps o = some b) : Region.wanted o (yielded ops a.tmps) = b := by
 unfold wantA at hw
 unfold Region.wanted
 cases hg : o.guard with
 | none => simp [hg] at hw ⊢; exact hw
 | some jw =>
  obtain ⟨j,want⟩ := jw
  simp only [hg] at hw ⊢
  unfold yielded
  cases hj : (ops[j]?).bind (·.dst) with
  | none => simp [hj] at hw ⊢; exact hw
  | some t =>
   simp only [hj] at hw
   have ht := h.tmps t
   simp only [List.getD_eq_getElem?_getD,Array.getD_eq_getD_getElem?] at ht
   split at hw
   ·rename_i x hx
    rw [hx] at ht
    have e := ht.bool_inv
    have hlt : t < a.tmps.size := by rw [← h.len]; exact (List.getElem?_eq_some_iff.1 hx).1
    have e2 : a.tmps[t]? = some (.bool x) := by
     rw [Array.getElem?_eq_getElem hlt] at e ⊢
     simpa using e
    simp [e2] at hw ⊢
    exact hw
   ·rename_i vs hx
    rw [hx] at ht
    obtain ⟨us,e,_⟩ := ht.tup_inv
    have hlt : t < a.tmps.size := by rw [← h.len]; exact (List.getElem?_eq_some_iff.1 hx).1
    have e2 : a.tmps[t]? = some (.tuple us.toArray) := by
     rw [Array.getElem?_eq_getElem hlt] at e ⊢
     simpa using e
    simp [e2] at hw ⊢
    exact hw
   ·rename_i hx
    have hge : a.tmps.size ≤ t := by rw [← h.len]; exact List.getElem?_eq_none_iff.1 hx
    have e2 : a.tmps[t]? = none := Array.getElem?_eq_none hge
    simp [e2] at hw ⊢
    exact hw
   ·cases hw
theorem step_wp {P E} (hE : EnvOk P E) {B G s a w} (h : Sim B G s a w) (hB : B.Ok) {ops : Array Oper} {i : Nat} {s' : AS} (hs : step1 E ops i s = some s') (hk : ∀ k,(ops[i]?).bind makes = some k → G.τ k = none)
  {Q : Exit → Act → World → Prop} {rest : List Nat} (hK : ∀ G' a' w',Sim B G' s' a' w' → TauLe G G' ((ops[i]?).bind makes) → wpOps P ops Q rest a' w') : wpOps P ops Q (i :: rest) a w := by
 unfold wpOps
 unfold step1 at hs
 cases ho : ops[i]? with
 | none =>
  simp only [ho] at hs ⊢
  cases hs
  exact hK G a w h (TauLe.refl _ _)
 | some o =>
  simp only [ho] at hs ⊢
  rw [ho] at hk hK
  split at hs
  ·rename_i hw
   rw [want_ok h hw]
   simp only [if_true]
   exact .inl ((op_ok hE h hB o hk hs).wp hK)
  ·rename_i hw
   rw [want_ok h hw]
   simp only [Bool.false_eq_true,if_false]
   cases hs
   exact hK G _ w (h.put o.dst (.of RepV_tup0)) (TauLe.refl _ _)
  ·cases hs
theorem evSeq_wp {P E} (hE : EnvOk P E) {B} (hB : B.Ok) {ops : Array Oper} {Q : Exit → Act → World → Prop} {s' : AS} (hQ : ∀ G' a' w',Sim B G' s' a' w' → Q .normal a' w') :
  ∀ (l : List Nat) {G s a w},Sim B G s a w → evSeq E ops l s = some s' → wpOps P ops Q l a w
 | [],G,s,a,w,h,he => by
  simp only [evSeq,Option.some.injEq] at he
  subst he
  exact hQ G a w h
 | i :: rest,G,s,a,w,h,he => by
  simp only [evSeq] at he
  cases hm : (ops[i]?).bind makes with
  | none =>
   simp only [hm,cond_true] at he
   cases hs : step1 E ops i s with
   | none => simp [hs] at he
   | some s1 =>
   simp only [hs] at he
   exact step_wp hE h hB hs (fun k hk => by rw [hm] at hk; cases hk) fun G' a' w' h' _ => evSeq_wp hE hB hQ rest h' he
  | some k =>
   simp only [hm] at he
   cases hn : s.noTag k <;> rw [hn] at he <;> simp only [cond_true,cond_false] at he
   ·cases he
   cases hs : step1 E ops i s with
   | none => simp [hs] at he
   | some s1 =>
   simp only [hs] at he
   refine step_wp hE (h.drop hn) hB hs (fun k' hk => ?_) fun G' a' w' h' _ => evSeq_wp hE hB hQ rest h' he
   rw [hm] at hk; cases hk
   simp [Gh.drop]
end Go.Ev
set_option linter.unusedVariables false
set_option linter.unusedSimpArgs false
namespace Go.Ev
open Go
theorem disj_iff {a b : List Nat} : disj a b = true ↔ ∀ x ∈ a,x ∉ b := by
 simp [disj,List.all_eq_true]
theorem evPure_congr {ty : Tys} {ρ ρ' : Operand → AV} {op : Op} (h : ∀ x ∈ op.operands.toList,ρ x = ρ' x) : evPure ty ρ op = evPure ty ρ' op := by
 cases op
 case build t parts =>
  have : (parts.toList.map fun p => (p.1,(ρ p.2).flat)) = parts.toList.map fun p => (p.1,(ρ' p.2).flat) := by
   apply List.map_congr_left
   intro p hp
   rw [h p.2 (by simp only [Op.operands,List.mem_map]; exact ⟨p,hp,rfl⟩)]
  simp only [evPure,this]
 case makeFunc f first cap =>
  have : (cap.toList.map fun x => (ρ x).share) = cap.toList.map fun x => (ρ' x).share := by
   apply List.map_congr_left
   intro x hx
   rw [h x (by simp only [Op.operands,Array.toList_append,List.mem_append]; exact .inr hx)]
  cases f <;> simp only [evPure,this]
 case slice t x lo hi mx =>
  have hx := h x (by simp [Op.operands])
  have hlo : lo.map ρ = lo.map ρ' := by
   cases lo with
   | none => rfl
   | some y => rw [Option.map_some,Option.map_some,h y (by simp [Op.operands])]
  have hhi : hi.map ρ = hi.map ρ' := by
   cases hi with
   | none => rfl
   | some y => rw [Option.map_some,Option.map_some,h y (by simp [Op.operands])]
  have hmx : mx.map ρ = mx.map ρ' := by
   cases mx with
   | none => rfl
   | some y => rw [Option.map_some,Option.map_some,h y (by simp [Op.operands])]
  simp only [evPure,hx,hlo,hhi,hmx]
 case call c =>
  obtain ⟨callee,args,argTypes⟩ := c
  cases callee with
  | builtin b =>
   have ha : ∀ x ∈ args.toList,ρ x = ρ' x := fun x hx => h x (by simp [Op.operands,Call.operands]; simpa using hx)
   cases b <;> simp only [evPure]
   case len =>
    generalize args.toList = l at ha
    generalize argTypes.toList = k
    match l,k with
    | [x],[t] => simp only [ha x (by simp)]
    | [],_ => rfl
    | [_],[] => rfl
    | [_],_ :: _ :: _ => rfl
    | _ :: _ :: _,_ => rfl
   case max =>
    generalize args.toList = l at ha
    match l with
    | [x,y] => simp only [ha x (by simp),ha y (by simp)]
    | [] => rfl
    | [_] => rfl
    | _ :: _ :: _ :: _ => rfl
   case min =>
    generalize args.toList = l at ha
    match l with
    | [x,y] => simp only [ha x (by simp),ha y (by simp)]
    | [] => rfl
    | [_] => rfl
    | _ :: _ :: _ :: _ => rfl
  | value f => rfl
  | invoke r m => rfl
 case move x => simp only [evPure,h x (by simp [Op.operands])]
 case assign x => simp only [evPure,h x (by simp [Op.operands])]
 case pick c a b => simp only [evPure,h c (by simp [Op.operands]),h a (by simp [Op.operands]),h b (by simp [Op.operands])]
 case nilCheck x => simp only [evPure,h x (by simp [Op.operands])]
 case binOp op t x y t2 => simp only [evPure,h x (by simp [Op.operands]),h y (by simp [Op.operands])]
 case unOp op t x => simp only [evPure,h x (by simp [Op.operands])]
 case convert a b x => simp only [evPure,h x (by simp [Op.operands])]
 case fieldAddr t x f => simp only [evPure,h x (by simp [Op.operands])]
 case field t x f => simp only [evPure,h x (by simp [Op.operands])]
 case indexAddr t x y => simp only [evPure,h x (by simp [Op.operands]),h y (by simp [Op.operands])]
 case sliceToArrayPointer t x => simp only [evPure,h x (by simp [Op.operands])]
 case index t x y => simp only [evPure,h x (by simp [Op.operands]),h y (by simp [Op.operands])]
 case extract x i => simp only [evPure,h x (by simp [Op.operands])]
 all_goals rfl
theorem evMake_congr {ty : Tys} {ρ ρ' : Operand → AV} {op : Op} (h : ∀ x ∈ op.operands.toList,ρ x = ρ' x) : evMake ty ρ op = evMake ty ρ' op := by
 cases op <;> try rfl
 rename_i t n parts
 have : (parts.toList.map fun p => (p.1,(ρ p.2).flat)) = parts.toList.map fun p => (p.1,(ρ' p.2).flat) := by
  apply List.map_congr_left
  intro p hp
  rw [h p.2 (by simp only [Op.operands,List.mem_map]; exact ⟨p,hp,rfl⟩)]
 simp only [evMake,this]
theorem looks_congr {m m' : Mem} : ∀ {ids : List Nat},(∀ i ∈ ids,look m' i = look m i) → looks m' ids = looks m ids
 | [],_ => rfl
 | i :: r,h => by
  simp only [looks,h i (by simp),looks_congr (fun j hj => h j (List.mem_cons_of_mem _ hj))]
theorem effOf_congr {E : Env} {o : Oper} {ts ts' : List AV} {m m' : Mem} (h : ∀ x ∈ o.op.operands.toList,opv ts' x = opv ts x) (hm : ∀ id ∈ keysR ts o,look m' id = look m id) :
  effOf E o (opv ts') m' = effOf E o (opv ts) m ∧ keysR ts' o = keysR ts o ∧ keysW ts' o = keysW ts o := by
 obtain ⟨dst,op,oty,pos,after,guard⟩ := o
 simp only at h
 cases op
 case alloc t =>
  refine ⟨?_,rfl,rfl⟩
  simp only [effOf]
  cases E.ty t with
  | none => rfl
  | some ti =>
   cases dst with
   | none => rfl
   | some d => simp only [allocA,hm d (by simp [keysR])]
 case box t x =>
  have hx := h x (by simp [Op.operands])
  refine ⟨?_,rfl,rfl⟩
  simp only [effOf,hx]
  cases (opv ts x).laid with
  | none => rfl
  | some cs =>
   cases dst with
   | none => rfl
   | some d => simp only [allocA,hm d (by simp [keysR])]
 case load t x =>
  have hx := h x (by simp [Op.operands])
  refine ⟨?_,by simp only [keysR,hx],rfl⟩
  simp only [effOf,hx]
  cases E.ty t with
  | none => rfl
  | some ti =>
   simp only
   generalize hv : opv ts x = v
   cases v <;> try rfl
   rename_i id off
   simp only [hm id (by simp [keysR,hv])]
 case store t x y =>
  have hx := h x (by simp [Op.operands])
  have hy := h y (by simp [Op.operands])
  refine ⟨?_,by simp only [keysR,hx],by simp only [keysW,hx]⟩
  simp only [effOf,hx,hy]
  cases E.ty t with
  | none => rfl
  | some ti =>
   simp only
   generalize hv : opv ts x = v
   cases v <;> try rfl
   rename_i id off
   simp only [hm id (by simp [keysR,hv])]
 case call c =>
  obtain ⟨callee,args,argTypes⟩ := c
  cases callee with
  | value f =>
   have hf := h f (by simp [Op.operands,Call.operands])
   have ha : args.toList.map (opv ts') = args.toList.map (opv ts) := List.map_congr_left fun x hx => h x (by simp [Op.operands,Call.operands]; exact .inr (by simpa using hx))
   refine ⟨?_,by simp only [keysR,hf,ha],by simp only [keysW,hf,ha]⟩
   simp only [effOf,hf,ha]
   generalize hv : opv ts f = v
   cases v <;> try rfl
   rename_i g cap
   have hm2 : ∀ i ∈ ptrIds (args.toList.map (opv ts) ++ cap),look m' i = look m i := fun i hi => hm i (by simp only [keysR,hv]; exact hi)
   have e1 : callA E m' dst g (args.toList.map (opv ts) ++ cap) = callA E m dst g (args.toList.map (opv ts) ++ cap) := by
    simp only [callA]
    rw [looks_congr (m' := m') (m := m) hm2]
   have e2 : ∀ sp sv,callO sp sv m' dst (args.toList.map (opv ts) ++ cap) = callO sp sv m dst (args.toList.map (opv ts) ++ cap) := by
    intro sp sv
    unfold callO
    generalize args.toList.map (opv ts) ++ cap = as at hm2
    split
    ·rename_i id hid
     rw [hm2 id (by rw [hid]; simp)]
    ·rfl
    ·rfl
   cases E.own
   ·exact e1
   ·simp only [cond_true]
    cases E.specO g with
    | none => exact e1
    | some sp => exact e2 sp _
  | invoke r n =>
   refine ⟨?_,rfl,rfl⟩
   simp only [effOf,evPure]
  | builtin b =>
   have ha : ∀ x ∈ args.toList,opv ts' x = opv ts x := fun x hx => h x (by simp [Op.operands,Call.operands]; simpa using hx)
   by_cases hb : b = .append
   ·subst hb
    have hk : keysR ts' ⟨dst,.call { callee := .builtin .append,args,argTypes },oty,pos,after,guard⟩ = keysR ts ⟨dst,.call { callee := .builtin .append,args,argTypes },oty,pos,after,guard⟩ := by
     simp only [keysR]
     have : ∀ l : List Operand,(∀ x ∈ l,opv ts' x = opv ts x) → (l.flatMap fun x => match opv ts' x with | .view id _ _ => [id] | _ => []) = l.flatMap fun x => match opv ts x with | .view id _ _ => [id] | _ => [] := by
      intro l hl
      induction l with
      | nil => rfl
      | cons x l ih => simp only [List.flatMap_cons,hl x (by simp),ih (fun y hy => hl y (List.mem_cons_of_mem _ hy))]
     exact this _ ha
    refine ⟨?_,hk,rfl⟩
    simp only [effOf]
    have hm' : ∀ x ∈ args.toList,∀ id off n,opv ts x = .view id off n → look m' id = look m id := by
     intro x hx id off n hv
     refine hm id ?_
     simp only [keysR,List.mem_flatMap]
     exact ⟨x,hx,by simp [hv]⟩
    generalize args.toList = l at ha hm'
    generalize argTypes.toList = k
    match l,k,dst with
    | [x,y],[t,t2],some d =>
     simp only [ha x (by simp),ha y (by simp)]
     cases elemOf E.ty t with
     | none => rfl
     | some ei =>
      simp only
      have : srcA E.ty t2 ei m' (opv ts y) = srcA E.ty t2 ei m (opv ts y) := by
       generalize hv : opv ts y = v
       cases v
       case view id off n => simp only [srcA,hm' y (by simp) id off n hv]
       case int k n => cases k <;> rfl
       all_goals rfl
      rw [this]
    | [x,y],[t,t2],none => rfl
    | [],_,_ => rfl
    | [_],_,_ => rfl
    | _ :: _ :: _ :: _,_,_ => rfl
    | [_,_],[],_ => rfl
    | [_,_],[_],_ => rfl
    | [_,_],_ :: _ :: _ :: _,_ => rfl
   ·by_cases hb2 : b = .copy
    ·subst hb2
     refine ⟨?_,rfl,rfl⟩
     simp only [effOf]
     generalize args.toList = l at ha
     generalize argTypes.toList = k
     match l,k with
     | [x,y],[t,t2] => simp only [ha x (by simp),ha y (by simp)]
     | [],_ => rfl
     | [_],_ => rfl
     | _ :: _ :: _ :: _,_ => rfl
     | [_,_],[] => rfl
     | [_,_],[_] => rfl
     | [_,_],_ :: _ :: _ :: _ => rfl
    have e : ∀ (ρ : Operand → AV) (m : Mem),effOf E ⟨dst,.call { callee := .builtin b,args,argTypes },oty,pos,after,guard⟩ ρ m = (evPure E.ty ρ (.call { callee := .builtin b,args,argTypes })).map fun v => { val := v } := by
     intro ρ m
     cases b <;> first | rfl | exact absurd rfl hb | exact absurd rfl hb2
    have e2 : ∀ ts,keysR ts ⟨dst,.call { callee := .builtin b,args,argTypes },oty,pos,after,guard⟩ = [] := by
     intro ts
     cases b <;> first | rfl | exact absurd rfl hb
    have e3 : ∀ ts,keysW ts ⟨dst,.call { callee := .builtin b,args,argTypes },oty,pos,after,guard⟩ = [] := by
     intro ts
     cases b <;> first | rfl | exact absurd rfl hb | exact absurd rfl hb2
    refine ⟨?_,by rw [e2,e2],by rw [e3,e3]⟩
    rw [e,e,evPure_congr h]
 case buildSlice t n ps =>
  refine ⟨?_,rfl,rfl⟩
  simp only [effOf,evMake_congr h]
 all_goals
  refine ⟨?_,rfl,rfl⟩
  simp only [effOf,evPure_congr h]
structure WrOk (ts : List AV) (o : Oper) (e : Eff) : Prop where
 key : wkey ∈ keysW ts o
 upd : e.upd = []
 ins : e.ins = none
 rt : e.rt = none
theorem copyA_shape {x y : AV} {e : Eff} (h : copyA x y = some e) : e.upd = [] ∧ e.ins = none ∧ e.rt = none := by
 have key : ∀ {k lo xs},copyL k lo xs y = some e → e.upd = [] ∧ e.ins = none ∧ e.rt = none := by
  intro k lo xs h
  unfold copyL at h
  split at h
  ·rename_i sz ys st _
   cases hb : ((sz == 1 || (st == .nil && ys.isEmpty)) && ys.all AV.scal) <;> rw [hb] at h <;> simp only [cond_true,cond_false] at h
   ·cases h
   ·cases h; exact ⟨rfl,rfl,rfl⟩
  ·cases h
 unfold copyA at h
 split at h
 ·rename_i sz xs k
  cases hb : (sz == 1 && !k.isEmpty) <;> rw [hb] at h <;> simp only [cond_true,cond_false] at h
  ·cases h
  ·exact key h
 ·rename_i sz xs k lo
  cases hb : (sz == 1 && !k.isEmpty) <;> rw [hb] at h <;> simp only [cond_true,cond_false] at h
  ·cases h
  ·exact key h
 ·cases h
theorem appendA_shape {ei : TI} {d : Nat} {x : AV} {ys : List AV} {e : Eff} (h : appendA ei d x ys = some e) : e.upd = [] ∧ e.ins = none ∧ e.wr = none := by
 cases x <;> try (simp [appendA] at h; done)
 rename_i sz xs st
 simp only [appendA] at h
 generalize ((sz == ei.size || (st == .nil && xs.isEmpty)) && ile (((xs.length + ys.length) * ei.bytes : Nat) : Int) 140737488355328 && ile ((xs.length + ys.length : Nat) : Int) 140737488355328) = bb at h
 cases bb <;> simp only [cond_true,cond_false] at h
 ·cases h
 cases st <;> simp only at h
 ·cases hq : ys.isEmpty <;> rw [hq] at h <;> simp only [cond_true,cond_false] at h <;> cases h <;> exact ⟨rfl,rfl,rfl⟩
 ·cases hq : ys.isEmpty <;> rw [hq] at h <;> simp only [cond_true,cond_false] at h <;> cases h <;> exact ⟨rfl,rfl,rfl⟩
 ·cases hq : ys.isEmpty <;> rw [hq] at h <;> simp only [cond_true,cond_false] at h
  ·cases h
  ·cases h; exact ⟨rfl,rfl,rfl⟩
 ·cases h; exact ⟨rfl,rfl,rfl⟩
 ·cases h
theorem effKeys {E : Env} {o : Oper} {ts : List AV} (hO : ownCall E ts o = false) {m : Mem} {e : Eff} (h : effOf E o (opv ts) m = some e) :
  (∀ p ∈ e.upd,p.1 ∈ keysW ts o) ∧ (∀ d cs,e.ins = some (d,cs) → d ∈ keysW ts o) ∧ (isAppend o = false → e.rt = none) ∧ (e.wr = none ∨ WrOk ts o e) := by
 obtain ⟨dst,op,oty,pos,after,guard⟩ := o
 have plain : ∀ (v : AV),e = { val := v } → (∀ p ∈ e.upd,p.1 ∈ keysW ts ⟨dst,op,oty,pos,after,guard⟩) ∧ (∀ d cs,e.ins = some (d,cs) → d ∈ keysW ts ⟨dst,op,oty,pos,after,guard⟩) ∧ (isAppend ⟨dst,op,oty,pos,after,guard⟩ = false → e.rt = none) ∧ (e.wr = none ∨ WrOk ts ⟨dst,op,oty,pos,after,guard⟩ e) := by
  rintro v rfl
  exact ⟨fun p hp => by simp at hp,fun d cs h => by simp at h,fun _ => rfl,.inl rfl⟩
 have alloc_ : ∀ (d : Nat) cs,allocA m d cs = some e → e.upd = [] ∧ e.ins = some (d,cs) ∧ e.rt = none ∧ e.wr = none := by
  intro d cs ha
  unfold allocA at ha
  split at ha
  ·cases ha
  ·cases ha; exact ⟨rfl,rfl,rfl,rfl⟩
 cases op
 case alloc t =>
  simp only [effOf] at h
  split at h
  ·rename_i ti d h1 h2
   obtain ⟨k1,k2,k3,k4⟩ := alloc_ _ _ h
   rw [k1,k2,k3,k4]
   refine ⟨fun p hp => by simp at hp,fun d' cs' h => ?_,fun _ => rfl,.inl rfl⟩
   cases h; simp [keysW]
  ·cases h
 case box t x =>
  simp only [effOf] at h
  split at h
  ·rename_i cs d h1 h2
   obtain ⟨k1,k2,k3,k4⟩ := alloc_ _ _ h
   rw [k1,k2,k3,k4]
   refine ⟨fun p hp => by simp at hp,fun d' cs' h => ?_,fun _ => rfl,.inl rfl⟩
   cases h; simp [keysW]
  ·cases h
 case load t x =>
  simp only [effOf] at h
  cases ht : E.ty t with
  | none => simp [ht] at h
  | some ti =>
  simp only [ht] at h
  split at h
  ·split at h
   ·cases hb : ((List.take ti.size (List.drop (_ : Nat) (_ : List AV))).length == ti.size) <;> rw [hb] at h <;> simp only [cond_true,cond_false] at h
    ·cases h
    ·split at h
     ·cases h; exact plain _ rfl
     ·cases hs : ti.size == 1 <;> rw [hs] at h <;> simp only [cond_true,cond_false] at h
      ·cases h
      ·cases h; exact plain _ rfl
   ·cases h
  ·rename_i el hel
   cases hf : fits ti el <;> rw [hf] at h <;> simp only [cond_true,cond_false] at h
   ·cases h
   ·cases h; exact plain _ rfl
  ·rename_i kk ii el hel
   cases hf : fits ti el <;> rw [hf] at h <;> simp only [cond_true,cond_false] at h
   ·cases h
   ·cases h; exact plain _ rfl
  ·cases h
 case store t x y =>
  simp only [effOf] at h
  cases ht : E.ty t with
  | none => simp [ht] at h
  | some ti =>
  simp only [ht] at h
  split at h
  ·rename_i id off hid
   cases hl : look m id with
   | none => simp [hl] at h
   | some cs =>
   simp only [hl] at h
   generalize (opv ts y) = yy at h
   cases hb : (yy.known && !yy.isTup && yy.cells.length == ti.size && Nat.ble (off + ti.size) cs.length) <;> rw [hb] at h <;> simp only [cond_true,cond_false] at h
   ·cases h
   ·cases h
    exact ⟨fun p hp => by simp at hp; subst hp; simp [keysW,hid],fun d cs h => by simp at h,fun _ => rfl,.inl rfl⟩
  ·rename_i kk ii el hel
   generalize (opv ts y) = yy at h
   cases hb : (ti.size == 1 && yy.scal && !kk.isEmpty) <;> rw [hb] at h <;> simp only [cond_true,cond_false] at h
   ·cases h
   ·cases h
    exact ⟨fun p hp => by simp at hp,fun d cs h => by simp at h,fun _ => rfl,.inr ⟨by simp [keysW,hel],rfl,rfl,rfl⟩⟩
  ·cases h
 case call c =>
  obtain ⟨callee,args,argTypes⟩ := c
  cases callee with
  | value f =>
   simp only [effOf] at h
   split at h
   ·rename_i g cap hg
    have h : callA E m dst g (args.toList.map (opv ts) ++ cap) = some e := by
     have hO : (E.own && (E.specO g).isSome) = false := by
      unfold ownCall at hO
      simp only [hg] at hO
      exact hO
     cases hw : E.own <;> rw [hw] at h hO <;> simp only [cond_true,cond_false] at h
     ·exact h
     ·cases hs : E.specO g with
      | none => rw [hs] at h; exact h
      | some sp => rw [hs] at hO; cases hO
    unfold callA at h
    cases hl : looks m (ptrIds (args.toList.map (opv ts) ++ cap)) with
    | none => simp [hl] at h
    | some passed =>
    simp only [hl] at h
    split at h
    ·rename_i r passed' hsp
     cases hb : passed'.length == (ptrIds (args.toList.map (opv ts) ++ cap)).length <;> rw [hb] at h <;> simp only [cond_true,cond_false] at h
     ·cases h
     ·cases h
      refine ⟨fun p hp => ?_,fun d cs h => by simp at h,fun _ => rfl,.inl rfl⟩
      simp only [keysW,hg]
      exact (List.of_mem_zip hp).1
    ·cases h
   ·cases h
  | invoke r n => simp [effOf,evPure] at h
  | builtin b =>
   by_cases hb : b = .append
   ·subst hb
    simp only [effOf] at h
    have hna : isAppend ⟨dst,.call { callee := .builtin .append,args,argTypes },oty,pos,after,guard⟩ = true := rfl
    split at h
    ·rename_i x y t t2 d h1 h2
     split at h
     ·rename_i ei hel
      cases his : isSlice E.ty t <;> rw [his] at h <;> simp only [cond_true,cond_false] at h
      ·cases h
      split at h
      ·rename_i ys hys
       have := appendA_shape h
       rw [this.1,this.2.1]
       exact ⟨fun p hp => by simp at hp,fun d cs h => by simp at h,fun h => by (rw [hna] at h; cases h),.inl this.2.2⟩
      ·cases h
     ·cases h
    ·cases h
   ·by_cases hb2 : b = .copy
    ·subst hb2
     simp only [effOf] at h
     split at h
     ·rename_i x y t t2 h1 h2
      split at h
      ·rename_i ei hel
       cases his : (isSlice E.ty t && ei.size == 1) <;> rw [his] at h <;> simp only [cond_true,cond_false] at h
       ·cases h
       obtain ⟨k1,k2,k3⟩ := copyA_shape h
       refine ⟨fun p hp => by (rw [k1] at hp; simp at hp),fun d cs h => by (rw [k2] at h; cases h),fun _ => k3,.inr ⟨by simp [keysW],k1,k2,k3⟩⟩
      ·cases h
     ·cases h
    have e1 : ∀ (ρ : Operand → AV) (m : Mem),effOf E ⟨dst,.call { callee := .builtin b,args,argTypes },oty,pos,after,guard⟩ ρ m = (evPure E.ty ρ (.call { callee := .builtin b,args,argTypes })).map fun v => { val := v } := by
     intro ρ m
     cases b <;> first | rfl | exact absurd rfl hb | exact absurd rfl hb2
    rw [e1,Option.map_eq_some_iff] at h
    obtain ⟨r,_,rfl⟩ := h
    exact plain r rfl
 case buildSlice t n ps =>
  simp only [effOf,Option.map_eq_some_iff] at h
  obtain ⟨r,_,rfl⟩ := h
  exact plain r rfl
 all_goals
  simp only [effOf,Option.map_eq_some_iff] at h
  obtain ⟨r,_,rfl⟩ := h
  exact plain r rfl
theorem effPre {E : Env} {o : Oper} {ts : List AV} (hO : ownCall E ts o = false) {m : Mem} {e : Eff} (h : effOf E o (opv ts) m = some e) : e.pre = none := by
 unfold ownCall at hO
 unfold effOf at h
 simp only [allocA,callA,appendA,copyA,copyL,cond_eq_ite] at h
 repeat' split at h
 all_goals first
  |(cases h; rfl)
  |(simp only [Option.map_eq_some_iff] at h; obtain ⟨v,_,rfl⟩ := h; rfl)
  |(cases h; done)
  |(exfalso; simp_all; done)
end Go.Ev
set_option linter.unusedVariables false
set_option linter.unusedSimpArgs false
namespace Go.Ev
open Go
def eff1 (E : Env) (ops : Array Oper) (o : Oper) (s : AS) : Option Eff :=
 match wantA ops s.tmps o with
 | some true => effOf E o (opv s.tmps) s.mem
 | some false => some { val := .tup [] }
 | none => none
theorem step1_eff {E : Env} {ops : Array Oper} {i : Nat} {o : Oper} (h : ops[i]? = some o) (s : AS) : step1 E ops i s = (eff1 E ops o s).map fun e => e.app o.dst s := by
 unfold step1 eff1 evOp
 simp only [h]
 cases wantA ops s.tmps o with
 | none => rfl
 | some b => cases b <;> rfl
theorem mem_reads {ops : Array Oper} {o : Oper} {x : Operand} (h : x ∈ o.op.operands.toList) {t : Nat} (ht : x = .tmp t) : t ∈ readsOf ops o := by
 subst ht
 simp only [readsOf,List.mem_append,List.mem_flatMap]
 exact .inl ⟨_,h,by simp [Operand.tmps]⟩
theorem eff1_congr {E : Env} {ops : Array Oper} {o : Oper} {s s' : AS} (ht : ∀ x ∈ readsOf ops o,s'.tmps[x]? = s.tmps[x]?) (hm : ∀ id ∈ keysR s.tmps o,look s'.mem id = look s.mem id) :
  eff1 E ops o s' = eff1 E ops o s ∧ keysR s'.tmps o = keysR s.tmps o ∧ keysW s'.tmps o = keysW s.tmps o := by
 have hop : ∀ x ∈ o.op.operands.toList,opv s'.tmps x = opv s.tmps x := by
  intro x hx
  cases x with
  | tmp t => simp only [opv,List.getD_eq_getElem?_getD,ht t (mem_reads hx rfl)]
  | _ => rfl
 obtain ⟨h1,h2,h3⟩ := effOf_congr (E := E) hop hm
 have hw : wantA ops s'.tmps o = wantA ops s.tmps o := by
  unfold wantA
  cases hg : o.guard with
  | none => rfl
  | some jw =>
   obtain ⟨j,want⟩ := jw
   simp only
   cases hj : (ops[j]?).bind (·.dst) with
   | none => rfl
   | some t =>
    simp only
    rw [ht t]
    simp only [readsOf,hg,List.mem_append]
    exact .inr (by simp [hj])
 exact ⟨by simp only [eff1,hw,h1],h2,h3⟩
theorem own_congr {E : Env} {ops : Array Oper} {o : Oper} {s s' : AS} (ht : ∀ x ∈ readsOf ops o,s'.tmps[x]? = s.tmps[x]?) : ownCall E s'.tmps o = ownCall E s.tmps o := by
 obtain ⟨dst,op,oty,pos,after,guard⟩ := o
 cases op <;> try rfl
 rename_i c
 obtain ⟨callee,args,argTypes⟩ := c
 cases callee <;> try rfl
 rename_i f
 have hf : opv s'.tmps f = opv s.tmps f := by
  cases f with
  | tmp t => simp only [opv,List.getD_eq_getElem?_getD,ht t (mem_reads (x := .tmp t) (by simp [Op.operands,Call.operands]) rfl)]
  | _ => rfl
 simp only [ownCall,hf]
theorem eff1_keys {E : Env} {ops : Array Oper} {o : Oper} {s : AS} (hO : ownCall E s.tmps o = false) {e : Eff} (h : eff1 E ops o s = some e) :
  (∀ p ∈ e.upd,p.1 ∈ keysW s.tmps o) ∧ (∀ d cs,e.ins = some (d,cs) → d ∈ keysW s.tmps o) ∧ (isAppend o = false → e.rt = none) ∧ (e.wr = none ∨ WrOk s.tmps o e) := by
 unfold eff1 at h
 split at h
 ·exact effKeys hO h
 ·cases h; exact ⟨fun p hp => by simp at hp,fun d cs h => by simp at h,fun _ => rfl,.inl rfl⟩
 ·cases h
theorem eff1_pre {E : Env} {ops : Array Oper} {o : Oper} {s : AS} (hO : ownCall E s.tmps o = false) {e : Eff} (h : eff1 E ops o s = some e) : e.pre = none := by
 unfold eff1 at h
 split at h
 ·exact effPre hO h
 ·cases h; rfl
 ·cases h
def Eff.still (e : Eff) : Prop := e.rt = none ∧ e.wr = none ∧ e.pre = none
def Eff.memOf (e : Eff) (m : Mem) : Mem := match e.ins with | some (d,cs) => insM (upds m e.upd) d cs | none => upds m e.upd
theorem app_mem {e : Eff} (h : e.still) (dst : Option Nat) (s : AS) : (e.app dst s).mem = e.memOf s.mem := by
 obtain ⟨v,u,i,r,x,p⟩ := e
 obtain ⟨h1,h2,h3⟩ := h
 simp only at h1 h2 h3; subst h1 h2 h3
 cases dst <;> cases i <;> rfl
theorem app_tmps {e : Eff} (h : e.still) (dst : Option Nat) (s : AS) : (e.app dst s).tmps = match dst with | some d => s.tmps.set d e.val | none => s.tmps := by
 obtain ⟨v,u,i,r,x,p⟩ := e
 obtain ⟨h1,h2,h3⟩ := h
 simp only at h1 h2 h3; subst h1 h2 h3
 cases dst <;> cases i <;> rfl
theorem AS.ext' {s t : AS} (h1 : s.tmps = t.tmps) (h2 : s.mem = t.mem) : s = t := by
 cases s; cases t; simp_all
theorem look_insM_ne (m : Mem) {d i : Nat} (cs : List AV) (h : i ≠ d) : look (insM m d cs) i = look m i := by
 induction m with
 | nil => simp [insM,look,Ne.symm h]
 | cons p r ih =>
  obtain ⟨j,c⟩ := p
  simp only [insM]
  split
  ·simp [look,Ne.symm h]
  ·simp only [look,ih]
theorem look_upds_ne : ∀ (l : List (Nat × List AV)) (m : Mem) {i : Nat},(∀ p ∈ l,p.1 ≠ i) → look (upds m l) i = look m i
 | [],m,i,_ => rfl
 | p :: r,m,i,h => by
  simp only [upds]
  rw [look_upds_ne r _ (fun q hq => h q (List.mem_cons_of_mem _ hq)),look_upd,if_neg (Ne.symm (h p (by simp)))]
theorem look_memOf {e : Eff} {m : Mem} {i : Nat} (h1 : ∀ p ∈ e.upd,p.1 ≠ i) (h2 : ∀ d cs,e.ins = some (d,cs) → d ≠ i) : look (e.memOf m) i = look m i := by
 unfold Eff.memOf
 cases hi : e.ins with
 | none => exact look_upds_ne _ _ h1
 | some dc =>
  obtain ⟨d,cs⟩ := dc
  simp only
  rw [look_insM_ne _ _ (Ne.symm (h2 d cs hi)),look_upds_ne _ _ h1]
theorem upd_comm (m : Mem) {i j : Nat} (c d : List AV) (h : i ≠ j) : upd (upd m i c) j d = upd (upd m j d) i c := by
 induction m with
 | nil => rfl
 | cons p r ih =>
  obtain ⟨k,x⟩ := p
  by_cases h1 : k = i
  ·subst h1
   simp [upd,h]
  ·by_cases h2 : k = j
   ·subst h2; simp [upd,h1]
   ·simp [upd,h1,h2,ih]
theorem upds_upd : ∀ (l : List (Nat × List AV)) (m : Mem) {j : Nat} (d : List AV),(∀ p ∈ l,p.1 ≠ j) → upds (upd m j d) l = upd (upds m l) j d
 | [],m,j,d,_ => rfl
 | p :: r,m,j,d,h => by
  simp only [upds]
  rw [upd_comm _ _ _ (Ne.symm (h p (by simp))),upds_upd r _ d (fun q hq => h q (List.mem_cons_of_mem _ hq))]
theorem upds_comm : ∀ (k : List (Nat × List AV)) (l : List (Nat × List AV)) (m : Mem),(∀ p ∈ l,∀ q ∈ k,p.1 ≠ q.1) → upds (upds m l) k = upds (upds m k) l
 | [],l,m,_ => rfl
 | q :: k,l,m,h => by
  simp only [upds]
  rw [← upds_upd l m q.2 (fun p hp => h p hp q (by simp)),upds_comm k l _ (fun p hp q' hq => h p hp q' (List.mem_cons_of_mem _ hq))]
theorem upd_insM (m : Mem) {i d : Nat} (c cs : List AV) (h : i ≠ d) : upd (insM m d cs) i c = insM (upd m i c) d cs := by
 induction m with
 | nil => simp [insM,upd,Ne.symm h]
 | cons p r ih =>
  obtain ⟨j,x⟩ := p
  by_cases h1 : j = i
  ·subst h1
   by_cases h2 : d < j
   ·simp [insM,upd,h2,Ne.symm h]
   ·simp [insM,upd,h2]
  ·by_cases h2 : d < j
   ·simp [insM,upd,h1,h2,Ne.symm h]
   ·simp [insM,upd,h1,h2,ih]
theorem upds_insM : ∀ (l : List (Nat × List AV)) (m : Mem) {d : Nat} (cs : List AV),(∀ p ∈ l,p.1 ≠ d) → upds (insM m d cs) l = insM (upds m l) d cs
 | [],m,d,cs,_ => rfl
 | p :: r,m,d,cs,h => by
  simp only [upds]
  rw [upd_insM _ _ _ (h p (by simp)),upds_insM r _ cs (fun q hq => h q (List.mem_cons_of_mem _ hq))]
theorem insM_comm (m : Mem) {a b : Nat} (c d : List AV) (h : a ≠ b) : insM (insM m a c) b d = insM (insM m b d) a c := by
 induction m with
 | nil =>
  simp only [insM]
  by_cases h1 : b < a
  ·rw [if_pos h1,if_neg (by omega)]
  ·rw [if_neg h1,if_pos (by omega)]
 | cons p r ih =>
  obtain ⟨j,x⟩ := p
  by_cases h1 : a < j
  ·by_cases h2 : b < j
   ·simp only [insM,if_pos h1,if_pos h2]
    by_cases h3 : b < a
    ·simp only [if_pos h3,if_neg (show ¬ a < b by omega),if_pos h1]
    ·simp only [if_neg h3,if_pos (show a < b by omega),if_pos h2]
   ·simp only [insM,if_pos h1,if_neg h2,if_neg (show ¬ b < a by omega)]
  ·by_cases h2 : b < j
   ·simp only [insM,if_neg h1,if_pos h2,if_neg (show ¬ a < b by omega)]
   ·simp only [insM,if_neg h1,if_neg h2,ih]
theorem memOf_comm {e f : Eff} (m : Mem) (h1 : ∀ p ∈ e.upd,∀ q ∈ f.upd,p.1 ≠ q.1) (h2 : ∀ p ∈ e.upd,∀ d cs,f.ins = some (d,cs) → p.1 ≠ d) (h3 : ∀ q ∈ f.upd,∀ d cs,e.ins = some (d,cs) → q.1 ≠ d)
  (h4 : ∀ a c b d,e.ins = some (a,c) → f.ins = some (b,d) → a ≠ b) : f.memOf (e.memOf m) = e.memOf (f.memOf m) := by
 unfold Eff.memOf
 cases he : e.ins with
 | none =>
  cases hf : f.ins with
  | none => simp only; exact upds_comm _ _ _ h1
  | some bd =>
   obtain ⟨b,d⟩ := bd
   simp only
   rw [upds_insM _ _ _ (fun p hp => h2 p hp b d hf),upds_comm _ _ _ h1]
 | some ac =>
  obtain ⟨a,c⟩ := ac
  cases hf : f.ins with
  | none =>
   simp only
   rw [upds_insM _ _ _ (fun q hq => h3 q hq a c he),upds_comm _ _ _ h1]
  | some bd =>
   obtain ⟨b,d⟩ := bd
   simp only
   rw [upds_insM _ _ _ (fun q hq => h3 q hq a c he),upds_insM _ _ _ (fun p hp => h2 p hp b d hf),upds_comm _ _ _ h1,insM_comm _ _ _ (h4 a c b d he hf)]
theorem app_comm {e f : Eff} {da db : Option Nat} (s : AS) (he : e.still) (hf : f.still) (hd : ∀ a b,da = some a → db = some b → a ≠ b)
  (h1 : ∀ p ∈ e.upd,∀ q ∈ f.upd,p.1 ≠ q.1) (h2 : ∀ p ∈ e.upd,∀ d cs,f.ins = some (d,cs) → p.1 ≠ d) (h3 : ∀ q ∈ f.upd,∀ d cs,e.ins = some (d,cs) → q.1 ≠ d)
  (h4 : ∀ a c b d,e.ins = some (a,c) → f.ins = some (b,d) → a ≠ b) : f.app db (e.app da s) = e.app da (f.app db s) := by
 apply AS.ext'
 ·rw [app_tmps hf,app_tmps he,app_tmps he,app_tmps hf]
  cases da with
  | none => rfl
  | some a =>
   cases db with
   | none => rfl
   | some b => exact List.set_comm _ _ (hd a b rfl rfl)
 ·rw [app_mem hf,app_mem he,app_mem he,app_mem hf]
  exact memOf_comm _ h1 h2 h3 h4
end Go.Ev
set_option linter.unusedVariables false
set_option linter.unusedSimpArgs false
namespace Go.Ev
open Go
theorem set_get_ne {l : List AV} {d x : Nat} {v : AV} (h : x ≠ d) : (l.set d v)[x]? = l[x]? := by
 rw [List.getElem?_set_ne (Ne.symm h)]
theorem app_get {e : Eff} (h : e.still) {dst : Option Nat} (s : AS) {x : Nat} (hx : x ∉ dst.toList) : (e.app dst s).tmps[x]? = s.tmps[x]? := by
 rw [app_tmps h]
 cases dst with
 | none => rfl
 | some d => exact set_get_ne (by simpa using hx)
theorem app_look {e : Eff} (h : e.still) {dst : Option Nat} (s : AS) {i : Nat} {K : List Nat} (hi : i ∉ K) (h1 : ∀ p ∈ e.upd,p.1 ∈ K) (h2 : ∀ d cs,e.ins = some (d,cs) → d ∈ K) : look (e.app dst s).mem i = look s.mem i := by
 rw [app_mem h]
 exact look_memOf (fun p hp e => hi (e ▸ h1 p hp)) (fun d cs hd e => hi (e ▸ h2 d cs hd))
theorem swap_plain {E : Env} {ops : Array Oper} {a b : Oper} {t : AS} {ea eb : Eff} (hOa : ownCall E t.tmps a = false) (hOb : ownCall E (ea.app a.dst t).tmps b = false) (ha : eff1 E ops a t = some ea) (hra : ea.still) (hb : eff1 E ops b (ea.app a.dst t) = some eb) (hrb : eb.still)
  (h1 : ∀ x ∈ a.dst.toList,x ∉ readsOf ops b ++ b.dst.toList) (h2 : ∀ x ∈ b.dst.toList,x ∉ readsOf ops a)
  (h3 : ∀ x ∈ keysR t.tmps a ++ keysW t.tmps a,x ∉ keysW (ea.app a.dst t).tmps b) (h4 : ∀ x ∈ keysW t.tmps a,x ∉ keysR (ea.app a.dst t).tmps b) :
  eff1 E ops b t = some eb ∧ keysR t.tmps b = keysR (ea.app a.dst t).tmps b ∧ keysW t.tmps b = keysW (ea.app a.dst t).tmps b ∧
  eff1 E ops a (eb.app b.dst t) = some ea ∧ keysR (eb.app b.dst t).tmps a = keysR t.tmps a ∧ keysW (eb.app b.dst t).tmps a = keysW t.tmps a ∧
  ea.app a.dst (eb.app b.dst t) = eb.app b.dst (ea.app a.dst t) := by
 obtain ⟨ka1,ka2,_⟩ := eff1_keys hOa ha
 obtain ⟨kb1,kb2,_⟩ := eff1_keys hOb hb
 have cb := eff1_congr (E := E) (ops := ops) (o := b) (s := ea.app a.dst t) (s' := t) (fun x hx => (app_get hra t (fun hd => h1 x hd (List.mem_append_left _ hx))).symm)
  (fun id hid => (app_look hra t (fun hk => h4 id hk hid) ka1 ka2).symm)
 have ca := eff1_congr (E := E) (ops := ops) (o := a) (s := t) (s' := eb.app b.dst t) (fun x hx => app_get hrb t (fun hd => h2 x hd hx))
  (fun id hid => app_look hrb t (h3 id (List.mem_append_left _ hid)) kb1 kb2)
 refine ⟨cb.1.trans hb,cb.2.1,cb.2.2,ca.1.trans ha,ca.2.1,ca.2.2,?_⟩
 refine (app_comm t hra hrb ?_ ?_ ?_ ?_ ?_).symm
 ·intro x y hx hy e
  subst e
  exact h1 x (by simp [hx]) (by simp [hy])
 ·intro p hp q hq e
  exact h3 p.1 (List.mem_append_right _ (ka1 p hp)) (e ▸ kb1 q hq)
 ·intro p hp d cs hd e
  exact h3 p.1 (List.mem_append_right _ (ka1 p hp)) (e ▸ kb2 d cs hd)
 ·intro q hq d cs hd e
  exact h3 d (List.mem_append_right _ (ka2 d cs hd)) (e ▸ kb1 q hq)
 ·intro x c y d hx hy e
  exact h3 x (List.mem_append_right _ (ka2 x c hx)) (e ▸ kb2 y d hy)
theorem plain_own {E : Env} {ops : Array Oper} {a b : Oper} {t : AS} {ea eb : Eff} (hra : ea.still) (hrb : eb.still) (h1 : ∀ x ∈ a.dst.toList,x ∉ readsOf ops b ++ b.dst.toList) (h2 : ∀ x ∈ b.dst.toList,x ∉ readsOf ops a) :
   ownCall E t.tmps b = ownCall E (ea.app a.dst t).tmps b ∧ ownCall E (eb.app b.dst t).tmps a = ownCall E t.tmps a :=
 ⟨own_congr (ops := ops) (s := ea.app a.dst t) (s' := t) fun x hx => (app_get hra t (fun hd => h1 x hd (List.mem_append_left _ hx))).symm,
  own_congr (ops := ops) (s := t) (s' := eb.app b.dst t) fun x hx => app_get hrb t (fun hd => h2 x hd hx)⟩
theorem wr_own {E : Env} {ops : Array Oper} {o : Oper} {s : AS} {e : Eff} (h : eff1 E ops o s = some e) (hw : e.wr ≠ none ∨ e.rt ≠ none) (ts : List AV) : ownCall E ts o = false := by
 obtain ⟨dst,op,oty,pos,after,guard⟩ := o
 cases op <;> try rfl
 rename_i c
 obtain ⟨callee,args,argTypes⟩ := c
 cases callee <;> try rfl
 rename_i f
 exfalso
 have hA : ∀ {m g as},callA E m dst g as = some e → e.wr = none ∧ e.rt = none := by
  intro m g as h
  unfold callA at h
  split at h
  ·cases h
  ·split at h
   ·rename_i r p' _
    cases hb : (p'.length == (ptrIds as).length) <;> rw [hb] at h <;> simp only [cond_true,cond_false] at h
    ·cases h
    ·cases h; exact ⟨rfl,rfl⟩
   ·cases h
 have hO : ∀ {sp sv m as},callO sp sv m dst as = some e → e.wr = none ∧ e.rt = none := by
  intro sp sv m as h
  unfold callO at h
  split at h
  ·split at h
   ·cases h
   ·split at h
    ·unfold effO at h
     split at h <;> first | (cases h; exact ⟨rfl,rfl⟩) | cases h
    ·cases h
  ·split at h
   ·unfold effV at h
    split at h <;> first | (cases h; exact ⟨rfl,rfl⟩) | cases h
   ·cases h
  ·cases h
 have key : e.wr = none ∧ e.rt = none := by
  unfold eff1 at h
  split at h
  ·simp only [effOf] at h
   split at h
   ·cases hw : E.own <;> rw [hw] at h <;> simp only [cond_true,cond_false] at h
    ·exact hA h
    ·split at h
     ·exact hO h
     ·exact hA h
   ·cases h
  ·cases h; exact ⟨rfl,rfl⟩
  ·cases h
 rcases hw with hw | hw
 ·exact hw key.1
 ·exact hw key.2
theorem retag_const (k : Tag) (v : Value) : (ofVal v).retag k = ofVal v := by
 unfold ofVal; split <;> rfl
theorem opv_retag (k : Tag) (ts : List AV) (x : Operand) : opv (ts.map (AV.retag k)) x = (opv ts x).retag k := by
 cases x with
 | tmp t =>
  simp only [opv,List.getD_eq_getElem?_getD,List.getElem?_map]
  cases ts[t]? <;> rfl
 | const v => exact (retag_const k v).symm
 | global g => rfl
 | func f => rfl
theorem bound_retag (k : Tag) (d : Nat) (v : Option AV) (top : Nat) : boundA d (v.map (AV.retag k)) top = boundA d v top := by
 cases v with
 | none => rfl
 | some v =>
  cases v <;> try rfl
  case sl sz xs st =>
   cases st <;> try rfl
   all_goals (simp only [Option.map_some,AV.retag]; split <;> rfl)
  case wp => simp only [Option.map_some,AV.retag]; split <;> rfl
theorem cutSt_retag (k : Tag) (sz : Nat) (xs ys : List AV) (st : St) (l : Nat) (al : Bool) : (AV.sl sz ys (cutSt sz st l al)).retag k = AV.sl sz ys (cutSt sz (match (AV.sl sz xs st).retag k with | .sl _ _ st' => st' | _ => st) l al) := by
 cases st with
 | nil => rfl
 | sh => rfl
 | full => simp only [cutSt,AV.retag]; cases al <;> rfl
 | own k' =>
  simp only [cutSt,AV.retag]
  by_cases e : k' = k
  ·rw [if_pos e]
   cases sz == 1 <;> simp only [cond_true,cond_false]
   rw [if_pos e]
  ·rw [if_neg e]
   cases sz == 1 <;> simp only [cond_true,cond_false]
   rw [if_neg e]
 | win k' lo =>
  simp only [cutSt,AV.retag]
  by_cases e : k' = k
  ·rw [if_pos e]
   cases sz == 1 <;> simp only [cond_true,cond_false]
   rw [if_pos e]
  ·rw [if_neg e]
   cases sz == 1 <;> simp only [cond_true,cond_false]
   rw [if_neg e]
theorem slice_retag (ty : Tys) (k : Tag) (t : TypeId) (x : AV) (lo hi mx : Option AV) : sliceA ty t (x.retag k) (lo.map (AV.retag k)) (hi.map (AV.retag k)) (mx.map (AV.retag k)) = (sliceA ty t x lo hi mx).map (AV.retag k) := by
 have h1 := bound_retag k
 cases x
 case sl sz xs st =>
  obtain ⟨st',hst⟩ : ∃ st',(AV.sl sz xs st).retag k = .sl sz xs st' := by
   cases st <;> simp only [AV.retag] <;> first | exact ⟨_,rfl⟩ | (split <;> exact ⟨_,rfl⟩)
  have hcut : ∀ ys l al,(AV.sl sz ys (cutSt sz st l al)).retag k = .sl sz ys (cutSt sz st' l al) := by
   intro ys l al
   rw [cutSt_retag k sz xs,hst]
  have hbool : (st' == St.nil) = (st == St.nil) ∧ (st' != St.nil) = (st != St.nil) := by
   cases st <;> simp only [AV.retag,AV.sl.injEq,true_and] at hst <;> first | (subst hst; exact ⟨rfl,rfl⟩) | (split at hst <;> (cases hst; exact ⟨rfl,rfl⟩))
  have hnil : (st == St.nil) = true → st' = .nil ∧ st = .nil := by
   intro h
   have e : st = .nil := by simpa using h
   subst e
   simp only [AV.retag,AV.sl.injEq,true_and] at hst
   exact ⟨hst.symm,rfl⟩
  rw [hst]
  simp only [sliceA,hbool.1,hbool.2,h1,Option.isSome_map,Option.isNone_map]
  cases elemOf ty t with
  | none => rfl
  | some ei =>
  simp only
  generalize (isSlice ty t && ((sz == ei.size && st != .nil) || (st == .nil && xs.isEmpty))) = b
  cases b <;> simp only [cond_true,cond_false]
  ·rfl
  cases boundA xs.length hi xs.length with
  | none => rfl
  | some h =>
  simp only
  cases boundA 0 lo h with
  | none => rfl
  | some l =>
  simp only
  cases mx with
  | none =>
   simp only [Option.map_none]
   cases hq : st == St.nil <;> simp only [cond_true,cond_false]
   ·rw [Option.map_some,hcut]
   ·obtain ⟨e1,e2⟩ := hnil hq
    subst e1 e2; rfl
  | some m =>
   simp only [Option.map_some]
   have := h1 0 (some m) h
   simp only [Option.map_some] at this
   simp only [this]
   cases boundA 0 (some m) h with
   | none => rfl
   | some m' =>
    simp only
    generalize (hi.isSome && m' == h) = b2
    cases b2 <;> simp only [cond_true,cond_false]
    ·rfl
    cases hq : st == St.nil <;> simp only [cond_true,cond_false]
    ·rfl
    ·obtain ⟨e1,e2⟩ := hnil hq
     subst e1 e2; rfl
 case str s =>
  simp only [AV.retag,sliceA,h1]
  cases mx with
  | some m => rfl
  | none =>
   simp only [Option.map_none]
   cases boundA s.length hi s.length with
   | none => rfl
   | some h =>
    simp only
    cases boundA 0 lo h with
    | none => rfl
    | some l =>
     simp only
     cases isStr ty t <;> rfl
 case ptr id off =>
  simp only [AV.retag,sliceA,h1]
  cases mx with
  | none =>
   simp only [Option.map_none]
   cases arrLen ty t with
   | none => rfl
   | some n =>
    cases elemOf ty t with
    | none => rfl
    | some ei =>
     simp only
     cases boundA n hi n with
     | none => rfl
     | some h =>
      simp only
      cases boundA 0 lo h with
      | none => rfl
      | some l => rfl
  | some m =>
   simp only [Option.map_some]
   cases arrLen ty t with
   | none => rfl
   | some n =>
    cases elemOf ty t with
    | none => rfl
    | some ei => rfl
 case wp k' i e =>
  simp only [AV.retag]
  split <;> rfl
 all_goals rfl
theorem insM_map (f : List AV → List AV) (m : Mem) (d : Nat) (cs : List AV) : (insM m d cs).map (fun p => (p.1,f p.2)) = insM (m.map fun p => (p.1,f p.2)) d (f cs) := by
 induction m with
 | nil => rfl
 | cons p r ih =>
  obtain ⟨j,c⟩ := p
  simp only [insM,List.map_cons]
  split
  ·rfl
  ·rw [List.map_cons,ih]
theorem look_retag (k : Tag) (m : Mem) (i : Nat) : look (m.map fun p => (p.1,p.2.map (AV.retag k))) i = (look m i).map (List.map (AV.retag k)) := look_map _ m i
theorem want_retag (ops : Array Oper) (k : Tag) (ts : List AV) (o : Oper) : wantA ops (ts.map (AV.retag k)) o = wantA ops ts o := by
 unfold wantA
 cases o.guard with
 | none => rfl
 | some jw =>
  obtain ⟨j,want⟩ := jw
  simp only
  cases (ops[j]?).bind (·.dst) with
  | none => rfl
  | some t =>
   simp only [List.getElem?_map]
   cases ts[t]? with
   | none => rfl
   | some v =>
    cases v <;> try rfl
    case sl sz xs st =>
     cases st with
     | own k' =>
      simp only [Option.map_some,AV.retag]
      by_cases e : k' = k
      ·rw [if_pos e]
      ·rw [if_neg e]
     | win k' lo =>
      simp only [Option.map_some,AV.retag]
      by_cases e : k' = k
      ·rw [if_pos e]
      ·rw [if_neg e]
     | _ => rfl
    case wp k' i el =>
     simp only [Option.map_some,AV.retag]
     by_cases e : k' = k
     ·rw [if_pos e]
     ·rw [if_neg e]
def ZeroOk (ty : Tys) : Prop := ∀ t ti,ty t = some ti → ∃ vs : List Value,ti.zero = vs.map ofVal
theorem zero_retag {ty : Tys} (h : ZeroOk ty) {t ti} (ht : ty t = some ti) (k : Tag) : ti.zero.map (AV.retag k) = ti.zero := by
 obtain ⟨vs,e⟩ := h t ti ht
 rw [e,List.map_map]
 exact List.map_congr_left fun v _ => retag_const k v
theorem put_retag (k : Tag) (dst : Option Nat) (v : AV) (s : AS) : (s.put dst v).retag k = (s.retag k).put dst (v.retag k) := by
 cases dst with
 | none => rfl
 | some d => simp only [AS.put,AS.retag,List.map_set]
theorem beside_retag {E : Env} (hZ : ZeroOk E.ty) {ops : Array Oper} {b : Oper} (hb : besideAppend b = true) {k : Tag} {t : AS} {e' : Eff} (h : eff1 E ops b (t.retag k) = some e') :
  ∃ e,eff1 E ops b t = some e ∧ e.still ∧ e'.still ∧ (e.app b.dst t).retag k = e'.app b.dst (t.retag k) := by
 unfold eff1 at h ⊢
 have hw := want_retag ops k t.tmps b
 simp only [AS.retag] at h
 rw [hw] at h
 cases hq : wantA ops t.tmps b with
 | none => rw [hq] at h; cases h
 | some bb =>
  rw [hq] at h
  cases bb with
  | false =>
   cases h
   exact ⟨_,rfl,⟨rfl,rfl,rfl⟩,⟨rfl,rfl,rfl⟩,put_retag k _ _ _⟩
  | true =>
   simp only at h ⊢
   obtain ⟨dst,op,oty,pos,after,guard⟩ := b
   cases op <;> try (simp [besideAppend] at hb; done)
   case alloc ty_ =>
    simp only [effOf] at h ⊢
    cases ht : E.ty ty_ with
    | none => simp [ht] at h
    | some ti =>
     cases dst with
     | none => simp [ht] at h
     | some d =>
      simp only [ht,allocA,look_retag] at h ⊢
      cases hl : look t.mem d with
      | some cs => simp [hl] at h
      | none =>
       simp only [hl,Option.map_none,Option.some.injEq] at h ⊢
       subst h
       refine ⟨_,rfl,⟨rfl,rfl,rfl⟩,⟨rfl,rfl,rfl⟩,?_⟩
       have := zero_retag hZ ht k
       simp only [Eff.app,put_retag,upds]
       simp only [AS.retag,insM_map,this]
       rfl
   case move x =>
    simp only [effOf,evPure,Option.map_some,Option.some.injEq,opv_retag] at h ⊢
    subst h
    exact ⟨_,rfl,⟨rfl,rfl,rfl⟩,⟨rfl,rfl,rfl⟩,put_retag k _ _ _⟩
   case slice ty_ x lo hi mx =>
    simp only [effOf,evPure,Option.map_eq_some_iff] at h ⊢
    obtain ⟨r,h,rfl⟩ := h
    have e1 : ∀ y : Option Operand,y.map (opv (t.tmps.map (AV.retag k))) = (y.map (opv t.tmps)).map (AV.retag k) := by
     intro y
     cases y with
     | none => rfl
     | some y => simp only [Option.map_some,opv_retag]
    rw [opv_retag,e1,e1,e1,slice_retag,Option.map_eq_some_iff] at h
    obtain ⟨r0,h,rfl⟩ := h
    exact ⟨_,⟨r0,h,rfl⟩,⟨rfl,rfl,rfl⟩,⟨rfl,rfl,rfl⟩,put_retag k dst r0 t⟩
theorem append_shape {E : Env} {ops : Array Oper} {a : Oper} {t : AS} (hO : ownCall E t.tmps a = false) {ea : Eff} {k : Tag} (ha : eff1 E ops a t = some ea) (hr : ea.rt = some k) : ea.upd = [] ∧ ea.ins = none ∧ ea.wr = none ∧ ea.pre = none := by
 have h3 := (eff1_keys hO ha).2.2.1
 have hp := eff1_pre hO ha
 unfold eff1 at ha
 cases hq : wantA ops t.tmps a with
 | none => rw [hq] at ha; cases ha
 | some bb =>
 rw [hq] at ha
 cases bb with
 | false => cases ha; cases hr
 | true =>
  simp only at ha
  cases hi : isAppend a with
  | false => rw [h3 hi] at hr; cases hr
  | true =>
   obtain ⟨dst,op,oty,pos,after,guard⟩ := a
   cases op <;> try (simp [isAppend] at hi; done)
   rename_i c
   obtain ⟨callee,args,argTypes⟩ := c
   cases callee <;> try (simp [isAppend] at hi; done)
   rename_i bi
   cases bi <;> try (simp [isAppend] at hi; done)
   simp only [effOf] at ha
   split at ha
   ·rename_i x y ty1 ty2 d _ _
    split at ha
    ·cases his : isSlice E.ty ty1 <;> rw [his] at ha <;> simp only [cond_true,cond_false] at ha
     ·cases ha
     split at ha
     ·have := appendA_shape ha
      exact ⟨this.1,this.2.1,this.2.2,hp⟩
     ·cases ha
    ·cases ha
   ·cases ha
theorem beside_keys {b : Oper} (hb : besideAppend b = true) (ts ts' : List AV) : keysR ts b = keysR ts' b ∧ keysW ts b = keysW ts' b := by
 obtain ⟨dst,op,oty,pos,after,guard⟩ := b
 cases op <;> first | exact ⟨rfl,rfl⟩ | (simp [besideAppend] at hb; done)
theorem beside_own {E : Env} {b : Oper} (hb : besideAppend b = true) (ts : List AV) : ownCall E ts b = false := by
 obtain ⟨dst,op,oty,pos,after,guard⟩ := b
 cases op <;> first | rfl | (simp [besideAppend] at hb; done)
theorem swap_app {E : Env} (hZ : ZeroOk E.ty) {ops : Array Oper} {a b : Oper} {t : AS} (hO : ownCall E t.tmps a = false) {ea eb' : Eff} {k : Tag} (ha : eff1 E ops a t = some ea) (hra : ea.rt = some k) (hbe : besideAppend b = true)
  (hb : eff1 E ops b (ea.app a.dst t) = some eb')
  (h1 : ∀ x ∈ a.dst.toList,x ∉ readsOf ops b ++ b.dst.toList) (h2 : ∀ x ∈ b.dst.toList,x ∉ readsOf ops a)
  (h3 : ∀ x ∈ keysR t.tmps a ++ keysW t.tmps a,x ∉ keysW (ea.app a.dst t).tmps b) :
  ∃ eb,eff1 E ops b t = some eb ∧ keysR t.tmps b = keysR (ea.app a.dst t).tmps b ∧ keysW t.tmps b = keysW (ea.app a.dst t).tmps b ∧
  eff1 E ops a (eb.app b.dst t) = some ea ∧ keysR (eb.app b.dst t).tmps a = keysR t.tmps a ∧ keysW (eb.app b.dst t).tmps a = keysW t.tmps a ∧
  ea.app a.dst (eb.app b.dst t) = eb'.app b.dst (ea.app a.dst t) := by
 obtain ⟨e1,e2,e3,e4⟩ := append_shape hO ha hra
 have hk := beside_keys hbe t.tmps (ea.app a.dst t).tmps
 have happ : ∀ s : AS,ea.app a.dst s = Eff.app { val := ea.val } a.dst (s.retag k) := by
  intro s
  obtain ⟨v,u,i,r,x,p⟩ := ea
  simp only at e1 e2 e3 e4 hra
  subst e1 e2 e3 e4 hra
  rfl
 have hra0 : (Eff.mk ea.val [] none none none none).still := ⟨rfl,rfl,rfl⟩
 have hb1 : eff1 E ops b (t.retag k) = some eb' := by
  rw [happ] at hb
  refine ((eff1_congr (E := E) (ops := ops) (o := b) ?_ ?_).1.symm).trans hb
  ·intro x hx
   exact app_get hra0 _ (fun hd => h1 x hd (List.mem_append_left _ hx))
  ·intro id _
   rw [app_mem hra0]; rfl
 obtain ⟨eb,hb2,r1,r2,hc⟩ := beside_retag hZ hbe hb1
 obtain ⟨kb1,kb2,_⟩ := eff1_keys (beside_own hbe _) hb2
 have ca := eff1_congr (E := E) (ops := ops) (o := a) (s := t) (s' := eb.app b.dst t) (fun x hx => app_get r1 t (fun hd => h2 x hd hx))
  (fun id hid => app_look r1 t (h3 id (List.mem_append_left _ hid)) (hk.2 ▸ kb1) (hk.2 ▸ kb2))
 refine ⟨eb,hb2,hk.1,hk.2,ca.1.trans ha,ca.2.1,ca.2.2,?_⟩
 rw [happ,happ,hc]
 refine app_comm _ r2 hra0 ?_ ?_ ?_ ?_ ?_
 ·intro x y hx hy e
  subst e
  exact h1 x (by simp [hy]) (by simp [hx])
 ·intro p hp q hq; simp at hq
 ·intro p hp d cs hd; simp at hd
 ·intro q hq; simp at hq
 ·intro x c y d hx hy; simp at hy
end Go.Ev
set_option linter.unusedVariables false
set_option linter.unusedSimpArgs false
namespace Go.Ev
open Go
def AV.fixed : AV → Bool
 | .int _ _ => true
 | .bool _ => true
 | .str _ => true
 | _ => false
theorem fixed_wrote {k : Tag} {i : Nat} {vs : List AV} {v : AV} (h : v.fixed = true) : v.wrote k i vs = v := by
 cases v <;> simp [AV.fixed] at h <;> rfl
theorem wrote_sl (k : Tag) (i : Nat) (vs : List AV) (sz : Nat) (xs : List AV) (st : St) : (∃ xs' st',(AV.sl sz xs st).wrote k i vs = .sl sz xs' st') ∨ (AV.sl sz xs st).wrote k i vs = .unk := by
 cases st with
 | nil => exact .inl ⟨_,_,rfl⟩
 | full => exact .inr rfl
 | sh => exact .inr rfl
 | win k' lo => exact .inr rfl
 | own k' =>
  simp only [AV.wrote]
  cases xs.all AV.scal <;> simp only [cond_true,cond_false]
  ·exact .inr trivial
  ·by_cases e : k' = k
   ·rw [if_pos e]; exact .inl ⟨_,_,rfl⟩
   ·rw [if_neg e]; exact .inl ⟨_,_,rfl⟩
theorem wrote_fixed (k : Tag) (i : Nat) (vs : List AV) (v : AV) : (v.wrote k i vs).fixed = v.fixed := by
 cases v <;> try rfl
 rename_i sz xs st
 rcases wrote_sl k i vs sz xs st with ⟨xs',st',h⟩ | h <;> rw [h] <;> rfl
theorem unfixed {v : AV} (h : v.fixed = false) : (∀ k n,v ≠ .int k n) ∧ (∀ b,v ≠ .bool b) ∧ ∀ s,v ≠ .str s := by
 refine ⟨?_,?_,?_⟩ <;> rintro _ <;> (first | rintro _ rfl | rintro rfl) <;> simp [AV.fixed] at h
theorem wrote_const (k : Tag) (i : Nat) (vs : List AV) (v : Value) : (ofVal v).wrote k i vs = ofVal v := by
 unfold ofVal; split <;> rfl
theorem opv_wrote (k : Tag) (i : Nat) (vs ts : List AV) (x : Operand) : opv (ts.map (AV.wrote k i vs)) x = (opv ts x).wrote k i vs := by
 cases x with
 | tmp t =>
  simp only [opv,List.getD_eq_getElem?_getD,List.getElem?_map]
  cases ts[t]? <;> rfl
 | const v => exact (wrote_const k i vs v).symm
 | global g => rfl
 | func f => rfl
theorem want_wrote (ops : Array Oper) (k : Tag) (i : Nat) (vs ts : List AV) (o : Oper) : wantA ops (ts.map (AV.wrote k i vs)) o = wantA ops ts o := by
 unfold wantA
 cases o.guard with
 | none => rfl
 | some jw =>
  obtain ⟨j,want⟩ := jw
  simp only
  cases (ops[j]?).bind (·.dst) with
  | none => rfl
  | some t =>
   simp only [List.getElem?_map]
   cases ts[t]? with
   | none => rfl
   | some v =>
    cases v <;> try rfl
    rename_i sz xs st
    simp only [Option.map_some]
    rcases wrote_sl k i vs sz xs st with ⟨xs',st',h⟩ | h <;> rw [h]
theorem put_wrote (k : Tag) (i : Nat) (vs : List AV) (dst : Option Nat) (v : AV) (s : AS) : (s.put dst v).wrote k i vs = (s.wrote k i vs).put dst (v.wrote k i vs) := by
 cases dst with
 | none => rfl
 | some d => simp only [AS.put,AS.wrote,List.map_set]
theorem put_comm (s : AS) {d e : Option Nat} (v u : AV) (h : ∀ a b,d = some a → e = some b → a ≠ b) : (s.put d v).put e u = (s.put e u).put d v := by
 cases d with
 | none => rfl
 | some a =>
  cases e with
  | none => rfl
  | some b => simp only [AS.put]; rw [List.set_comm _ _ (h a b rfl rfl)]
theorem intOp_fixed {op k a b r} (h : intOp op k a b = some r) : r.fixed = true := by
 cases op <;> simp only [intOp] at h <;> first | (cases h; rfl) | (cases hc : ieq b 0 <;> rw [hc] at h <;> simp only [cond_true,cond_false] at h <;> first | (cases h; rfl) | cases h) | cases h
theorem strOp_fixed {op a b r} (h : strOp op a b = some r) : r.fixed = true := by
 cases op <;> simp only [strOp] at h <;> first | (cases h; rfl) | (cases hc : ile ((a.length + b.length : Nat) : Int) 9223372036854775807 <;> rw [hc] at h <;> simp only [cond_true,cond_false] at h <;> first | (cases h; rfl) | cases h) | cases h
theorem binA_none {ty : Tys} {op : BinOp} {t : TypeId} {x y : AV} (h1 : op ≠ .eql) (h2 : op ≠ .neq) (h : x.fixed = false ∨ y.fixed = false) : binA ty op t x y = none := by
 unfold binA
 split
 ·simp [AV.fixed] at h
 ·simp [AV.fixed] at h
 ·simp [AV.fixed] at h
 ·simp [AV.fixed] at h
 ·exact absurd rfl h1
 ·exact absurd rfl h2
 ·rfl
theorem binA_fixed {ty : Tys} {op : BinOp} {t : TypeId} {x y r : AV} (h : binA ty op t x y = some r) : r.fixed = true := by
 unfold binA at h
 split at h
 ·rename_i kk a yk b
  cases hc : ile 0 b <;> rw [hc] at h <;> simp only [cond_true,cond_false] at h <;> first | (cases h; rfl) | cases h
 ·rename_i kk a yk b
  cases hc : ile 0 b <;> rw [hc] at h <;> simp only [cond_true,cond_false] at h <;> first | (cases h; rfl) | cases h
 ·split at h
  ·exact intOp_fixed h
  ·cases h
 ·exact strOp_fixed h
 ·obtain ⟨q,_,rfl⟩ := Option.map_eq_some_iff.1 h; rfl
 ·obtain ⟨q,_,rfl⟩ := Option.map_eq_some_iff.1 h; rfl
 ·cases h
theorem binA_wrote {ty : Tys} {op : BinOp} {t : TypeId} {x y : AV} (h1 : op ≠ .eql) (h2 : op ≠ .neq) (k : Tag) (i : Nat) (vs : List AV) :
  binA ty op t (x.wrote k i vs) (y.wrote k i vs) = (binA ty op t x y).map (AV.wrote k i vs) := by
 by_cases h : x.fixed = true ∧ y.fixed = true
 ·rw [fixed_wrote h.1,fixed_wrote h.2]
  cases hr : binA ty op t x y with
  | none => rfl
  | some r => rw [Option.map_some,fixed_wrote (binA_fixed hr)]
 ·have h' : x.fixed = false ∨ y.fixed = false := by
   cases hx : x.fixed
   ·exact .inl rfl
   ·cases hy : y.fixed
    ·exact .inr rfl
    ·exact absurd ⟨hx,hy⟩ h
  rw [binA_none h1 h2 h',binA_none h1 h2 (by rw [wrote_fixed,wrote_fixed]; exact h')]
  rfl
theorem unA_wrote {op : UnOp} {x : AV} (k : Tag) (i : Nat) (vs : List AV) : unA op (x.wrote k i vs) = (unA op x).map (AV.wrote k i vs) := by
 cases hx : x.fixed
 ·have h := unfixed hx
  have h' := unfixed ((wrote_fixed k i vs x).trans hx)
  have none_ : ∀ y : AV,((∀ k n,y ≠ .int k n) ∧ (∀ b,y ≠ .bool b) ∧ ∀ s,y ≠ .str s) → unA op y = none := by
   intro y hy
   unfold unA
   split
   ·exact absurd rfl (hy.1 _ _)
   ·exact absurd rfl (hy.2.1 _)
   ·rfl
  rw [none_ _ h,none_ _ h']
  rfl
 ·rw [fixed_wrote hx]
  cases hr : unA op x with
  | none => rfl
  | some r =>
   have : r.fixed = true := by
    unfold unA at hr
    split at hr <;> cases hr <;> rfl
   rw [Option.map_some,fixed_wrote this]
theorem pure_wrote {ty : Tys} {ts : List AV} {o : Oper} (hb : besideWrite o = true) (k : Tag) (i : Nat) (vs : List AV) : evPure ty (opv (ts.map (AV.wrote k i vs))) o.op = (evPure ty (opv ts) o.op).map (AV.wrote k i vs) := by
 obtain ⟨dst,op,oty,pos,after,guard⟩ := o
 cases op <;> try (simp [besideWrite] at hb; done)
 case move x => simp only [evPure,opv_wrote,Option.map_some]
 case binOp op t x y yt =>
  have h12 : op ≠ .eql ∧ op ≠ .neq := by cases op <;> first | (simp [besideWrite] at hb; done) | exact ⟨nofun,nofun⟩
  simp only [evPure,opv_wrote,binA_wrote h12.1 h12.2]
 case unOp op t x => simp only [evPure,opv_wrote,unA_wrote]
theorem effOf_beside {E : Env} {o : Oper} {ρ : Operand → AV} {m : Mem} (hb : besideWrite o = true) : effOf E o ρ m = (evPure E.ty ρ o.op).map fun v => { val := v } := by
 obtain ⟨dst,op,oty,pos,after,guard⟩ := o
 cases op <;> first | rfl | (simp [besideWrite] at hb; done)
theorem beside_keys2 {b : Oper} (hb : besideWrite b = true) (ts : List AV) : keysR ts b = [] ∧ keysW ts b = [] := by
 obtain ⟨dst,op,oty,pos,after,guard⟩ := b
 cases op <;> first | exact ⟨rfl,rfl⟩ | (simp [besideWrite] at hb; done)
theorem beside_wrote {E : Env} {ops : Array Oper} {b : Oper} (hb : besideWrite b = true) (t : AS) (k : Tag) (i : Nat) (vs : List AV) :
  (eff1 E ops b t = none ∧ eff1 E ops b (t.wrote k i vs) = none) ∨ ∃ v,eff1 E ops b t = some { val := v } ∧ eff1 E ops b (t.wrote k i vs) = some { val := v.wrote k i vs } := by
 unfold eff1
 simp only [AS.wrote]
 rw [want_wrote]
 cases wantA ops t.tmps b with
 | none => exact .inl ⟨rfl,rfl⟩
 | some bb =>
  cases bb with
  | false => exact .inr ⟨_,rfl,rfl⟩
  | true =>
   simp only
   rw [effOf_beside hb,effOf_beside hb,pure_wrote hb]
   cases evPure E.ty (opv t.tmps) b.op with
   | none => exact .inl ⟨rfl,rfl⟩
   | some v => exact .inr ⟨v,rfl,rfl⟩
theorem wr_app {e : Eff} (hp : e.pre = none) {k : Tag} {i : Nat} {vs : List AV} (h : e.wr = some (k,i,vs)) {ts : List AV} {o : Oper} (hw : WrOk ts o e) (dst : Option Nat) (s : AS) : e.app dst s = (s.wrote k i vs).put dst e.val := by
 obtain ⟨h1,h2,h3,h4⟩ := hw
 obtain ⟨v,u,ins,r,x,p⟩ := e
 simp only at h h2 h3 h4 hp
 subst h h2 h3 h4 hp
 rfl
theorem beside_own2 {E : Env} {b : Oper} (hb : besideWrite b = true) (ts : List AV) : ownCall E ts b = false := by
 obtain ⟨dst,op,oty,pos,after,guard⟩ := b
 cases op <;> first | rfl | (simp [besideWrite] at hb; done)
theorem swap_wrA {E : Env} {ops : Array Oper} {a b : Oper} {t : AS} (hO : ownCall E t.tmps a = false) {ea eb : Eff} {k : Tag} {i : Nat} {vs : List AV} (ha : eff1 E ops a t = some ea) (hwr : ea.wr = some (k,i,vs)) (hw : WrOk t.tmps a ea) (hbe : besideWrite b = true)
  (hb : eff1 E ops b (ea.app a.dst t) = some eb) (h1 : ∀ x ∈ a.dst.toList,x ∉ readsOf ops b ++ b.dst.toList) (h2 : ∀ x ∈ b.dst.toList,x ∉ readsOf ops a) :
  ∃ eb',eff1 E ops b t = some eb' ∧ eff1 E ops a (eb'.app b.dst t) = some ea ∧ keysR (eb'.app b.dst t).tmps a = keysR t.tmps a ∧ keysW (eb'.app b.dst t).tmps a = keysW t.tmps a ∧ ea.app a.dst (eb'.app b.dst t) = eb.app b.dst (ea.app a.dst t) := by
 have happ := wr_app (eff1_pre hO ha) hwr hw
 rw [happ] at hb
 have hm0 : ∀ (s : AS) d v,(AS.put s d v).mem = s.mem := by intro s d v; cases d <;> rfl
 have ht0 : ∀ (s : AS) d v (x : Nat),x ∉ d.toList → (AS.put s d v).tmps[x]? = s.tmps[x]? := by
  intro s d v x hx
  cases d with
  | none => rfl
  | some d => exact set_get_ne (by simpa using hx)
 have cb := eff1_congr (E := E) (ops := ops) (o := b) (s := t.wrote k i vs) (s' := (t.wrote k i vs).put a.dst ea.val) (fun x hx => ht0 _ _ _ _ (fun hd => h1 x hd (List.mem_append_left _ hx))) (fun id _ => by rw [hm0])
 rw [cb.1] at hb
 rcases beside_wrote (E := E) (ops := ops) hbe t k i vs with ⟨_,q⟩ | ⟨v,q1,q2⟩
 ·rw [q] at hb; cases hb
 rw [q2] at hb
 cases hb
 have ca := eff1_congr (E := E) (ops := ops) (o := a) (s := t) (s' := Eff.app { val := v } b.dst t) (fun x hx => by rw [put_val]; exact ht0 _ _ _ _ (fun hd => h2 x hd hx)) (fun id _ => by rw [put_val,hm0])
 refine ⟨_,q1,ca.1.trans ha,ca.2.1,ca.2.2,?_⟩
 rw [happ,happ,put_val,put_val,put_wrote,put_comm]
 intro x y hx hy e
 subst e
 exact h1 x (by simp [hy]) (by simp [hx])
theorem swap_wrB {E : Env} {ops : Array Oper} {a b : Oper} {t : AS} {ea eb : Eff} {k : Tag} {i : Nat} {vs : List AV} (hO : ownCall E (ea.app a.dst t).tmps b = false) (ha : eff1 E ops a t = some ea) (hbe : besideWrite a = true) (hb : eff1 E ops b (ea.app a.dst t) = some eb)
  (hwr : eb.wr = some (k,i,vs)) (hw : WrOk (ea.app a.dst t).tmps b eb) (h1 : ∀ x ∈ a.dst.toList,x ∉ readsOf ops b ++ b.dst.toList) (h2 : ∀ x ∈ b.dst.toList,x ∉ readsOf ops a) :
  eff1 E ops b t = some eb ∧ keysR t.tmps b = keysR (ea.app a.dst t).tmps b ∧ keysW t.tmps b = keysW (ea.app a.dst t).tmps b ∧
  ∃ ea',eff1 E ops a (eb.app b.dst t) = some ea' ∧ ea'.app a.dst (eb.app b.dst t) = eb.app b.dst (ea.app a.dst t) := by
 have happ := wr_app (eff1_pre hO hb) hwr hw
 have hm0 : ∀ (s : AS) d v,(AS.put s d v).mem = s.mem := by intro s d v; cases d <;> rfl
 have ht0 : ∀ (s : AS) d v (x : Nat),x ∉ d.toList → (AS.put s d v).tmps[x]? = s.tmps[x]? := by
  intro s d v x hx
  cases d with
  | none => rfl
  | some d => exact set_get_ne (by simpa using hx)
 rcases beside_wrote (E := E) (ops := ops) hbe t k i vs with ⟨q,_⟩ | ⟨v,q1,q2⟩
 ·rw [q] at ha; cases ha
 rw [q1] at ha
 cases ha
 have cb := eff1_congr (E := E) (ops := ops) (o := b) (s := Eff.app { val := v } a.dst t) (s' := t) (fun x hx => by rw [put_val]; exact (ht0 _ _ _ _ (fun hd => h1 x hd (List.mem_append_left _ hx))).symm) (fun id _ => by rw [put_val,hm0])
 refine ⟨cb.1.trans hb,cb.2.1,cb.2.2,{ val := v.wrote k i vs },?_,?_⟩
 ·rw [happ]
  refine (eff1_congr (E := E) (ops := ops) (o := a) (s := t.wrote k i vs) (fun x hx => ht0 _ _ _ _ (fun hd => h2 x hd hx)) (fun id _ => by rw [hm0])).1.trans q2
 ·rw [happ,happ,put_val,put_val,put_wrote,put_comm]
  intro x y hx hy e
  subst e
  exact h1 x (by simp [hy]) (by simp [hx])
end Go.Ev
set_option linter.unusedVariables false
set_option linter.unusedSimpArgs false
namespace Go.Ev
open Go
def Run (E : Env) (ops : Array Oper) : List (Nat × FP) → AS → AS → Prop
 | [],s,s' => s = s'
 |(i,f) :: r,s,s' => ∃ s1,step1 E ops i s = some s1 ∧ fpOf E ops i s = f ∧ Run E ops r s1 s'
theorem evTr_run {E : Env} {ops : Array Oper} : ∀ (l : List Nat) {s s' : AS} {fps : List FP},evTr E ops l s = some (s',fps) → fps.length = l.length ∧ Run E ops (l.zip fps) s s'
 | [],s,s',fps,h => by
  simp only [evTr,Option.some.injEq,Prod.mk.injEq] at h
  obtain ⟨rfl,rfl⟩ := h
  exact ⟨rfl,rfl⟩
 | i :: l,s,s',fps,h => by
  simp only [evTr] at h
  cases h1 : step1 E ops i s with
  | none => simp [h1] at h
  | some s1 =>
   simp only [h1] at h
   cases h2 : evTr E ops l s1 with
   | none => simp [h2] at h
   | some p =>
    obtain ⟨s2,fs⟩ := p
    simp only [h2,Option.some.injEq,Prod.mk.injEq] at h
    obtain ⟨rfl,rfl⟩ := h
    obtain ⟨k1,k2⟩ := evTr_run l h2
    exact ⟨by simp [k1],s1,h1,rfl,k2⟩
def Swp (ops : Array Oper) (x y : Nat × FP) : Prop := ∃ a b,ops[x.1]? = some a ∧ ops[y.1]? = some b ∧ swaps ops a b x.2 y.2 = true
theorem step_of {E : Env} {ops : Array Oper} {i : Nat} {o : Oper} (ho : ops[i]? = some o) {s : AS} {e : Eff} (h : eff1 E ops o s = some e) : step1 E ops i s = some (e.app o.dst s) := by
 rw [step1_eff ho,h]; rfl
theorem kW_sub {E : Env} {ts : List AV} {o : Oper} {x : Nat} {r : List Nat} (h : x ∈ keysW ts o) : x ∈ wOf o (r,fpW E ts o) := by
 unfold wOf fpW
 cases hl : isLoad o with
 | true =>
  obtain ⟨dst,op,oty,pos,after,guard⟩ := o
  cases op <;> first | (simp [isLoad] at hl; done) | (simp [keysW] at h; done)
 | false =>
  have hl2 : loadAgg E.ty o = false := by
   obtain ⟨dst,op,oty,pos,after,guard⟩ := o
   cases op <;> first | (simp [isLoad] at hl; done) | rfl
  rw [hl2]
  cases ownCall E ts o
  ·exact h
  ·exact List.mem_cons_of_mem _ h
theorem flat_retag (k : Tag) (c : AV) : (c.retag k).flat = c.flat := by
 cases c <;> try rfl
 case sl sz xs st =>
  cases st <;> try rfl
  ·rename_i k'
   by_cases e : k' = k
   ·simp only [AV.retag,if_pos e]; rfl
   ·simp only [AV.retag,if_neg e]
  ·rename_i k' lo
   by_cases e : k' = k
   ·simp only [AV.retag,if_pos e]; rfl
   ·simp only [AV.retag,if_neg e]
 case wp k' i e =>
  by_cases e : k' = k
  ·simp only [AV.retag,if_pos e]; rfl
  ·simp only [AV.retag,if_neg e]
theorem beside_load {E : Env} {ops : Array Oper} {b : Oper} (hb : isLoad b = true) (hl : loadAgg E.ty b = true) (k : Tag) {t : AS} {e' : Eff} (h : eff1 E ops b (t.retag k) = some e') :
  eff1 E ops b t = some e' ∧ ∃ v,e' = { val := v } ∧ v.retag k = v := by
 unfold eff1 at h ⊢
 have hw := want_retag ops k t.tmps b
 simp only [AS.retag] at h
 rw [hw] at h
 cases hq : wantA ops t.tmps b with
 | none => rw [hq] at h; cases h
 | some bb =>
  rw [hq] at h
  cases bb with
  | false => cases h; exact ⟨rfl,_,rfl,rfl⟩
  | true =>
   simp only at h ⊢
   obtain ⟨dst,op,oty,pos,after,guard⟩ := b
   cases op <;> try (simp [isLoad] at hb; done)
   rename_i ty_ x
   simp only [effOf] at h ⊢
   cases ht : E.ty ty_ with
   | none => simp [ht] at h
   | some ti =>
    simp only [loadAgg,ht] at hl
    simp only [ht,opv_retag] at h ⊢
    have el : ∀ {e : AV} {r : Eff},(bif fits ti e then some ({ val := e } : Eff) else none) = some r → ∃ v,r = { val := v } ∧ v.retag k = v := by
     intro e r hr
     cases hf : fits ti e <;> rw [hf] at hr <;> simp only [cond_true,cond_false] at hr
     ·cases hr
     ·cases hr
      refine ⟨_,rfl,?_⟩
      cases e <;> first | rfl | (simp [fits,hl] at hf; done)
    generalize opv t.tmps x = v at h ⊢
    cases v <;> try (cases h; done)
    case ptr id off =>
     simp only [AV.retag,look_retag] at h ⊢
     cases hm : look t.mem id with
     | none => simp [hm] at h
     | some cs =>
      simp only [hm,Option.map_some,hl,if_true] at h ⊢
      have e1 : ((cs.map (AV.retag k)).drop off).take ti.size = ((cs.drop off).take ti.size).map (AV.retag k) := by rw [← List.map_drop,← List.map_take]
      have e2 : (((cs.drop off).take ti.size).map (AV.retag k)).map AV.flat = ((cs.drop off).take ti.size).map AV.flat := by
       rw [List.map_map]
       refine List.map_congr_left fun c _ => ?_
       exact flat_retag k c
      rw [e1,List.length_map,e2] at h
      cases hz : ((cs.drop off).take ti.size).length == ti.size <;> rw [hz] at h <;> simp only [cond_true,cond_false] at h
      ·cases h
      ·cases h
       exact ⟨by simp only [hz,cond_true],_,rfl,rfl⟩
    case ro e => exact ⟨h,el h⟩
    case sl sz xs st =>
     cases st <;> try (cases h; done)
     ·rename_i k'
      by_cases e : k' = k
      ·simp only [AV.retag,if_pos e] at h; cases h
      ·simp only [AV.retag,if_neg e] at h; cases h
     ·rename_i k' lo
      by_cases e : k' = k
      ·simp only [AV.retag,if_pos e] at h; cases h
      ·simp only [AV.retag,if_neg e] at h; cases h
    case wp k' i e =>
     by_cases e : k' = k
     ·simp only [AV.retag,if_pos e] at h; exact ⟨h,el h⟩
     ·simp only [AV.retag,if_neg e] at h; exact ⟨h,el h⟩
theorem load_shape {E : Env} {ops : Array Oper} {b : Oper} (hb : isLoad b = true) {t : AS} {e : Eff} (h : eff1 E ops b t = some e) : ∃ v,e = { val := v } := by
 unfold eff1 at h
 split at h
 ·obtain ⟨dst,op,oty,pos,after,guard⟩ := b
  cases op <;> try (simp [isLoad] at hb; done)
  rename_i ty_ x _
  simp only [effOf] at h
  cases ht : E.ty ty_ with
  | none => simp [ht] at h
  | some ti =>
  simp only [ht] at h
  split at h
  ·split at h
   ·cases hb : ((List.take ti.size (List.drop (_ : Nat) (_ : List AV))).length == ti.size) <;> rw [hb] at h <;> simp only [cond_true,cond_false] at h
    ·cases h
    ·split at h
     ·cases h; exact ⟨_,rfl⟩
     ·cases hs : ti.size == 1 <;> rw [hs] at h <;> simp only [cond_true,cond_false] at h
      ·cases h
      ·cases h; exact ⟨_,rfl⟩
   ·cases h
  ·rename_i el hel
   cases hf : fits ti el <;> rw [hf] at h <;> simp only [cond_true,cond_false] at h
   ·cases h
   ·cases h; exact ⟨_,rfl⟩
  ·rename_i kk ii el hel
   cases hf : fits ti el <;> rw [hf] at h <;> simp only [cond_true,cond_false] at h
   ·cases h
   ·cases h; exact ⟨_,rfl⟩
  ·cases h
 ·cases h; exact ⟨_,rfl⟩
 ·cases h
theorem own_shape {E : Env} {ops : Array Oper} {a : Oper} {t : AS} (hO : ownCall E t.tmps a = true) (hk : keysW t.tmps a = []) {ea : Eff} (ha : eff1 E ops a t = some ea) :
  ea.upd = [] ∧ ea.ins = none ∧ ea.rt = none ∧ ea.wr = none := by
 unfold eff1 at ha
 cases hq : wantA ops t.tmps a with
 | none => rw [hq] at ha; cases ha
 | some bb =>
 rw [hq] at ha
 cases bb with
 | false => cases ha; exact ⟨rfl,rfl,rfl,rfl⟩
 | true =>
  simp only at ha
  obtain ⟨dst,op,oty,pos,after,guard⟩ := a
  cases op <;> try (simp [ownCall] at hO; done)
  rename_i c
  obtain ⟨callee,args,argTypes⟩ := c
  cases callee <;> try (simp [ownCall] at hO; done)
  rename_i f
  simp only [ownCall] at hO
  simp only [keysW] at hk
  simp only [effOf] at ha
  generalize opv t.tmps f = v at hO hk ha
  cases v <;> try (simp at hO; done)
  rename_i g cap
  simp only [Bool.and_eq_true] at hO
  simp only [hO.1,cond_true] at ha
  cases hs : E.specO g with
  | none => rw [hs] at hO; simp at hO
  | some sp =>
   simp only [hs,callO,hk] at ha
   split at ha
   ·unfold effV at ha
    split at ha
    ·cases ha; exact ⟨rfl,rfl,rfl,rfl⟩
    ·cases ha; exact ⟨rfl,rfl,rfl,rfl⟩
    ·cases ha
   ·cases ha
theorem swap_own {E : Env} {ops : Array Oper} {a b : Oper} {t : AS} {ea eb : Eff} (ha : eff1 E ops a t = some ea) (sh : ea.upd = [] ∧ ea.ins = none ∧ ea.rt = none ∧ ea.wr = none) (hbe : isLoad b = true) (hl : loadAgg E.ty b = true)
  (hb : eff1 E ops b (ea.app a.dst t) = some eb)
  (h1 : ∀ x ∈ a.dst.toList,x ∉ readsOf ops b ++ b.dst.toList) (h2 : ∀ x ∈ b.dst.toList,x ∉ readsOf ops a) :
  eff1 E ops b t = some eb ∧ keysR t.tmps b = keysR (ea.app a.dst t).tmps b ∧
  eff1 E ops a (eb.app b.dst t) = some ea ∧ keysR (eb.app b.dst t).tmps a = keysR t.tmps a ∧ keysW (eb.app b.dst t).tmps a = keysW t.tmps a ∧ ownCall E (eb.app b.dst t).tmps a = ownCall E t.tmps a ∧
  ea.app a.dst (eb.app b.dst t) = eb.app b.dst (ea.app a.dst t) := by
 obtain ⟨s1,s2,s3,s4⟩ := sh
 have happ : ∀ s : AS,ea.app a.dst s = Eff.app { val := ea.val } a.dst (match ea.pre with | some k => s.retag k | none => s) := by
  intro s
  obtain ⟨v,u,i,r,x,p⟩ := ea
  simp only at s1 s2 s3 s4
  subst s1 s2 s3 s4
  cases p <;> rfl
 have hra0 : (Eff.mk ea.val [] none none none none).still := ⟨rfl,rfl,rfl⟩
 have hbt : ∀ s : AS,eff1 E ops b (Eff.app { val := ea.val } a.dst s) = eff1 E ops b s ∧ keysR (Eff.app { val := ea.val } a.dst s).tmps b = keysR s.tmps b := fun s => by
  have c := eff1_congr (E := E) (ops := ops) (o := b) (s := s) (s' := Eff.app { val := ea.val } a.dst s) (fun x hx => app_get hra0 _ (fun hd => h1 x hd (List.mem_append_left _ hx))) (fun id _ => by rw [app_mem hra0]; rfl)
  exact ⟨c.1,c.2.1⟩
 have hkr : ∀ k : Tag,keysR (t.retag k).tmps b = keysR t.tmps b := fun k => by
  obtain ⟨dst,op,oty,pos,after,guard⟩ := b
  cases op <;> try (simp [isLoad] at hbe; done)
  rename_i ty_ x
  simp only [keysR,AS.retag,opv_retag]
  generalize opv t.tmps x = v
  cases v <;> try rfl
  case sl sz xs st =>
   cases st <;> try rfl
   ·rename_i k'
    by_cases e : k' = k
    ·simp only [AV.retag,if_pos e]
    ·simp only [AV.retag,if_neg e]
   ·rename_i k' lo
    by_cases e : k' = k
    ·simp only [AV.retag,if_pos e]
    ·simp only [AV.retag,if_neg e]
  case wp k' i e =>
   by_cases e : k' = k
   ·simp only [AV.retag,if_pos e]
   ·simp only [AV.retag,if_neg e]
 have key : eff1 E ops b t = some eb ∧ (∃ v,eb = { val := v } ∧ ∀ k,ea.pre = some k → v.retag k = v) ∧ keysR t.tmps b = keysR (ea.app a.dst t).tmps b := by
  rw [happ] at hb ⊢
  rw [(hbt _).1] at hb
  rw [(hbt _).2]
  cases hp : ea.pre with
  | some k =>
   rw [hp] at hb
   obtain ⟨q1,v,q2,q3⟩ := beside_load hbe hl k hb
   exact ⟨q1,⟨v,q2,fun k' e => by cases e; exact q3⟩,(hkr k).symm⟩
  | none =>
   rw [hp] at hb
   refine ⟨hb,?_,rfl⟩
   have hb0 : eff1 E ops b t = some eb := hb
   have : ∃ v,eb = { val := v } := load_shape hbe hb0
   obtain ⟨v,hv⟩ := this
   exact ⟨v,hv,fun k e => by cases e⟩
 obtain ⟨k1,⟨v,rfl,k2⟩,k3⟩ := key
 have hst : (Eff.mk v [] none none none none).still := ⟨rfl,rfl,rfl⟩
 have ca := eff1_congr (E := E) (ops := ops) (o := a) (s := t) (s' := Eff.app { val := v } b.dst t) (fun x hx => app_get hst t (fun hd => h2 x hd hx)) (fun id _ => by rw [app_mem hst]; rfl)
 have co := own_congr (E := E) (ops := ops) (o := a) (s := t) (s' := Eff.app { val := v } b.dst t) (fun x hx => app_get hst t (fun hd => h2 x hd hx))
 refine ⟨k1,k3,ca.1.trans ha,ca.2.1,ca.2.2,co,?_⟩
 rw [happ,happ]
 have hc : (match ea.pre with | some k => (Eff.app { val := v } b.dst t).retag k | none => Eff.app { val := v } b.dst t) = Eff.app { val := v } b.dst (match ea.pre with | some k => t.retag k | none => t) := by
  cases hp : ea.pre with
  | none => rfl
  | some k =>
   have := put_retag k b.dst v t
   rw [k2 k hp] at this
   exact this
 rw [hc]
 rw [put_val,put_val,put_val,put_val,put_comm]
 intro x y hx hy e
 subst e
 exact h1 x (by simp [hy]) (by simp [hx])
theorem run_swap {E : Env} (hZ : ZeroOk E.ty) {ops : Array Oper} {x y : Nat × FP} {r : List (Nat × FP)} {s s' : AS} (h : Swp ops x y) (hr : Run E ops (x :: y :: r) s s') : Run E ops (y :: x :: r) s s' := by
 obtain ⟨i,f⟩ := x
 obtain ⟨j,g⟩ := y
 obtain ⟨a,b,ha,hb,hs⟩ := h
 simp only at ha hb hs
 obtain ⟨s1,h1,f1,s2,h2,f2,hr⟩ := hr
 rw [step1_eff ha,Option.map_eq_some_iff] at h1
 obtain ⟨ea,hea,rfl⟩ := h1
 rw [step1_eff hb,Option.map_eq_some_iff] at h2
 obtain ⟨eb,heb,rfl⟩ := h2
 simp only [fpOf,ha] at f1
 simp only [fpOf,hb] at f2
 subst f1 f2
 simp only [swaps,Bool.and_eq_true,disj_iff,Bool.or_eq_true,Bool.not_eq_true'] at hs
 obtain ⟨⟨⟨⟨⟨⟨⟨⟨⟨k1,k2⟩,k3⟩,k4⟩,k5⟩,k6⟩,k7⟩,k8⟩,k9⟩,k10⟩ := hs
 have hOb : ownCall E (ea.app a.dst s).tmps b = false := by
  cases hq : ownCall E (ea.app a.dst s).tmps b with
  | false => rfl
  | true =>
   cases hl : loadAgg E.ty b with
   | true =>
    obtain ⟨dst,op,oty,pos,after,guard⟩ := b
    cases op <;> first | (simp [loadAgg] at hl; done) | (simp [ownCall] at hq; done)
   | false => rw [fpW,hq,hl] at k10; simp at k10
 have k3 : ∀ x ∈ keysR s.tmps a ++ keysW s.tmps a,x ∉ keysW (ea.app a.dst s).tmps b := fun x hx hy =>
  k3 x (by
   rcases List.mem_append.1 hx with hx | hx
   ·exact List.mem_append_left _ hx
   ·exact List.mem_append_right _ (kW_sub hx)) (kW_sub hy)
 have k4 : ∀ x ∈ keysW s.tmps a,x ∉ keysR (ea.app a.dst s).tmps b := fun x hx => k4 x (kW_sub hx)
 have sub : ∀ {ts : List AV} {o : Oper} {n : Nat} {r : List Nat},(wOf o (r,fpW E ts o)).contains n = false → (keysW ts o).contains n = false := fun {ts o n r} h => by
  cases hc : (keysW ts o).contains n with
  | false => rfl
  | true =>
   have := kW_sub (E := E) (r := r) (List.contains_iff_mem.1 hc)
   rw [← List.contains_iff_mem,h] at this; cases this
 have k7 : (keysW s.tmps a).contains wkey = false ∨ besideWrite b = true := k7.imp sub id
 have k8 : (keysW (ea.app a.dst s).tmps b).contains wkey = false ∨ besideWrite a = true := k8.imp sub id
 cases hOa : ownCall E s.tmps a with
 | true =>
  have hla : loadAgg E.ty a = false := by
   cases hl : loadAgg E.ty a with
   | false => rfl
   | true =>
    obtain ⟨dst,op,oty,pos,after,guard⟩ := a
    cases op <;> first | (simp [loadAgg] at hl; done) | (simp [ownCall] at hOa; done)
  rcases k9 with k9 | ⟨⟨k9,k9b⟩,k9c⟩
  ·rw [fpW,hla,hOa] at k9; simp at k9
  ·have hkW : keysW s.tmps a = [] := by rw [fpW,hla,hOa] at k9; simpa using k9
   have hlb : loadAgg E.ty b = true := by
    cases hl : loadAgg E.ty b with
    | true => rfl
    | false =>
     rw [fpW,hl,hOb] at k9c
     obtain ⟨dst,op,oty,pos,after,guard⟩ := b
     cases op <;> first | (simp [isLoad] at k9b; done) | (simp [keysW] at k9c; done)
   obtain ⟨q1,q2,q4,q5,q6,q7,q8⟩ := swap_own hea (own_shape hOa hkW hea) k9b hlb heb k1 k2
   refine ⟨_,step_of hb q1,?_,_,step_of ha q4,?_,?_⟩
   ·simp only [fpOf,hb,q2,fpW,hlb,cond_true]
   ·simp only [fpOf,ha,fpW,q5,q6,q7]
   ·rw [q8]; exact hr
 | false =>
  have hrb : eb.rt = none := (eff1_keys hOb heb).2.2.1 k5
  cases hra : ea.rt with
  | none =>
   cases hwa : ea.wr with
   | some kx =>
    obtain ⟨kk,ii,vv⟩ := kx
    have hw : WrOk s.tmps a ea := by
     rcases (eff1_keys hOa hea).2.2.2 with h | h
     ·rw [hwa] at h; cases h
     ·exact h
    have hbe : besideWrite b = true := by
     rcases k7 with h | h
     ·have hc := hw.key
      rw [← List.contains_iff_mem,h] at hc; cases hc
     ·exact h
    have o1 := wr_own (E := E) hea (.inl (by rw [hwa]; simp))
    obtain ⟨eb',q1,q2,q3,q4,q5⟩ := swap_wrA hOa hea hwa hw hbe heb k1 k2
    refine ⟨_,step_of hb q1,?_,_,step_of ha q2,?_,?_⟩
    ·simp only [fpOf,fpW,hb,(beside_keys2 hbe _).1,(beside_keys2 hbe _).2,beside_own2 hbe,cond_false]
    ·simp only [fpOf,fpW,ha,q3,q4,o1,cond_false]
    ·rw [q5]; exact hr
   | none =>
    cases hwb : eb.wr with
    | some kx =>
     obtain ⟨kk,ii,vv⟩ := kx
     have hw : WrOk (ea.app a.dst s).tmps b eb := by
      rcases (eff1_keys hOb heb).2.2.2 with h | h
      ·rw [hwb] at h; cases h
      ·exact h
     have hbe : besideWrite a = true := by
      rcases k8 with h | h
      ·have hc := hw.key
       rw [← List.contains_iff_mem,h] at hc; cases hc
      ·exact h
     have o1 := wr_own (E := E) heb (.inl (by rw [hwb]; simp))
     obtain ⟨q1,q2,q3,ea',q4,q5⟩ := swap_wrB hOb hea hbe heb hwb hw k1 k2
     refine ⟨_,step_of hb q1,?_,_,step_of ha q4,?_,?_⟩
     ·simp only [fpOf,fpW,hb,q2,q3,o1,cond_false]
     ·simp only [fpOf,fpW,ha,(beside_keys2 hbe _).1,(beside_keys2 hbe _).2,beside_own2 hbe,cond_false]
     ·rw [q5]; exact hr
    | none =>
     have sa : ea.still := ⟨hra,hwa,eff1_pre hOa hea⟩
     have sb : eb.still := ⟨hrb,hwb,eff1_pre hOb heb⟩
     obtain ⟨o1,o2⟩ := plain_own (E := E) (t := s) sa sb k1 k2
     obtain ⟨q1,q2,q3,q4,q5,q6,q7⟩ := swap_plain hOa hOb hea sa heb sb k1 k2 k3 k4
     refine ⟨_,step_of hb q1,?_,_,step_of ha q4,?_,?_⟩
     ·simp only [fpOf,fpW,hb,q2,q3,o1,hOb,cond_false]
     ·simp only [fpOf,fpW,ha,q5,q6,o2,hOa,cond_false]
     ·rw [q7]; exact hr
  | some k =>
   have hbe : besideAppend b = true := by
    rcases k6 with h | h
    ·rw [(eff1_keys hOa hea).2.2.1 h] at hra; cases hra
    ·exact h
   have o1 := wr_own (E := E) hea (.inr (by rw [hra]; simp))
   obtain ⟨eb',q1,q2,q3,q4,q5,q6,q7⟩ := swap_app hZ hOa hea hra hbe heb k1 k2 k3
   refine ⟨_,step_of hb q1,?_,_,step_of ha q4,?_,?_⟩
   ·simp only [fpOf,fpW,hb,q2,q3,beside_own hbe,cond_false]
   ·simp only [fpOf,fpW,ha,q5,q6,o1,cond_false]
   ·rw [q7]; exact hr
theorem run_move {E : Env} (hZ : ZeroOk E.ty) {ops : Array Oper} {y : Nat × FP} {r : List (Nat × FP)} {s' : AS} : ∀ (l : List (Nat × FP)) {s : AS},(∀ x ∈ l,Swp ops x y) → Run E ops (l ++ y :: r) s s' → Run E ops (y :: (l ++ r)) s s'
 | [],s,_,h => h
 | x :: l,s,hs,h => by
  obtain ⟨i,f⟩ := x
  obtain ⟨s1,h1,f1,h2⟩ := h
  have := run_move hZ l (fun z hz => hs z (List.mem_cons_of_mem _ hz)) h2
  exact run_swap hZ (hs _ (by simp)) ⟨s1,h1,f1,this⟩
theorem binds_any (e : Edge) : Region.binds .any e = binding e := by
 unfold Region.binds binding
 cases e.ground <;> rfl
theorem not_ahead {ops : Array Oper} {listed : Array Bool} {j : Nat} (hj : listed.getD j false = false)
  (hc : ∀ (i : Nat) o,ops[i]? = some o → listed.getD i false = true → ∀ e ∈ o.after,binding e = true → listed.getD e.on false = true) :
  ∀ (n i : Nat),(∀ o,ops[i]? = some o → ∀ e ∈ o.after,binding e = true → listed.getD e.on false = true) → ahead ops j n i = false
 | 0,i,_ => rfl
 | n + 1,i,h => by
  simp only [ahead]
  cases ho : ops[i]? with
  | none => rfl
  | some o =>
   simp only
   rw [Array.any_eq_false']
   intro e he
   cases hb : binding e with
   | false => simp
   | true =>
    have hl := h o ho e he hb
    have h1 : (e.on == j) = false := by
     apply Bool.eq_false_iff.2
     intro hq
     rw [beq_iff_eq] at hq
     rw [hq,hj] at hl; cases hl
    have h2 := not_ahead hj hc n e.on (fun o' ho' => hc e.on o' ho' hl)
    simp [h1,h2]
theorem step_wpOp {P E} (hE : EnvOk P E) {B G s a w} (h : Sim B G s a w) (hB : B.Ok) {ops : Array Oper} {i : Nat} {s' : AS} (hs : step1 E ops i s = some s') (hk : ∀ k,(ops[i]?).bind makes = some k → G.τ k = none)
  {Q : Exit → Act → World → Prop} {K : Act → World → Prop} (hK : ∀ G' a' w',Sim B G' s' a' w' → TauLe G G' ((ops[i]?).bind makes) → K a' w') : wpOp P ops Q i K a w := by
 unfold wpOp
 unfold step1 at hs
 cases ho : ops[i]? with
 | none =>
  simp only [ho] at hs ⊢
  cases hs
  exact hK G a w h (TauLe.refl _ _)
 | some o =>
  simp only [ho] at hs ⊢
  rw [ho] at hk hK
  split at hs
  ·rename_i hw
   rw [want_ok h hw]
   simp only [if_true]
   exact .inl ((op_ok hE h hB o hk hs).wp hK)
  ·rename_i hw
   rw [want_ok h hw]
   simp only [Bool.false_eq_true,if_false]
   cases hs
   exact hK G _ w (h.put o.dst (.of RepV_tup0)) (TauLe.refl _ _)
  ·cases hs
theorem getD_both {l : Array Bool} {i : Nat} (h : i < l.size) (a b : Bool) : l.getD i a = l.getD i b := by
 simp [Array.getD,h]
theorem any_wp {P E} (hE : EnvOk P E) (hZ : ZeroOk E.ty) {B} (hB : B.Ok) {ops : Array Oper} {Q : Exit → Act → World → Prop} {s' : AS} (hQ : ∀ G' a' w',Sim B G' s' a' w' → Q .normal a' w')
  (hed : ∀ (i : Nat) o,ops[i]? = some o → ∀ e ∈ o.after,binding e = true → e.on < i) :
  ∀ (l : List (Nat × FP)) (n : Nat) (listed : Array Bool) {G s a w},Sim B G s a w → Run E ops l s s' → l.length = n → (l.map (·.1)).Pairwise (· < ·) → listed.size = ops.size →
   (∀ i,i < ops.size → (listed.getD i false = false ↔ i ∈ l.map (·.1))) → (∀ x ∈ l,x.1 < ops.size) →
   (∀ (i : Nat) o,ops[i]? = some o → listed.getD i false = true → ∀ e ∈ o.after,binding e = true → listed.getD e.on false = true) →
   (∀ x ∈ l,∀ y ∈ l,x.1 < y.1 → ahead ops x.1 ops.size y.1 = true ∨ Swp ops x y) →
   (l.filterMap fun x => (ops[x.1]?).bind makes).Nodup → (∀ x ∈ l,∀ k,(ops[x.1]?).bind makes = some k → G.τ k = none) →
   wpAny P .any ops Q n listed a w := by
 intro l n
 induction n generalizing l with
 | zero =>
  intro listed G s a w h hr hn hp hsz hl hlt hc hsw hnd hτ
  have hl0 : l = [] := List.eq_nil_of_length_eq_zero hn
  subst hl0
  cases hr
  refine ⟨?_,hQ G a w h⟩
  unfold Region.ready
  rw [List.filter_eq_nil_iff]
  intro i hi
  have hi := List.mem_range.1 hi
  have : listed.getD i true = true := by
   rw [getD_both (hsz ▸ hi) true false]
   cases hq : listed.getD i false with
   | true => rfl
   | false => exact absurd ((hl i hi).1 hq) (by simp)
  simp only [this,Bool.not_true,Bool.false_and,Bool.false_eq_true,not_false_eq_true]
 | succ n ih =>
  intro listed G s a w h hr hn hp hsz hl hlt hc hsw hnd hτ
  refine ⟨fun hnil => ?_,fun i hi => ?_⟩
  ·exfalso
   cases l with
   | nil => simp at hn
   | cons x r =>
    have hx := hlt x (by simp)
    have : x.1 ∈ Region.ready .any ops listed := by
     unfold Region.ready
     refine List.mem_filter.2 ⟨List.mem_range.2 hx,?_⟩
     have h1 : listed.getD x.1 true = false := by rw [getD_both (hsz ▸ hx) true false]; exact (hl x.1 hx).2 (by simp)
     rw [h1,Array.getElem?_eq_getElem hx]
     simp only [Bool.not_false,Bool.true_and,Option.map_some,Option.getD_some,Array.all_eq_true']
     intro e he
     rw [binds_any]
     cases hb : binding e with
     | false => rfl
     | true =>
      have hlt1 := hed x.1 _ (Array.getElem?_eq_getElem hx) e he hb
      simp only [Bool.not_true,Bool.false_or]
      cases hq : listed.getD e.on false with
      | true => rfl
      | false =>
       have hm := (hl e.on (by omega)).1 hq
       simp only [List.map_cons,List.mem_cons] at hm
       rcases hm with hm | hm
       ·omega
       ·simp only [List.map_cons,List.pairwise_cons] at hp
        have := hp.1 _ hm
        omega
    rw [hnil] at this
    cases this
  ·unfold Region.ready at hi
   obtain ⟨hir,hi2⟩ := List.mem_filter.1 hi
   have hin := List.mem_range.1 hir
   simp only [Bool.and_eq_true,Bool.not_eq_true'] at hi2
   obtain ⟨hi3,hi4⟩ := hi2
   rw [getD_both (hsz ▸ hin) true false] at hi3
   have hi5 : ∀ o,ops[i]? = some o → ∀ e ∈ o.after,binding e = true → listed.getD e.on false = true := by
    intro o ho e he hb
    rw [ho] at hi4
    simp only [Option.map_some,Option.getD_some,Array.all_eq_true'] at hi4
    have := hi4 e he
    rw [binds_any,hb] at this
    simpa using this
   obtain ⟨⟨i',g⟩,hmem,rfl⟩ := List.mem_map.1 ((hl i hin).1 hi3)
   obtain ⟨l1,l2,rfl⟩ := List.append_of_mem hmem
   simp only at hi3 hi5 hin hi4 hir
   rw [List.map_append,List.map_cons,List.pairwise_append] at hp
   obtain ⟨hp1,hp2,hp3⟩ := hp
   rw [List.pairwise_cons] at hp2
   have hlt1 : ∀ x ∈ l1,x.1 < i' := fun x hx => hp3 x.1 (List.mem_map_of_mem hx) i' (by simp)
   have hmv := run_move hZ l1 (fun x hx => by
    have hxl := hlt x (by simp [hx])
    rcases hsw x (by simp [hx]) (i',g) (by simp) (hlt1 x hx) with h1 | h1
    ·rw [not_ahead ((hl x.1 hxl).2 (List.mem_map_of_mem (by simp [hx]))) hc _ _ hi5] at h1; cases h1
    ·exact h1) hr
   obtain ⟨s1,q1,_,q2⟩ := hmv
   refine step_wpOp hE h hB q1 (hτ _ hmem) fun G' a' w' h' hT => ?_
   have hsub : ∀ x,x ∈ l1 ++ l2 → x ∈ l1 ++ (i',g) :: l2 := fun x hx => by
    rcases List.mem_append.1 hx with h | h <;> simp [h]
   have hnot : i' ∉ (l1 ++ l2).map (·.1) := by
    intro hm
    rw [List.map_append,List.mem_append] at hm
    rcases hm with hm | hm
    ·obtain ⟨x,hx,e⟩ := List.mem_map.1 hm
     have := hlt1 x hx
     omega
    ·have := hp2.1 _ hm
     omega
   refine ih (l1 ++ l2) _ h' q2 (by simp at hn ⊢; omega) ?_ (by simp [hsz]) ?_ (fun x hx => hlt x (hsub x hx)) ?_ (fun x hx y hy => hsw x (hsub x hx) y (hsub y hy)) ?_ ?_
   ·rw [List.map_append,List.pairwise_append]
    exact ⟨hp1,hp2.2,fun x hx y hy => hp3 x hx y (List.mem_cons_of_mem _ hy)⟩
   ·intro k hk
    by_cases e : k = i'
    ·subst e
     have : (listed.setIfInBounds k true).getD k false = true := by simp [Array.getD,hsz,hk]
     rw [this]
     simp only [Bool.true_eq_false,false_iff]
     exact hnot
    ·have : (listed.setIfInBounds i' true).getD k false = listed.getD k false := by
      simp [Array.getD,hsz,hk,Array.getElem_setIfInBounds,Ne.symm e]
     rw [this,hl k hk]
     simp [e]
   ·intro k o ho hk e he hb
    have mono : ∀ m,listed.getD m false = true → (listed.setIfInBounds i' true).getD m false = true := by
     intro m hm
     simp only [Array.getD_eq_getD_getElem?,Array.getElem?_setIfInBounds] at hm ⊢
     by_cases h1 : i' = m
     ·subst h1
      simp [hsz,hin]
     ·rw [if_neg h1]; exact hm
    by_cases ek : k = i'
    ·subst ek
     exact mono _ (hi5 o ho e he hb)
    ·refine mono _ (hc k o ho ?_ e he hb)
     have hks : k < ops.size := (Array.getElem?_eq_some_iff.1 ho).1
     have : (listed.setIfInBounds i' true).getD k false = listed.getD k false := by
      simp [Array.getD,hsz,hks,Array.getElem_setIfInBounds,Ne.symm ek]
     rw [← this]; exact hk
   ·rw [List.filterMap_append] at hnd ⊢
    rw [List.filterMap_cons] at hnd
    split at hnd
    ·exact hnd
    ·rw [List.nodup_append] at hnd ⊢
     exact ⟨hnd.1,(List.nodup_cons.1 hnd.2.1).2,fun x hx y hy => hnd.2.2 x hx y (List.mem_cons_of_mem _ hy)⟩
   ·intro x hx k hk
    cases hg : G'.τ k with
    | none => rfl
    | some v =>
     rcases hT k v hg with h1 | h1
     ·exfalso
      rw [List.filterMap_append,List.filterMap_cons] at hnd
      have h1' : (ops[((i',g) : Nat × FP).1]?).bind makes = some k := h1
      rw [h1'] at hnd
      rw [List.nodup_append] at hnd
      rcases List.mem_append.1 hx with hx | hx
      ·exact hnd.2.2 k (List.mem_filterMap.2 ⟨x,hx,hk⟩) k (by simp) rfl
      ·exact (List.nodup_cons.1 hnd.2.1).1 (List.mem_filterMap.2 ⟨x,hx,hk⟩)
     ·exact absurd (hτ x (hsub x hx) k hk) h1
end Go.Ev
set_option linter.unusedVariables false
set_option linter.unusedSimpArgs false
namespace Go.Ev
open Go
def Gh.clean (fr m : List Nat) (G : Gh) : Gh :=
 { S := G.S,β := fun i => if keepsKey m i then G.β i else none,τ := fun k => match k with | [d,1] => if fr.contains d then G.τ [d] else G.τ [d,1] | [] => G.τ [] | _ => none }
theorem clean_τ {fr m : List Nat} {G : Gh} {k : Tag} {x} (h : (G.clean fr m).τ k = some x) : (k = [] ∧ G.τ [] = some x) ∨ ∃ d,k = [d,1] ∧ G.τ (if fr.contains d then [d] else [d,1]) = some x := by
 simp only [Gh.clean] at h
 split at h
 ·rename_i d
  refine .inr ⟨d,rfl,?_⟩
  by_cases e : fr.contains d = true
  ·rw [if_pos e] at h ⊢; exact h
  ·rw [if_neg e] at h ⊢; exact h
 ·exact .inl ⟨rfl,h⟩
 ·cases h
def ownTag (k : Tag) : AV → Bool
 | .sl _ _ (.own k') => k' == k
 | _ => false
theorem RepT.kept {G w a v} (fr m : List Nat) (h : RepT G w a v) (hf : ∀ d,ownTag [d] a = true → d ∈ fr) : RepT (G.clean fr m) w (a.kept fr m) v := by
 have triv : ∀ (a : AV),(∀ (β β' : Nat → Option Nat),RepV G.S w β a v → RepV G.S w β' a v) → RepV G.S w G.β a v → RepT (G.clean fr m) w a v := fun a h1 h3 => .of (h1 G.β _ h3)
 cases a
 case unk => exact .of (.unk v)
 case int k n => exact triv _ (fun _ _ h => by cases h; exact .int _ _) h
 case bool b => exact triv _ (fun _ _ h => by cases h; exact .bool _) h
 case str s => exact triv _ (fun _ _ h => by cases h; exact .str _) h
 case agg cs => exact triv _ (fun _ _ h => by cases h with | agg h1 h2 => exact .agg h1 h2) h
 case tup cs => exact triv _ (fun _ _ h => by cases h with | tup h1 => exact .tup h1) h
 case ptr id off =>
  simp only [AV.kept]
  split
  ·rename_i hc
   refine .of ?_
   have h : RepV G.S w G.β (.ptr id off) v := h
   cases h with
   | ptr hb => exact .ptr (by simp only [Gh.clean,if_pos hc]; exact hb)
  ·exact .of (.unk v)
 case nilp => exact triv _ (fun _ _ h => by cases h; exact .nilp) h
 case ro e => exact triv _ (fun _ _ h => by cases h with | ro h1 h2 => exact .ro h1 h2) h
 case sl sz xs st =>
  cases st with
  | nil => exact triv _ (fun _ _ h => by cases h; exact .slNil) h
  | full => exact triv _ (fun _ _ h => by cases h with | slFull h1 h2 => exact .slFull h1 h2 | slFullNil => exact .slFullNil) h
  | sh => exact triv _ (fun _ _ h => by cases h with | slSh c h1 h2 h3 => exact .slSh c h1 h2 h3 | slShNil => exact .slShNil) h
  | own k =>
   have hsh : RepT (G.clean fr m) w (.sl sz xs .sh) v := by
    have h0 := h.share
    simp only [AV.share] at h0
    refine .of ?_
    cases h0 with
    | slSh c h1 h2 h3 => exact .slSh c h1 h2 h3
    | slShNil => exact .slShNil
   have hown : ∀ k',(G.clean fr m).τ k' = G.τ k → RepT (G.clean fr m) w (.sl sz xs (.own k')) v := by
    intro k' e
    obtain ⟨g,cap,vs,rfl,hr,hd,ht,hl⟩ := h
    exact ⟨g,cap,vs,rfl,hr,hd,e.trans ht,hl⟩
   simp only [AV.kept]
   split
   ·rename_i heq
    cases heq
   ·rename_i heq; cases heq
   ·rename_i heq; cases heq
   ·rename_i sz' xs' d heq
    cases heq
    refine hown _ ?_
    have : fr.contains d = true := List.contains_iff_mem.2 (hf d (by simp [ownTag]))
    simp only [Gh.clean,if_pos this]
   ·rename_i sz' xs' d heq
    cases heq
    split
    ·exact hsh
    ·rename_i hn
     refine hown _ ?_
     simp only [Gh.clean,if_neg hn]
   ·rename_i heq; cases heq
    exact hown [] rfl
   ·rename_i heq; cases heq
    exact hsh
   ·rename_i heq; cases heq
   ·rename_i heq; cases heq
   ·rename_i hne _ _
    exact absurd rfl (hne _ _ _)
  | win k lo =>
   have h0 := h.share
   simp only [AV.share] at h0
   refine .of ?_
   cases h0 with
   | slSh c h1 h2 h3 => exact .slSh c h1 h2 h3
   | slShNil => exact .slShNil
 case wp k i e =>
  have h0 := h.share
  simp only [AV.share] at h0
  refine .of ?_
  cases h0 with
  | ro h1 h2 => exact .ro h1 h2
 case view id off n =>
  simp only [AV.kept]
  split
  ·rename_i hc
   refine .of ?_
   have h : RepV G.S w G.β (.view id off n) v := h
   cases h with
   | view cap hb hl => exact .view cap (by simp only [Gh.clean,if_pos hc]; exact hb) hl
  ·exact .of (.unk v)
 case fn f cap =>
  obtain ⟨us,rfl,hu⟩ := h.fn_inv
  refine .of (.fn (RepL.of_get (by simp [hu.length]) fun i c v hc hv => ?_))
  simp only [List.getElem?_map,Option.map_eq_some_iff] at hc
  obtain ⟨c0,hc,rfl⟩ := hc
  obtain ⟨v',h1,h2⟩ := hu.get hc
  rw [h1] at hv; cases hv
  cases c0 <;> try exact h2.loose
  rename_i id off
  simp only [AV.keptC]
  split
  ·rename_i hk
   cases h2 with
   | ptr hb => exact .ptr (by simp only [Gh.clean,if_pos hk]; exact hb)
  ·exact .unk _
 case niliface => exact triv _ (fun _ _ h => by cases h; exact .niliface) h
 case nilfn => exact triv _ (fun _ _ h => by cases h; exact .nilfn) h
theorem look_filter (m : List Nat) (mm : Mem) (i : Nat) : look (mm.filter fun p => keepsKey m p.1) i = if keepsKey m i then look mm i else none := by
 induction mm with
 | nil => simp [look]
 | cons p r ih =>
  obtain ⟨j,c⟩ := p
  simp only [List.filter_cons]
  by_cases hj : keepsKey m j = true
  ·rw [if_pos hj]
   simp only [look,ih]
   split
   ·rename_i e
    have e : j = i := by simpa using e
    subst e
    rw [if_pos hj]
   ·rfl
  ·rw [if_neg hj,ih]
   simp only [look]
   split
   ·rename_i hi
    split
    ·rename_i e
     have e : j = i := by simpa using e
     subst e
     exact absurd hi hj
    ·rfl
   ·rfl
theorem pickT_get (l : List Nat) : ∀ (ts : List AV) (k i : Nat),(pickT l k ts)[i]? = (ts[i]?).map fun v => if l.contains (k + i) then v else .unk
 | [],k,i => by simp [pickT]
 | v :: r,k,0 => by simp [pickT]
 | v :: r,k,i + 1 => by
  simp only [pickT,List.getElem?_cons_succ,pickT_get l r (k + 1) i]
  rw [show k + 1 + i = k + (i + 1) by omega]
theorem mem_fresh {d : Nat} : ∀ {l : List AV} {a : AV},a ∈ l → ownTag [d] a = true → d ∈ freshOf l
 | x :: r,a,h,ht => by
  rcases List.mem_cons.1 h with rfl | h
  ·cases a <;> try (simp [ownTag] at ht; done)
   rename_i sz xs st
   cases st <;> try (simp [ownTag] at ht; done)
   rename_i k
   have : k = [d] := by simpa [ownTag] using ht
   subst this
   simp [freshOf]
  ·have := mem_fresh h ht
   unfold freshOf
   split
   ·cases ‹x :: r = []›
   ·rename_i e; cases e; exact List.mem_cons_of_mem _ this
   ·rename_i e; cases e; exact this
theorem Sim.clean {B G s a w} (h : Sim B G s a w) (hB : B.Ok) (l m : List Nat) : ∃ G',Sim B G' (s.clean l m) a w := by
 let ts := pickT l 0 s.tmps
 let mm := s.mem.filter fun p => keepsKey m p.1
 let fr := freshOf ts ++ mm.flatMap fun p => freshOf p.2
 refine ⟨G.clean fr m,?_,?_,fun i => ?_,h.defers⟩
 ·have hi := h.inv
  constructor
  ·exact hi.size
  ·exact hi.os
  ·exact hi.tape
  ·exact hi.output
  ·exact hi.old
  ·exact hi.S0
  ·exact hi.Snew
  ·exact hi.Slt
  ·intro i j b h1 h2
   simp only [Gh.clean] at h1 h2
   split at h1
   ·split at h2
    ·exact hi.βinj i j b h1 h2
    ·cases h2
   ·cases h1
  ·intro i b o h1
   simp only [Gh.clean] at h1 ⊢
   split at h1
   ·exact hi.βS i b o h1
   ·cases h1
  ·intro i b h1
   simp only [Gh.clean] at h1
   split at h1
   ·exact hi.βnew i b h1
   ·cases h1
  ·intro i hl
   simp only [AS.clean,look_map,Option.map_eq_none_iff,look_filter] at hl
   simp only [Gh.clean]
   split
   ·rename_i hc
    rw [if_pos hc] at hl
    exact hi.dom i hl
   ·rfl
  ·intro i cs hl
   simp only [AS.clean,look_map,Option.map_eq_some_iff] at hl
   obtain ⟨cs0,hl,rfl⟩ := hl
   have hl0 := hl
   rw [look_filter] at hl
   split at hl
   ·rename_i hc
    obtain ⟨b,vs,t,h1,h2,h3,h4,h5⟩ := hi.mem i cs0 hl
    refine ⟨b,vs,t,by simp only [Gh.clean,if_pos hc]; exact h1,h2,by simp [h3],fun j c v hcj hv => ?_,h5⟩
    simp only [List.getElem?_map,Option.map_eq_some_iff] at hcj
    obtain ⟨c0,hcj,rfl⟩ := hcj
    refine (h4 j c0 v hcj hv).kept fr m fun d hd => ?_
    refine List.mem_append_right _ (List.mem_flatMap.2 ⟨(i,cs0),look_mem hl0,mem_fresh (List.mem_of_getElem? hcj) hd⟩)
   ·cases hl
  ·intro k g e l' hk
   rcases clean_τ hk with ⟨rfl,hk'⟩ | ⟨d,rfl,hk'⟩
   ·obtain ⟨h1,h2,h3,h4⟩ := hi.τ _ g e l' hk'
    refine ⟨h1,fun i hb => ?_,h3,h4⟩
    simp only [Gh.clean] at hb
    split at hb
    ·exact h2 i hb
    ·cases hb
   ·obtain ⟨h1,h2,h3,h4⟩ := hi.τ _ g e l' hk'
    have h1 : B.New [d,1] g e := by
     rcases h1 with h1 | ⟨h1,_⟩
     ·exact .inl h1
     ·split at h1 <;> cases h1
    refine ⟨h1,fun i hb => ?_,h3,h4⟩
    simp only [Gh.clean] at hb
    split at hb
    ·exact h2 i hb
    ·cases hb
  ·intro k k' g e l1 e' l2 h1 h2
   have nil2 : ∀ {d : Nat} {x y : Nat × Nat × Nat},x.1 = y.1 → G.τ [] = some x → G.τ (if fr.contains d then [d] else [d,1]) = some y → False := fun {d x y} hxy q1 q2 => by
    obtain ⟨x1,x2,x3⟩ := x
    obtain ⟨y1,y2,y3⟩ := y
    have hxy : x1 = y1 := hxy
    subst hxy
    have := hi.τinj _ _ x1 x2 x3 y2 y3 q1 q2
    split at this <;> cases this
   rcases clean_τ h1 with ⟨rfl,q1⟩ | ⟨d,rfl,q1⟩ <;> rcases clean_τ h2 with ⟨rfl,q2⟩ | ⟨d',rfl,q2⟩
   ·rfl
   ·exact (nil2 (x := (g,e,l1)) (y := (g,e',l2)) rfl q1 q2).elim
   ·exact (nil2 (x := (g,e',l2)) (y := (g,e,l1)) rfl q2 q1).elim
   have := hi.τinj _ _ g e l1 e' l2 q1 q2
   by_cases a1 : fr.contains d = true <;> by_cases a2 : fr.contains d' = true
   ·rw [if_pos a1,if_pos a2] at this; simp at this; rw [this]
   ·rw [if_pos a1,if_neg a2] at this; simp at this
   ·rw [if_neg a1,if_pos a2] at this; simp at this
   ·rw [if_neg a1,if_neg a2] at this; simp at this; rw [this]
  ·intro i b hb
   have : keepsKey m i = true := by
    have h1 : Nat.ble 1000 i = true := by rw [Nat.ble_eq]; exact hB.b0 i b hb
    simp only [keepsKey,h1,Bool.true_or]
   simp only [Gh.clean,if_pos this]
   exact hi.β0 i b hb
  ·exact hi.fro
  ·exact hi.owk
  ·intro b e hb i h1
   simp only [Gh.clean] at h1
   split at h1
   ·exact hi.owβ b e hb i h1
   ·cases h1
  ·exact hi.owS
 ·simp only [AS.clean,List.length_map]
  rw [← h.len]
  have : ∀ (ts : List AV) k,(pickT l k ts).length = ts.length := by
   intro ts
   induction ts with
   | nil => intro k; rfl
   | cons v r ih => intro k; simp [pickT,ih]
  exact this _ _
 ·have := h.tmps i
  simp only [AS.clean,List.getD_eq_getElem?_getD,List.getElem?_map,pickT_get] at this ⊢
  cases hx : s.tmps[i]? with
  | none => simp only [Option.map_none,Option.getD_none]; exact .of (.unk _)
  | some c =>
   simp only [hx,Option.map_some,Option.getD_some] at this ⊢
   split
   ·rename_i hc
    refine this.kept fr m fun d hd => ?_
    refine List.mem_append_left _ (mem_fresh (a := c) (List.mem_of_getElem? (i := i) ?_) hd)
    show (pickT l 0 s.tmps)[i]? = some c
    rw [pickT_get,hx,Option.map_some,if_pos hc]
   ·exact .of (.unk _)
theorem evCode_wp {P E} (hE : EnvOk P E) (hZ : ZeroOk E.ty) (hm : P.follows .mixedOrders = true) {B} (hB : B.Ok) : ∀ (c : Code) {G s a w} {r : Ex} {s' : AS},Sim B G s a w → ev E c s = some (r,s') →
  c.wp P (fun e a' w' => e = r.of ∧ ∃ G',Sim B G' s' a' w') a w := by
 intro c
 induction c with
 | skip =>
  intro G s a w r s' h he
  simp only [ev,Option.some.injEq,Prod.mk.injEq] at he
  obtain ⟨rfl,rfl⟩ := he
  exact wp_skip ⟨rfl,G,h⟩
 | label l =>
  intro G s a w r s' h he
  simp only [ev,Option.some.injEq,Prod.mk.injEq] at he
  obtain ⟨rfl,rfl⟩ := he
  exact wp_label ⟨rfl,G,h⟩
 | exit id =>
  intro G s a w r s' h he
  simp only [ev,Option.some.injEq,Prod.mk.injEq] at he
  obtain ⟨rfl,rfl⟩ := he
  exact wp_exit ⟨rfl,G,h⟩
 | ret =>
  intro G s a w r s' h he
  simp only [ev,Option.some.injEq,Prod.mk.injEq] at he
  obtain ⟨rfl,rfl⟩ := he
  exact wp_ret ⟨rfl,G,h⟩
 | region rid ops draw =>
  intro G s a w r s' h he
  cases draw with
  | false =>
   simp only [ev,cond_false,Option.map_eq_some_iff] at he
   obtain ⟨s1,he,hq⟩ := he
   cases hq
   exact wp_region (evSeq_wp hE hB (fun G' a' w' h' => ⟨rfl,G',h'⟩) _ h he)
  | true =>
   simp only [ev,cond_true] at he
   cases ht : evTr E ops (List.range ops.size) s with
   | none => simp [ht] at he
   | some p =>
    obtain ⟨s1,fps⟩ := p
    simp only [ht] at he
    cases hd2 : drawOk2 ops s fps <;> rw [hd2] at he <;> simp only [cond_true,cond_false] at he
    ·cases he
    cases he
    obtain ⟨hl,hr⟩ := evTr_run _ ht
    have hd := drawOk_of hd2
    simp only [drawOk,Bool.and_eq_true] at hd
    obtain ⟨⟨⟨d1,d2⟩,d3⟩,d4⟩ := hd
    have hdrop : ∃ G1,Sim B G1 s a w ∧ ∀ (i : Nat) k,(ops[i]?).bind makes = some k → G1.τ k = none := by
     have key : ∀ (ks : List Tag) (G : Gh),Sim B G s a w → (∀ k ∈ ks,s.noTag k = true) → ∃ G1,Sim B G1 s a w ∧ (∀ k ∈ ks,G1.τ k = none) := by
      intro ks
      induction ks with
      | nil => intro G h _; exact ⟨G,h,fun k hk => by cases hk⟩
      | cons k ks ih =>
       intro G h hk
       obtain ⟨G1,h1,h2⟩ := ih G h (fun k' hk' => hk k' (List.mem_cons_of_mem _ hk'))
       refine ⟨G1.drop k,h1.drop (hk k (by simp)),fun k' hk' => ?_⟩
       simp only [Gh.drop]
       split
       ·rfl
       ·rename_i hne
        rcases List.mem_cons.1 hk' with e | e
        ·exact absurd e hne
        ·exact h2 k' e
     obtain ⟨G1,h1,h2⟩ := key (ops.toList.filterMap makes) G h (fun k hk => by
      obtain ⟨o,ho,hmk⟩ := List.mem_filterMap.1 hk
      rw [Array.all_eq_true'] at d4
      have := d4 o (by simpa using ho)
      rw [hmk] at this
      exact this)
     refine ⟨G1,h1,fun i k hk => h2 k ?_⟩
     obtain ⟨o,ho,hmk⟩ := Option.bind_eq_some_iff.1 hk
     exact List.mem_filterMap.2 ⟨o,by simpa using Array.mem_of_getElem? ho,hmk⟩
    obtain ⟨G1,h1,hτ⟩ := hdrop
    have hfst : ((List.range ops.size).zip fps).map (·.1) = List.range ops.size := by
     rw [List.map_fst_zip]; omega
    refine wp_region_any hm (any_wp hE hZ hB (s' := s') (fun G' a' w' h' => ⟨rfl,G',h'⟩) ?_ ((List.range ops.size).zip fps) ops.size _ h1.drew hr ?_ ?_ (by simp) ?_ ?_ ?_ ?_ ?_ ?_)
    ·intro i o ho e he hb
     simp only [edgesOk,List.all_eq_true] at d1
     have := d1 i (List.mem_range.2 (Array.getElem?_eq_some_iff.1 ho).1)
     rw [ho] at this
     simp only [Array.all_eq_true'] at this
     have := this e he
     rw [hb] at this
     simp at this
     omega
    ·simp [hl]
    ·rw [hfst]; exact List.pairwise_lt_range
    ·intro i hi
     rw [hfst]
     simp [Array.getD,hi]
    ·intro x hx
     have := (List.of_mem_zip (a := x.1) (b := x.2) hx).1
     exact List.mem_range.1 this
    ·intro i o ho hl'
     exfalso
     simp only [Array.getD_eq_getD_getElem?,Array.getElem?_replicate] at hl'
     split at hl' <;> simp at hl'
    ·intro x hx y hy hlt
     have hget : ∀ x ∈ (List.range ops.size).zip fps,x.1 < ops.size ∧ fps.getD x.1 ([],[]) = x.2 := by
      intro x hx
      obtain ⟨n,hn⟩ := List.getElem?_of_mem hx
      rw [List.getElem?_zip_eq_some] at hn
      obtain ⟨n1,n2⟩ := hn
      rw [List.getElem?_eq_some_iff] at n1
      obtain ⟨n3,n4⟩ := n1
      simp at n3 n4
      rw [← n4,List.getD_eq_getElem?_getD,n2]
      exact ⟨n3,rfl⟩
     obtain ⟨x1,x2⟩ := hget x hx
     obtain ⟨y1,y2⟩ := hget y hy
     rw [List.all_eq_true] at d3
     have := d3 y.1 (List.mem_range.2 y1)
     rw [List.all_eq_true] at this
     have := this x.1 (List.mem_range.2 hlt)
     rw [Bool.or_eq_true] at this
     rcases this with h | h
     ·exact .inl h
     ·refine .inr ⟨ops[x.1],ops[y.1],Array.getElem?_eq_getElem x1,Array.getElem?_eq_getElem y1,?_⟩
      rw [Array.getElem?_eq_getElem x1,Array.getElem?_eq_getElem y1] at h
      simp only [x2,y2] at h
      exact h
    ·have e : (List.range ops.size).map (fun i => (ops[i]?).bind makes) = ops.toList.map makes := by
      apply List.ext_getElem?
      intro i
      simp only [List.getElem?_map,List.getElem?_range',Array.getElem?_toList]
      by_cases hi : i < ops.size
      ·simp [hi]
      ·simp [hi]
     have e2 : ((List.range ops.size).zip fps).filterMap (fun x => (ops[x.1]?).bind makes) = ops.toList.filterMap makes := by
      rw [show (fun x : Nat × FP => (ops[x.1]?).bind makes) = (fun i => (ops[i]?).bind makes) ∘ (·.1) from rfl,← List.filterMap_map,hfst]
      have h1 : (List.range ops.size).filterMap (fun i => (ops[i]?).bind makes) = ((List.range ops.size).map (fun i => (ops[i]?).bind makes)).filterMap id := by
       rw [List.filterMap_map]; rfl
      have h2 : ops.toList.filterMap makes = (ops.toList.map makes).filterMap id := by rw [List.filterMap_map]; rfl
      rw [h1,h2,e]
     rw [e2]
     simpa [makesOk] using d2
    ·intro x hx k hk
     exact hτ x.1 k hk
 | seq x y ihx ihy =>
  intro G s a w r s' h he
  simp only [ev] at he
  cases hx : ev E x s with
  | none => simp [hx] at he
  | some p =>
   obtain ⟨r1,s1⟩ := p
   simp only [hx] at he
   refine wp_seq (wp_mono (ihx h hx) ?_)
   rintro e a1 w1 ⟨rfl,G1,h1⟩
   cases r1 with
   | normal => exact ihy h1 he
   | exit id => cases he; exact ⟨rfl,G1,h1⟩
   | ret => cases he; exact ⟨rfl,G1,h1⟩
 | cond c x y ihx ihy =>
  intro G s a w r s' h he
  simp only [ev] at he
  have hc := h.opv c
  split at he
  ·rename_i t ht
   rw [ht] at hc
   have e := RepT.bool_inv hc
   cases t with
   | true => exact wp_cond_true e (ihx h he)
   | false => exact wp_cond_false e (ihy h he)
  ·cases he
 | block id c ih =>
  intro G s a w r s' h he
  simp only [ev] at he
  cases hx : ev E c s with
  | none => simp [hx] at he
  | some p =>
   obtain ⟨r1,s1⟩ := p
   simp only [hx] at he
   refine wp_block (wp_mono (ih h hx) ?_)
   rintro e a1 w1 ⟨rfl,G1,h1⟩
   cases r1 with
   | normal => cases he; exact ⟨rfl,G1,h1⟩
   | ret => cases he; exact ⟨rfl,G1,h1⟩
   | exit id' =>
    cases he
    simp only [Ex.of,Exit.inBlock]
    split
    ·exact ⟨rfl,G1,h1⟩
    ·exact ⟨rfl,G1,h1⟩
 | scope c ih =>
  intro G s a w r s' h he
  simp only [ev] at he
  refine wp_scope_straight (wp_mono (ih h he) ?_)
  rintro e a1 w1 ⟨rfl,G1,h1⟩
  cases r <;> exact ⟨rfl,G1,h1⟩
 | loop c ih =>
  intro G s a w r s' h he
  simp only [ev] at he
  have key : ∀ (cl : AS → AS),(∀ {G s a w},Sim B G s a w → ∃ G',Sim B G' (cl s) a w) → ∀ n {G s a w r s'},Sim B G s a w → loopN (ev E c) cl n s = some (r,s') →
    ∀ (b : Frame) (k : List Item) (cs : List Frame),∃ e a' w',(e = r.of ∧ ∃ G',Sim B G' s' a' w') ∧ Arrives P (lone (b.at a (.code c :: .inLoop c :: k)) cs w) b k cs e a' w' := by
   intro cl hcl
   intro n
   induction n with
   | zero => intro G s a w r s' _ h; cases h
   | succ n ihn =>
    intro G s a w r s' h he b k cs
    simp only [loopN] at he
    obtain ⟨G1,h1⟩ := hcl h
    cases hx : ev E c (cl s) with
    | none => simp [hx] at he
    | some p =>
     obtain ⟨r1,s1⟩ := p
     simp only [hx] at he
     obtain ⟨e,a2,w2,⟨rfl,G2,h2⟩,harr⟩ := ih h1 hx b (.inLoop c :: k) cs
     cases r1 with
     | normal =>
      obtain ⟨e3,a3,w3,hq,harr3⟩ := ihn h2 he b k cs
      exact ⟨e3,a3,w3,hq,.of_steps (Steps.trans harr (.one step_inLoop)) harr3⟩
     | exit id =>
      cases he
      exact ⟨_,a2,w2,⟨rfl,G2,h2⟩,.pass (x := .inLoop c) rfl (fun _ _ => .inl (by simp [Ex.of])) harr⟩
     | ret =>
      cases he
      exact ⟨_,a2,w2,⟨rfl,G2,h2⟩,.pass (x := .inLoop c) rfl (fun _ _ => .inl (by simp [Ex.of])) harr⟩
  intro b k cs
  obtain ⟨r0,he0,hr0⟩ := Option.map_eq_some_iff.1 he
  obtain ⟨r1,s1⟩ := r0
  simp only [Prod.mk.injEq] at hr0
  obtain ⟨rfl,hs1⟩ := hr0
  have out : ∀ {e a' w'},(e = r1.of ∧ ∃ G',Sim B G' s1 a' w') → (e = r1.of ∧ ∃ G',Sim B G' s' a' w') := by
   rintro e a' w' ⟨h1,G',h2⟩
   refine ⟨h1,?_⟩
   rw [← hs1]
   cases hk : E.keep (firstKey c + 500) with
   | none => exact ⟨G',h2⟩
   | some p => obtain ⟨l,m⟩ := p; exact h2.clean hB l m
  replace he := he0
  obtain ⟨e,a',w',hq,harr⟩ : ∃ e a' w',(e = r1.of ∧ ∃ G',Sim B G' s1 a' w') ∧ Arrives P (lone (b.at a (.code c :: .inLoop c :: k)) cs w) b k cs e a' w' := by
   cases hk : E.keep (firstKey c) with
   | none =>
    rw [hk] at he
    exact key _ (fun h => ⟨_,h⟩) _ h he b k cs
   | some p =>
    obtain ⟨l,m⟩ := p
    rw [hk] at he
    exact key _ (fun h => h.clean hB l m) _ h he b k cs
  exact ⟨e,a',w',out hq,.of_steps (.one step_loop) harr⟩
 | _ =>
  intro G s a w r s' h he
  simp [ev] at he
end Go.Ev
