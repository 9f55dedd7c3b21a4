import Derived.Test.YtdcijmigoefnjaaEv2
import Derived.ProofKit
set_option linter.unusedVariables false
set_option linter.unusedSimpArgs false
namespace Go.Ev
open Go
def resRun (tmps : Array Value) : ResultVar → Sem Value
 | .tmp t => pure (tmps.getD t undef)
 | .cell a t => do loadVar t (← asAddr (tmps.getD a undef))
theorem res_one {P ty} (hT : TyOk P ty) {B G s a w} (h : Sim B G s a w) {rv : ResultVar} {c : AV} (hr : resA ty s rv = some c) : ∃ v,(resRun a.tmps rv).run P w = .ok v w ∧ RepT G w c v := by
 cases rv with
 | tmp t =>
  simp only [resA,Option.some.injEq] at hr
  subst hr
  exact ⟨_,rfl,h.tmps t⟩
 | cell ad t =>
  simp only [resA] at hr
  cases ht : ty t with
  | none => simp [ht] at hr
  | some ti =>
  simp only [ht] at hr
  have hx := h.tmps ad
  generalize s.tmps.getD ad .unk = x at hr hx
  cases x <;> try (cases hr; done)
  rename_i id off
  simp only at hr
  cases hl : look s.mem id with
  | none => simp [hl] at hr
  | some cs =>
  simp only [hl] at hr
  cases hb : (((cs.drop off).take ti.size).length == ti.size) <;> rw [hb] at hr <;> simp only [cond_true,cond_false] at hr
  ·cases hr
  have hr' : (∃ id' off' cs,AV.ptr id off = .ptr id' off' ∧ look s.mem id' = some cs ∧ ((cs.drop off').take ti.size).length = ti.size ∧
   ((ti.td.agg = true ∧ c = .agg (((cs.drop off').take ti.size).map AV.flat)) ∨ (ti.td.agg = false ∧ ti.size = 1 ∧ c = ((cs.drop off').take ti.size).headD .unk))) ∨ (AV.ptr id off = .ro c ∧ fits ti c = true) := by
   refine .inl ⟨id,off,cs,rfl,hl,by simpa using hb,?_⟩
   cases ha : ti.td.agg with
   | true => rw [ha] at hr; simp only [if_true,Option.some.injEq] at hr; exact .inl ⟨rfl,hr.symm⟩
   | false =>
    rw [ha] at hr
    simp only [Bool.false_eq_true,if_false] at hr
    cases hs : ti.size == 1 <;> rw [hs] at hr <;> simp only [cond_true,cond_false] at hr
    ·cases hr
    ·cases hr; exact .inr ⟨rfl,by simpa using hs,rfl⟩
  obtain ⟨v,h1,h2⟩ := load_ok (P := P) hT h ht hx hr'
  obtain ⟨b,hβ,e⟩ := hx.ptr_inv
  refine ⟨v,?_,h2⟩
  rw [e] at h1
  simp only [resRun,e]
  simpa [Instr.loadAt,Instr.sureAddr,asAddr] using h1
theorem resAll_ok {P ty} (hT : TyOk P ty) {B G s a w} (h : Sim B G s a w) : ∀ {l : List ResultVar} {cs : List AV},resAll ty s l = some cs →
  ∃ us : List Value,(l.mapM (resRun a.tmps)).run P w = .ok us w ∧ cs.length = us.length ∧ ∀ (j : Nat) c v,cs[j]? = some c → us[j]? = some v → RepT G w c v
 | [],cs,hr => by
  simp only [resAll,Option.some.injEq] at hr
  subst hr
  exact ⟨[],by simp,rfl,fun j c v hc => by simp at hc⟩
 | r :: rs,cs,hr => by
  simp only [resAll] at hr
  cases h1 : resA ty s r with
  | none => simp [h1] at hr
  | some c =>
  cases h2 : resAll ty s rs with
  | none => simp [h1,h2] at hr
  | some cs' =>
  simp only [h1,h2,Option.some.injEq] at hr
  subst hr
  obtain ⟨v,k1,k2⟩ := res_one hT h h1
  obtain ⟨us,k3,k4,k5⟩ := resAll_ok hT h h2
  refine ⟨v :: us,by simp [List.mapM_cons,k1,k3],by simp [k4],fun j c' v' hc hv => ?_⟩
  cases j with
  | zero => simp at hc hv; subst hc hv; exact k2
  | succ j => exact k5 j c' v' (by simpa using hc) (by simpa using hv)
def resOf : List Value → Value
 | [v] => v
 | us => .tuple us.toArray
theorem results_run {P : Program} {fn : Func} {tmps : Array Value} {w : World} {us : List Value} (h : (fn.results.toList.mapM (resRun tmps)).run P w = .ok us w) :
  (results fn tmps).run P w = .ok (resOf us) w := by
 have e : fn.results.mapM (resRun tmps) = List.toArray <$> fn.results.toList.mapM (resRun tmps) := Array.mapM_eq_mapM_toList
 have e2 : results fn tmps = (do let vs ← fn.results.mapM (resRun tmps); pure (if h : vs.size = 1 then vs[0] else .tuple vs)) := by
  unfold results
  congr 1
 rw [e2,e]
 simp only [Sem.run_bind,Sem.run_map,h,Result.andThen_ok]
 rcases us with _ | ⟨v,_ | ⟨v2,us⟩⟩ <;> rfl
theorem flat_notOwn (v : AV) : ∀ sz xs k,v.flat ≠ .sl sz xs (.own k) := by
 intro sz xs k
 cases v <;> try (simp [AV.flat]; done)
 case sl st => cases st <;> simp [AV.flat]
 case fn f cap => cases cap <;> simp [AV.flat]
theorem RepRes_flat {S w w' r v} (h : RepV S w' (fun _ => none) r v) : RepRes S w w' r v := by
 unfold RepRes
 split
 ·cases h
 ·exact h
theorem ret_ok {B G s a w} (h : Sim B G s a w) {c : AV} {v : Value} (hc : RepT G w c v) : RepRes G.S B.w0 w c.ret v := by
 have other : RepRes G.S B.w0 w c.flat v := RepRes_flat hc.flat
 cases c <;> try exact other
 rename_i sz xs st
 cases st <;> try exact other
 rename_i k
 obtain ⟨g,cap,vs,rfl,hr,hd,ht,hl⟩ := hc
 obtain ⟨h1,h2,⟨us,t,h3,h4⟩,h5⟩ := h.inv.τ k g _ _ ht
 cases k with
 | nil => exact RepRes_flat (.slSh cap hr hd hl)
 | cons k0 ks =>
  have h1 : B.w0.heap.size ≤ g := by
   rcases h1 with h1 | ⟨h1,_⟩
   ·exact h1
   ·cases h1
  exact ⟨g,cap,vs,us,t,h1,rfl,hr,hd,hl,h3,h4,h5⟩
theorem out_ok {B G s a w} (h : Sim B G s a w) {cs : List AV} {us : List Value} (hl : cs.length = us.length) (hc : ∀ (j : Nat) c v,cs[j]? = some c → us[j]? = some v → RepT G w c v) :
  RepRes G.S B.w0 w (outA cs) (resOf us) := by
 have tup : RepRes G.S B.w0 w (.tup (cs.map AV.flat)) (.tuple us.toArray) := by
  refine RepRes_flat (.tup (RepL.of_get (by simp [hl]) fun i c v h1 h2 => ?_))
  simp only [List.getElem?_map,Option.map_eq_some_iff] at h1
  obtain ⟨c0,h1,rfl⟩ := h1
  exact (hc i c0 v h1 h2).flat
 match cs,us,hl with
 | [],[],_ => exact tup
 | [c],[v],_ => exact ret_ok h (hc 0 c v rfl rfl)
 | _ :: _ :: _,_ :: _ :: _,_ => exact tup
theorem look_passed : ∀ (ps : List (List AV)) (k i : Nat),look (passedMem k ps) i = if k ≤ i then ps[i - k]? else none
 | [],k,i => by simp [passedMem,look]
 | cs :: r,k,i => by
  simp only [passedMem,look,look_passed r (k + 1) i]
  by_cases e : k = i
  ·subst e; simp
  ·rw [if_neg e]
   by_cases h : k ≤ i
   ·have h2 : k + 1 ≤ i := by omega
    rw [if_pos h2,if_pos h,show i - k = (i - (k + 1)) + 1 by omega,List.getElem?_cons_succ]
   ·rw [if_neg h,if_neg (by omega)]
theorem passedBack_ok {m : Mem} : ∀ {n k : Nat} {l : List (List AV)},passedBack m k n = some l → l.length = n ∧ ∀ (j : Nat) cs,l[j]? = some cs → ∃ cs0,look m (k + j) = some cs0 ∧ cs = cs0.map AV.flat
 | 0,k,l,h => by
  simp only [passedBack,Option.some.injEq] at h
  subst h
  exact ⟨rfl,fun j cs h => by simp at h⟩
 | n + 1,k,l,h => by
  simp only [passedBack] at h
  cases h1 : look m k with
  | none => simp [h1] at h
  | some cs =>
  cases h2 : passedBack m (k + 1) n with
  | none => simp [h1,h2] at h
  | some l' =>
  simp only [h1,h2,Option.some.injEq] at h
  subst h
  obtain ⟨k1,k2⟩ := passedBack_ok h2
  refine ⟨by simp [k1],fun j cs' hc => ?_⟩
  cases j with
  | zero => simp at hc; subst hc; exact ⟨cs,h1,rfl⟩
  | succ j =>
   obtain ⟨cs0,q1,q2⟩ := k2 j cs' (by simpa using hc)
   exact ⟨cs0,by rw [show k + (j + 1) = k + 1 + j by omega]; exact q1,q2⟩
theorem runF_ok {P E} (hE : EnvOk P E) (hZ : ZeroOk E.ty) (hm : P.follows .mixedOrders = true) {f : FuncId} {fn : Func} (hf : P.funcs[f]? = some fn) (hn : (fn.name == "runtime.NumGoroutine") = false)
  {args : List AV} {passed : List (List AV)} {r : AV} {passed' : List (List AV)} (h : runF E fn args passed = some (r,passed')) : CallsA P f args passed r passed' := by
 unfold runF at h
 cases hb : fn.body with
 | none => simp [hb] at h
 | some c =>
 simp only [hb] at h
 refine ⟨⟨fn,hf,by rw [hb]; rfl,hn⟩,fun w S β vs hp hv => ?_⟩
 cases he : ev E c (enterA fn args passed) with
 | none => simp [he] at h
 | some q =>
 obtain ⟨ex,s'⟩ := q
 simp only [he] at h
 let B : Base := { w0 := w,S0 := S,Wr := fun b => ∃ i,β i = some b,β0 := β }
 let G : Gh := { S := S,β := β,τ := fun _ => none }
 have hB : B.Ok := by
  refine ⟨hp.lt,fun g o hs ⟨i,hi⟩ => hp.avoid i g o hi hs,fun g ⟨i,hi⟩ => ?_,fun i b hi => ?_⟩
  ·obtain ⟨j,hj,rfl⟩ := hp.dom i g hi
   obtain ⟨b,us,t,h1,h2,_⟩ := hp.mem j _ (List.getElem?_eq_getElem hj)
   rw [hi] at h1; cases h1
   exact h2.lt
  ·obtain ⟨j,hj,rfl⟩ := hp.dom i b hi
   omega
 have hal : args.length = vs.length := hv.length
 have hS : Sim B G (enterA fn args passed) { tmps := vs.toArray ++ Array.replicate (fn.ntmps - vs.toArray.size) undef,defers := [] } w := by
  refine ⟨?_,by simp [enterA,hal],fun i => ?_,rfl⟩
  ·constructor
   ·exact Nat.le_refl _
   ·rfl
   ·rfl
   ·rfl
   ·exact fun b _ _ _ => rfl
   ·exact fun _ _ h => h
   ·exact fun _ _ h => .inl h
   ·exact hp.lt
   ·exact hp.inj
   ·exact hp.avoid
   ·exact fun i b hi => .inr ⟨i,hi⟩
   ·intro i hi
    show β i = none
    cases hq : β i with
    | none => rfl
    | some b =>
     obtain ⟨j,hj,rfl⟩ := hp.dom i b hq
     simp only [enterA,look_passed] at hi
     rw [if_pos (by omega),Nat.add_sub_cancel_left] at hi
     rw [List.getElem?_eq_none_iff] at hi
     omega
   ·intro i cs hi
    simp only [enterA,look_passed] at hi
    split at hi
    ·rename_i hle
     obtain ⟨b,us,t,h1,h2,h3,h4⟩ := hp.mem _ _ hi
     rw [show 1000 + (i - 1000) = i by omega] at h1
     refine ⟨b,us,t,h1,h2,h3.length,fun j c v hc hv => ?_,h4⟩
     obtain ⟨v',q1,q2⟩ := h3.get hc
     rw [q1] at hv; cases hv
     exact .of q2.bare
    ·cases hi
   ·intro k g e l hk; cases hk
   ·intro k k' g e l e' l' hk; cases hk
   ·exact fun _ _ h => h
   ·exact Fro.top (Nat.le_refl _)
   ·exact fun b e hb => by cases hb
   ·exact fun b e hb => by cases hb
   ·exact fun b e o hb => by cases hb
  ·have hlt : (enterA fn args passed).tmps = args ++ List.replicate (fn.ntmps - args.length) (.tup []) := rfl
   rw [hlt]
   simp only [List.getD_eq_getElem?_getD,Array.getD_eq_getD_getElem?,Array.getElem?_append,List.getElem?_append,List.size_toArray,← hal,List.getElem?_toArray]
   by_cases hi : i < args.length
   ·rw [if_pos hi,if_pos hi]
    obtain ⟨v,q1,q2⟩ := hv.get (List.getElem?_eq_getElem hi)
    rw [q1,List.getElem?_eq_getElem hi]
    exact .of q2
   ·rw [if_neg hi,if_neg hi]
    by_cases hj : i - args.length < fn.ntmps - args.length
    ·rw [List.getElem?_replicate,if_pos hj,Array.getElem?_replicate,if_pos hj]
     exact .of RepV_tup0
    ·rw [List.getElem?_replicate,if_neg hj,Array.getElem?_replicate,if_neg hj]
     exact .of (.unk _)
 have hw := evCode_wp hE hZ hm hB c hS he
 refine calls_of_wp hf hb (wp_mono hw ?_)
 rintro e a' w' ⟨rfl,G',h'⟩
 have fin : ∀ {q : Option (AV × List (List AV))},q = (match resAll E.ty s' fn.results.toList,passedBack s'.mem 1000 passed.length with
   | some vs,some l => some (outA vs,l)
   | _,_ => none) → q = some (r,passed') → a'.defers = [] ∧ ∃ v,(results fn a'.tmps).run P w' = .ok v w' ∧ ∃ v' S',Ending.returned v = .returned v' ∧ Done w S β passed r passed' v' w' S' := by
  intro q hq hq2
  subst hq
  cases h1 : resAll E.ty s' fn.results.toList with
  | none => simp [h1] at hq2
  | some cs =>
  cases h2 : passedBack s'.mem 1000 passed.length with
  | none => simp [h1,h2] at hq2
  | some l =>
  simp only [h1,h2,Option.some.injEq,Prod.mk.injEq] at hq2
  obtain ⟨rfl,rfl⟩ := hq2
  obtain ⟨us,k1,k2,k3⟩ := resAll_ok (P := P) hE.ty h' h1
  obtain ⟨k4,k5⟩ := passedBack_ok h2
  refine ⟨h'.defers,_,results_run k1,_,G'.S,rfl,?_⟩
  have hi := h'.inv
  refine ⟨hi.size,hi.os,hi.tape,hi.output,fun b hb hne => hi.old b hb (fun ⟨i,hi⟩ => hne i hi) (fun e he => by cases he),hi.S0,(fun g o hs => (hi.Snew g o hs).imp id fun h => h.elim id fun ⟨_,h,_⟩ => by cases h),hi.Slt,k4,fun j cs' hc => ?_,out_ok h' k2 k3,hi.fro⟩
  obtain ⟨cs0,q1,rfl⟩ := k5 j cs' hc
  obtain ⟨b,us',t,q2,q3,q4,q5,q6⟩ := hi.mem _ _ q1
  have hj : j < passed.length := by rw [← k4]; exact (List.getElem?_eq_some_iff.1 hc).1
  obtain ⟨b0,_,_,q7,_⟩ := hp.mem j _ (List.getElem?_eq_getElem hj)
  have := hi.β0 _ _ q7
  rw [q2] at this; cases this
  refine ⟨b,us',t,q7,q3,RepL.of_get (by simp [q4]) fun i c v hc hv => ?_,q6⟩
  simp only [List.getElem?_map,Option.map_eq_some_iff] at hc
  obtain ⟨c0,hc,rfl⟩ := hc
  exact (q5 i c0 v hc hv).flat
 cases ex with
 | exit id => cases h
 | normal => exact fin rfl h
 | ret => exact fin rfl h
theorem RepH.T0 {G : Gh} {w x c v} (h : RepH G.S w [] x c v) (hk : G.τ [] = x) : RepT G w c v := by
 unfold RepH at h
 split at h
 ·rename_i sz xs k
  obtain ⟨rfl,g,cap,vs,rfl,hr,hd,hx,hl⟩ := h
  unfold RepT
  exact ⟨g,cap,vs,rfl,hr,hd,hk.trans hx,hl⟩
 ·exact .of h.bare
def backT (k : Tag) : Tag := match k with | [] => [] | _ => [0]
theorem ownTags_cons {c : AV} (hne : ∀ sz xs k,c ≠ .sl sz xs (.own k)) (l : List AV) : ownTags (c :: l) = ownTags l := by
 cases c <;> try rfl
 rename_i sz xs st
 cases st <;> try rfl
 exact (hne _ _ _ rfl).elim
theorem ownTags_back : ∀ cs : List AV,ownTags (cs.map AV.backO) = (ownTags cs).map backT
 | [] => rfl
 | c :: cs => by
  have ih := ownTags_back cs
  have other : (∀ sz xs k,c ≠ .sl sz xs (.own k)) → ownTags ((c :: cs).map AV.backO) = (ownTags (c :: cs)).map backT := by
   intro hne
   have e1 : c.backO = c.flat := by
    cases c <;> try rfl
    rename_i sz xs st
    cases st <;> try rfl
    exact (hne _ _ _ rfl).elim
   rw [List.map_cons,e1,ownTags_cons (flat_notOwn c),ownTags_cons hne,ih]
  cases c <;> try (refine other ?_; intro sz xs k h; cases h; done)
  rename_i sz xs st
  cases st <;> try (refine other ?_; intro sz xs k h; cases h; done)
  rename_i k
  cases k with
  | nil => show [] :: ownTags (cs.map AV.backO) = [] :: (ownTags cs).map backT; rw [ih]
  | cons a k => show [0] :: ownTags (cs.map AV.backO) = [0] :: (ownTags cs).map backT; rw [ih]
theorem runFO_ok {P E} (hE : EnvOk P E) (hZ : ZeroOk E.ty) (hm : P.follows .mixedOrders = true) {f : FuncId} {fn : Func} (hf : P.funcs[f]? = some fn) (hn : (fn.name == "runtime.NumGoroutine") = false)
  {args cs : List AV} {r : AV} {cs' : List AV} (h : runFO E fn args cs = some (r,cs')) : CallsO P f args cs r cs' := by
 unfold runFO at h
 cases hb : fn.body with
 | none => simp [hb] at h
 | some c =>
 simp only [hb] at h
 refine ⟨⟨fn,hf,by rw [hb]; rfl,hn⟩,fun w S b x vs hp hv => ?_⟩
 cases he : ev E c (enterA fn args [cs]) with
 | none => simp [he] at h
 | some q =>
 obtain ⟨ex,s'⟩ := q
 simp only [he] at h
 let B : Base := { w0 := w,S0 := S,Wr := fun b' => b' = b,β0 := fun i => if i = 1000 then some b else none,ow := x.map fun p => (p.1,p.2.1) }
 let G : Gh := { S := S,β := fun i => if i = 1000 then some b else none,τ := fun k => if k = [] then x else none }
 obtain ⟨us0,t0,p1,p2,p3,p4⟩ := hp.mem
 have how : ∀ {g e},B.ow = some (g,e) → ∃ l,x = some (g,e,l) := by
  intro g e hq
  simp only [B,Option.map_eq_some_iff] at hq
  obtain ⟨⟨g',e',l'⟩,h1,h2⟩ := hq
  simp only [Prod.mk.injEq] at h2
  obtain ⟨rfl,rfl⟩ := h2
  exact ⟨l',h1⟩
 have how2 : ∀ {g e l},x = some (g,e,l) → B.ow = some (g,e) := by
  intro g e l hq
  simp only [B,hq,Option.map_some]
 have hβ1 : ∀ {i b'},G.β i = some b' → i = 1000 ∧ b' = b := by
  intro i b' hq
  simp only [G] at hq
  split at hq
  ·cases hq; exact ⟨‹_›,rfl⟩
  ·cases hq
 have hB : B.Ok := by
  refine ⟨hp.lt,fun g o hs e => hp.avoid o (e ▸ hs),fun g e => by cases e; exact p1.lt,fun i b' hi => ?_⟩
  have := (hβ1 hi).1
  omega
 have hal : args.length = vs.length := hv.length
 have hS : Sim B G (enterA fn args [cs]) { tmps := vs.toArray ++ Array.replicate (fn.ntmps - vs.toArray.size) undef,defers := [] } w := by
  refine ⟨?_,by simp [enterA,hal],fun i => ?_,rfl⟩
  ·constructor
   ·exact Nat.le_refl _
   ·rfl
   ·rfl
   ·rfl
   ·exact fun b _ _ _ => rfl
   ·exact fun _ _ h => h
   ·exact fun _ _ h => .inl h
   ·exact hp.lt
   ·intro i j b' h1 h2
    rw [(hβ1 h1).1,(hβ1 h2).1]
   ·intro i b' o h1
    rw [(hβ1 h1).2]; exact hp.avoid o
   ·exact fun i b' hi => .inr (hβ1 hi).2
   ·intro i hi
    show (if i = 1000 then some b else none) = none
    rw [if_neg]
    rintro rfl
    simp [enterA,passedMem,look] at hi
   ·intro i cs0 hi
    simp only [enterA,passedMem,look] at hi
    split at hi
    ·rename_i e
     subst e
     cases hi
     exact ⟨b,us0,t0,rfl,p1,p2,fun j c v hc hv => (p3 j c v hc hv).T0 (G := G) rfl,p4⟩
    ·cases hi
   ·intro k g e l hk
    simp only [G] at hk
    split at hk
    ·rename_i ek
     subst ek
     obtain ⟨q1,q2,q3,q4⟩ := hp.own g e l hk
     refine ⟨.inr ⟨rfl,e,how2 hk,Nat.le_refl _⟩,fun i hi => q1 (hβ1 hi).2,q2,q3⟩
    ·cases hk
   ·intro k k' g e l e' l' hk hk'
    simp only [G] at hk hk'
    split at hk
    ·split at hk'
     ·simp_all
     ·cases hk'
    ·cases hk
   ·exact fun _ _ h => h
   ·exact Fro.top (Nat.le_refl _)
   ·intro b' e hq
    obtain ⟨l,hx⟩ := how hq
    obtain ⟨_,⟨us,t,q1,_⟩,_⟩ := hp.own b' e l hx
    exact ⟨us,us,t,q1,q1,rfl,fun _ _ => rfl⟩
   ·intro b' e hq i hi
    obtain ⟨l,hx⟩ := how hq
    exact (hp.own b' e l hx).1 (hβ1 hi).2
   ·intro b' e o hq ho
    obtain ⟨l,hx⟩ := how hq
    exact (hp.own b' e l hx).2.2.2 o ho
  ·have hlt : (enterA fn args [cs]).tmps = args ++ List.replicate (fn.ntmps - args.length) (.tup []) := rfl
   rw [hlt]
   simp only [List.getD_eq_getElem?_getD,Array.getD_eq_getD_getElem?,Array.getElem?_append,List.getElem?_append,List.size_toArray,← hal,List.getElem?_toArray]
   by_cases hi : i < args.length
   ·rw [if_pos hi,if_pos hi]
    obtain ⟨v,q1,q2⟩ := hv.get (List.getElem?_eq_getElem hi)
    rw [q1,List.getElem?_eq_getElem hi]
    exact .of q2
   ·rw [if_neg hi,if_neg hi]
    by_cases hj : i - args.length < fn.ntmps - args.length
    ·rw [List.getElem?_replicate,if_pos hj,Array.getElem?_replicate,if_pos hj]
     exact .of RepV_tup0
    ·rw [List.getElem?_replicate,if_neg hj,Array.getElem?_replicate,if_neg hj]
     exact .of (.unk _)
 have hw := evCode_wp hE hZ hm hB c hS he
 refine calls_of_wp hf hb (wp_mono hw ?_)
 rintro e a' w' ⟨rfl,G',h'⟩
 have fin : ∀ {q : Option (AV × List AV)},q = (match resAll E.ty s' fn.results.toList,look s'.mem 1000 with
   | some vs,some cs0 => bif Nat.ble (ownTags cs0).length 1 then some (match vs with | [v] => v.flat | vs => .tup (vs.map AV.flat),cs0.map AV.backO) else none
   | _,_ => none) → q = some (r,cs') → a'.defers = [] ∧ ∃ v,(results fn a'.tmps).run P w' = .ok v w' ∧ ∃ v' S' x' t,Ending.returned v = .returned v' ∧ DoneO w S b x r cs' t x' v' w' S' := by
  intro q hq hq2
  subst hq
  cases h1 : resAll E.ty s' fn.results.toList with
  | none => simp [h1] at hq2
  | some vs' =>
  cases h2 : look s'.mem 1000 with
  | none => simp [h1,h2] at hq2
  | some cs0 =>
  simp only [h1,h2] at hq2
  cases hble : Nat.ble (ownTags cs0).length 1 <;> rw [hble] at hq2 <;> simp only [cond_true,cond_false,Option.some.injEq,Prod.mk.injEq] at hq2
  ·cases hq2
  obtain ⟨rfl,rfl⟩ := hq2
  obtain ⟨us,k1,k2,k3⟩ := resAll_ok (P := P) hE.ty h' h1
  have hi := h'.inv
  obtain ⟨b',us',tt,m1,m2,m3,m4,m5⟩ := hi.mem 1000 cs0 h2
  have hb' : b' = b := by
   have := hi.β0 1000 b rfl
   rw [m1] at this; cases this; rfl
  subst hb'
  have htag : ∀ k,k ∈ ownTags cs0 → ownTags cs0 = [k] := by
   intro k hk
   rw [Nat.ble_eq] at hble
   match hq : ownTags cs0,hble with
   | [],_ => rw [hq] at hk; cases hk
   | [k'],_ => rw [hq] at hk; simp only [List.mem_singleton] at hk; rw [hk]
   | _ :: _ :: _,hle => simp at hle
  obtain ⟨t,x',hx0,hxk⟩ : ∃ (t : Tag) (x' : Option (Nat × Nat × Nat)),(ownTags cs0 = [] → x' = none) ∧ ∀ k,ownTags cs0 = [k] → x' = G'.τ k ∧ t = backT k := by
   cases hq : ownTags cs0 with
   | nil => exact ⟨[],none,fun _ => rfl,(fun k h => by cases h)⟩
   | cons k l =>
    have := htag k (by rw [hq]; simp)
    rw [hq] at this
    cases this
    exact ⟨backT k,G'.τ k,(fun h => by cases h),(fun k' h => by cases h; exact ⟨rfl,rfl⟩)⟩
  have hcell : ∀ (j : Nat) c v,(cs0.map AV.backO)[j]? = some c → us'[j]? = some v → RepH G'.S w' t x' c v := by
   intro j c v hc hv
   simp only [List.getElem?_map,Option.map_eq_some_iff] at hc
   obtain ⟨c0,hc,rfl⟩ := hc
   have hr := m4 j c0 v hc hv
   have other : RepH G'.S w' t x' c0.flat v := .of hr.flat
   cases c0 <;> try exact other
   rename_i sz xs st
   cases st <;> try exact other
   rename_i k
   obtain ⟨e1,e2⟩ := hxk k (htag k (ownTags_mem (List.mem_of_getElem? hc)))
   unfold RepT at hr
   obtain ⟨g,cap,vs1,rfl,hrr,hrd,hτ,hle⟩ := hr
   have e3 : (AV.sl sz xs (.own k)).backO = .sl sz xs (.own (backT k)) := by cases k <;> rfl
   rw [e3,e2]
   exact ⟨rfl,g,cap,vs1,rfl,hrr,hrd,e1.trans hτ,hle⟩
  refine ⟨h'.defers,_,results_run k1,_,G'.S,x',t,rfl,?_⟩
  refine ⟨hi.size,hi.os,hi.tape,hi.output,fun b1 hb1 hne hnx => hi.old b1 hb1 (fun e => hne e) (fun e he => ?_),fun g e l hx => hi.owk g e (how2 hx),hi.S0,fun g o hs => ?_,hi.Slt,⟨us',tt,m2,by simpa using m3,hcell,m5⟩,fun g e l hx' => ?_,fun k hk => ?_,?_,hi.fro⟩
  ·obtain ⟨l,hx⟩ := how he
   exact hnx e l hx
  ·rcases hi.Snew g o hs with q | q | ⟨e,q1,q2⟩
   ·exact .inl q
   ·exact .inr (.inl q)
   ·obtain ⟨l,hx⟩ := how q1
    exact .inr (.inr ⟨e,l,hx,q2⟩)
  ·obtain ⟨k,hk⟩ : ∃ k,ownTags cs0 = [k] := by
    cases hq : ownTags cs0 with
    | nil => rw [hx0 hq] at hx'; cases hx'
    | cons k l => exact ⟨k,by have := htag k (by rw [hq]; simp); rw [hq] at this; exact this⟩
   obtain ⟨e1,e2⟩ := hxk k hk
   rw [e1] at hx'
   obtain ⟨q1,q2,q3,q4⟩ := hi.τ k g e l hx'
   refine ⟨?_,fun e' => q2 1000 (e' ▸ m1),q3,q4⟩
   rcases q1 with q1 | ⟨q1,e0,q5,q6⟩
   ·exact .inl q1
   ·obtain ⟨l0,hx⟩ := how q5
    subst q1
    exact .inr ⟨e2,e0,l0,hx,q6⟩
  ·rw [ownTags_back] at hk
   obtain ⟨k0,hk0,rfl⟩ := List.mem_map.1 hk
   obtain ⟨e1,e2⟩ := hxk k0 (htag k0 hk0)
   refine ⟨e2.symm,?_⟩
   rw [e1]
   obtain ⟨j,sz,xs,hj⟩ := ownTags_get hk0
   have hjl : j < us'.length := by rw [← m3]; exact (List.getElem?_eq_some_iff.1 hj).1
   have hr := m4 j _ _ hj (List.getElem?_eq_getElem hjl)
   unfold RepT at hr
   obtain ⟨_,_,_,_,_,_,hτ,_⟩ := hr
   rw [hτ]; simp
  ·have tup : RepV G'.S w' (fun _ => none) (.tup (vs'.map AV.flat)) (.tuple us.toArray) := by
    refine .tup (RepL.of_get (by simp [k2]) fun i c v h1 h2 => ?_)
    simp only [List.getElem?_map,Option.map_eq_some_iff] at h1
    obtain ⟨c0,h1,rfl⟩ := h1
    exact (k3 i c0 v h1 h2).flat
   match vs',us,k2,k3,tup with
   | [],[],_,_,tup => exact tup
   | [c],[v],_,k3,_ => exact (k3 0 c v rfl rfl).flat
   | _ :: _ :: _,_ :: _ :: _,_,_,tup => exact tup
 cases ex with
 | exit id => cases h
 | normal => exact fin rfl h
 | ret => exact fin rfl h
theorem runFV_ok {P E} (hE : EnvOk P E) (hZ : ZeroOk E.ty) (hm : P.follows .mixedOrders = true) {f : FuncId} {fn : Func} (hf : P.funcs[f]? = some fn) (hn : (fn.name == "runtime.NumGoroutine") = false)
  {args : List AV} {r : AV} (h : runFV E fn args = some r) : CallsV P f args r := by
 unfold runFV at h
 cases hb : fn.body with
 | none => simp [hb] at h
 | some c =>
 simp only [hb] at h
 refine ⟨⟨fn,hf,by rw [hb]; rfl,hn⟩,fun w S x vs hp => ?_⟩
 cases he : ev E c (enterA fn args []) with
 | none => simp [he] at h
 | some q =>
 obtain ⟨ex,s'⟩ := q
 simp only [he] at h
 let B : Base := { w0 := w,S0 := S,Wr := fun _ => False,β0 := fun _ => none,ow := x.map fun p => (p.1,p.2.1) }
 let G : Gh := { S := S,β := fun _ => none,τ := fun k => if k = [] then x else none }
 have how : ∀ {g e},B.ow = some (g,e) → ∃ l,x = some (g,e,l) := by
  intro g e hq
  simp only [B,Option.map_eq_some_iff] at hq
  obtain ⟨⟨g',e',l'⟩,h1,h2⟩ := hq
  simp only [Prod.mk.injEq] at h2
  obtain ⟨rfl,rfl⟩ := h2
  exact ⟨l',h1⟩
 have how2 : ∀ {g e l},x = some (g,e,l) → B.ow = some (g,e) := by
  intro g e l hq
  simp only [B,hq,Option.map_some]
 have hB : B.Ok := ⟨hp.lt,fun g o hs e => e,fun g e => e.elim,fun i b' hi => by cases hi⟩
 have hal : args.length = vs.length := hp.len
 have hS : Sim B G (enterA fn args []) { tmps := vs.toArray ++ Array.replicate (fn.ntmps - vs.toArray.size) undef,defers := [] } w := by
  refine ⟨?_,by simp [enterA,hal],fun i => ?_,rfl⟩
  ·constructor
   ·exact Nat.le_refl _
   ·rfl
   ·rfl
   ·rfl
   ·exact fun b _ _ _ => rfl
   ·exact fun _ _ h => h
   ·exact fun _ _ h => .inl h
   ·exact hp.lt
   ·intro i j b' h1 h2; cases h1
   ·intro i b' o h1; cases h1
   ·intro i b' hi; cases hi
   ·intro i hi; rfl
   ·intro i cs0 hi
    simp [enterA,passedMem,look] at hi
   ·intro k g e l hk
    simp only [G] at hk
    split at hk
    ·rename_i ek
     subst ek
     obtain ⟨q2,q3,q4⟩ := hp.own g e l hk
     refine ⟨.inr ⟨rfl,e,how2 hk,Nat.le_refl _⟩,(fun i hi => by cases hi),q2,q3⟩
    ·cases hk
   ·intro k k' g e l e' l' hk hk'
    simp only [G] at hk hk'
    split at hk
    ·split at hk'
     ·simp_all
     ·cases hk'
    ·cases hk
   ·exact fun _ _ h => h
   ·exact Fro.top (Nat.le_refl _)
   ·intro b' e hq
    obtain ⟨l,hx⟩ := how hq
    obtain ⟨⟨us,t,q1,_⟩,_⟩ := hp.own b' e l hx
    exact ⟨us,us,t,q1,q1,rfl,fun _ _ => rfl⟩
   ·intro b' e hq i hi; cases hi
   ·intro b' e o hq ho
    obtain ⟨l,hx⟩ := how hq
    exact (hp.own b' e l hx).2.2 o ho
  ·have hlt : (enterA fn args []).tmps = args ++ List.replicate (fn.ntmps - args.length) (.tup []) := rfl
   rw [hlt]
   simp only [List.getD_eq_getElem?_getD,Array.getD_eq_getD_getElem?,Array.getElem?_append,List.getElem?_append,List.size_toArray,← hal,List.getElem?_toArray]
   by_cases hi : i < args.length
   ·rw [if_pos hi,if_pos hi]
    have hiv : i < vs.length := by omega
    have := hp.arg i _ _ (List.getElem?_eq_getElem hi) (List.getElem?_eq_getElem hiv)
    rw [List.getElem?_eq_getElem hi,List.getElem?_eq_getElem hiv]
    exact this.T0 (G := G) rfl
   ·rw [if_neg hi,if_neg hi]
    by_cases hj : i - args.length < fn.ntmps - args.length
    ·rw [List.getElem?_replicate,if_pos hj,Array.getElem?_replicate,if_pos hj]
     exact .of RepV_tup0
    ·rw [List.getElem?_replicate,if_neg hj,Array.getElem?_replicate,if_neg hj]
     exact .of (.unk _)
 have hw := evCode_wp hE hZ hm hB c hS he
 refine calls_of_wp hf hb (wp_mono hw ?_)
 rintro e a' w' ⟨rfl,G',h'⟩
 have fin : ∀ {q : Option AV},q = (match resAll E.ty s' fn.results.toList with
   | some [v] => some v.backO
   | _ => none) → q = some r → a'.defers = [] ∧ ∃ v,(results fn a'.tmps).run P w' = .ok v w' ∧ ∃ v' S' x' t,Ending.returned v = .returned v' ∧ DoneV w S x r t x' v' w' S' := by
  intro q hq hq2
  subst hq
  split at hq2
  case h_2 => cases hq2
  rename_i c0 h1
  cases hq2
  obtain ⟨us,k1,k2,k3⟩ := resAll_ok (P := P) hE.ty h' h1
  obtain ⟨v,rfl⟩ : ∃ v,us = [v] := by
   cases us with
   | nil => cases k2
   | cons v us => cases us with
    | nil => exact ⟨v,rfl⟩
    | cons _ _ => simp at k2
  have hr := k3 0 c0 v rfl rfl
  have hi := h'.inv
  obtain ⟨t,x',hx',hown⟩ : ∃ (t : Tag) (x' : Option (Nat × Nat × Nat)),RepH G'.S w' t x' c0.backO v ∧ ∀ g e l,x' = some (g,e,l) → ∃ k,G'.τ k = some (g,e,l) ∧ t = backT k := by
   have other : (∀ sz xs k,c0 ≠ .sl sz xs (.own k)) → ∃ (t : Tag) (x' : Option (Nat × Nat × Nat)),RepH G'.S w' t x' c0.backO v ∧ ∀ g e l,x' = some (g,e,l) → ∃ k,G'.τ k = some (g,e,l) ∧ t = backT k := fun hne => by
    have e : c0.backO = c0.flat := by
     cases c0 <;> try rfl
     rename_i sz xs st
     cases st <;> try rfl
     exact (hne _ _ _ rfl).elim
    rw [e]
    exact ⟨[],none,.of hr.flat,fun g e l h => by cases h⟩
   by_cases hc : ∃ sz xs k,c0 = .sl sz xs (.own k)
   case neg => exact other fun sz xs k h => hc ⟨sz,xs,k,h⟩
   obtain ⟨sz,xs,k,rfl⟩ := hc
   unfold RepT at hr
   obtain ⟨g,cap,vs1,rfl,hrr,hrd,hτ,hle⟩ := hr
   have e3 : (AV.sl sz xs (.own k)).backO = .sl sz xs (.own (backT k)) := by cases k <;> rfl
   rw [e3]
   exact ⟨backT k,G'.τ k,⟨rfl,g,cap,vs1,rfl,hrr,hrd,hτ,hle⟩,fun g e l hq => ⟨k,hq,rfl⟩⟩
  refine ⟨h'.defers,_,results_run k1,_,G'.S,x',t,rfl,?_⟩
  refine ⟨hi.size,hi.os,hi.tape,hi.output,fun b1 hb1 hnx => hi.old b1 hb1 (fun e => e) (fun e he => ?_),fun g e l hx => hi.owk g e (how2 hx),hi.S0,fun g o hs => ?_,hi.Slt,fun g e l hq => ?_,hx',hi.fro⟩
  ·obtain ⟨l,hx⟩ := how he
   exact hnx e l hx
  ·rcases hi.Snew g o hs with q | q | ⟨e,q1,q2⟩
   ·exact .inl q
   ·exact .inr (.inl q)
   ·obtain ⟨l,hx⟩ := how q1
    exact .inr (.inr ⟨e,l,hx,q2⟩)
  ·obtain ⟨k,e1,e2⟩ := hown g e l hq
   obtain ⟨q1,q2,q3,q4⟩ := hi.τ k g e l e1
   refine ⟨?_,q3,q4⟩
   rcases q1 with q1 | ⟨q1,e0,q5,q6⟩
   ·exact .inl q1
   ·obtain ⟨l0,hx⟩ := how q5
    subst q1
    exact .inr ⟨e2,e0,l0,hx,q6⟩
 cases ex with
 | exit id => cases h
 | normal => exact fin rfl h
 | ret => exact fin rfl h
end Go.Ev
set_option linter.unusedVariables false
set_option linter.unusedSimpArgs false
namespace Go.Ev
open Go
def tyOf (P : Program) (t : TypeId) : Option TI :=
 match P.underlying t,P.info? t with
 | some d,some i =>
  match i.zero with
  | some z =>
   bif z.cells.toList.all oc && z.cells.toList.length == i.size && !P.stoodInHeld t && !P.eqGuardType P.depth t then
    some { td := tdOf d,size := i.size,bytes := i.bytes,zero := z.cells.toList.map ofVal }
   else none
  | none => none
 | _,_ => none
theorem tyOf_ok1 {P : Program} {t : TypeId} {ti : TI} (h : tyOf P t = some ti) : TyOk1 P t ti ∧ ∃ vs : List Value,ti.zero = vs.map ofVal := by
 unfold tyOf at h
 cases h1 : P.underlying t with
 | none => simp [h1] at h
 | some d =>
 cases h2 : P.info? t with
 | none => simp [h1,h2] at h
 | some i =>
 simp only [h1,h2] at h
 cases h3 : i.zero with
 | none => simp [h3] at h
 | some z =>
 simp only [h3] at h
 cases hb : (z.cells.toList.all oc && z.cells.toList.length == i.size && !P.stoodInHeld t && !P.eqGuardType P.depth t) <;> rw [hb] at h <;> simp only [cond_true,cond_false] at h
 ·cases h
 cases h
 simp only [Bool.and_eq_true,Bool.not_eq_true',beq_iff_eq,List.all_eq_true] at hb
 obtain ⟨⟨⟨b1,b2⟩,b3⟩,b4⟩ := hb
 exact ⟨⟨⟨d,h1,rfl⟩,⟨i,z,h2,rfl,rfl,h3,rfl,b1⟩,by simpa using b2,b3,b4⟩,_,rfl⟩
inductive Tr (α : Type) where
 | leaf
 | node (l : Tr α) (k : Nat) (v : α) (r : Tr α)
def Tr.get {α : Type} : Tr α → Nat → Option α
 | .leaf,_ => none
 | .node l k v r,n => bif Nat.blt n k then l.get n else bif Nat.blt k n then r.get n else some v
def Tr.All {α : Type} (p : Nat → α → Prop) : Tr α → Prop
 | .leaf => True
 | .node l k v r => l.All p ∧ p k v ∧ r.All p
theorem Tr.All.get {α : Type} {p : Nat → α → Prop} : ∀ {t : Tr α},t.All p → ∀ {n v},t.get n = some v → p n v
 | .leaf,_,n,v,h => by cases h
 | .node l k x r,ha,n,v,h => by
  obtain ⟨h1,h2,h3⟩ := ha
  simp only [Tr.get] at h
  cases hb : Nat.blt n k <;> rw [hb] at h <;> simp only [cond_true,cond_false] at h
  ·cases hc : Nat.blt k n <;> rw [hc] at h <;> simp only [cond_true,cond_false] at h
   ·cases h
    have : n = k := by
     have e1 : ¬ n < k := by rw [← Nat.blt_eq,hb]; simp
     have e2 : ¬ k < n := by rw [← Nat.blt_eq,hc]; simp
     omega
    rw [this]; exact h2
   ·exact h3.get h
  ·exact h1.get h
abbrev TT := Tr TI
abbrev FT := Tr Func
abbrev KT := Tr (List Nat × List Nat)
abbrev Sum := List AV → List (List AV) → Option (AV × List (List AV))
def SumOk (P : Program) (f : FuncId) (S : Sum) : Prop := ∀ args passed r passed',S args passed = some (r,passed') → CallsA P f args passed r passed'
structure Book where
 ty : TT
 fn : FT
 keep : KT
 eqs : TypeId → Option ((List AV → List AV → Bool) × (List AV → Bool)) := fun _ => none
 eqok : ∀ t p,eqs t = some p → ∀ xs ys,p.2 xs = true → p.2 ys = true → eqT ty.get 50 t (.agg xs) (.agg ys) = some (p.1 xs ys) := by intro t p h; cases h
structure Book.Ok (P : Program) (K : Book) : Prop where
 ty : K.ty.All fun t ti => tyOf P t = some ti
 fn : K.fn.All fun f g => P.funcs[f]? = some g ∧ (g.name == "runtime.NumGoroutine") = false
 mixed : P.follows .mixedOrders = true
theorem Book.Ok.tys {P : Program} {K : Book} (h : K.Ok P) : TyOk P K.ty.get := fun _ _ ht => (tyOf_ok1 (h.ty.get ht)).1
theorem Book.Ok.zero {P : Program} {K : Book} (h : K.Ok P) : ZeroOk K.ty.get := fun _ _ ht => (tyOf_ok1 (h.ty.get ht)).2
def Book.env (K : Book) (f : FuncId) (spec : FuncId → Sum) (fuel : Nat) : Env := { ty := K.ty.get,spec,keep := fun r => K.keep.get (f * 1000 + r),fuel }
def Book.run (K : Book) (spec : FuncId → Sum) (fuel : Nat) (f : FuncId) : Sum := fun args passed =>
 match K.fn.get f with
 | some g => runF (K.env f spec fuel) g args passed
 | none => none
theorem Book.run_ok {P : Program} {K : Book} (hK : K.Ok P) {spec : FuncId → Sum} (hs : SpecOk P spec) (fuel : Nat) (f : FuncId) : SumOk P f (K.run spec fuel f) := by
 intro args passed r passed' h
 unfold Book.run at h
 cases hf : K.fn.get f with
 | none => simp [hf] at h
 | some g =>
  simp only [hf] at h
  obtain ⟨h1,h2⟩ := hK.fn.get hf
  exact runF_ok (E := K.env f spec fuel) ⟨hK.tys,hs,fun _ _ h => (by cases h),fun _ _ _ h => (by cases h)⟩ hK.zero hK.mixed h1 h2 h
def Book.all (K : Book) (fuel : Nat) : Nat → FuncId → Sum
 | 0 => fun _ _ _ => none
 | n + 1 => K.run (K.all fuel n) fuel
theorem Book.all_ok {P : Program} {K : Book} (hK : K.Ok P) (fuel : Nat) : ∀ n,SpecOk P (K.all fuel n)
 | 0 => fun f args passed r passed' h => by cases h
 | n + 1 => fun f => K.run_ok hK (K.all_ok hK fuel n) fuel f
theorem SumOk.mono {P : Program} {f : FuncId} {S S' : Sum} (h : SumOk P f S) (hs : ∀ a p r q,S' a p = some (r,q) → S a p = some (r,q)) : SumOk P f S' :=
 fun a p r q e => h a p r q (hs a p r q e)
end Go.Ev
set_option linter.unusedVariables false
set_option linter.unusedSimpArgs false
namespace Go.Ev
open Go
inductive T (α : Type) where
 | no
 | ret (a : α)
 | need (b : Bool) (t : T α)
 | must (p : Prop) (t : T α)
def T.Ret {α : Type} : T α → α → Prop
 | .no,_ => False
 | .ret a,r => a = r
 | .need b t,r => b = true ∧ t.Ret r
 | .must p t,r => p ∧ t.Ret r
def chk {α : Type} (b : Bool) (t : T α) : T α := bif b then t else .no
theorem chk_ok {α : Type} {b : Bool} {t : T α} {r : α} (h : (chk b t).Ret r) : b = true ∧ t.Ret r := by
 cases b with
 | true => exact ⟨rfl,h⟩
 | false => exact h.elim
theorem T.Ret.of_eq {α : Type} {t t' : T α} {r : α} (e : t = t') (h : t'.Ret r) : t.Ret r := e ▸ h
def T.bind {α β : Type} : T α → (α → T β) → T β
 | .no,_ => .no
 | .ret a,k => k a
 | .need b t,k => chk b (t.bind k)
 | .must p t,k => .must p (t.bind k)
theorem T.Ret.uniq {α : Type} : ∀ {t : T α} {a b : α},t.Ret a → t.Ret b → a = b
 | .no,_,_,h,_ => h.elim
 | .ret _,_,_,h,k => h.symm.trans k
 | .need _ _,_,_,h,k => T.Ret.uniq h.2 k.2
 | .must _ _,_,_,h,k => T.Ret.uniq h.2 k.2
theorem T.Ret.bind {α β : Type} : ∀ {t : T α} {k : α → T β} {r : β},(t.bind k).Ret r → ∃ a,t.Ret a ∧ (k a).Ret r
 | .no,_,_,h => h.elim
 | .ret a,k,r,h => ⟨a,rfl,h⟩
 | .need b t,k,r,h => by
  obtain ⟨h0,h⟩ := chk_ok h
  obtain ⟨a,h1,h2⟩ := T.Ret.bind h
  exact ⟨a,⟨h0,h1⟩,h2⟩
 | .must p t,k,r,h => by
  obtain ⟨a,h1,h2⟩ := T.Ret.bind h.2
  exact ⟨a,⟨h.1,h1⟩,h2⟩
inductive Tree (α : Type) where
 | leaf (a : α)
 | ite (b : Bool) (l r : Tree α)
def Tree.val {α : Type} : Tree α → α
 | .leaf a => a
 | .ite b l r => bif b then l.val else r.val
noncomputable def T.opt {α : Type} (t : T α) : Option α := by
 classical
 exact if h : ∃ r,t.Ret r then some h.choose else none
theorem T.opt_of {α : Type} {t : T α} {r : α} (h : t.Ret r) : t.opt = some r := by
 classical
 unfold T.opt
 have he : ∃ r,t.Ret r := ⟨r,h⟩
 simp only [he,dif_pos]
 exact congrArg some (he.choose_spec.uniq h)
theorem T.of_opt {α : Type} {t : T α} {r : α} (h : t.opt = some r) : t.Ret r := by
 classical
 unfold T.opt at h
 split at h
 ·rename_i he
  cases h
  exact he.choose_spec
 ·cases h
def AV.asInt : AV → Int
 | .int _ n => n
 | _ => 0
def AV.asBool : AV → Bool
 | .bool b => b
 | _ => false
def AV.asStr : AV → List UInt8
 | .str s => s
 | _ => []
def cellAs (z v : AV) : AV :=
 match z with
 | .int k _ => .int k v.asInt
 | .bool _ => .bool v.asBool
 | .str _ => .str v.asStr
 | _ => v
def cellIs (z v : AV) : Bool :=
 match z with
 | .int k _ => match v with | .int k' _ => decide (k' = k) | _ => false
 | .bool _ => match v with | .bool _ => true | _ => false
 | .str _ => match v with | .str _ => true | _ => false
 | _ => true
theorem cellAs_eq {z v : AV} (h : cellIs z v = true) : cellAs z v = v := by
 cases z <;> try rfl
 all_goals (cases v <;> simp [cellIs] at h)
 ·subst h; rfl
 ·rfl
 ·rfl
def cellsAs : List AV → List AV → Nat → List AV
 | [],_,_ => []
 | z :: zs,cs,j => cellAs z (cs.getD j .unk) :: cellsAs zs cs (j + 1)
def cellsIs : List AV → List AV → Nat → Bool
 | [],_,_ => true
 | z :: zs,cs,j => cellIs z (cs.getD j .unk) && cellsIs zs cs (j + 1)
theorem cellsAs_get : ∀ (zs cs : List AV) (j : Nat),cellsIs zs cs j = true → ∀ i,i < zs.length → (cellsAs zs cs j)[i]? = some (cs.getD (j + i) .unk)
 | [],cs,j,_,i,hi => by simp at hi
 | z :: zs,cs,j,h,i,hi => by
  simp only [cellsIs,Bool.and_eq_true] at h
  cases i with
  | zero => simp only [cellsAs,List.getElem?_cons_zero,cellAs_eq h.1,Nat.add_zero]
  | succ i =>
   have := cellsAs_get zs cs (j + 1) h.2 i (by simpa using hi)
   simp only [cellsAs,List.getElem?_cons_succ,this,show j + 1 + i = j + (i + 1) by omega]
theorem cellsAs_len : ∀ (zs cs : List AV) (j : Nat),(cellsAs zs cs j).length = zs.length
 | [],cs,j => rfl
 | z :: zs,cs,j => by simp [cellsAs,cellsAs_len zs cs (j + 1)]
theorem cellsAs_eq {zs cs : List AV} (h : cellsIs zs cs 0 = true) (hl : cs.length = zs.length) : cellsAs zs cs 0 = cs := by
 apply List.ext_getElem?
 intro i
 by_cases hi : i < zs.length
 ·rw [cellsAs_get zs cs 0 h i hi,Nat.zero_add,List.getD_eq_getElem?_getD,List.getElem?_eq_getElem (by omega)]
  rfl
 ·rw [List.getElem?_eq_none (by rw [cellsAs_len]; omega),List.getElem?_eq_none (by omega)]
def AV.as (ti : TI) (v : AV) : AV := bif ti.td.agg then .agg (cellsAs ti.zero v.cells 0) else cellAs (ti.zero.headD .unk) v
def AV.has (ti : TI) (v : AV) : Bool := bif ti.td.agg then v.isAgg && (v.cells.length == ti.zero.length && cellsIs ti.zero v.cells 0) else cellIs (ti.zero.headD .unk) v
theorem AV.as_eq {ti : TI} {v : AV} (h : v.has ti = true) : v.as ti = v := by
 unfold AV.has at h
 unfold AV.as
 cases ha : ti.td.agg <;> rw [ha] at h <;> simp only [cond_true,cond_false] at h ⊢
 ·exact cellAs_eq h
 ·simp only [Bool.and_eq_true,beq_iff_eq] at h
  cases v <;> try (simp [AV.isAgg] at h; done)
  rename_i cs
  simp only [AV.cells] at h ⊢
  rw [cellsAs_eq h.2.2 h.2.1]
def seen {α : Type} (ti : TI) (v : AV) (k : AV → T α) : T α := chk (v.has ti) (k (v.as ti))
theorem seen_ok {α : Type} {ti : TI} {v : AV} {k : AV → T α} {r : α} (h : (seen ti v k).Ret r) : (k v).Ret r := by
 obtain ⟨h1,h2⟩ := chk_ok h
 rwa [AV.as_eq h1] at h2
section ops
variable {α : Type}
def ofO {β : Type} (o : Option β) (k : β → T α) : T α :=
 match o with
 | some v => k v
 | none => .no
theorem ofO_ok {β : Type} {o : Option β} {k : β → T α} {r : α} (h : (ofO o k).Ret r) : ∃ v,o = some v ∧ (k v).Ret r := by
 cases o with
 | none => exact h.elim
 | some v => exact ⟨v,rfl,h⟩
def boundP (d : Nat) (v : Option AV) (top : Nat) (k : Nat → T α) : T α :=
 match v with
 | none => k d
 | some (.int _ i) => chk (inR i (top + 1)) (k i.toNat)
 | some _ => .no
theorem boundP_ok {d : Nat} {v : Option AV} {top : Nat} {k : Nat → T α} {r : α} (h : (boundP d v top k).Ret r) : ∃ n,boundA d v top = some n ∧ (k n).Ret r := by
 cases v with
 | none => exact ⟨d,rfl,h⟩
 | some v =>
  cases v <;> try exact h.elim
  rename_i kk i
  obtain ⟨h1,h2⟩ := chk_ok h
  exact ⟨i.toNat,by simp only [boundA,h1,cond_true],h2⟩
def cutL (hi : Option AV) (xs : List AV) (l h : Nat) : List AV :=
 match hi with
 | none => xs.drop l
 | some _ => (xs.drop l).take (h - l)
theorem cutL_eq {hi : Option AV} {xs : List AV} {l n : Nat} (h : boundA xs.length hi xs.length = some n) : cutL hi xs l n = (xs.drop l).take (n - l) := by
 cases hi with
 | none =>
  simp only [boundA,Option.some.injEq] at h
  subst h
  show xs.drop l = (xs.drop l).take (xs.length - l)
  rw [List.take_of_length_le]
  rw [List.length_drop]
  exact Nat.le_refl _
 | some v => rfl
def sliceP (ty : Tys) (t : TypeId) (x : AV) (lo hi mx : Option AV) (k : AV → T α) : T α :=
 match x with
 | .str s =>
  match mx with
  | some _ => .no
  | none => boundP s.length hi s.length fun h => boundP 0 lo h fun l => bif isStr ty t then k (.str ((s.drop l).take (h - l))) else .no
 | .sl sz xs st =>
  match elemOf ty t with
  | none => .no
  | some ei =>
   bif isSlice ty t && ((sz == ei.size && st != .nil) || (st == .nil && xs.isEmpty)) then
    boundP xs.length hi xs.length fun h => boundP 0 lo h fun l =>
     match mx with
     | none => bif st == .nil then k x else k (.sl sz (cutL hi xs l h) (cutSt sz st l (hi.isNone || h == xs.length)))
     | some m => boundP 0 (some m) h fun m' => chk (hi.isSome && m' == h) (bif st == .nil then k x else k (.sl sz ((xs.drop l).take (h - l)) .full))
   else .no
 | .ptr id off =>
  match arrLen ty t,elemOf ty t,mx with
  | some n,some ei,none => boundP n hi n fun h => boundP 0 lo h fun l => k (.view id (if n == l then off else off + l * ei.size) (h - l))
  | _,_,_ => .no
 | _ => .no
theorem sliceP_ok {ty t x lo hi mx} {k : AV → T α} {r : α} (h : (sliceP ty t x lo hi mx k).Ret r) : ∃ v,sliceA ty t x lo hi mx = some v ∧ (k v).Ret r := by
 cases x <;> try exact h.elim
 case str s =>
  simp only [sliceP,sliceA] at h ⊢
  cases mx with
  | some m => exact h.elim
  | none =>
   obtain ⟨n,h1,h⟩ := boundP_ok h
   obtain ⟨l,h2,h⟩ := boundP_ok h
   simp only [h1,h2]
   cases hb : isStr ty t <;> rw [hb] at h <;> simp only [cond_true,cond_false] at h ⊢
   ·exact h.elim
   ·exact ⟨_,rfl,h⟩
 case sl sz xs st =>
  simp only [sliceP,sliceA] at h ⊢
  cases he : elemOf ty t with
  | none => simp only [he] at h; exact h.elim
  | some ei =>
   simp only [he] at h ⊢
   generalize hb : (isSlice ty t && ((sz == ei.size && st != .nil) || (st == .nil && xs.isEmpty))) = b at h
   cases b <;> simp only [cond_true,cond_false] at h ⊢
   ·exact h.elim
   obtain ⟨n,h1,h⟩ := boundP_ok h
   obtain ⟨l,h2,h⟩ := boundP_ok h
   simp only [h1,h2]
   cases mx with
   | none =>
    have hsame : cutL hi xs l n = (xs.drop l).take (n - l) := cutL_eq h1
    simp only at h ⊢
    rw [hsame] at h
    cases hq : st == St.nil <;> rw [hq] at h <;> simp only [cond_true,cond_false] at h ⊢ <;> exact ⟨_,rfl,h⟩
   | some m =>
    simp only at h ⊢
    obtain ⟨m',h3,h⟩ := boundP_ok h
    obtain ⟨h4,h⟩ := chk_ok h
    simp only [h3,h4,cond_true]
    cases hq : st == St.nil <;> rw [hq] at h <;> simp only [cond_true,cond_false] at h ⊢ <;> exact ⟨_,rfl,h⟩
 case ptr id off =>
  simp only [sliceP,sliceA] at h ⊢
  cases h1 : arrLen ty t with
  | none => simp only [h1] at h; exact h.elim
  | some n =>
  cases h2 : elemOf ty t with
  | none => simp only [h1,h2] at h; exact h.elim
  | some ei =>
  cases mx with
  | some m => simp only [h1,h2] at h; exact h.elim
  | none =>
   simp only [h1,h2] at h ⊢
   obtain ⟨n',h3,h⟩ := boundP_ok h
   obtain ⟨l,h4,h⟩ := boundP_ok h
   simp only [h3,h4]
   exact ⟨_,rfl,h⟩
def partP (ti : TI) (cs : List AV) (off : Nat) (k : AV → T α) : T α :=
 bif ti.td.agg then seen ti (.agg ((cs.drop off).take ti.size)) (fun v => bif fits ti v then k v else .no)
 else chk (Nat.blt off cs.length) (seen ti (cs.getD off .unk) (fun v => bif fits ti v then k v else .no))
theorem partP_ok {ti : TI} {cs : List AV} {off : Nat} {k : AV → T α} {r : α} (h : (partP ti cs off k).Ret r) :
  ∃ v,((partA ti cs off).bind fun v => bif fits ti v then some v else none) = some v ∧ (k v).Ret r := by
 unfold partP at h
 unfold partA
 have fin : ∀ v : AV,(bif fits ti v then k v else T.no).Ret r → fits ti v = true ∧ (k v).Ret r := by
  intro v h
  cases hf : fits ti v <;> rw [hf] at h <;> simp only [cond_true,cond_false] at h
  ·exact h.elim
  ·exact ⟨rfl,h⟩
 cases ha : ti.td.agg <;> rw [ha] at h <;> simp only [cond_true,cond_false] at h
 ·obtain ⟨h0,h⟩ := chk_ok h
  obtain ⟨h1,h2⟩ := fin _ (seen_ok h)
  have hlt : off < cs.length := by rwa [Nat.blt_eq] at h0
  have e : cs[off]? = some (cs.getD off .unk) := by rw [List.getD_eq_getElem?_getD,List.getElem?_eq_getElem hlt]; rfl
  simp only [Bool.false_eq_true,if_false]
  exact ⟨_,by rw [e]; simp only [Option.bind_some,h1,cond_true],h2⟩
 ·obtain ⟨h1,h2⟩ := fin _ (seen_ok h)
  simp only [if_true,Option.bind_some,h1,cond_true]
  exact ⟨_,rfl,h2⟩
def fieldAddrP (ty : Tys) (t : TypeId) (x : AV) (f : Nat) (k : AV → T α) : T α :=
 match fieldOf ty t f with
 | none => .no
 | some (off,fi) =>
  bif fi.size == 0 then .no else
  match x with
  | .ptr id o => k (.ptr id (o + off))
  | .ro (.agg cs) => partP fi cs off fun v => k (.ro v)
  | _ => .no
theorem fieldAddrP_ok {ty t x f} {k : AV → T α} {r : α} (h : (fieldAddrP ty t x f k).Ret r) : ∃ v,fieldAddrA ty t x f = some v ∧ (k v).Ret r := by
 unfold fieldAddrP at h
 unfold fieldAddrA
 cases hf : fieldOf ty t f with
 | none => simp only [hf] at h; exact h.elim
 | some p =>
  obtain ⟨off,fi⟩ := p
  simp only [hf] at h ⊢
  cases hs : fi.size == 0 <;> rw [hs] at h <;> simp only [cond_true,cond_false] at h ⊢
  ·cases x <;> try exact h.elim
   ·exact ⟨_,rfl,h⟩
   ·rename_i e
    cases e <;> try exact h.elim
    rename_i cs
    obtain ⟨v,h1,h2⟩ := partP_ok h
    refine ⟨.ro v,?_,h2⟩
    simp only
    cases hp : partA fi cs off with
    | none => simp [hp] at h1
    | some u =>
     simp only [hp,Option.bind_some] at h1 ⊢
     cases hq : fits fi u <;> rw [hq] at h1 <;> simp only [cond_true,cond_false] at h1 ⊢ <;> cases h1
     rfl
  ·exact h.elim
def fieldP (ty : Tys) (t : TypeId) (x : AV) (f : Nat) (k : AV → T α) : T α :=
 match fieldOf ty t f with
 | none => .no
 | some (off,fi) =>
  match x with
  | .agg cs => partP fi cs off k
  | _ => .no
theorem fieldP_ok {ty t x f} {k : AV → T α} {r : α} (h : (fieldP ty t x f k).Ret r) : ∃ v,fieldA ty t x f = some v ∧ (k v).Ret r := by
 unfold fieldP at h
 unfold fieldA
 cases hf : fieldOf ty t f with
 | none => simp only [hf] at h; exact h.elim
 | some p =>
  obtain ⟨off,fi⟩ := p
  simp only [hf] at h ⊢
  cases x <;> try exact h.elim
  exact partP_ok h
def indexAddrP (ty : Tys) (t : TypeId) (x i : AV) (k : AV → T α) : T α :=
 match elemOf ty t with
 | none => .no
 | some ei =>
  match i with
  | .int _ i =>
   match x with
   | .sl sz xs st => bif isSlice ty t && sz == ei.size then chk (inR i xs.length) (seen ei (xs.getD i.toNat .unk) fun v => k (elemPtr sz st i.toNat v)) else .no
   | .view id off n => bif isSlice ty t then chk (inR i n) (k (.ptr id (off + i.toNat * ei.size))) else .no
   | .ptr id off =>
    match arrLen ty t with
    | some n => chk (inR i n) (k (.ptr id (off + i.toNat * ei.size)))
    | none => .no
   | .ro (.agg cs) =>
    match arrLen ty t with
    | some n => chk (inR i n) (partP ei cs (i.toNat * ei.size) fun v => k (.ro v))
    | none => .no
   | _ => .no
  | _ => .no
theorem indexAddrP_ok {ty t x i} {k : AV → T α} {r : α} (h : (indexAddrP ty t x i k).Ret r) : ∃ v,indexAddrA ty t x i = some v ∧ (k v).Ret r := by
 unfold indexAddrP at h
 unfold indexAddrA
 cases he : elemOf ty t with
 | none => simp only [he] at h; exact h.elim
 | some ei =>
  simp only [he] at h ⊢
  cases i <;> try exact h.elim
  rename_i kk i
  cases x <;> try exact h.elim
  case sl sz xs st =>
   simp only at h ⊢
   cases hb : isSlice ty t && sz == ei.size <;> rw [hb] at h <;> simp only [cond_true,cond_false] at h ⊢
   ·exact h.elim
   obtain ⟨h1,h⟩ := chk_ok h
   have h2 := seen_ok h
   simp only [inR,decide_eq_true_eq] at h1
   refine ⟨elemPtr sz st i.toNat (xs.getD i.toNat .unk),?_,h2⟩
   unfold idx
   rw [if_pos h1.1,List.getD_eq_getElem?_getD,List.getElem?_eq_getElem (by omega)]
   rfl
  case view id off n =>
   simp only at h ⊢
   cases hb : isSlice ty t <;> rw [hb] at h <;> simp only [cond_true,cond_false] at h
   ·exact h.elim
   ·obtain ⟨q1,q2⟩ := chk_ok h
    simp only [q1,Bool.true_and,cond_true]
    exact ⟨_,rfl,q2⟩
  case ptr id off =>
   simp only at h ⊢
   cases ha : arrLen ty t with
   | none => simp only [ha] at h; exact h.elim
   | some n =>
    simp only [ha] at h ⊢
    obtain ⟨q1,q2⟩ := chk_ok h
    simp only [q1,cond_true]
    exact ⟨_,rfl,q2⟩
  case ro e =>
   cases e <;> try exact h.elim
   rename_i cs
   simp only at h ⊢
   cases ha : arrLen ty t with
   | none => simp only [ha] at h; exact h.elim
   | some n =>
    simp only [ha] at h ⊢
    obtain ⟨h0,h⟩ := chk_ok h
    obtain ⟨v,h1,h2⟩ := partP_ok h
    refine ⟨.ro v,?_,h2⟩
    simp only [h0,cond_true]
    cases hp : partA ei cs (i.toNat * ei.size) with
    | none => simp [hp] at h1
    | some u =>
     simp only [hp,Option.bind_some] at h1 ⊢
     cases hq : fits ei u <;> rw [hq] at h1 <;> simp only [cond_true,cond_false] at h1 ⊢ <;> cases h1
     rfl
def indexP (ty : Tys) (t : TypeId) (x i : AV) (k : AV → T α) : T α :=
 match i with
 | .int _ i =>
  match x with
  | .agg cs =>
   match arrLen ty t with
   | none => .no
   | some n =>
    match elemOf ty t with
    | none => .no
    | some ei => chk (inR i n) (partP ei cs (i.toNat * ei.size) k)
  | .str s => bif isStr ty t then chk (inR i s.length) (k (.int .u8 (s.getD i.toNat 0).toNat)) else .no
  | _ => .no
 | _ => .no
theorem indexP_ok {ty t x i} {k : AV → T α} {r : α} (h : (indexP ty t x i k).Ret r) : ∃ v,indexA ty t x i = some v ∧ (k v).Ret r := by
 unfold indexP at h
 unfold indexA
 cases i <;> try exact h.elim
 rename_i kk i
 cases x <;> try exact h.elim
 case agg cs =>
  simp only at h ⊢
  cases ha : arrLen ty t with
  | none => simp only [ha] at h; exact h.elim
  | some n =>
  cases he : elemOf ty t with
  | none => simp only [ha,he] at h; exact h.elim
  | some ei =>
   simp only [ha,he] at h ⊢
   obtain ⟨h0,h⟩ := chk_ok h
   simp only [h0,cond_true]
   exact partP_ok h
 case str s =>
  simp only at h ⊢
  cases hb : isStr ty t <;> rw [hb] at h <;> simp only [cond_true,cond_false] at h
  ·exact h.elim
  obtain ⟨h1,h2⟩ := chk_ok h
  simp only [inR,decide_eq_true_eq] at h1
  unfold isStr at hb
  cases ht : ty t with
  | none => simp [ht] at hb
  | some ti =>
   simp only [ht] at hb ⊢
   cases hd : ti.td <;> simp [hd] at hb
   simp only [hd]
   refine ⟨_,?_,h2⟩
   rw [if_pos h1.1,List.getD_eq_getElem?_getD,List.getElem?_eq_getElem (by omega)]
   rfl
def intP (op : BinOp) (kk : IntKind) (a b : Int) (k : AV → T α) : T α :=
 match op with
 | .quo => chk (!ieq b 0) (k (.int kk (iquo kk a b)))
 | .rem => chk (!ieq b 0) (k (.int kk (irem a b)))
 | op => ofO (intOp op kk a b) k
theorem intP_ok {op kk a b} {k : AV → T α} {r : α} (h : (intP op kk a b k).Ret r) : ∃ v,intOp op kk a b = some v ∧ (k v).Ret r := by
 cases op <;> try exact ofO_ok h
 all_goals
  obtain ⟨h1,h2⟩ := chk_ok h
  simp only [Bool.not_eq_true'] at h1
  simp only [intOp,h1,cond_false]
  exact ⟨_,rfl,h2⟩
def strP (op : BinOp) (a b : List UInt8) (k : AV → T α) : T α :=
 match op with
 | .add => chk (Nat.ble (a.length + b.length) 9223372036854775807) (k (.str (a ++ b)))
 | op => ofO (strOp op a b) k
theorem strP_ok {op a b} {k : AV → T α} {r : α} (h : (strP op a b k).Ret r) : ∃ v,strOp op a b = some v ∧ (k v).Ret r := by
 cases op <;> try exact ofO_ok h
 obtain ⟨h1,h2⟩ := chk_ok h
 have h1 : ile ((a.length + b.length : Nat) : Int) 9223372036854775807 = true := by
  rw [Nat.ble_eq] at h1
  simp only [ile,decide_eq_true_eq]
  omega
 simp only [strOp,h1,cond_true]
 exact ⟨_,rfl,h2⟩
abbrev EqFn := (List AV → List AV → Bool) × (List AV → Bool)
def EqOk (ty : Tys) (eqs : TypeId → Option EqFn) : Prop :=
 ∀ t p,eqs t = some p → ∀ xs ys,p.2 xs = true → p.2 ys = true → eqT ty 50 t (.agg xs) (.agg ys) = some (p.1 xs ys)
def aggP (ty : Tys) (eqs : TypeId → Option EqFn) (op : BinOp) (t : TypeId) (xs ys : List AV) (k : AV → T α) : T α :=
 match eqs t with
 | none => ofO (binA ty op t (.agg xs) (.agg ys)) k
 | some p =>
  match op with
  | .eql => chk (p.2 xs) (chk (p.2 ys) (k (.bool (p.1 xs ys))))
  | .neq => chk (p.2 xs) (chk (p.2 ys) (k (.bool (!p.1 xs ys))))
  | _ => .no
theorem aggP_ok {ty eqs op t xs ys} (hq : EqOk ty eqs) {k : AV → T α} {r : α} (h : (aggP ty eqs op t xs ys k).Ret r) : ∃ v,binA ty op t (.agg xs) (.agg ys) = some v ∧ (k v).Ret r := by
 unfold aggP at h
 cases he : eqs t with
 | none => simp only [he] at h; exact ofO_ok h
 | some p =>
  simp only [he] at h
  cases op <;> try exact h.elim
  all_goals
   obtain ⟨h1,h⟩ := chk_ok h
   obtain ⟨h2,h⟩ := chk_ok h
   have := hq t p he xs ys h1 h2
   exact ⟨_,by simp only [binA,AV.flat,this,Option.map_some],h⟩
def binP (ty : Tys) (eqs : TypeId → Option EqFn) (op : BinOp) (t : TypeId) (x y : AV) (k : AV → T α) : T α :=
 match x,y with
 | .int kk a,.int k' b =>
  match op with
  | .shl => chk (ile 0 b) (k (.int kk (ishl kk a b)))
  | .shr => chk (ile 0 b) (k (.int kk (ishr kk a b)))
  | op => if kk = k' then intP op kk a b k else .no
 | .str a,.str b => strP op a b k
 | .agg xs,.agg ys => aggP ty eqs op t xs ys k
 | x,y => ofO (binA ty op t x y) k
theorem binP_ok {ty eqs op t x y} (hq : EqOk ty eqs) {k : AV → T α} {r : α} (h : (binP ty eqs op t x y k).Ret r) : ∃ v,binA ty op t x y = some v ∧ (k v).Ret r := by
 unfold binP at h
 split at h
 ·rename_i kk a k' b
  split at h
  ·obtain ⟨q1,q2⟩ := chk_ok h
   exact ⟨_,by simp only [binA,q1,cond_true],q2⟩
  ·obtain ⟨q1,q2⟩ := chk_ok h
   exact ⟨_,by simp only [binA,q1,cond_true],q2⟩
  ·rename_i op' h1 h2
   split at h
   ·rename_i e
    obtain ⟨v,q1,q2⟩ := intP_ok h
    refine ⟨v,?_,q2⟩
    cases op' <;> first | exact (h1 rfl).elim | exact (h2 rfl).elim | (simp only [binA]; rw [if_pos e]; exact q1)
   ·exact h.elim
 ·obtain ⟨v,q1,q2⟩ := strP_ok h
  refine ⟨v,?_,q2⟩
  cases op <;> exact q1
 ·exact aggP_ok hq h
 ·exact ofO_ok h
def takeI (k : IntKind) (xs : List AV) : Nat → Nat → List AV
 | 0,_ => []
 | n + 1,i => .int k (xs.getD i .unk).asInt :: takeI k xs n (i + 1)
def takeIs (k : IntKind) (xs : List AV) : Nat → Nat → Bool
 | 0,_ => true
 | n + 1,i => isIntK k (xs.getD i .unk) && takeIs k xs n (i + 1)
theorem takeI_ok {k : IntKind} {xs : List AV} : ∀ {n i : Nat},i + n ≤ xs.length → takeIs k xs n i = true → takeI k xs n i = (xs.drop i).take n ∧ ((xs.drop i).take n).all (isIntK k) = true
 | 0,i,_,_ => by simp [takeI]
 | n + 1,i,hl,h => by
  simp only [takeIs,Bool.and_eq_true] at h
  obtain ⟨h1,h2⟩ := takeI_ok (n := n) (i := i + 1) (by omega) h.2
  have e : xs.drop i = xs.getD i .unk :: xs.drop (i + 1) := by
   rw [List.drop_eq_getElem_cons (by omega),List.getD_eq_getElem?_getD,List.getElem?_eq_getElem (by omega)]; rfl
  have e2 : (AV.int k (xs.getD i .unk).asInt) = xs.getD i .unk := by
   have h3 := h.1
   generalize xs.getD i .unk = v at h3
   cases v <;> try (cases h3; done)
   simp only [isIntK,decide_eq_true_eq] at h3
   rw [h3]; rfl
  rw [e,List.take_succ_cons,takeI,h1,e2]
  exact ⟨rfl,by rw [List.all_cons,h.1,h2]; rfl⟩
def arrPtrP (ty : Tys) (t : TypeId) (x : AV) (k : AV → T α) : T α :=
 match arrLen ty t,elemOf ty t,x with
 | some n,some ei,.sl sz xs _ =>
  match ei.td with
  | .int kk => bif sz == 1 && Nat.blt 0 n then chk (Nat.ble n xs.length) (chk (takeIs kk xs n 0) (k (.ro (.agg (takeI kk xs n 0))))) else .no
  | _ => .no
 | _,_,_ => .no
theorem arrPtrP_ok {ty t x} {k : AV → T α} {r : α} (h : (arrPtrP ty t x k).Ret r) : ∃ v,arrPtrA ty t x = some v ∧ (k v).Ret r := by
 unfold arrPtrP at h
 unfold arrPtrA
 cases hn : arrLen ty t with
 | none => simp only [hn] at h; exact h.elim
 | some n =>
 cases he : elemOf ty t with
 | none => simp only [hn,he] at h; exact h.elim
 | some ei =>
 simp only [hn,he] at h ⊢
 cases x <;> try exact h.elim
 rename_i sz xs st
 simp only at h ⊢
 cases htd : ei.td <;> simp only [htd] at h ⊢ <;> try exact h.elim
 rename_i kk
 cases hb : (sz == 1 && Nat.blt 0 n) <;> rw [hb] at h <;> simp only [cond_true,cond_false] at h
 ·exact h.elim
 obtain ⟨h1,h⟩ := chk_ok h
 obtain ⟨h2,h⟩ := chk_ok h
 obtain ⟨h3,h4⟩ := takeI_ok (n := n) (i := 0) (by rw [Nat.ble_eq] at h1; omega) h2
 rw [List.drop_zero] at h3 h4
 rw [h3] at h
 rw [h1,h4]
 exact ⟨_,rfl,h⟩
def convertP (ty : Tys) (src dst : TypeId) (x : AV) (k : AV → T α) : T α :=
 match ty src,ty dst,x with
 | some si,some di,.int _ n =>
  match si.td,di.td with
  | .int _,.int kk => k (.int kk (kk.wrap n))
  | _,_ => .no
 | some si,some di,.sl sz xs st => bif strTy ty si di && (sz == 1 || (st == .nil && xs.isEmpty)) then chk (xs.all (isIntK .u8)) (k (.str (xs.map byteA))) else .no
 | _,_,_ => .no
theorem convertP_ok {ty ρ src dst x} {k : AV → T α} {r : α} (h : (convertP ty src dst (ρ x) k).Ret r) : ∃ v,evPure ty ρ (.convert src dst x) = some v ∧ (k v).Ret r := by
 unfold convertP at h
 simp only [evPure]
 split at h
 ·rename_i si di _ n hs hd hx
  simp only [hs,hd,hx]
  split at h
  ·rename_i h1 h2
   simp only [h1,h2]
   exact ⟨_,rfl,h⟩
  ·exact h.elim
 ·rename_i si di sz xs st hs hd hx
  simp only [hs,hd,hx,strA]
  generalize hb : (strTy ty si di && (sz == 1 || (st == .nil && xs.isEmpty))) = b at h
  cases b <;> simp only [cond_true,cond_false] at h
  ·exact h.elim
  obtain ⟨h1,h2⟩ := chk_ok h
  simp only [h1,Bool.and_self,cond_true]
  exact ⟨_,rfl,h2⟩
 ·exact h.elim
def pureP (ty : Tys) (eqs : TypeId → Option EqFn) (ρ : Operand → AV) (op : Op) (k : AV → T α) : T α :=
 match op with
 | .binOp op t x y _ => binP ty eqs op t (ρ x) (ρ y) k
 | .fieldAddr t x f => fieldAddrP ty t (ρ x) f k
 | .field t x f => fieldP ty t (ρ x) f k
 | .indexAddr t x i => indexAddrP ty t (ρ x) (ρ i) k
 | .index t x i => indexP ty t (ρ x) (ρ i) k
 | .sliceToArrayPointer t x => arrPtrP ty t (ρ x) k
 | .slice t x lo hi mx => sliceP ty t (ρ x) (lo.map ρ) (hi.map ρ) (mx.map ρ) k
 | .convert src dst x => convertP ty src dst (ρ x) k
 | op => ofO (evPure ty ρ op) k
theorem pureP_ok {ty eqs ρ op} (hq : EqOk ty eqs) {k : AV → T α} {r : α} (h : (pureP ty eqs ρ op k).Ret r) : ∃ v,evPure ty ρ op = some v ∧ (k v).Ret r := by
 cases op <;> try exact ofO_ok h
 ·exact binP_ok hq h
 ·exact convertP_ok h
 ·exact arrPtrP_ok h
 ·exact sliceP_ok h
 ·exact fieldAddrP_ok h
 ·exact fieldP_ok h
 ·exact indexAddrP_ok h
 ·exact indexP_ok h
end ops
end Go.Ev
set_option linter.unusedVariables false
set_option linter.unusedSimpArgs false
namespace Go.Ev
open Go
abbrev SumT := List AV → List (List AV) → T (Tree (AV × List (List AV)))
inductive Q where
 | z
 | t (q : Q)
 | f (q : Q)
 | s (q1 q2 : Q)
structure InlT where
 run : (α : Type) → List AV → List (List AV) → Q → ((AV × List (List AV)) → Q → T α) → T α
 sum : List AV → List (List AV) → Option (AV × List (List AV))
 ok : ∀ (α : Type) (a : List AV) (p : List (List AV)) (q : Q) (k : (AV × List (List AV)) → Q → T α) (r : α),(run α a p q k).Ret r → ∃ x q',sum a p = some x ∧ (k x q').Ret r
structure EnvP where
 ty : Tys
 spec : FuncId → SumT
 keep : Nat → Option (List Nat × List Nat)
 fuel : Nat
 loops : Nat → Option (AS → T (Tree (Ex × AS)))
 eqs : TypeId → Option EqFn
 eqok : EqOk ty eqs
 inl : FuncId → Option InlT := fun _ => none
 own : Bool := false
 specO : FuncId → Option SumT := fun _ => none
noncomputable def valV (sp : SumT) : List AV → Option AV := fun a => match (sp a []).opt.map Tree.val with | some (r,[]) => some r | _ => none
noncomputable def EnvP.env (E : EnvP) : Env := { ty := E.ty,spec := fun f a p => match E.inl f with | some i => i.sum a p | none => (E.spec f a p).opt.map Tree.val,keep := E.keep,fuel := E.fuel,own := E.own,specO := fun g => (E.specO g).map fun sp a cs => match (sp a [cs]).opt.map Tree.val with | some (r,[cs']) => some (r,cs') | _ => none,specV := fun g a => match E.specO g with | some sp => valV sp a | none => none }
def asTold (b c : Bool) : Bool := match c with | true => b | false => !b
theorem asTold_eq {b c : Bool} (h : asTold b c = true) : b = c := by
 cases c <;> cases b <;> simp [asTold] at h ⊢
def onQ {α : Type} (b : Bool) (q : Q) (k : Bool → Q → T α) : T α :=
 match q with
 | .z => .no
 | .t q => chk (asTold b true) (k true q)
 | .f q => chk (asTold b false) (k false q)
 | .s q1 q2 => bif b then k true q1 else k false q2
theorem onQ_ok {α : Type} {b : Bool} {q : Q} {k : Bool → Q → T α} {r : α} (h : (onQ b q k).Ret r) : ∃ q',(k b q').Ret r := by
 cases q with
 | z => exact h.elim
 | t q =>
  obtain ⟨h1,h2⟩ := chk_ok h
  rw [asTold_eq h1]; exact ⟨q,h2⟩
 | f q =>
  obtain ⟨h1,h2⟩ := chk_ok h
  rw [asTold_eq h1]; exact ⟨q,h2⟩
 | s q1 q2 =>
  cases b with
  | true => exact ⟨q1,h⟩
  | false => exact ⟨q2,h⟩
def onTree {α β : Type} (t : Tree β) (q : Q) (k : β → Q → T α) : T α :=
 match t with
 | .leaf a => k a q
 | .ite b l r => onQ b q fun c q => bif c then onTree l q k else onTree r q k
theorem onTree_ok {α β : Type} : ∀ {t : Tree β} {q : Q} {k : β → Q → T α} {r : α},(onTree t q k).Ret r → ∃ q',(k t.val q').Ret r
 | .leaf a,q,k,r,h => ⟨q,h⟩
 | .ite b l r',q,k,r,h => by
  obtain ⟨q',h⟩ := onQ_ok h
  cases b with
  | true => exact onTree_ok (t := l) h
  | false => exact onTree_ok (t := r') h
section ops
variable {α : Type}
def srcP (ty : Tys) (t2 : TypeId) (ei : TI) (m : Mem) (y : AV) (k : List AV → T α) : T α :=
 match y with
 | .sl sz ys st => bif isSlice ty t2 && (sz == ei.size || (st == .nil && ys.isEmpty)) then k ys else .no
 | .view id off n =>
  match look m id with
  | some cs =>
   chk (isSlice ty t2 && ((cs.drop off).take (n * ei.size)).length == n * ei.size && (ei.td.agg || ei.size == 1))
    (k (rows ei.td.agg ei.size (((cs.drop off).take (n * ei.size)).map AV.flat) n))
  | none => .no
 | .int .i64 n =>
  chk (ile 0 n) (chk (ile n 140737488355328) (chk (ile ((ei.bytes : Int) * n) 140737488355328)
   (bif isInt ty t2 && ei.zero.length == ei.size && (ei.td.agg || ei.size == 1) then k (List.replicate n.toNat ei.elemZero) else .no)))
 | _ => .no
theorem srcP_ok {ty t2 ei m y} {k : List AV → T α} {r : α} (h : (srcP ty t2 ei m y k).Ret r) : ∃ ys,srcA ty t2 ei m y = some ys ∧ (k ys).Ret r := by
 cases y <;> try exact h.elim
 case sl sz ys st =>
  simp only [srcP,srcA] at h ⊢
  generalize (isSlice ty t2 && (sz == ei.size || (st == .nil && ys.isEmpty))) = b at h
  cases b <;> simp only [cond_true,cond_false] at h ⊢
  ·exact h.elim
  ·exact ⟨_,rfl,h⟩
 case view id off n =>
  simp only [srcP,srcA] at h ⊢
  cases hl : look m id with
  | none => simp only [hl] at h; exact h.elim
  | some cs =>
   simp only [hl] at h ⊢
   obtain ⟨q1,q2⟩ := chk_ok h
   simp only [q1,cond_true]
   exact ⟨_,rfl,q2⟩
 case int kk n =>
  cases kk <;> try exact h.elim
  obtain ⟨h1,h⟩ := chk_ok h
  obtain ⟨h2,h⟩ := chk_ok h
  obtain ⟨h3,h⟩ := chk_ok h
  simp only [srcA,h1,h2,h3,Bool.and_true]
  generalize hb : (isInt ty t2 && ei.zero.length == ei.size && (ei.td.agg || ei.size == 1)) = b at h
  cases b <;> simp only [cond_true,cond_false] at h ⊢
  ·exact h.elim
  ·exact ⟨_,rfl,h⟩
def appendP (ei : TI) (d : Nat) (x : AV) (ys : List AV) (q : Q) (k : Eff → Q → T α) : T α :=
 match x with
 | .sl sz xs st =>
  bif (sz == ei.size || (st == .nil && xs.isEmpty)) then
   chk (Nat.ble ((xs.length + ys.length) * ei.bytes) 140737488355328) (chk (Nat.ble (xs.length + ys.length) 140737488355328)
    (match st with
    | .own g => k { val := .sl ei.size (xs ++ ys) (.own (apT g d)),rt := some g } q
    | .sh => chk ys.isEmpty (k { val := x } q)
    | .win _ _ => .no
    | .nil => onQ ys.isEmpty q fun c q => bif c then k { val := x } q else k { val := .sl ei.size ys (.own [d]) } q
    | .full => onQ ys.isEmpty q fun c q => bif c then k { val := x } q else k { val := .sl ei.size (xs ++ ys) (.own [d]) } q))
  else .no
 | _ => .no
theorem ble_ile {a : Nat} (h : Nat.ble a 140737488355328 = true) : ile (a : Int) 140737488355328 = true := by
 rw [Nat.ble_eq] at h
 simp only [ile,decide_eq_true_eq]
 omega
theorem appendP_ok {ei d x ys q} {k : Eff → Q → T α} {r : α} (h : (appendP ei d x ys q k).Ret r) : ∃ e q',appendA ei d x ys = some e ∧ (k e q').Ret r := by
 cases x <;> try exact h.elim
 rename_i sz xs st
 simp only [appendP,appendA] at h ⊢
 generalize (sz == ei.size || (st == .nil && xs.isEmpty)) = b at h
 cases b <;> simp only [cond_true,cond_false] at h
 ·exact h.elim
 obtain ⟨h1,h⟩ := chk_ok h
 obtain ⟨h2,h⟩ := chk_ok h
 replace h1 := ble_ile h1
 replace h2 := ble_ile h2
 simp only [h1,h2,Bool.true_and,cond_true]
 cases st <;> simp only at h ⊢
 ·obtain ⟨q',h⟩ := onQ_ok h
  cases hc : ys.isEmpty <;> rw [hc] at h <;> simp only [cond_true,cond_false] at h ⊢ <;> exact ⟨_,q',rfl,h⟩
 ·obtain ⟨q',h⟩ := onQ_ok h
  cases hc : ys.isEmpty <;> rw [hc] at h <;> simp only [cond_true,cond_false] at h ⊢ <;> exact ⟨_,q',rfl,h⟩
 ·obtain ⟨q1,q2⟩ := chk_ok h
  simp only [q1,cond_true]
  exact ⟨_,q,rfl,q2⟩
 ·exact ⟨_,q,rfl,h⟩
 ·exact h.elim
def loadP (ty : Tys) (t : TypeId) (x : AV) (m : Mem) (k : AV → T α) : T α :=
 match ty t with
 | none => .no
 | some ti =>
  match x with
  | .ptr id off =>
   match look m id with
   | some cs =>
    chk (((cs.drop off).take ti.size).length == ti.size)
     (bif ti.td.agg then (bif Nat.ble ti.size 8 then seen ti (.agg (((cs.drop off).take ti.size).map AV.flat)) k else k (.agg (((cs.drop off).take ti.size).map AV.flat))) else bif ti.size == 1 then seen ti (((cs.drop off).take ti.size).headD .unk) k else .no)
   | none => .no
  | .ro e => bif fits ti e then k e else .no
  | .wp _ _ e => bif fits ti e then k e else .no
  | _ => .no
def storeP (ty : Tys) (t : TypeId) (x y : AV) (m : Mem) (k : Eff → T α) : T α :=
 match ty t with
 | none => .no
 | some ti =>
  match x with
  | .ptr id off =>
   match look m id with
   | some cs =>
    chk (y.known && !y.isTup && y.cells.length == ti.size && Nat.ble (off + ti.size) cs.length) (k { val := .tup [],upd := [(id,setAt cs off y.cells)] })
   | none => .no
  | .wp g i _ => bif ti.size == 1 && !g.isEmpty then chk y.scal (k { val := .tup [],wr := some (g,i,[y]) }) else .no
  | _ => .no
def copyLP (g : Tag) (lo : Nat) (xs : List AV) (y : AV) (k : Eff → T α) : T α :=
 match y with
 | .sl sz ys st => bif sz == 1 || (st == .nil && ys.isEmpty) then chk (ys.all AV.scal) (k { val := .int .i64 (Nat.min ys.length xs.length),wr := some (g,lo,ys.take xs.length) }) else .no
 | _ => .no
def copyP (x y : AV) (k : Eff → T α) : T α :=
 match x with
 | .sl sz xs (.own g) => bif sz == 1 && !g.isEmpty then copyLP g 0 xs y k else .no
 | .sl sz xs (.win g lo) => bif sz == 1 && !g.isEmpty then copyLP g lo xs y k else .no
 | _ => .no
theorem copyP_ok {x y} {k : Eff → T α} {r : α} (h : (copyP x y k).Ret r) : ∃ e,copyA x y = some e ∧ (k e).Ret r := by
 have key : ∀ {g lo xs},(copyLP g lo xs y k).Ret r → ∃ e,copyL g lo xs y = some e ∧ (k e).Ret r := by
  intro g lo xs h
  cases y <;> try exact h.elim
  rename_i sz ys st _
  simp only [copyLP,copyL] at h ⊢
  generalize hb : (sz == 1 || (st == .nil && ys.isEmpty)) = b at h
  cases b <;> simp only [cond_true,cond_false] at h
  ·exact h.elim
  obtain ⟨h1,h2⟩ := chk_ok h
  simp only [h1,Bool.and_self,cond_true]
  exact ⟨_,rfl,h2⟩
 cases x <;> try exact h.elim
 rename_i sz xs st
 cases st <;> try exact h.elim
 all_goals
  simp only [copyP,copyA] at h ⊢
  generalize hb : (sz == 1 && !List.isEmpty _) = b at h
  cases b <;> simp only [cond_true,cond_false] at h ⊢
  ·exact h.elim
  ·exact key h
def pickP (c a b : AV) (q : Q) (k : AV → Q → T α) : T α :=
 match c with
 | .bool t =>
  match a,b with
  | .bool x,.bool y => k (.bool (bif t then x else y)) q
  | a,b => onQ t q fun c q => k (bif c then a else b) q
 | _ => .no
theorem pickP_ok {ty ρ c a b q} {k : AV → Q → T α} {r : α} (h : (pickP (ρ c) (ρ a) (ρ b) q k).Ret r) : ∃ v q',evPure ty ρ (.pick c a b) = some v ∧ (k v q').Ret r := by
 unfold pickP at h
 simp only [evPure]
 generalize ρ c = cv at h
 cases cv <;> try exact h.elim
 rename_i t
 simp only at h ⊢
 split at h
 ·rename_i x y hx hy
  rw [hx,hy]
  exact ⟨_,q,rfl,h⟩
 ·rename_i x y hne
  obtain ⟨q',h⟩ := onQ_ok h
  refine ⟨_,q',rfl,?_⟩
  have : pickA t (ρ a) (ρ b) = bif t then ρ a else ρ b := by
   unfold pickA
   split
   ·rename_i x y hx hy
    exact absurd hy (hne x y hx)
   ·rfl
  rw [this]
  exact h
def callP (E : EnvP) (m : Mem) (dst : Option Nat) (g : FuncId) (args : List AV) (q : Q) (k : Eff → Q → T α) : T α :=
 match looks m (ptrIds args) with
 | none => .no
 | some passed =>
  match E.inl g with
  | some i => i.run α (args.map (AV.renum (ptrIds args))) passed q fun p q =>
   chk (p.2.length == (ptrIds args).length) (k { val := p.1.named dst,upd := (ptrIds args).zip p.2 } q)
  | none => (E.spec g (args.map (AV.renum (ptrIds args))) passed).bind fun t => onTree t q fun p q =>
   chk (p.2.length == (ptrIds args).length) (k { val := p.1.named dst,upd := (ptrIds args).zip p.2 } q)
def forceL : List AV → (List AV → T α) → T α
 | [],k => k []
 | c :: cs,k =>
  match c with
  | .int kk n => forceL cs fun r => k (.int kk n :: r)
  | .sl sz xs st => forceL cs fun r => k (.sl sz xs st :: r)
  | c => forceL cs fun r => k (c :: r)
theorem forceL_eq : ∀ (l : List AV) (k : List AV → T α),forceL l k = k l
 | [],k => rfl
 | c :: cs,k => by
  unfold forceL
  split <;> exact forceL_eq cs _
def forceE (e : Eff) (k : Eff → T α) : T α :=
 match e.upd with
 | [(i,l)] => forceL l fun l => k { val := e.val,upd := [(i,l)],ins := e.ins,rt := e.rt,wr := e.wr,pre := e.pre }
 | _ => k e
theorem forceE_eq (e : Eff) (k : Eff → T α) : forceE e k = k e := by
 unfold forceE
 split
 ·rename_i i l h
  rw [forceL_eq,← h]
 ·rfl
def callOP (sp : SumT) (m : Mem) (dst : Option Nat) (args : List AV) (q : Q) (k : Eff → Q → T α) : T α :=
 match ptrIds args with
 | [id] =>
  match look m id with
  | none => .no
  | some cs => (sp (args.map (AV.renum [id])) [cs.map AV.pass]).bind fun t => onTree t q fun p q =>
   match p.2 with
   | [cs'] => match effO id cs p.1 cs' dst with | some e => forceE e fun e => k e q | none => .no
   | _ => .no
 | [] => (sp (args.map AV.pass) []).bind fun t => onTree t q fun p q =>
   match p.2 with
   | [] => match effV args p.1 dst with | some e => forceE e fun e => k e q | none => .no
   | _ => .no
 | _ => .no
theorem callOP_ok {sp : SumT} {m dst args q} {k : Eff → Q → T α} {r : α} (h : (callOP sp m dst args q k).Ret r) :
  ∃ e q',callO (fun a cs => match (sp a [cs]).opt.map Tree.val with | some (r,[cs']) => some (r,cs') | _ => none) (valV sp) m dst args = some e ∧ (k e q').Ret r := by
 unfold callOP at h
 unfold callO
 split at h
 case h_3 => exact h.elim
 case h_2 hid =>
  obtain ⟨tr,h1,h⟩ := h.bind
  obtain ⟨q',h⟩ := onTree_ok h
  split at h
  case h_2 => exact h.elim
  rename_i hcs
  cases he : effV args tr.val.1 dst with
  | none => rw [he] at h; exact h.elim
  | some e =>
  rw [he] at h
  simp only [forceE_eq] at h
  refine ⟨e,q',?_,h⟩
  rw [hid]
  simp only [valV]
  rw [T.opt_of h1]
  have e2 : tr.val = (tr.val.1,[]) := by rw [← hcs]
  simp only [Option.map_some]
  rw [e2]
  exact he
 rename_i id hid
 cases hl : look m id with
 | none => simp only [hl] at h; exact h.elim
 | some cs =>
 simp only [hl] at h
 obtain ⟨tr,h1,h⟩ := h.bind
 obtain ⟨q',h⟩ := onTree_ok h
 split at h
 case h_2 => exact h.elim
 rename_i cs' hcs
 cases he : effO id cs tr.val.1 cs' dst with
 | none => rw [he] at h; exact h.elim
 | some e =>
 rw [he] at h
 simp only [forceE_eq] at h
 refine ⟨e,q',?_,h⟩
 rw [hid]
 simp only [hl]
 rw [T.opt_of h1]
 have e2 : tr.val = (tr.val.1,[cs']) := by rw [← hcs]
 simp only [Option.map_some]
 rw [e2]
 exact he
def effP (E : EnvP) (o : Oper) (ρ : Operand → AV) (m : Mem) (q : Q) (k : Eff → Q → T α) : T α :=
 match o.op with
 | .load t x => loadP E.ty t (ρ x) m fun v => k { val := v } q
 | .store t x y => storeP E.ty t (ρ x) (ρ y) m fun e => k e q
 | .call { callee := .builtin .copy,args,argTypes } =>
  match args.toList,argTypes.toList with
  | [x,y],[t,_] =>
   match elemOf E.ty t with
   | some ei => bif isSlice E.ty t && ei.size == 1 then copyP (ρ x) (ρ y) fun e => k e q else .no
   | none => .no
  | _,_ => .no
 | .call { callee := .builtin .append,args,argTypes } =>
  match args.toList,argTypes.toList,o.dst with
  | [x,y],[t,t2],some d =>
   match elemOf E.ty t with
   | some ei => bif isSlice E.ty t then srcP E.ty t2 ei m (ρ y) fun ys => appendP ei d (ρ x) ys q k else .no
   | none => .no
  | _,_,_ => .no
 | .call { callee := .value f,args,.. } =>
  match ρ f with
  | .fn g cap =>
   bif E.own then
    match E.specO g with
    | some sp => callOP sp m o.dst (args.toList.map ρ ++ cap) q k
    | none => callP E m o.dst g (args.toList.map ρ ++ cap) q k
   else callP E m o.dst g (args.toList.map ρ ++ cap) q k
  | _ => .no
 | .alloc e =>
  match E.ty e,o.dst with
  | some ti,some d => ofO (allocA m d ti.zero) fun e => k e q
  | _,_ => .no
 | .box _ x =>
  match (ρ x).laid,o.dst with
  | some cs,some d => ofO (allocA m d cs) fun e => k e q
  | _,_ => .no
 | .buildSlice t n ps => ofO (evMake E.ty ρ (.buildSlice t n ps)) fun v => k { val := v } q
 | .pick c a b => pickP (ρ c) (ρ a) (ρ b) q fun v q => k { val := v } q
 | op => pureP E.ty E.eqs ρ op fun v => k { val := v } q
theorem effP_ok {E : EnvP} {o : Oper} {ρ m q} {k : Eff → Q → T α} {r : α} (h : (effP E o ρ m q k).Ret r) : ∃ e q',effOf E.env o ρ m = some e ∧ (k e q').Ret r := by
 obtain ⟨dst,op,oty,pos,after,guard⟩ := o
 have pure_ : ∀ op' : Op,(pureP E.ty E.eqs ρ op' fun v => k { val := v } q).Ret r → ∃ e q',(evPure E.ty ρ op').map (fun v => ({ val := v } : Eff)) = some e ∧ (k e q').Ret r := by
  intro op' h
  obtain ⟨v,h1,h2⟩ := pureP_ok E.eqok h
  exact ⟨_,q,by rw [h1]; rfl,h2⟩
 cases hop : op
 case alloc t =>
  rw [hop] at h
  simp only [effP,effOf,EnvP.env] at h ⊢
  cases ht : E.ty t with
  | none => simp only [ht] at h; exact h.elim
  | some ti =>
  cases dst with
  | none => simp only [ht] at h; exact h.elim
  | some d =>
   simp only [ht] at h ⊢
   obtain ⟨e,h1,h2⟩ := ofO_ok h
   exact ⟨e,q,h1,h2⟩
 case box t x =>
  rw [hop] at h
  simp only [effP,effOf,EnvP.env] at h ⊢
  cases ht : (ρ x).laid with
  | none => simp only [ht] at h; exact h.elim
  | some cs =>
  cases dst with
  | none => simp only [ht] at h; exact h.elim
  | some d =>
   simp only [ht] at h ⊢
   obtain ⟨e,h1,h2⟩ := ofO_ok h
   exact ⟨e,q,h1,h2⟩
 case load t x =>
  rw [hop] at h
  simp only [effP,effOf,EnvP.env,loadP] at h ⊢
  cases ht : E.ty t with
  | none => simp only [ht] at h; exact h.elim
  | some ti =>
  simp only [ht] at h ⊢
  generalize ρ x = xv at h
  cases xv <;> try exact h.elim
  case ptr id off =>
   simp only at h ⊢
   cases hl : look m id with
   | none => simp only [hl] at h; exact h.elim
   | some cs =>
   simp only [hl] at h ⊢
   obtain ⟨h0,h⟩ := chk_ok h
   simp only [h0,cond_true]
   cases ha : ti.td.agg <;> rw [ha] at h <;> simp only [cond_true,cond_false] at h
   ·cases hs : ti.size == 1 <;> rw [hs] at h <;> simp only [cond_true,cond_false] at h
    ·exact h.elim
    ·simp only [Bool.false_eq_true,if_false,cond_true]
     exact ⟨_,q,rfl,seen_ok h⟩
   ·simp only [if_true]
    cases hs : Nat.ble ti.size 8 <;> rw [hs] at h <;> simp only [cond_true,cond_false] at h
    ·exact ⟨_,q,rfl,h⟩
    ·exact ⟨_,q,rfl,seen_ok h⟩
  case ro e =>
   simp only at h ⊢
   cases hf : fits ti e <;> rw [hf] at h <;> simp only [cond_true,cond_false] at h ⊢
   ·exact h.elim
   ·exact ⟨_,q,rfl,h⟩
  case wp g i e =>
   simp only at h ⊢
   cases hf : fits ti e <;> rw [hf] at h <;> simp only [cond_true,cond_false] at h ⊢
   ·exact h.elim
   ·exact ⟨_,q,rfl,h⟩
 case store t x y =>
  rw [hop] at h
  simp only [effP,effOf,EnvP.env,storeP] at h ⊢
  cases ht : E.ty t with
  | none => simp only [ht] at h; exact h.elim
  | some ti =>
  simp only [ht] at h ⊢
  generalize ρ x = xv at h
  cases xv <;> try exact h.elim
  case ptr id off =>
   simp only at h ⊢
   cases hl : look m id with
   | none => simp only [hl] at h; exact h.elim
   | some cs =>
   simp only [hl] at h ⊢
   obtain ⟨q1,q2⟩ := chk_ok h
   simp only [q1,cond_true]
   exact ⟨_,q,rfl,q2⟩
  case wp g i e =>
   simp only at h ⊢
   cases hs : (ti.size == 1 && !g.isEmpty) <;> rw [hs] at h <;> simp only [cond_true,cond_false] at h
   ·exact h.elim
   obtain ⟨q1,q2⟩ := chk_ok h
   simp only [Bool.and_eq_true] at hs
   simp only [q1,hs.1,hs.2,Bool.and_self,cond_true]
   exact ⟨_,q,rfl,q2⟩
 case call c =>
  rw [hop] at h
  obtain ⟨callee,args,argTypes⟩ := c
  cases callee with
  | value f =>
   have plain : ∀ {g as},(callP E m dst g as q k).Ret r → ∃ e q',callA E.env m dst g as = some e ∧ (k e q').Ret r := by
    intro g as h
    simp only [EnvP.env,callP,callA] at h ⊢
    cases hl : looks m (ptrIds as) with
    | none => simp only [hl] at h; exact h.elim
    | some passed =>
    simp only [hl] at h ⊢
    cases hi : E.inl g with
    | some i =>
     simp only [hi] at h ⊢
     obtain ⟨x,q',h1,h⟩ := i.ok _ _ _ _ _ _ h
     obtain ⟨h2,h3⟩ := chk_ok h
     rw [h1]
     simp only [h2,cond_true]
     exact ⟨_,q',rfl,h3⟩
    | none =>
    simp only [hi] at h ⊢
    obtain ⟨tr,h1,h⟩ := h.bind
    obtain ⟨q',h⟩ := onTree_ok h
    obtain ⟨h2,h3⟩ := chk_ok h
    rw [T.opt_of h1]
    simp only [Option.map_some,h2,cond_true]
    exact ⟨_,q',rfl,h3⟩
   simp only [effP,effOf] at h ⊢
   generalize ρ f = fv at h
   cases fv <;> try exact h.elim
   simp only at h ⊢
   rename_i g cap
   generalize args.toList.map ρ ++ cap = as at h
   have ho : E.env.own = E.own := rfl
   rw [ho]
   cases hO : E.own <;> rw [hO] at h <;> simp only [cond_true,cond_false] at h ⊢
   ·exact plain h
   ·cases hs : E.specO g with
    | none =>
     have hs2 : E.env.specO g = none := by simp only [EnvP.env,hs,Option.map_none]
     rw [hs] at h
     rw [hs2]
     exact plain h
    | some sp =>
     have hs3 : E.env.specV g = valV sp := by funext a; simp only [EnvP.env,hs]
     have hs2 : E.env.specO g = some (fun a cs => match (sp a [cs]).opt.map Tree.val with | some (r,[cs']) => some (r,cs') | _ => none) := by simp only [EnvP.env,hs,Option.map_some]
     rw [hs] at h
     simp only [hs2,hs3]
     exact callOP_ok h
  | invoke rr n => exact pure_ (.call { callee := .invoke rr n,args,argTypes }) h
  | builtin b =>
   by_cases hb : b = .append
   ·subst hb
    simp only [effP,effOf,EnvP.env] at h ⊢
    split at h
    ·rename_i x y t t2 d h1 h2
     simp only [h1,h2]
     cases hel : elemOf E.ty t with
     | none => simp only [hel] at h; exact h.elim
     | some ei =>
     simp only [hel] at h ⊢
     cases his : isSlice E.ty t <;> rw [his] at h <;> simp only [cond_true,cond_false] at h ⊢
     ·exact h.elim
     obtain ⟨ys,h3,h⟩ := srcP_ok h
     rw [h3]
     exact appendP_ok h
    ·exact h.elim
   ·by_cases hb2 : b = .copy
    ·subst hb2
     simp only [effP,effOf,EnvP.env] at h ⊢
     split at h
     ·rename_i x y t t2 h1 h2
      simp only [h1,h2]
      cases hel : elemOf E.ty t with
      | none => simp only [hel] at h; exact h.elim
      | some ei =>
      simp only [hel] at h ⊢
      cases his : (isSlice E.ty t && ei.size == 1) <;> rw [his] at h <;> simp only [cond_true,cond_false] at h ⊢
      ·exact h.elim
      obtain ⟨e,h3,h⟩ := copyP_ok h
      exact ⟨e,q,h3,h⟩
     ·exact h.elim
    have e1 : effP E ⟨dst,.call { callee := .builtin b,args,argTypes },oty,pos,after,guard⟩ ρ m q k = pureP E.ty E.eqs ρ (.call { callee := .builtin b,args,argTypes }) fun v => k { val := v } q := by
     cases b <;> first | rfl | exact absurd rfl hb | exact absurd rfl hb2
    have e2 : effOf E.env ⟨dst,.call { callee := .builtin b,args,argTypes },oty,pos,after,guard⟩ ρ m = (evPure E.ty ρ (.call { callee := .builtin b,args,argTypes })).map fun v => { val := v } := by
     cases b <;> first | rfl | exact absurd rfl hb | exact absurd rfl hb2
    rw [e1] at h
    rw [e2]
    exact pure_ _ h
 case buildSlice t n ps =>
  rw [hop] at h
  simp only [effP,effOf,EnvP.env] at h ⊢
  obtain ⟨v,h1,h2⟩ := ofO_ok h
  exact ⟨_,q,by rw [h1]; rfl,h2⟩
 case pick c a b =>
  rw [hop] at h
  simp only [effP] at h
  obtain ⟨v,q',h1,h2⟩ := pickP_ok (ty := E.ty) h
  exact ⟨{ val := v },q',by simp only [effOf,EnvP.env,h1,Option.map_some],h2⟩
 all_goals
  rw [hop] at h
  have := pure_ op (by rw [hop]; exact h)
  rw [hop] at this
  exact this
end ops
section code
variable {α : Type}
def wantP (ops : Array Oper) (ts : List AV) (o : Oper) (q : Q) (run skip : Q → T α) : T α :=
 match o.guard with
 | none => run q
 | some (j,want) =>
  match (ops[j]?).bind (·.dst) with
  | none => skip q
  | some t =>
   match ts[t]? with
   | some (.bool b) => onQ b q fun c q => bif c == want then run q else skip q
   | some (.tup _) => skip q
   | none => skip q
   | _ => .no
def AV.ownOk : AV → Bool
 | .sl _ xs (.own _) => xs.all AV.scal
 | _ => true
def AV.wroteQ (k : Tag) (i : Nat) (vs : List AV) : AV → AV
 | .sl sz xs (.own k') => if k' = k then .sl sz (setAt xs i vs) (.own k') else .sl sz xs (.own k')
 | v => v.wrote k i vs
def AS.ownOk (s : AS) : Bool := s.tmps.all AV.ownOk && s.mem.all fun p => p.2.all AV.ownOk
def AS.wroteQ (k : Tag) (i : Nat) (vs : List AV) (s : AS) : AS := { tmps := s.tmps.map (AV.wroteQ k i vs),mem := s.mem.map fun p => (p.1,p.2.map (AV.wroteQ k i vs)) }
theorem AV.wroteQ_eq {k : Tag} {i : Nat} {vs : List AV} {v : AV} (h : v.ownOk = true) : v.wroteQ k i vs = v.wrote k i vs := by
 cases v <;> try rfl
 rename_i sz xs st
 cases st <;> try rfl
 simp only [AV.ownOk] at h
 simp only [AV.wroteQ,AV.wrote,h,cond_true]
theorem AS.wroteQ_eq {k : Tag} {i : Nat} {vs : List AV} {s : AS} (h : s.ownOk = true) : s.wroteQ k i vs = s.wrote k i vs := by
 simp only [AS.ownOk,Bool.and_eq_true,List.all_eq_true] at h
 unfold AS.wroteQ AS.wrote
 congr 1
 ·exact List.map_congr_left fun v hv => AV.wroteQ_eq (h.1 v hv)
 ·refine List.map_congr_left fun p hp => ?_
  congr 1
  exact List.map_congr_left fun v hv => AV.wroteQ_eq (h.2 p hp v hv)
def appP (e : Eff) (dst : Option Nat) (s : AS) (k : AS → T α) : T α :=
 match e.wr with
 | none => k (e.app dst s)
 | some (g,i,vs) => chk (Eff.app { e with wr := none } none s).ownOk (k (((Eff.app { e with wr := none } none s).wroteQ g i vs).put dst e.val))
theorem appP_ok {e : Eff} {dst : Option Nat} {s : AS} {k : AS → T α} {r : α} (h : (appP e dst s k).Ret r) : (k (e.app dst s)).Ret r := by
 unfold appP at h
 cases hw : e.wr with
 | none => simp only [hw] at h; exact h
 | some x =>
  obtain ⟨g,i,vs⟩ := x
  simp only [hw] at h
  obtain ⟨h1,h2⟩ := chk_ok h
  rw [AS.wroteQ_eq h1] at h2
  have : e.app dst s = ((Eff.app { e with wr := none } none s).wrote g i vs).put dst e.val := by
   unfold Eff.app
   simp only [hw]
   rfl
  rw [this]
  exact h2
def step1P (E : EnvP) (ops : Array Oper) (i : Nat) (s : AS) (q : Q) (k : AS → Q → T α) : T α :=
 match ops[i]? with
 | none => k s q
 | some o => wantP ops s.tmps o q (fun q => effP E o (opv s.tmps) s.mem q fun e q => appP e o.dst s fun s => k s q) (fun q => k (s.put o.dst (.tup [])) q)
theorem step1P_ok {E : EnvP} {ops : Array Oper} {i : Nat} {s : AS} {q : Q} {k : AS → Q → T α} {r : α} (h : (step1P E ops i s q k).Ret r) : ∃ s' q',step1 E.env ops i s = some s' ∧ (k s' q').Ret r := by
 unfold step1P at h
 unfold step1
 cases ho : ops[i]? with
 | none => simp only [ho] at h ⊢; exact ⟨_,_,rfl,h⟩
 | some o =>
  simp only [ho] at h ⊢
  have run : ∀ q,(effP E o (opv s.tmps) s.mem q fun e q => appP e o.dst s fun s => k s q).Ret r → ∃ s' q',evOp E.env o s = some s' ∧ (k s' q').Ret r := by
   intro q h
   obtain ⟨e,q',h1,h2⟩ := effP_ok h
   exact ⟨_,q',by unfold evOp; rw [h1]; rfl,appP_ok h2⟩
  unfold wantP at h
  unfold wantA
  cases hg : o.guard with
  | none =>
   simp only [hg] at h ⊢
   exact run q h
  | some jw =>
   obtain ⟨j,want⟩ := jw
   simp only [hg] at h ⊢
   cases hj : (ops[j]?).bind (·.dst) with
   | none => simp only [hj] at h ⊢; exact ⟨_,q,rfl,h⟩
   | some t =>
    simp only [hj] at h ⊢
    cases hx : s.tmps[t]? with
    | none => simp only [hx] at h ⊢; exact ⟨_,q,rfl,h⟩
    | some v =>
     simp only [hx] at h ⊢
     cases v <;> try exact h.elim
     case bool b =>
      simp only at h ⊢
      obtain ⟨q',h⟩ := onQ_ok h
      cases hc : b == want <;> rw [hc] at h <;> simp only [cond_true,cond_false] at h ⊢
      ·exact ⟨_,q',rfl,h⟩
      ·exact run q' h
     case tup vs => exact ⟨_,q,rfl,h⟩
def evSeqP (E : EnvP) (ops : Array Oper) : List Nat → AS → Q → (AS → Q → T α) → T α
 | [],s,q,k => k s q
 | i :: rest,s,q,k =>
  match (ops[i]?).bind makes with
  | none => step1P E ops i s q fun s q => evSeqP E ops rest s q k
  | some g => chk (s.noTag g) (step1P E ops i s q fun s q => evSeqP E ops rest s q k)
theorem evSeqP_ok {E : EnvP} {ops : Array Oper} : ∀ {l : List Nat} {s : AS} {q : Q} {k : AS → Q → T α} {r : α},(evSeqP E ops l s q k).Ret r → ∃ s' q',evSeq E.env ops l s = some s' ∧ (k s' q').Ret r
 | [],s,q,k,r,h => ⟨s,q,rfl,h⟩
 | i :: rest,s,q,k,r,h => by
  simp only [evSeqP] at h
  simp only [evSeq]
  cases hm : (ops[i]?).bind makes with
  | none =>
   simp only [hm] at h ⊢
   obtain ⟨s1,q1,h1,h⟩ := step1P_ok h
   rw [h1]
   exact evSeqP_ok h
  | some g =>
   simp only [hm] at h ⊢
   obtain ⟨h0,h⟩ := chk_ok h
   obtain ⟨s1,q1,h1,h⟩ := step1P_ok h
   rw [h0,h1]
   exact evSeqP_ok h
def ownP (E : EnvP) (ts : List AV) (o : Oper) : Bool :=
 match o.op with
 | .call { callee := .value f,.. } => match opv ts f with | .fn g _ => E.own && (E.specO g).isSome | _ => false
 | _ => false
def fpP (E : EnvP) (ops : Array Oper) (i : Nat) (s : AS) : FP :=
 match ops[i]? with
 | some o => (keysR s.tmps o,bif loadAgg E.ty o then [lkey] else bif ownP E s.tmps o then okey :: keysW s.tmps o else keysW s.tmps o)
 | none => ([],[])
theorem fpP_eq (E : EnvP) (ops : Array Oper) (i : Nat) (s : AS) : fpP E ops i s = fpOf E.env ops i s := by
 have key : ∀ ts o,ownP E ts o = ownCall E.env ts o := by
  intro ts o
  obtain ⟨dst,op,oty,pos,after,guard⟩ := o
  cases op <;> try rfl
  rename_i c
  obtain ⟨callee,args,argTypes⟩ := c
  cases callee <;> try rfl
  rename_i f
  simp only [ownP,ownCall]
  cases opv ts f <;> try rfl
  rename_i g cap
  simp only [EnvP.env,Option.isSome_map]
 unfold fpP fpOf
 cases ops[i]? with
 | none => rfl
 | some o => simp only [key,fpW]; rfl
def evTrP (E : EnvP) (ops : Array Oper) : List Nat → AS → Q → (AS → List FP → Q → T α) → T α
 | [],s,q,k => k s [] q
 | i :: rest,s,q,k => step1P E ops i s q fun s' q => evTrP E ops rest s' q fun s'' l q => k s'' (fpP E ops i s :: l) q
theorem evTrP_ok {E : EnvP} {ops : Array Oper} : ∀ {l : List Nat} {s : AS} {q : Q} {k : AS → List FP → Q → T α} {r : α},(evTrP E ops l s q k).Ret r → ∃ s' fs q',evTr E.env ops l s = some (s',fs) ∧ (k s' fs q').Ret r
 | [],s,q,k,r,h => ⟨s,[],q,rfl,h⟩
 | i :: rest,s,q,k,r,h => by
  simp only [evTrP,fpP_eq] at h
  simp only [evTr]
  obtain ⟨s1,q1,h1,h⟩ := step1P_ok h
  obtain ⟨s2,fs,q2,h2,h⟩ := evTrP_ok h
  rw [h1]
  simp only [h2]
  exact ⟨_,_,q2,rfl,h⟩
def loopP (f : AS → Q → (Ex → AS → Q → T α) → T α) (c : AS → AS) : Nat → AS → Q → (Ex → AS → Q → T α) → T α
 | 0,_,_,_ => .no
 | n + 1,s,q,k => f (c s) q fun ex s' q => match ex with | .normal => loopP f c n s' q k | ex => k ex s' q
def EnvP.clean (E : EnvP) (key : Nat) : AS → AS := match E.keep key with | some (l,m) => AS.clean l m | none => id
def evP (E : EnvP) : Code → AS → Q → (Ex → AS → Q → T α) → T α
 | .skip,s,q,k => k .normal s q
 | .region _ ops draw,s,q,k =>
  bif draw then evTrP E ops (List.range ops.size) s q fun s' l q => chk (drawOk2 ops s l) (k .normal s' q)
  else evSeqP E ops (List.range ops.size) s q fun s q => k .normal s q
 | .seq a b,s,q,k => evP E a s q fun ex s' q => match ex with | .normal => evP E b s' q k | ex => k ex s' q
 | .cond c a b,s,q,k =>
  match opv s.tmps c with
  | .bool t => onQ t q fun c q => bif c then evP E a s q k else evP E b s q k
  | _ => .no
 | .block id c,s,q,k => evP E c s q fun ex s' q => match ex with | .exit id' => k (if id' = id then .normal else .exit id') s' q | ex => k ex s' q
 | .loop c,s,q,k =>
  match E.loops (firstKey c) with
  | some f => (f s).bind fun t => onTree t q fun p q => k p.1 p.2 q
  | none => loopP (evP E c) (E.clean (firstKey c)) E.fuel s q fun ex s q => k ex (E.clean (firstKey c + 500) s) q
 | .exit id,s,q,k => k (.exit id) s q
 | .label _,s,q,k => k .normal s q
 | .scope c,s,q,k => evP E c s q k
 | .ret,s,q,k => k .ret s q
 | _,_,_,_ => .no
def loopsOf : Code → List Code
 | .seq a b => loopsOf a ++ loopsOf b
 | .cond _ a b => loopsOf a ++ loopsOf b
 | .block _ c => loopsOf c
 | .scope c => loopsOf c
 | .loop c => c :: loopsOf c
 | _ => []
def LoopOk (E : EnvP) (c : Code) (f : AS → T (Tree (Ex × AS))) : Prop := ∀ s t,(f s).Ret t → ev E.env (.loop c) s = some t.val
def LoopsOk (E : EnvP) (l : List Code) : Prop := ∀ c ∈ l,∀ f,E.loops (firstKey c) = some f → LoopOk E c f
theorem evP_ok {E : EnvP} : ∀ (c : Code) {s : AS} {q : Q} {k : Ex → AS → Q → T α} {r : α},LoopsOk E (loopsOf c) → (evP E c s q k).Ret r → ∃ ex s' q',ev E.env c s = some (ex,s') ∧ (k ex s' q').Ret r := by
 intro c
 induction c with
 | skip => intro s q k r _ h; exact ⟨_,_,_,rfl,h⟩
 | label l => intro s q k r _ h; exact ⟨_,_,_,rfl,h⟩
 | exit id => intro s q k r _ h; exact ⟨_,_,_,rfl,h⟩
 | ret => intro s q k r _ h; exact ⟨_,_,_,rfl,h⟩
 | region rid ops draw =>
  intro s q k r _ h
  cases draw with
  | false =>
   simp only [evP,ev,cond_false] at h ⊢
   obtain ⟨s',q',h1,h⟩ := evSeqP_ok h
   exact ⟨_,s',q',by rw [h1]; rfl,h⟩
  | true =>
   simp only [evP,ev,cond_true] at h ⊢
   obtain ⟨s',fs,q',h1,h⟩ := evTrP_ok h
   obtain ⟨h2,h⟩ := chk_ok h
   exact ⟨_,s',q',by simp only [h1,h2,cond_true],h⟩
 | seq a b iha ihb =>
  intro s q k r hL h
  simp only [evP,ev] at h ⊢
  obtain ⟨ex,s1,q1,h1,h⟩ := iha (fun c hc => hL c (List.mem_append_left _ hc)) h
  rw [h1]
  cases ex with
  | normal => exact ihb (fun c hc => hL c (List.mem_append_right _ hc)) h
  | exit id => exact ⟨_,_,_,rfl,h⟩
  | ret => exact ⟨_,_,_,rfl,h⟩
 | cond c a b iha ihb =>
  intro s q k r hL h
  simp only [evP,ev] at h ⊢
  generalize opv s.tmps c = v at h
  cases v <;> try exact h.elim
  rename_i t
  simp only at h ⊢
  obtain ⟨q',h⟩ := onQ_ok h
  cases t with
  | true => exact iha (fun c hc => hL c (List.mem_append_left _ hc)) h
  | false => exact ihb (fun c hc => hL c (List.mem_append_right _ hc)) h
 | block id c ih =>
  intro s q k r hL h
  simp only [evP,ev] at h ⊢
  obtain ⟨ex,s1,q1,h1,h⟩ := ih hL h
  rw [h1]
  cases ex with
  | normal => exact ⟨_,_,_,rfl,h⟩
  | exit id' => exact ⟨_,_,_,rfl,h⟩
  | ret => exact ⟨_,_,_,rfl,h⟩
 | scope c ih =>
  intro s q k r hL h
  simp only [evP,ev] at h ⊢
  exact ih hL h
 | loop c ih =>
  intro s q k r hL h
  have hLc : LoopsOk E (loopsOf c) := fun c' hc => hL c' (List.mem_cons_of_mem _ hc)
  simp only [evP] at h
  cases hf : E.loops (firstKey c) with
  | some f =>
   simp only [hf] at h
   obtain ⟨tr,h1,h⟩ := h.bind
   obtain ⟨q',h⟩ := onTree_ok h
   exact ⟨_,_,q',hL c (by simp [loopsOf]) f hf s tr h1,h⟩
  | none =>
   simp only [hf] at h
   simp only [ev]
   have key : ∀ (k : Ex → AS → Q → T α) (cl : AS → AS) (n : Nat) {s : AS} {q : Q},(loopP (evP E c) cl n s q k).Ret r → ∃ ex s' q',loopN (ev E.env c) cl n s = some (ex,s') ∧ (k ex s' q').Ret r := by
    intro k cl n
    induction n with
    | zero => intro s q h; exact h.elim
    | succ n ihn =>
     intro s q h
     simp only [loopP] at h
     simp only [loopN]
     obtain ⟨ex,s1,q1,h1,h⟩ := ih hLc h
     rw [h1]
     cases ex with
     | normal => exact ihn h
     | exit id => exact ⟨_,_,_,rfl,h⟩
     | ret => exact ⟨_,_,_,rfl,h⟩
   obtain ⟨ex,s',q',h1,h2⟩ := key _ _ _ h
   have e := congrArg (Option.map fun r : Ex × AS => (r.1,E.clean (firstKey c + 500) r.2)) h1
   exact ⟨ex,_,q',e,h2⟩
 | _ => intro s q k r _ h; exact h.elim
end code
def resP {α : Type} (ty : Tys) (s : AS) (r : ResultVar) (k : AV → T α) : T α :=
 match r with
 | .tmp t => k (s.tmps.getD t .unk)
 | .cell a t =>
  match ty t,s.tmps.getD a .unk with
  | some ti,.ptr id off =>
   match look s.mem id with
   | some cs =>
    chk (((cs.drop off).take ti.size).length == ti.size)
     (bif ti.td.agg then k (.agg (((cs.drop off).take ti.size).map AV.flat)) else bif ti.size == 1 then k (((cs.drop off).take ti.size).headD .unk) else .no)
   | none => .no
  | _,_ => .no
theorem resP_ok {α : Type} {ty : Tys} {s : AS} {rv : ResultVar} {k : AV → T α} {r : α} (h : (resP ty s rv k).Ret r) : ∃ v,resA ty s rv = some v ∧ (k v).Ret r := by
 cases rv with
 | tmp t => exact ⟨_,rfl,h⟩
 | cell a t =>
  simp only [resP,resA] at h ⊢
  cases ht : ty t with
  | none => simp only [ht] at h; exact h.elim
  | some ti =>
  simp only [ht] at h ⊢
  generalize s.tmps.getD a .unk = x at h
  cases x <;> try exact h.elim
  rename_i id off
  simp only at h ⊢
  cases hl : look s.mem id with
  | none => simp only [hl] at h; exact h.elim
  | some cs =>
  simp only [hl] at h ⊢
  obtain ⟨h0,h⟩ := chk_ok h
  simp only [h0,cond_true]
  cases ha : ti.td.agg <;> rw [ha] at h <;> simp only [cond_true,cond_false] at h
  ·cases hs : ti.size == 1 <;> rw [hs] at h <;> simp only [cond_true,cond_false] at h
   ·exact h.elim
   ·simp only [Bool.false_eq_true,if_false,cond_true]
    exact ⟨_,rfl,h⟩
  ·simp only [if_true]
   exact ⟨_,rfl,h⟩
def resAllP {α : Type} (ty : Tys) (s : AS) : List ResultVar → (List AV → T α) → T α
 | [],k => k []
 | r :: rs,k => resP ty s r fun v => resAllP ty s rs fun vs => k (v :: vs)
theorem resAllP_ok {α : Type} {ty : Tys} {s : AS} : ∀ {l : List ResultVar} {k : List AV → T α} {r : α},(resAllP ty s l k).Ret r → ∃ vs,resAll ty s l = some vs ∧ (k vs).Ret r
 | [],k,r,h => ⟨[],rfl,h⟩
 | rv :: rs,k,r,h => by
  obtain ⟨v,h1,h⟩ := resP_ok h
  obtain ⟨vs,h2,h⟩ := resAllP_ok h
  exact ⟨v :: vs,by simp only [resAll,h1,h2],h⟩
def doneP (E : EnvP) (fn : Func) (n : Nat) (ex : Ex) (s : AS) : T (AV × List (List AV)) :=
 match ex with
 | .exit _ => .no
 | _ => resAllP E.ty s fn.results.toList fun vs => match passedBack s.mem 1000 n with | some l => .ret (outA vs,l) | none => .no
def runP (E : EnvP) (fn : Func) (args : List AV) (passed : List (List AV)) (q : Q) : T (AV × List (List AV)) :=
 match fn.body with
 | none => .no
 | some c => evP E c (enterA fn args passed) q fun ex s _ => doneP E fn passed.length ex s
theorem runP_ok {E : EnvP} {fn : Func} {args : List AV} {passed : List (List AV)} {q : Q} {r : AV × List (List AV)} (hL : ∀ c,fn.body = some c → LoopsOk E (loopsOf c)) (h : (runP E fn args passed q).Ret r) :
  runF E.env fn args passed = some r := by
 unfold runP at h
 unfold runF
 cases hb : fn.body with
 | none => simp only [hb] at h; exact h.elim
 | some c =>
  simp only [hb] at h ⊢
  obtain ⟨ex,s,q',h1,h⟩ := evP_ok c (hL c hb) h
  rw [h1]
  unfold doneP at h
  have fin : (resAllP E.ty s fn.results.toList fun vs => (match passedBack s.mem 1000 passed.length with | some l => .ret (outA vs,l) | none => .no : T (AV × List (List AV)))).Ret r → (match resAll E.env.ty s fn.results.toList,passedBack s.mem 1000 passed.length with
    | some vs,some l => some (outA vs,l)
    | _,_ => none) = some r := by
   intro h
   obtain ⟨vs,h2,h⟩ := resAllP_ok h
   rw [show E.env.ty = E.ty from rfl,h2]
   cases hp : passedBack s.mem 1000 passed.length with
   | none => simp only [hp] at h; exact h.elim
   | some l => simp only [hp] at h; exact congrArg some h
  cases ex with
  | exit id => exact h.elim
  | normal => exact fin h
  | ret => exact fin h
def SumTOk (P : Program) (f : FuncId) (S : SumT) : Prop := ∀ args passed t,(S args passed).Ret t → CallsA P f args passed t.val.1 t.val.2
def specT : List (FuncId × SumT) → FuncId → SumT
 | [],_ => fun _ _ => .no
 |(g,S) :: r,f => bif g == f then S else specT r f
def SpecTL (P : Program) : List (FuncId × SumT) → Prop
 | [] => True
 | p :: r => SumTOk P p.1 p.2 ∧ SpecTL P r
theorem specT_ok {P : Program} : ∀ {l : List (FuncId × SumT)},SpecTL P l → ∀ f,SumTOk P f (specT l f)
 | [],_,f => fun args passed t h => h.elim
 | p :: l,hl,f => fun args passed t h => by
  simp only [specT] at h
  cases hb : p.1 == f <;> rw [hb] at h <;> simp only [cond_true,cond_false] at h
  ·exact specT_ok hl.2 f args passed t h
  ·rw [beq_iff_eq] at hb
   rw [← hb]; exact hl.1 _ _ _ h
def Book.envP (K : Book) (f : FuncId) (spec : List (FuncId × SumT)) (fuel : Nat) (loops : Nat → Option (AS → T (Tree (Ex × AS)))) : EnvP :=
 { ty := K.ty.get,spec := specT spec,keep := fun r => K.keep.get (f * 1000 + r),fuel,loops,eqs := K.eqs,eqok := K.eqok }
def noLoops : Nat → Option (AS → T (Tree (Ex × AS))) := fun _ => none
theorem noLoops_ok {K : Book} {f spec fuel l} : LoopsOk (K.envP f spec fuel noLoops) l := fun _ _ _ h => by cases h
theorem Book.Ok.path {P : Program} {K : Book} (hK : K.Ok P) {f : FuncId} {fn : Func} (hf : K.fn.get f = some fn) {spec : List (FuncId × SumT)} (hs : SpecTL P spec) (fuel : Nat) (loops : Nat → Option (AS → T (Tree (Ex × AS))))
  (hL : ∀ c,fn.body = some c → LoopsOk (K.envP f spec fuel loops) (loopsOf c)) {args : List AV} {passed : List (List AV)} (q : Q) {r : AV} {passed' : List (List AV)}
  (h : (runP (K.envP f spec fuel loops) fn args passed q).Ret (r,passed')) : CallsA P f args passed r passed' := by
 obtain ⟨h1,h2⟩ := hK.fn.get hf
 refine runF_ok (E := (K.envP f spec fuel loops).env) ⟨hK.tys,fun g a p r p' hr => by
  obtain ⟨t,h1,h2⟩ := Option.map_eq_some_iff.1 hr
  have := specT_ok hs g a p t (T.of_opt h1)
  rw [h2] at this
  exact this,fun _ _ h => (by cases h),fun _ _ _ h => (by cases h)⟩ hK.zero hK.mixed h1 h2 (runP_ok hL h)
def doneO (E : EnvP) (fn : Func) (ex : Ex) (s : AS) : T (AV × List (List AV)) :=
 match ex with
 | .exit _ => .no
 | _ => resAllP E.ty s fn.results.toList fun vs =>
  match look s.mem 1000 with
  | some cs0 => bif Nat.ble (ownTags cs0).length 1 then .ret (match vs with | [v] => v.flat | vs => .tup (vs.map AV.flat),[cs0.map AV.backO]) else .no
  | none => .no
def runO (E : EnvP) (fn : Func) (args : List AV) (passed : List (List AV)) (q : Q) : T (AV × List (List AV)) :=
 match fn.body,passed with
 | some c,[cs] => evP E c (enterA fn args [cs]) q fun ex s _ => doneO E fn ex s
 | _,_ => .no
theorem runO_ok {E : EnvP} {fn : Func} {args cs : List AV} {q : Q} {r : AV × List (List AV)} (hL : ∀ c,fn.body = some c → LoopsOk E (loopsOf c)) (h : (runO E fn args [cs] q).Ret r) :
  ∃ cs',r.2 = [cs'] ∧ runFO E.env fn args cs = some (r.1,cs') := by
 unfold runO at h
 unfold runFO
 cases hb : fn.body with
 | none => simp only [hb] at h; exact h.elim
 | some c =>
  simp only [hb] at h ⊢
  obtain ⟨ex,s,q',h1,h⟩ := evP_ok c (hL c hb) h
  rw [h1]
  unfold doneO at h
  have fin : (resAllP E.ty s fn.results.toList fun vs => (match look s.mem 1000 with
    | some cs0 => bif Nat.ble (ownTags cs0).length 1 then .ret (match vs with | [v] => v.flat | vs => .tup (vs.map AV.flat),[cs0.map AV.backO]) else .no
    | none => .no : T (AV × List (List AV)))).Ret r → ∃ cs',r.2 = [cs'] ∧ (match resAll E.env.ty s fn.results.toList,look s.mem 1000 with
    | some vs,some cs0 => bif Nat.ble (ownTags cs0).length 1 then some (match vs with | [v] => v.flat | vs => .tup (vs.map AV.flat),cs0.map AV.backO) else none
    | _,_ => none) = some (r.1,cs') := by
   intro h
   obtain ⟨vs,h2,h⟩ := resAllP_ok h
   rw [show E.env.ty = E.ty from rfl,h2]
   cases hp : look s.mem 1000 with
   | none => simp only [hp] at h; exact h.elim
   | some cs0 =>
    simp only [hp] at h ⊢
    cases hl : Nat.ble (ownTags cs0).length 1 <;> rw [hl] at h <;> simp only [cond_true,cond_false] at h ⊢
    ·exact h.elim
    ·have h : _ = r := h
     subst h
     exact ⟨_,rfl,rfl⟩
  cases ex with
  | exit id => exact h.elim
  | normal => exact fin h
  | ret => exact fin h
def SumOOk (P : Program) (f : FuncId) (S : SumT) : Prop := (∀ args cs t,(S args [cs]).Ret t → ∀ cs',t.val.2 = [cs'] → CallsO P f args cs t.val.1 cs') ∧ ∀ args t,(S args []).Ret t → t.val.2 = [] → CallsV P f args t.val.1
def specOT : List (FuncId × SumT) → FuncId → Option SumT
 | [],_ => none
 |(g,S) :: r,f => bif g == f then some S else specOT r f
def SpecOL (P : Program) : List (FuncId × SumT) → Prop
 | [] => True
 | p :: r => SumOOk P p.1 p.2 ∧ SpecOL P r
theorem specOT_ok {P : Program} : ∀ {l : List (FuncId × SumT)},SpecOL P l → ∀ f S,specOT l f = some S → SumOOk P f S
 | [],_,f,S,h => by cases h
 | p :: l,hl,f,S,h => by
  simp only [specOT] at h
  cases hb : p.1 == f <;> rw [hb] at h <;> simp only [cond_true,cond_false] at h
  ·exact specOT_ok hl.2 f S h
  ·rw [beq_iff_eq] at hb
   cases h
   rw [← hb]; exact hl.1
def Book.envO (K : Book) (f : FuncId) (spec specO : List (FuncId × SumT)) (fuel : Nat) : EnvP := { K.envP f spec fuel noLoops with own := true,specO := specOT specO }
theorem Book.Ok.envO {P : Program} {K : Book} (hK : K.Ok P) {f : FuncId} {spec specO : List (FuncId × SumT)} (hs : SpecTL P spec) (hO : SpecOL P specO) (fuel : Nat) : EnvOk P (K.envO f spec specO fuel).env := by
 refine ⟨hK.tys,?_,?_,?_⟩
 ·intro g a p r p' hr
  obtain ⟨t,h1,h2⟩ := Option.map_eq_some_iff.1 (show (specT spec g a p).opt.map Tree.val = some (r,p') from hr)
  have := specT_ok hs g a p t (T.of_opt h1)
  rw [h2] at this
  exact this
 ·intro g sp hg args cs r cs' hr
  have hg : (specOT specO g).map (fun sp a cs => match (sp a [cs]).opt.map Tree.val with | some (r,[cs']) => some (r,cs') | _ => none) = some sp := hg
  obtain ⟨S,h1,rfl⟩ := Option.map_eq_some_iff.1 hg
  dsimp only at hr
  split at hr
  ·rename_i r' cs1 hq
   cases hr
   obtain ⟨t,h2,h3⟩ := Option.map_eq_some_iff.1 hq
   have := (specOT_ok hO g S h1).1 args cs t (T.of_opt h2) cs' (by rw [h3])
   rw [h3] at this
   exact this
  ·cases hr
 ·intro g args r hr
  have hr : (match specOT specO g with | some sp => valV sp args | none => none) = some r := hr
  cases hg : specOT specO g with
  | none => rw [hg] at hr; cases hr
  | some S =>
  rw [hg] at hr
  simp only [valV] at hr
  split at hr
  ·rename_i r' hq
   cases hr
   obtain ⟨t,h2,h3⟩ := Option.map_eq_some_iff.1 hq
   have := (specOT_ok hO g S hg).2 args t (T.of_opt h2) (by rw [h3])
   rw [h3] at this
   exact this
  ·cases hr
theorem Book.Ok.pthW {P : Program} {K : Book} (hK : K.Ok P) {f : FuncId} {fn : Func} (hf : K.fn.get f = some fn) {spec specO : List (FuncId × SumT)} (hs : SpecTL P spec) (hO : SpecOL P specO) {fuel : Nat} {args : List AV} {passed : List (List AV)} {q : Q} {r : AV} {passed' : List (List AV)}
  (h : (runP (K.envO f spec specO fuel) fn args passed q).Ret (r,passed')) : CallsA P f args passed r passed' := by
 obtain ⟨h1,h2⟩ := hK.fn.get hf
 exact runF_ok (E := (K.envO f spec specO fuel).env) (hK.envO hs hO fuel) hK.zero hK.mixed h1 h2 (runP_ok (fun _ _ _ _ _ h => by cases h) h)
theorem Book.Ok.pthO {P : Program} {K : Book} (hK : K.Ok P) {f : FuncId} {fn : Func} (hf : K.fn.get f = some fn) {spec specO : List (FuncId × SumT)} (hs : SpecTL P spec) (hO : SpecOL P specO) {fuel : Nat} {args cs : List AV} {q : Q} {r : AV} {cs' : List AV}
  (h : (runO (K.envO f spec specO fuel) fn args [cs] q).Ret (r,[cs'])) : CallsO P f args cs r cs' := by
 obtain ⟨h1,h2⟩ := hK.fn.get hf
 obtain ⟨cs1,h3,h4⟩ := runO_ok (fun _ _ _ _ _ h => by cases h) h
 simp only [List.cons.injEq,and_true] at h3
 subst h3
 exact runFO_ok (E := (K.envO f spec specO fuel).env) (hK.envO hs hO fuel) hK.zero hK.mixed h1 h2 h4
def doneV (E : EnvP) (fn : Func) (ex : Ex) (s : AS) : T (AV × List (List AV)) :=
 match ex with
 | .exit _ => .no
 | _ => resAllP E.ty s fn.results.toList fun vs => match vs with | [v] => .ret (v.backO,[]) | _ => .no
def runV (E : EnvP) (fn : Func) (args : List AV) (passed : List (List AV)) (q : Q) : T (AV × List (List AV)) :=
 match fn.body,passed with
 | some c,[] => evP E c (enterA fn args []) q fun ex s _ => doneV E fn ex s
 | _,_ => .no
theorem runV_ok {E : EnvP} {fn : Func} {args : List AV} {q : Q} {r : AV × List (List AV)} (hL : ∀ c,fn.body = some c → LoopsOk E (loopsOf c)) (h : (runV E fn args [] q).Ret r) : runFV E.env fn args = some r.1 := by
 unfold runV at h
 unfold runFV
 cases hb : fn.body with
 | none => simp only [hb] at h; exact h.elim
 | some c =>
  simp only [hb] at h ⊢
  obtain ⟨ex,s,q',h1,h⟩ := evP_ok c (hL c hb) h
  rw [h1]
  unfold doneV at h
  have fin : (resAllP E.ty s fn.results.toList fun vs => (match vs with | [v] => .ret (v.backO,[]) | _ => .no : T (AV × List (List AV)))).Ret r → (match resAll E.env.ty s fn.results.toList with | some [v] => some v.backO | _ => none) = some r.1 := by
   intro h
   obtain ⟨vs,h2,h⟩ := resAllP_ok h
   rw [show E.env.ty = E.ty from rfl,h2]
   match vs,h with
   | [v],h =>
    have h : _ = r := h
    subst h
    rfl
   | [],h => exact h.elim
   | _ :: _ :: _,h => exact h.elim
  cases ex with
  | exit id => exact h.elim
  | normal => exact fin h
  | ret => exact fin h
theorem Book.Ok.pthV {P : Program} {K : Book} (hK : K.Ok P) {f : FuncId} {fn : Func} (hf : K.fn.get f = some fn) {spec specO : List (FuncId × SumT)} (hs : SpecTL P spec) (hO : SpecOL P specO) {fuel : Nat} {args : List AV} {q : Q} {r : AV} {ps : List (List AV)}
  (h : (runV (K.envO f spec specO fuel) fn args [] q).Ret (r,ps)) : CallsV P f args r := by
 obtain ⟨h1,h2⟩ := hK.fn.get hf
 exact runFV_ok (E := (K.envO f spec specO fuel).env) (hK.envO hs hO fuel) hK.zero hK.mixed h1 h2 (runV_ok (fun _ _ _ _ _ h => by cases h) h)
end Go.Ev
set_option linter.unusedVariables false
set_option linter.unusedSimpArgs false
namespace Go.Ev
open Go
def sumOf (g : List AV → Option AV) : SumT := fun a p =>
 match p with
 | [] => (match g a with | some r => .ret (.leaf (r,[])) | none => .no)
 | _ => .no
theorem sumOf_ok {P : Program} {f : FuncId} {g : List AV → Option AV} (h : ∀ a r,g a = some r → CallsA P f a [] r []) : SumTOk P f (sumOf g) := by
 intro args passed t hr
 unfold sumOf at hr
 cases passed with
 | cons => exact hr.elim
 | nil =>
  cases hg : g args with
  | none => simp only [hg] at hr; exact hr.elim
  | some v =>
   simp only [hg,T.Ret] at hr
   subst hr
   exact h _ _ hg
def gI (k : IntKind) (g : Int → AV) : List AV → Option AV := fun a =>
 match a with
 | [.int k' n] => bif decide (k' = k) then some (g n) else none
 | _ => none
theorem gI_ok {P : Program} {f : FuncId} {k : IntKind} {g : Int → AV} (h : ∀ n,CallsA P f [.int k n] [] (g n) []) : SumTOk P f (sumOf (gI k g)) := by
 refine sumOf_ok fun a r hr => ?_
 unfold gI at hr
 split at hr
 ·rename_i k' n
  cases hk : decide (k' = k) <;> rw [hk] at hr <;> simp only [cond_true,cond_false] at hr
  ·cases hr
  ·cases hr
   have : k' = k := of_decide_eq_true hk
   subst this
   exact h n
 ·cases hr
def g0 (r : AV) : List AV → Option AV := fun a =>
 match a with
 | [] => some r
 | _ => none
theorem g0_ok {P : Program} {f : FuncId} {r : AV} (h : CallsA P f [] [] r []) : SumTOk P f (sumOf (g0 r)) := by
 refine sumOf_ok fun a r' hr => ?_
 unfold g0 at hr
 split at hr
 ·cases hr; exact h
 ·cases hr
def noSpec : List (FuncId × SumT) := []
theorem noSpec_ok {P : Program} : SpecTL P noSpec := trivial
def T.run {α : Type} : T α → Option α
 | .no => none
 | .ret a => some a
 | .need b t => bif b then t.run else none
 | .must _ _ => none
abbrev TR := T (AV × List (List AV))
structure Goes (t : TR) (r : AV × List (List AV)) : Prop where
 ret : t.Ret r
theorem Goes.of_eq {t t' : TR} {r : AV × List (List AV)} (e : t = t') (h : Goes t' r) : Goes t r := e ▸ h
theorem Goes.step {b : Bool} {t : TR} {r : AV × List (List AV)} (hb : b = true) (h : Goes t r) : Goes (Bool.rec (motive := fun _ => TR) .no t b) r := by
 subst hb; exact h
theorem Goes.leaf {r : AV × List (List AV)} : Goes (.ret r) r := ⟨rfl⟩
theorem Book.Ok.pth {P : Program} {K : Book} (hK : K.Ok P) {f : FuncId} {fn : Func} (hf : K.fn.get f = some fn) {spec : List (FuncId × SumT)} (hs : SpecTL P spec) {fuel : Nat} {args : List AV} {passed : List (List AV)} {q : Q} {r : AV} {passed' : List (List AV)}
  (h : Goes (runP (K.envP f spec fuel noLoops) fn args passed q) (r,passed')) : CallsA P f args passed r passed' :=
 hK.path hf hs fuel noLoops (fun _ _ => noLoops_ok) q h.ret
theorem told {b c : Bool} (h : b = c) : asTold b c = true := by subst h; cases b <;> rfl
end Go.Ev
set_option linter.unusedVariables false
set_option linter.unusedSimpArgs false
namespace Go.Ev
open Go
abbrev TE := T (Ex × AS)
def roundP {σ : Type} (E : EnvP) (c : Code) (cl co : AS → AS) (I : σ → AS) (pr : AS → σ) (s : AS) (q : Q) : TE := evP E c s q fun ex s _ =>
 match ex with
 | .normal => .must (cl s = I (pr (cl s))) (.ret (.normal,I (pr (cl s))))
 | ex => .ret (ex,co s)
structure GoesR (t : TE) (G : Ex × AS → Prop) : Prop where
 ret : ∃ r,t.Ret r ∧ G r
theorem GoesR.step {b : Bool} {t : TE} {G : Ex × AS → Prop} (hb : b = true) (h : GoesR t G) : GoesR (Bool.rec (motive := fun _ => TE) .no t b) G := by
 subst hb; exact h
theorem GoesR.ite {b : Bool} {t t' : TE} {G : Ex × AS → Prop} (h1 : b = true → GoesR t G) (h2 : b = false → GoesR t' G) : GoesR (Bool.rec (motive := fun _ => TE) t' t b) G := by
 cases b with
 | true => exact h1 rfl
 | false => exact h2 rfl
theorem GoesR.must {p : Prop} {t : TE} {G : Ex × AS → Prop} (h : p) (h2 : GoesR t G) : GoesR (.must p t) G := by
 obtain ⟨r,h3,h4⟩ := h2.ret
 exact ⟨⟨r,⟨h,h3⟩,h4⟩⟩
structure OnOk {σ : Type} (Pr : σ → Prop) (F : σ → Ex × AS) (m : σ → Nat) (x x' : σ) : Prop where
 pr : Pr x'
 same : F x' = F x
 less : m x' < m x
inductive Good {σ : Type} (I : σ → AS) (Pr : σ → Prop) (F : σ → Ex × AS) (m : σ → Nat) (x : σ) : Ex × AS → Prop
 | next {x' : σ} (h : OnOk Pr F m x x') : Good I Pr F m x (.normal,I x')
 | exit {id : Nat} {s' : AS} (h : F x = (.exit id,s')) : Good I Pr F m x (.exit id,s')
 | ret {s' : AS} (h : F x = (.ret,s')) : Good I Pr F m x (.ret,s')
section
variable {σ : Type} {I : σ → AS} {Pr : σ → Prop} {F : σ → Ex × AS} {m : σ → Nat} {x : σ}
theorem GoesR.next {x' : σ} (h : OnOk Pr F m x x') : GoesR (.ret (.normal,I x')) (Good I Pr F m x) := ⟨⟨_,rfl,.next h⟩⟩
theorem GoesR.exit {id : Nat} {s' : AS} (h : F x = (.exit id,s')) : GoesR (.ret (.exit id,s')) (Good I Pr F m x) := ⟨⟨_,rfl,.exit h⟩⟩
theorem GoesR.out {s' : AS} (h : F x = (.ret,s')) : GoesR (.ret (.ret,s')) (Good I Pr F m x) := ⟨⟨_,rfl,.ret h⟩⟩
end
theorem Good.inv {σ : Type} {I : σ → AS} {Pr : σ → Prop} {F : σ → Ex × AS} {m : σ → Nat} {x : σ} {r : Ex × AS} (h : Good I Pr F m x r) :
  (∃ x',r = (.normal,I x') ∧ OnOk Pr F m x x') ∨ (r.1 ≠ .normal ∧ F x = r) := by
 cases h with
 | next h => exact .inl ⟨_,rfl,h⟩
 | exit h => exact .inr ⟨nofun,h⟩
 | ret h => exact .inr ⟨nofun,h⟩
structure Round {σ : Type} (E : EnvP) (c : Code) (cl co : AS → AS) (I : σ → AS) (pr : AS → σ) (Pr : σ → Prop) (F : σ → Ex × AS) (m : σ → Nat) (x : σ) : Prop where
 ok : ∃ q,GoesR (roundP E c cl co I pr (I x) q) (Good I Pr F m x)
theorem Round.of {σ : Type} {E : EnvP} {c : Code} {cl co : AS → AS} {I : σ → AS} {pr : AS → σ} {Pr : σ → Prop} {F : σ → Ex × AS} {m : σ → Nat} {x : σ} (t : TE) (q : Q)
 (h : roundP E c cl co I pr (I x) q = t) (h2 : GoesR t (Good I Pr F m x)) : Round E c cl co I pr Pr F m x := ⟨⟨q,h ▸ h2⟩⟩
theorem loop_all {σ : Type} {E : EnvP} {c : Code} (hL : LoopsOk E (loopsOf c)) {cl co : AS → AS} {I : σ → AS} {pr : AS → σ} {Pr : σ → Prop} {F : σ → Ex × AS} {m : σ → Nat}
  (step : ∀ x,Pr x → Round E c cl co I pr Pr F m x) : ∀ n x s,Pr x → m x < n → cl s = I x → (loopN (ev E.env c) cl n s).map (fun r => (r.1,co r.2)) = some (F x)
 | 0,x,s,_,hm,_ => by omega
 | n + 1,x,s,hp,hm,hs => by
  simp only [loopN,hs]
  obtain ⟨q,⟨r,h1,h2⟩⟩ := (step x hp).ok
  obtain ⟨ex,s',q',h3,h4⟩ := evP_ok c hL h1
  rw [h3]
  rcases h2.inv with ⟨x',e,h⟩ | ⟨hn,h⟩
  ·cases ex with
   | normal =>
    obtain ⟨h5,h6⟩ := h4
    have h6 : ((Ex.normal,I (pr (cl s'))) : Ex × AS) = r := h6
    rw [e] at h6
    have e2 : cl s' = I x' := h5.trans (Prod.mk.inj h6).2
    simp only
    rw [loop_all hL step n x' _ h.pr (by have := h.less; omega) e2,h.same]
   | exit id => rw [e] at h4; cases h4
   | ret => rw [e] at h4; cases h4
  ·cases ex with
   | normal => obtain ⟨h5,h6⟩ := h4; exact (hn (by rw [← h6])).elim
   | exit id => cases h4; simp only [Option.map_some,h]
   | ret => cases h4; simp only [Option.map_some,h]
def loopS {σ : Type} (cl : AS → AS) (pr : AS → σ) (I : σ → AS) (F : σ → Tree (Ex × AS)) (pre : σ → Bool) : AS → T (Tree (Ex × AS)) := fun s =>
 .must (cl s = I (pr (cl s))) (.need (pre (pr (cl s))) (.ret (F (pr (cl s)))))
theorem loopS_ok {σ : Type} {E : EnvP} {c : Code} (hL : LoopsOk E (loopsOf c)) {pr : AS → σ} {I : σ → AS} {Pr : σ → Prop} {F : σ → Tree (Ex × AS)} {pre : σ → Bool} {m : σ → Nat}
  (hpre : ∀ x,pre x = true → Pr x ∧ m x < E.fuel)
  (step : ∀ x,Pr x → Round E c (E.clean (firstKey c)) (E.clean (firstKey c + 500)) I pr Pr (fun x => (F x).val) m x) : LoopOk E c (loopS (E.clean (firstKey c)) pr I F pre) := by
 intro s t h
 obtain ⟨h1,h⟩ := h
 obtain ⟨h2,h⟩ := h
 cases h
 obtain ⟨h3,h4⟩ := hpre _ h2
 simp only [ev]
 exact loop_all hL step E.fuel _ s h3 h4 h1
def loopsAt : List (Nat × (AS → T (Tree (Ex × AS)))) → Nat → Option (AS → T (Tree (Ex × AS)))
 | [],_ => none
 |(k,f) :: r,n => bif k == n then some f else loopsAt r n
def sumS {σ : Type} (pr : List AV → List (List AV) → σ) (A : σ → List AV) (M : σ → List (List AV)) (pre : σ → Bool) (R : σ → Tree (AV × List (List AV))) : SumT := fun a p =>
 .must (a = A (pr a p)) (.must (p = M (pr a p)) (.need (pre (pr a p)) (.ret (R (pr a p)))))
theorem sumS_ok {σ : Type} {P : Program} {f : FuncId} {pr : List AV → List (List AV) → σ} {A : σ → List AV} {M : σ → List (List AV)} {pre : σ → Bool} {R : σ → Tree (AV × List (List AV))}
  (h : ∀ x,pre x = true → CallsA P f (A x) (M x) (R x).val.1 (R x).val.2) : SumTOk P f (sumS pr A M pre R) := by
 intro a p t ht
 obtain ⟨h1,h2,h3,ht⟩ := ht
 cases ht
 have := h _ h3
 rw [← h1,← h2] at this
 exact this
def sum0 {σ : Type} (pr : List AV → σ) (A : σ → List AV) (pre : σ → Bool) (R : σ → Tree AV) : SumT := fun a p =>
 match p with
 | [] => .must (a = A (pr a)) (.need (pre (pr a)) (.ret (treeMap (R (pr a)))))
 | _ => .no
where
 treeMap : Tree AV → Tree (AV × List (List AV))
  | .leaf a => .leaf (a,[])
  | .ite b l r => .ite b (treeMap l) (treeMap r)
theorem treeMap_val : ∀ t : Tree AV,(sum0.treeMap t).val = (t.val,[])
 | .leaf a => rfl
 | .ite b l r => by cases b <;> simp [sum0.treeMap,Tree.val,treeMap_val l,treeMap_val r]
theorem sum0_ok {σ : Type} {P : Program} {f : FuncId} {pr : List AV → σ} {A : σ → List AV} {pre : σ → Bool} {R : σ → Tree AV}
  (h : ∀ x,pre x = true → CallsA P f (A x) [] (R x).val []) : SumTOk P f (sum0 pr A pre R) := by
 intro a p t ht
 unfold sum0 at ht
 cases p with
 | cons => exact ht.elim
 | nil =>
  obtain ⟨h1,h3,ht⟩ := ht
  cases ht
  have := h _ h3
  rw [← h1] at this
  rw [treeMap_val]
  exact this
theorem Goes.ite {b : Bool} {t t' : TR} {r : AV × List (List AV)} (h1 : b = true → Goes t r) (h2 : b = false → Goes t' r) : Goes (Bool.rec (motive := fun _ => TR) t' t b) r := by
 cases b with
 | true => exact h1 rfl
 | false => exact h2 rfl
theorem Goes.must {p : Prop} {t : TR} {r : AV × List (List AV)} (h : p) (h2 : Goes t r) : Goes (.must p t) r := ⟨h,h2.ret⟩
theorem Goes.leafE {r0 r : AV × List (List AV)} (h : r0 = r) : Goes (.ret r0) r := ⟨h⟩
def bodyLoops (fn : Func) : List Code := match fn.body with | some c => loopsOf c | none => []
def loopBody (fn : Func) (k : Nat) : Code := ((bodyLoops fn).find? fun c => firstKey c == k).getD .skip
theorem find_key : ∀ {l : List Code} {c : Code} {k : Nat},(l.map firstKey).Nodup → c ∈ l → firstKey c = k → l.find? (fun c => firstKey c == k) = some c
 | [],c,k,_,h,_ => by cases h
 | d :: l,c,k,hn,h,hk => by
  rw [List.map_cons,List.nodup_cons] at hn
  rw [List.find?_cons]
  rcases List.mem_cons.1 h with rfl | h
  ·simp [hk]
  ·have : (firstKey d == k) = false := by
    rw [beq_eq_false_iff_ne]
    rintro rfl
    exact hn.1 (hk ▸ List.mem_map_of_mem h)
   rw [this]
   exact find_key hn.2 h hk
def nodupB : List Nat → Bool
 | [] => true
 | a :: l => !l.contains a && nodupB l
theorem nodupB_ok : ∀ {l : List Nat},nodupB l = true → l.Nodup
 | [],_ => .nil
 | a :: l,h => by
  simp only [nodupB,Bool.and_eq_true,Bool.not_eq_true',List.contains_eq_mem,decide_eq_false_iff_not] at h
  exact List.nodup_cons.2 ⟨h.1,nodupB_ok h.2⟩
theorem loops_ok {fn : Func} {c : Code} (hb : fn.body = some c) {E : EnvP} (hn : nodupB ((bodyLoops fn).map firstKey) = true) (hE : ∀ k f,E.loops k = some f → LoopOk E (loopBody fn k) f) : LoopsOk E (loopsOf c) := by
 intro d hd f hf
 have e : bodyLoops fn = loopsOf c := by unfold bodyLoops; rw [hb]
 have := find_key (nodupB_ok hn) (by rw [e]; exact hd) rfl
 have h2 := hE _ f hf
 unfold loopBody at h2
 rw [this] at h2
 exact h2
theorem loopsAt_one {k : Nat} {f : AS → T (Tree (Ex × AS))} {P : Nat → (AS → T (Tree (Ex × AS))) → Prop} (h : P k f) : ∀ k' f',loopsAt [(k,f)] k' = some f' → P k' f' := by
 intro k' f' hk
 simp only [loopsAt] at hk
 cases hb : k == k' <;> rw [hb] at hk <;> simp only [cond_true,cond_false] at hk
 ·cases hk
 ·rw [beq_iff_eq] at hb
  cases hk
  exact hb ▸ h
theorem loopsAt_cons {k : Nat} {f : AS → T (Tree (Ex × AS))} {l : List (Nat × (AS → T (Tree (Ex × AS))))} {P : Nat → (AS → T (Tree (Ex × AS))) → Prop} (h : P k f) (h2 : ∀ k' f',loopsAt l k' = some f' → P k' f') :
  ∀ k' f',loopsAt ((k,f) :: l) k' = some f' → P k' f' := by
 intro k' f' hk
 simp only [loopsAt] at hk
 cases hb : k == k' <;> rw [hb] at hk <;> simp only [cond_true,cond_false] at hk
 ·exact h2 k' f' hk
 ·rw [beq_iff_eq] at hb
  cases hk
  exact hb ▸ h
def Book.clean (K : Book) (f : FuncId) (k : Nat) : AS → AS := match K.keep.get (f * 1000 + k) with | some (l,m) => AS.clean l m | none => id
def big : Nat := 18446744073709551616
theorem Book.loop_ok {K : Book} {f : FuncId} {spec : List (FuncId × SumT)} {fuel : Nat} {loops loops' : Nat → Option (AS → T (Tree (Ex × AS)))} {fn : Func} {k : Nat} {σ : Type} {pr : AS → σ} {I : σ → AS} {Pr : σ → Prop} {F : σ → Tree (Ex × AS)} {pre : σ → Bool} {m : σ → Nat}
  (hL : LoopsOk (K.envP f spec fuel loops') (loopsOf (loopBody fn k))) (hk : firstKey (loopBody fn k) = k) (hpre : ∀ x,pre x = true → Pr x ∧ m x < fuel)
  (step : ∀ x,Pr x → Round (K.envP f spec fuel loops') (loopBody fn k) (K.clean f k) (K.clean f (k + 500)) I pr Pr (fun x => (F x).val) m x) :
  LoopOk (K.envP f spec fuel loops) (loopBody fn k) (loopS (K.clean f k) pr I F pre) := by
 have e : K.clean f k = (K.envP f spec fuel loops').clean (firstKey (loopBody fn k)) := by rw [hk]; rfl
 have e2 : K.clean f (k + 500) = (K.envP f spec fuel loops').clean (firstKey (loopBody fn k) + 500) := by rw [hk]; rfl
 have := loopS_ok (E := K.envP f spec fuel loops') (c := loopBody fn k) hL (pr := pr) (I := I) (Pr := Pr) (F := F) (pre := pre) (m := m) hpre (by rw [← e,← e2]; exact step)
 rw [e]
 exact this
theorem noInner {E : EnvP} {c : Code} (h : loopsOf c = []) : LoopsOk E (loopsOf c) := by rw [h]; intro d hd; cases hd
theorem Book.Ok.run1 {P : Program} {K : Book} (hK : K.Ok P) {f : FuncId} {fn : Func} (hf : K.fn.get f = some fn) {spec : List (FuncId × SumT)} (hs : SpecTL P spec) {fuel k : Nat} {l : AS → T (Tree (Ex × AS))}
  (hn : nodupB ((bodyLoops fn).map firstKey) = true) (hl : LoopOk (K.envP f spec fuel (loopsAt [(k,l)])) (loopBody fn k) l) {args : List AV} {passed : List (List AV)} {q : Q} {r : AV} {passed' : List (List AV)}
  (h : Goes (runP (K.envP f spec fuel (loopsAt [(k,l)])) fn args passed q) (r,passed')) : CallsA P f args passed r passed' :=
 hK.path hf hs fuel _ (fun _ hb => loops_ok hb hn (loopsAt_one hl)) q h.ret
end Go.Ev
set_option linter.unusedVariables false
set_option linter.unusedSimpArgs false
namespace Go.Ev
open Go
def AV.wk (n : Nat) : AV → AV
 | .sl _ xs .nil => .sl n xs .sh
 | .sl sz xs .full => .sl sz xs .sh
 | v => v
theorem RepV.wk {S w β a v} (n : Nat) (h : RepV S w β a v) : RepV S w β (a.wk n) v := by
 cases h with
 | slNil => exact .slShNil
 | slFull c r => exact .slSh _ c r (Nat.le_refl _)
 | slFullNil => exact .slShNil
 | unk v => exact .unk v
 | int k n => exact .int k n
 | bool b => exact .bool b
 | str s => exact .str s
 | agg l o => exact .agg l o
 | tup l => exact .tup l
 | ptr e => exact .ptr e
 | nilp => exact .nilp
 | ro c r => exact .ro c r
 | slSh cap c r l => exact .slSh cap c r l
 | slShNil => exact .slShNil
 | view cap e l => exact .view cap e l
 | fn l => exact .fn l
 | niliface => exact .niliface
 | nilfn => exact .nilfn
def wkA : List Nat → List AV → List AV
 | n :: ns,a :: as => a.wk n :: wkA ns as
 | _,as => as
theorem RepL.wkA {S w β} : ∀ {ns : List Nat} {as : List AV} {vs : List Value},RepL S w β as vs → RepL S w β (wkA ns as) vs
 | [],as,vs,h => by simpa [Ev.wkA] using h
 | n :: ns,[],vs,h => by simpa [Ev.wkA] using h
 | n :: ns,a :: as,_,.cons h l => .cons (h.wk n) l.wkA
theorem CallsA.wk {P : Program} {f : FuncId} {ns : List Nat} {args : List AV} {passed : List (List AV)} {r : AV} {passed' : List (List AV)} (h : CallsA P f (wkA ns args) passed r passed') : CallsA P f args passed r passed' :=
 ⟨h.1,fun w S β vs hp hv => h.2 w S β vs hp hv.wkA⟩
def sumW {σ : Type} (ns : List Nat) (pr : List AV → σ) (A : σ → List AV) (pre : σ → Bool) (R : σ → Tree AV) : SumT := fun a p => sum0 pr A pre R (wkA ns a) p
theorem sumW_ok {σ : Type} {P : Program} {f : FuncId} {ns : List Nat} {pr : List AV → σ} {A : σ → List AV} {pre : σ → Bool} {R : σ → Tree AV}
 (h : ∀ x,pre x = true → CallsA P f (A x) [] (R x).val []) : SumTOk P f (sumW ns pr A pre R) := fun a p t ht => (sum0_ok h (wkA ns a) p t ht).wk
def sumWS {σ : Type} (ns : List Nat) (pr : List AV → List (List AV) → σ) (A : σ → List AV) (M : σ → List (List AV)) (pre : σ → Bool) (R : σ → Tree (AV × List (List AV))) : SumT := fun a p => sumS pr A M pre R (wkA ns a) p
theorem sumWS_ok {σ : Type} {P : Program} {f : FuncId} {ns : List Nat} {pr : List AV → List (List AV) → σ} {A : σ → List AV} {M : σ → List (List AV)} {pre : σ → Bool} {R : σ → Tree (AV × List (List AV))}
 (h : ∀ x,pre x = true → CallsA P f (A x) (M x) (R x).val.1 (R x).val.2) : SumTOk P f (sumWS ns pr A M pre R) := fun a p t ht => (sumS_ok h (wkA ns a) p t ht).wk
def AV.elems : AV → List AV
 | .sl _ xs _ => xs
 | _ => []
theorem CallsA.of_eq {P : Program} {f : FuncId} {args args' : List AV} {passed : List (List AV)} {r r' : AV} {passed' : List (List AV)} (h : CallsA P f args passed r passed') (ha : args = args') (hr : r = r') : CallsA P f args' passed r' passed' := ha ▸ hr ▸ h
theorem condT {c x y v : Bool} (p : c = true) (q : x = v) : (bif c then x else y) = v := by subst p; exact q
theorem condF {c x y v : Bool} (p : c = false) (q : y = v) : (bif c then x else y) = v := by subst p; exact q
theorem condT' {c x y v : Bool} (p : c = true) (q : (bif c then x else y) = v) : x = v := by subst p; exact q
theorem condF' {c x y v : Bool} (p : c = false) (q : (bif c then x else y) = v) : y = v := by subst p; exact q
theorem notE {b c : Bool} (p : b = c) : (!b) = !c := by rw [p]
theorem all_of_map {α : Type} {n : Nat} {f g : Nat → α} (h : (List.range n).map f = (List.range n).map g) : ∀ j,j < n → f j = g j :=
 fun j hj => List.map_inj_left.1 h j (List.mem_range.2 hj)
def Sum.T (S : Sum) : SumT := fun a p => match S a p with | some r => .ret (.leaf r) | none => .no
theorem Sum.T_ok {P : Program} {f : FuncId} {S : Sum} (h : SumOk P f S) : SumTOk P f S.T := by
 intro a p t ht
 unfold Sum.T at ht
 cases hs : S a p with
 | none => simp only [hs] at ht; exact ht.elim
 | some r =>
  simp only [hs] at ht
  cases ht
  exact h _ _ _ _ hs
def SumT.S (S : SumT) : Sum := fun a p => (S a p).run.map Tree.val
def stA (n : Nat) (l : List (Nat × AV)) (m : Mem) : AS := { tmps := l.foldl (fun t p => t.set p.1 p.2) (List.replicate n .unk),mem := m }
def AS.at (s : AS) (i : Nat) : AV := s.tmps.getD i .unk
def lockL (b : Bool) (l : List AV) : List AV := bif b then l else []
end Go.Ev
namespace Go.Ev
open Go
def Same {α : Type} (x : α) : Prop := x = x
theorem same_ok {α : Type} (x : α) : Same x := rfl
end Go.Ev
set_option linter.unusedVariables false
set_option linter.unusedSimpArgs false
namespace Go.Ev
open Go
section
variable {α : Type}
def doneK (E : EnvP) (fn : Func) (n : Nat) (ex : Ex) (s : AS) (q : Q) (k : (AV × List (List AV)) → Q → T α) : T α :=
 match ex with
 | .exit _ => .no
 | _ => resAllP E.ty s fn.results.toList fun vs => match passedBack s.mem 1000 n with | some l => k (outA vs,l) q | none => .no
def runK (E : EnvP) (fn : Func) (args : List AV) (passed : List (List AV)) (q : Q) (k : (AV × List (List AV)) → Q → T α) : T α :=
 match fn.body with
 | none => .no
 | some c => evP E c (enterA fn args passed) q fun ex s q => doneK E fn passed.length ex s q k
theorem runK_ok {E : EnvP} {fn : Func} {args : List AV} {passed : List (List AV)} {q : Q} {k : (AV × List (List AV)) → Q → T α} {r : α} (hL : ∀ c,fn.body = some c → LoopsOk E (loopsOf c)) (h : (runK E fn args passed q k).Ret r) :
  ∃ x q',runF E.env fn args passed = some x ∧ (k x q').Ret r := by
 unfold runK at h
 unfold runF
 cases hb : fn.body with
 | none => simp only [hb] at h; exact h.elim
 | some c =>
  simp only [hb] at h ⊢
  obtain ⟨ex,s,q',h1,h⟩ := evP_ok c (hL c hb) h
  rw [h1]
  unfold doneK at h
  have fin : (resAllP E.ty s fn.results.toList fun vs => (match passedBack s.mem 1000 passed.length with | some l => k (outA vs,l) q' | none => .no : T α)).Ret r → ∃ x q'',(match resAll E.env.ty s fn.results.toList,passedBack s.mem 1000 passed.length with
    | some vs,some l => some (outA vs,l)
    | _,_ => none) = some x ∧ (k x q'').Ret r := by
   intro h
   obtain ⟨vs,h2,h⟩ := resAllP_ok h
   rw [show E.env.ty = E.ty from rfl,h2]
   cases hp : passedBack s.mem 1000 passed.length with
   | none => simp only [hp] at h; exact h.elim
   | some l => simp only [hp] at h; exact ⟨_,q',rfl,h⟩
  cases ex with
  | exit id => exact h.elim
  | normal => exact fin h
  | ret => exact fin h
end
noncomputable def Book.inlOf (K : Book) (E : EnvP) (hE : E.loops = noLoops) (g : FuncId) : Option InlT :=
 match K.fn.get g with
 | some fn => some { run := fun α a p q k => runK E fn a p q k,sum := fun a p => runF E.env fn a p,ok := fun α a p q k r h => runK_ok (fun c _ d hd f hf => by rw [hE] at hf; cases hf) h }
 | none => none
noncomputable def Book.envI0 (K : Book) (spec : List (FuncId × SumT)) (fuel : Nat) (l : List FuncId) : Nat → FuncId → { E : EnvP // E.loops = noLoops }
 | 0,f => ⟨K.envP f spec fuel noLoops,rfl⟩
 | n + 1,f => ⟨{ K.envP f spec fuel noLoops with inl := fun g => bif l.contains g then K.inlOf (K.envI0 spec fuel l n g).1 (K.envI0 spec fuel l n g).2 g else none },rfl⟩
noncomputable def Book.envI (K : Book) (spec : List (FuncId × SumT)) (fuel : Nat) (l : List FuncId) (n : Nat) (f : FuncId) : EnvP := (K.envI0 spec fuel l n f).1
theorem Book.Ok.specI {P : Program} {K : Book} (hK : K.Ok P) {spec : List (FuncId × SumT)} (hs : SpecTL P spec) (fuel : Nat) (l : List FuncId) : ∀ (n : Nat) (f : FuncId),SpecOk P (K.envI spec fuel l n f).env.spec
 | 0,f => fun g a p r p' hr => by
  obtain ⟨t,h1,h2⟩ := Option.map_eq_some_iff.1 (show ((K.envP f spec fuel noLoops).spec g a p).opt.map Tree.val = some (r,p') from hr)
  have := specT_ok hs g a p t (T.of_opt h1)
  rw [h2] at this
  exact this
 | n + 1,f => fun g a p r p' hr => by
  have hr : (match (bif l.contains g then K.inlOf (K.envI0 spec fuel l n g).1 (K.envI0 spec fuel l n g).2 g else none : Option InlT) with | some i => i.sum a p | none => (specT spec g a p).opt.map Tree.val) = some (r,p') := hr
  cases hc : l.contains g <;> rw [hc] at hr <;> simp only [cond_true,cond_false] at hr
  ·obtain ⟨t,h1,h2⟩ := Option.map_eq_some_iff.1 hr
   have := specT_ok hs g a p t (T.of_opt h1)
   rw [h2] at this
   exact this
  ·unfold Book.inlOf at hr
   cases hf : K.fn.get g with
   | none =>
    simp only [hf] at hr
    obtain ⟨t,h1,h2⟩ := Option.map_eq_some_iff.1 hr
    have := specT_ok hs g a p t (T.of_opt h1)
    rw [h2] at this
    exact this
   | some fn =>
    simp only [hf] at hr
    obtain ⟨h1,h2⟩ := hK.fn.get hf
    have hty : (K.envI0 spec fuel l n g).1.env.ty = K.ty.get := by cases n <;> rfl
    exact runF_ok (E := (K.envI0 spec fuel l n g).1.env) ⟨by rw [hty]; exact hK.tys,hK.specI hs fuel l n g,fun _ _ h => (by cases n <;> cases h),fun _ _ _ h => (by cases n <;> cases h)⟩ (by rw [hty]; exact hK.zero) hK.mixed h1 h2 hr
theorem Book.Ok.pthI {P : Program} {K : Book} (hK : K.Ok P) {f : FuncId} {fn : Func} (hf : K.fn.get f = some fn) {spec : List (FuncId × SumT)} (hs : SpecTL P spec) {fuel n : Nat} {l : List FuncId} {args : List AV} {passed : List (List AV)} {q : Q} {r : AV} {passed' : List (List AV)}
  (h : Goes (runP (K.envI spec fuel l n f) fn args passed q) (r,passed')) : CallsA P f args passed r passed' := by
 obtain ⟨h1,h2⟩ := hK.fn.get hf
 have hty : (K.envI spec fuel l n f).env.ty = K.ty.get := by cases n <;> rfl
 refine runF_ok (E := (K.envI spec fuel l n f).env) ⟨by rw [hty]; exact hK.tys,hK.specI hs fuel l n f,fun _ _ h => (by cases n <;> cases h),fun _ _ _ h => (by cases n <;> cases h)⟩ (by rw [hty]; exact hK.zero) hK.mixed h1 h2 (runP_ok (fun c _ d hd f' hf' => ?_) h.ret)
 have := (K.envI0 spec fuel l n f).2
 unfold Book.envI at hf'
 rw [this] at hf'; cases hf'
structure GoesX (t : TR) (G : AV × List (List AV) → Prop) : Prop where
 ret : ∃ r,t.Ret r ∧ G r
theorem GoesX.of_eq {t t' : TR} {G : AV × List (List AV) → Prop} (e : t = t') (h : GoesX t' G) : GoesX t G := e ▸ h
theorem GoesX.step {b : Bool} {t : TR} {G : AV × List (List AV) → Prop} (hb : b = true) (h : GoesX t G) : GoesX (Bool.rec (motive := fun _ => TR) .no t b) G := by
 subst hb; exact h
theorem GoesX.ite {b : Bool} {t t' : TR} {G : AV × List (List AV) → Prop} (h1 : b = true → GoesX t G) (h2 : b = false → GoesX t' G) : GoesX (Bool.rec (motive := fun _ => TR) t' t b) G := by
 cases b with
 | true => exact h1 rfl
 | false => exact h2 rfl
theorem GoesX.must {p : Prop} {t : TR} {G : AV × List (List AV) → Prop} (h : p) (h2 : GoesX t G) : GoesX (.must p t) G := by
 obtain ⟨r,h3,h4⟩ := h2.ret
 exact ⟨r,⟨h,h3⟩,h4⟩
theorem GoesX.leafG {r : AV × List (List AV)} {G : AV × List (List AV) → Prop} (h : G r) : GoesX (.ret r) G := ⟨r,rfl,h⟩
theorem Book.Ok.pthX {P : Program} {K : Book} (hK : K.Ok P) {f : FuncId} {fn : Func} (hf : K.fn.get f = some fn) {spec : List (FuncId × SumT)} (hs : SpecTL P spec) {fuel n : Nat} {l : List FuncId} {args : List AV} {passed : List (List AV)} {q : Q} {G : AV × List (List AV) → Prop}
  (h : GoesX (runP (K.envI spec fuel l n f) fn args passed q) G) : ∃ r passed',G (r,passed') ∧ CallsA P f args passed r passed' := by
 obtain ⟨⟨r,p⟩,h1,h2⟩ := h.ret
 exact ⟨r,p,h2,hK.pthI hf hs (q := q) ⟨h1⟩⟩
def AV.le : AV → AV → Prop := fun a b => b = .unk ∨ b = a
theorem RepL.le {S w β} : ∀ {as bs : List AV} {vs : List Value},RepL S w β as vs → (as.length = bs.length ∧ ∀ (i : Nat) a b,as[i]? = some a → bs[i]? = some b → AV.le a b) → RepL S w β bs vs := by
 intro as bs vs h ⟨hl,he⟩
 refine RepL.of_get (by rw [← hl]; exact h.length) fun i c v hc hv => ?_
 have hi : i < as.length := by rw [hl]; exact (List.getElem?_eq_some_iff.1 hc).1
 obtain ⟨v',h1,h2⟩ := h.get (List.getElem?_eq_getElem hi)
 rw [h1] at hv; cases hv
 rcases he i _ c (List.getElem?_eq_getElem hi) hc with rfl | rfl
 ·exact .unk _
 ·exact h2
def leM (ps qs : List (List AV)) : Prop := ps.length = qs.length ∧ ∀ (j : Nat) (p q : List AV),ps[j]? = some p → qs[j]? = some q → p.length = q.length ∧ ∀ (i : Nat) a b,p[i]? = some a → q[i]? = some b → AV.le a b
theorem CallsA.le {P : Program} {f : FuncId} {args : List AV} {passed : List (List AV)} {r : AV} {ps qs : List (List AV)} (h : CallsA P f args passed r ps) (hl : leM ps qs) : CallsA P f args passed r qs := by
 refine ⟨h.1,fun w S β vs hp hv => (h.2 w S β vs hp hv).mono ?_⟩
 rintro e w' ⟨v,S',rfl,hd⟩
 refine ⟨v,S',rfl,{ hd with len := hl.1 ▸ hd.len,mem := fun j q hq => ?_ }⟩
 have hj : j < ps.length := by rw [hl.1]; exact (List.getElem?_eq_some_iff.1 hq).1
 have hp' := List.getElem?_eq_getElem hj
 obtain ⟨b,us,t,h1,h2,h3,h4⟩ := hd.mem j _ hp'
 exact ⟨b,us,t,h1,h2,h3.le (hl.2 j _ q hp' hq),h4⟩
theorem CallsA.forget {P : Program} {f : FuncId} {args : List AV} {passed : List (List AV)} {r : AV} {p : List AV} (h : CallsA P f args passed r [p]) {n : Nat} (hn : p.length = n) : CallsA P f args passed r [List.replicate n .unk] := by
 refine h.le ⟨rfl,fun j p' q hp hq => ?_⟩
 match j with
 | 0 =>
  cases hp; cases hq
  refine ⟨by rw [List.length_replicate]; exact hn,fun i a b ha hb => .inl ?_⟩
  rw [List.getElem?_replicate] at hb
  split at hb
  ·cases hb; rfl
  ·cases hb
 | j + 1 => simp at hp
def wkM (n : Nat) (ps : List (List AV)) : List (List AV) := ps.map fun cs => cs.map (AV.wk n)
theorem RepL.wkMap {S w β} (n : Nat) : ∀ {as : List AV} {vs : List Value},RepL S w β as vs → RepL S w β (as.map (AV.wk n)) vs
 | [],vs,h => h
 | a :: as,_,.cons h l => .cons (h.wk n) (l.wkMap n)
theorem CallsA.wkM {P : Program} {f : FuncId} {n : Nat} {args : List AV} {passed ps : List (List AV)} {r : AV} (h : CallsA P f args (wkM n passed) r ps) : CallsA P f args passed r ps := by
 refine ⟨h.1,fun w S β vs hp hv => (h.2 w S β vs ⟨hp.lt,hp.inj,hp.avoid,fun i b hb => ?_,fun j cs hj => ?_⟩ hv).mono ?_⟩
 ·obtain ⟨j,h1,h2⟩ := hp.dom i b hb
  exact ⟨j,by simpa [Ev.wkM] using h1,h2⟩
 ·simp only [Ev.wkM,List.getElem?_map] at hj
  cases hq : passed[j]? with
  | none => rw [hq] at hj; cases hj
  | some q =>
   rw [hq] at hj; cases hj
   obtain ⟨b,us,t,h1,h2,h3,h4⟩ := hp.mem j q hq
   exact ⟨b,us,t,h1,h2,h3.wkMap n,h4⟩
 ·rintro e w' ⟨v,S',rfl,hd⟩
  exact ⟨v,S',rfl,{ hd with len := by have := hd.len; simpa [Ev.wkM] using this }⟩
def sumSW {σ : Type} (n : Nat) (pr : List AV → List (List AV) → σ) (A : σ → List AV) (M : σ → List (List AV)) (pre : σ → Bool) (R : σ → Tree (AV × List (List AV))) : SumT := fun a p => sumS pr A M pre R a (wkM n p)
theorem sumSW_ok {σ : Type} {P : Program} {f : FuncId} {n : Nat} {pr : List AV → List (List AV) → σ} {A : σ → List AV} {M : σ → List (List AV)} {pre : σ → Bool} {R : σ → Tree (AV × List (List AV))}
 (h : ∀ x,pre x = true → CallsA P f (A x) (M x) (R x).val.1 (R x).val.2) : SumTOk P f (sumSW n pr A M pre R) := fun a p t ht => (sumS_ok h a (wkM n p) t ht).wkM
end Go.Ev
set_option linter.unusedVariables false
set_option linter.unusedSimpArgs false
namespace Go.Ev
open Go
theorem getD_drop {xs : List AV} {j : Nat} (h : j < xs.length) : xs.drop j = xs.getD j .unk :: xs.drop (j + 1) := by
 rw [List.drop_eq_getElem_cons h,List.getD_eq_getElem?_getD,List.getElem?_eq_getElem h]; rfl
def firstI (p : Nat → Bool) : Nat → Nat → Nat
 | 0,_ => 0
 | n + 1,j => bif p j then j else firstI p n (j + 1)
structure FL (ρ : Type) where
 len : ρ → Nat
 p : ρ → Nat → Bool
 any : ρ → Nat → Bool
 idx : ρ → Nat → Nat
 out : ρ → Nat → Ex × AS
 fin : ρ → Ex × AS
 ok : ρ → Bool
structure FL.Good {ρ : Type} (L : FL ρ) : Prop where
 yes : ∀ r j,L.ok r = true → j < L.len r → L.p r j = true → L.any r j = true ∧ L.out r (L.idx r j) = L.out r j
 no : ∀ r j,L.ok r = true → j < L.len r → L.p r j = false → L.any r j = L.any r (j + 1) ∧ L.idx r j = L.idx r (j + 1)
 end_ : ∀ r j,L.ok r = true → L.len r ≤ j → L.any r j = false
section
variable {ρ : Type} (L : FL ρ)
def FL.tr (x : Int × ρ) : Tree (Ex × AS) := .ite (L.any x.2 x.1.toNat) (.leaf (L.out x.2 (L.idx x.2 x.1.toNat))) (.leaf (L.fin x.2))
def FL.pre (x : Int × ρ) : Bool := ile 0 x.1 && (ile x.1 (L.len x.2) && (Nat.ble (L.len x.2) 9223372036854775807 && L.ok x.2))
structure FL.P (x : Int × ρ) : Prop where
 lo : 0 ≤ x.1
 hi : x.1 ≤ L.len x.2
 big : L.len x.2 ≤ 9223372036854775807
 ok : L.ok x.2 = true
def FL.m (x : Int × ρ) : Nat := (L.len x.2 - x.1).toNat
variable {L}
theorem FL.pre_ok {x : Int × ρ} (h : L.pre x = true) : L.P x := by
 simp only [FL.pre,Bool.and_eq_true,ile,decide_eq_true_eq,Nat.ble_eq] at h
 exact ⟨h.1,h.2.1,h.2.2.1,h.2.2.2⟩
theorem FL.pre_of {i : Nat} {r : ρ} (h1 : i ≤ L.len r) (h2 : L.len r ≤ 9223372036854775807) (h3 : L.ok r = true) : L.pre ((i : Int),r) = true := by
 simp only [FL.pre,Bool.and_eq_true,ile,decide_eq_true_eq,Nat.ble_eq]
 exact ⟨by omega,by omega,h2,h3⟩
theorem FL.P.in_ {i : Int} {r : ρ} (h : L.P (i,r)) (hi : ilt i (L.len r) = true) : inR i (L.len r) = true := by
 have := h.lo
 simp only [ilt,decide_eq_true_eq] at hi
 simp only [inR,decide_eq_true_eq]
 exact ⟨this,hi⟩
theorem FL.P.lt {i : Int} {r : ρ} (h : L.P (i,r)) (hi : ilt i (L.len r) = true) : i.toNat < L.len r := by
 have := h.lo
 simp only [ilt,decide_eq_true_eq] at hi
 omega
theorem FL.P.cast {i : Int} {r : ρ} (h : L.P (i,r)) : ((i.toNat : Nat) : Int) = i := by have := h.lo; simp only at this; omega
theorem FL.P.found {i : Int} {r : ρ} (h : L.P (i,r)) (g : L.Good) (hi : ilt i (L.len r) = true) (hp : L.p r i.toNat = true) : (L.tr (i,r)).val = L.out r i.toNat := by
 obtain ⟨h1,h2⟩ := g.yes r i.toNat h.ok (h.lt hi) hp
 unfold FL.tr
 simp only [h1,Tree.val,cond_true,h2]
theorem FL.P.fin_ {i : Int} {r : ρ} (h : L.P (i,r)) (g : L.Good) (hi : ilt i (L.len r) = false) : (L.tr (i,r)).val = L.fin r := by
 have := h.hi; have := h.lo
 simp only [ilt,decide_eq_false_iff_not] at hi
 have e := g.end_ r i.toNat h.ok (by simp only at *; omega)
 unfold FL.tr
 simp only [e,Tree.val,cond_false]
theorem FL.P.on {i : Int} {r : ρ} (h : L.P (i,r)) (g : L.Good) (hi : ilt i (L.len r) = true) (hp : L.p r i.toNat = false) : OnOk L.P (fun x => (L.tr x).val) L.m (i,r) (iadd .i64 i 1,r) := by
 obtain ⟨e1,e2⟩ := g.no r i.toNat h.ok (h.lt hi) hp
 obtain ⟨h1,h2,h3,h4⟩ := h
 simp only at h1 h2 h3 h4
 simp only [ilt,decide_eq_true_eq] at hi
 have ei : iadd .i64 i 1 = i + 1 := by
  unfold iadd; rw [IntKind.wrap_i64]; omega
 rw [ei]
 refine ⟨⟨by simp only; omega,by simp only; omega,h3,h4⟩,?_,by simp only [FL.m]; omega⟩
 have e3 : (i + 1).toNat = i.toNat + 1 := by omega
 simp only [FL.tr,e3,e1,e2]
theorem FL.small {x : Int × ρ} (h : L.P x) : L.m x < 9223372036854775808 := by
 have := h.lo; have := h.big; unfold FL.m; omega
end
theorem FL.loop {ρ : Type} {L : FL ρ} {K : Book} {f : FuncId} {spec : List (FuncId × SumT)} {loops loops' : Nat → Option (AS → T (Tree (Ex × AS)))} {fn : Func} {k : Nat} {pr : AS → Int × ρ} {I : Int × ρ → AS}
  (hL : LoopsOk (K.envP f spec big loops') (loopsOf (loopBody fn k))) (hk : firstKey (loopBody fn k) = k)
  (step : ∀ x,L.P x → Round (K.envP f spec big loops') (loopBody fn k) (K.clean f k) (K.clean f (k + 500)) I pr L.P (fun x => (L.tr x).val) L.m x) :
  LoopOk (K.envP f spec big loops) (loopBody fn k) (loopS (K.clean f k) pr I L.tr L.pre) :=
 Book.loop_ok hL hk (fun x hx => ⟨FL.pre_ok hx,by have := FL.small (FL.pre_ok hx); unfold big; omega⟩) step
theorem FL.good_any {ρ : Type} {L : FL ρ} (xs : ρ → List AV) (q : ρ → AV → Bool) (hl : ∀ r,L.len r = (xs r).length) (hp : ∀ r j,L.p r j = q r ((xs r).getD j .unk)) (ha : ∀ r j,L.any r j = ((xs r).drop j).any (q r))
  (hi : (∀ r j k,L.out r j = L.out r k) ∧ (∀ r j k,L.idx r j = L.idx r k) ∨ ∀ r j,L.idx r j = firstI (L.p r) (L.len r - j) j) : L.Good := by
 refine ⟨fun r j _ hj h => ⟨?_,?_⟩,fun r j _ hj h => ⟨?_,?_⟩,fun r j _ hj => ?_⟩
 ·rw [ha,getD_drop (by rw [← hl]; exact hj),List.any_cons,← hp,h]; rfl
 ·rcases hi with ⟨h1,_⟩ | h1
  ·exact h1 _ _ _
  ·rw [h1,show L.len r - j = (L.len r - (j + 1)) + 1 by omega]
   simp only [firstI,h,cond_true]
 ·rw [ha,ha,getD_drop (by rw [← hl]; exact hj),List.any_cons,← hp,h]; rfl
 ·rcases hi with ⟨_,h1⟩ | h1
  ·exact h1 _ _ _
  ·rw [h1,h1,show L.len r - j = (L.len r - (j + 1)) + 1 by omega]
   simp only [firstI,h,cond_false]
 ·rw [ha,List.drop_eq_nil_of_le (by rw [← hl]; exact hj)]; rfl
structure GL (ρ A : Type) where
 len : ρ → Nat
 stop : ρ → Nat → A → Bool
 next : ρ → Nat → A → A
 stp : ρ → Nat → A → Bool
 idx : ρ → Nat → A → Nat
 acc : ρ → Nat → A → A
 out : ρ → Nat → A → Ex × AS
 fin : ρ → A → Ex × AS
 ok : ρ → Bool
 inv : ρ → Nat → A → Bool
structure GL.Good {ρ A : Type} (L : GL ρ A) : Prop where
 yes : ∀ r j a,L.ok r = true → L.inv r j a = true → j < L.len r → L.stop r j a = true → L.stp r j a = true ∧ L.out r (L.idx r j a) (L.acc r j a) = L.out r j a
 no : ∀ r j a,L.ok r = true → L.inv r j a = true → j < L.len r → L.stop r j a = false → L.stp r j a = L.stp r (j + 1) (L.next r j a) ∧ L.idx r j a = L.idx r (j + 1) (L.next r j a) ∧ L.acc r j a = L.acc r (j + 1) (L.next r j a)
 end_ : ∀ r j a,L.ok r = true → L.inv r j a = true → L.len r ≤ j → L.stp r j a = false ∧ L.acc r j a = a
section
variable {ρ A : Type} (L : GL ρ A)
def GL.tr (x : Int × A × ρ) : Tree (Ex × AS) := .ite (L.stp x.2.2 x.1.toNat x.2.1) (.leaf (L.out x.2.2 (L.idx x.2.2 x.1.toNat x.2.1) (L.acc x.2.2 x.1.toNat x.2.1))) (.leaf (L.fin x.2.2 (L.acc x.2.2 x.1.toNat x.2.1)))
def GL.tr0 (x : Int × A × ρ) : Tree (Ex × AS) := .leaf (L.fin x.2.2 (L.acc x.2.2 x.1.toNat x.2.1))
def GL.pre (x : Int × A × ρ) : Bool := ile 0 x.1 && (ile x.1 (L.len x.2.2) && (Nat.ble (L.len x.2.2) 9223372036854775807 && (L.ok x.2.2 && L.inv x.2.2 x.1.toNat x.2.1)))
structure GL.P (x : Int × A × ρ) : Prop where
 lo : 0 ≤ x.1
 hi : x.1 ≤ L.len x.2.2
 big : L.len x.2.2 ≤ 9223372036854775807
 ok : L.ok x.2.2 = true
 inv : L.inv x.2.2 x.1.toNat x.2.1 = true
def GL.m (x : Int × A × ρ) : Nat := (L.len x.2.2 - x.1).toNat
variable {L}
theorem GL.pre_ok {x : Int × A × ρ} (h : L.pre x = true) : L.P x := by
 simp only [GL.pre,Bool.and_eq_true,ile,decide_eq_true_eq,Nat.ble_eq] at h
 exact ⟨h.1,h.2.1,h.2.2.1,h.2.2.2.1,h.2.2.2.2⟩
theorem GL.pre_of {i : Nat} {a : A} {r : ρ} (h1 : i ≤ L.len r) (h2 : L.len r ≤ 9223372036854775807) (h3 : L.ok r = true) (h4 : L.inv r i a = true) : L.pre ((i : Int),a,r) = true := by
 simp only [GL.pre,Bool.and_eq_true,ile,decide_eq_true_eq,Nat.ble_eq]
 exact ⟨by omega,by omega,h2,h3,h4⟩
theorem GL.P.in_ {i : Int} {a : A} {r : ρ} (h : L.P (i,a,r)) (hi : ilt i (L.len r) = true) : inR i (L.len r) = true := by
 have := h.lo
 simp only [ilt,decide_eq_true_eq] at hi
 simp only [inR,decide_eq_true_eq]
 exact ⟨this,hi⟩
theorem GL.P.lt {i : Int} {a : A} {r : ρ} (h : L.P (i,a,r)) (hi : ilt i (L.len r) = true) : i.toNat < L.len r := by
 have := h.lo
 simp only [ilt,decide_eq_true_eq] at hi
 omega
theorem GL.P.cast {i : Int} {a : A} {r : ρ} (h : L.P (i,a,r)) : ((i.toNat : Nat) : Int) = i := by have := h.lo; simp only at this; omega
theorem GL.P.found {i : Int} {a : A} {r : ρ} (h : L.P (i,a,r)) (g : L.Good) (hi : ilt i (L.len r) = true) (hp : L.stop r i.toNat a = true) : (L.tr (i,a,r)).val = L.out r i.toNat a := by
 obtain ⟨h1,h2⟩ := g.yes r i.toNat a h.ok h.inv (h.lt hi) hp
 unfold GL.tr
 simp only [h1,h2,Tree.val,cond_true]
theorem GL.P.fin_ {i : Int} {a : A} {r : ρ} (h : L.P (i,a,r)) (g : L.Good) (hi : ilt i (L.len r) = false) : (L.tr (i,a,r)).val = L.fin r a := by
 have := h.hi; have := h.lo
 simp only [ilt,decide_eq_false_iff_not] at hi
 obtain ⟨e1,e2⟩ := g.end_ r i.toNat a h.ok h.inv (by simp only at *; omega)
 unfold GL.tr
 simp only [e1,e2,Tree.val,cond_false]
theorem GL.P.on {i : Int} {a a' : A} {r : ρ} (h : L.P (i,a,r)) (g : L.Good) (hi : ilt i (L.len r) = true) (hp : L.stop r i.toNat a = false) (ha : a' = L.next r i.toNat a) (hinv : L.inv r (i.toNat + 1) a' = true) :
  OnOk L.P (fun x => (L.tr x).val) L.m (i,a,r) (iadd .i64 i 1,a',r) := by
 obtain ⟨e1,e2,e3⟩ := g.no r i.toNat a h.ok h.inv (h.lt hi) hp
 obtain ⟨h1,h2,h3,h4,h5⟩ := h
 simp only at h1 h2 h3 h4 h5
 simp only [ilt,decide_eq_true_eq] at hi
 have ei : iadd .i64 i 1 = i + 1 := by
  unfold iadd; rw [IntKind.wrap_i64]; omega
 rw [ei]
 have e4 : (i + 1).toNat = i.toNat + 1 := by omega
 refine ⟨⟨by simp only; omega,by simp only; omega,h3,h4,by simp only [e4]; exact hinv⟩,?_,by simp only [GL.m]; omega⟩
 subst ha
 simp only [GL.tr,e4,e1,e2,e3]
theorem GL.small {x : Int × A × ρ} (h : L.P x) : L.m x < 9223372036854775808 := by
 have := h.lo; have := h.big; unfold GL.m; omega
end
theorem GL.loop {ρ A : Type} {L : GL ρ A} {K : Book} {f : FuncId} {spec : List (FuncId × SumT)} {loops loops' : Nat → Option (AS → T (Tree (Ex × AS)))} {fn : Func} {k : Nat} {pr : AS → Int × A × ρ} {I : Int × A × ρ → AS}
  (hL : LoopsOk (K.envP f spec big loops') (loopsOf (loopBody fn k))) (hk : firstKey (loopBody fn k) = k)
  (step : ∀ x,L.P x → Round (K.envP f spec big loops') (loopBody fn k) (K.clean f k) (K.clean f (k + 500)) I pr L.P (fun x => (L.tr x).val) L.m x) :
  LoopOk (K.envP f spec big loops) (loopBody fn k) (loopS (K.clean f k) pr I L.tr L.pre) :=
 Book.loop_ok hL hk (fun x hx => ⟨GL.pre_ok hx,by have := GL.small (GL.pre_ok hx); unfold big; omega⟩) step
theorem GL.tr0_eq {ρ A : Type} {L : GL ρ A} (h : ∀ r j a,L.stp r j a = false) (x : Int × A × ρ) : (L.tr0 x).val = (L.tr x).val := by
 unfold GL.tr0 GL.tr
 simp only [h,Tree.val,cond_false]
theorem GL.loop0 {ρ A : Type} {L : GL ρ A} {K : Book} {f : FuncId} {spec : List (FuncId × SumT)} {loops loops' : Nat → Option (AS → T (Tree (Ex × AS)))} {fn : Func} {k : Nat} {pr : AS → Int × A × ρ} {I : Int × A × ρ → AS}
  (hs : ∀ r j a,L.stp r j a = false) (hL : LoopsOk (K.envP f spec big loops') (loopsOf (loopBody fn k))) (hk : firstKey (loopBody fn k) = k)
  (step : ∀ x,L.P x → Round (K.envP f spec big loops') (loopBody fn k) (K.clean f k) (K.clean f (k + 500)) I pr L.P (fun x => (L.tr x).val) L.m x) :
  LoopOk (K.envP f spec big loops) (loopBody fn k) (loopS (K.clean f k) pr I L.tr0 L.pre) :=
 Book.loop_ok (Pr := L.P) (m := L.m) hL hk (fun x hx => ⟨GL.pre_ok hx,by have := GL.small (GL.pre_ok hx); unfold big; omega⟩) (by
  rw [show (fun x => (L.tr0 x).val) = fun x => (L.tr x).val from funext (GL.tr0_eq hs)]; exact step)
end Go.Ev
set_option linter.unusedVariables false
set_option linter.unusedSimpArgs false
namespace Go.Ev
open Go
abbrev Book.envV (K : Book) (f : FuncId) (spec specO : List (FuncId × SumT)) (fuel : Nat) : EnvP := K.envO f spec specO fuel
abbrev Book.envW (K : Book) (f : FuncId) (spec specO : List (FuncId × SumT)) (fuel : Nat) : EnvP := K.envO f spec specO fuel
theorem Book.Ok.goW {P : Program} {K : Book} (hK : K.Ok P) {f : FuncId} {fn : Func} (hf : K.fn.get f = some fn) {spec specO : List (FuncId × SumT)} (hs : SpecTL P spec) (hO : SpecOL P specO) {fuel : Nat} {args : List AV} {passed : List (List AV)} {q : Q} {r : AV} {passed' : List (List AV)}
 (h : Goes (runP (K.envW f spec specO fuel) fn args passed q) (r,passed')) : CallsA P f args passed r passed' := hK.pthW hf hs hO h.ret
theorem Book.Ok.goO {P : Program} {K : Book} (hK : K.Ok P) {f : FuncId} {fn : Func} (hf : K.fn.get f = some fn) {spec specO : List (FuncId × SumT)} (hs : SpecTL P spec) (hO : SpecOL P specO) {fuel : Nat} {args cs : List AV} {q : Q} {r : AV} {cs' : List AV}
 (h : Goes (runO (K.envO f spec specO fuel) fn args [cs] q) (r,[cs'])) : CallsO P f args cs r cs' := hK.pthO hf hs hO h.ret
def AV.shO (n : Nat) : AV → AV
 | .sl sz xs (.own _) => .sl sz xs .sh
 | .sl _ xs .nil => .sl n xs .sh
 | v => v
theorem RepH.shO {S w x c v} (n : Nat) (h : RepH S w [] x c v) : RepH S w [] none (c.shO n) v := by
 unfold RepH at h
 split at h
 ·obtain ⟨_,g,cap,vs,rfl,hr,hd,_,hl⟩ := h
  exact .of (.slSh cap hr hd hl)
 ·rename_i hne
  cases c <;> try exact .of h
  rename_i sz xs st
  cases st <;> try exact .of h
  ·cases h with | slNil => exact .of .slShNil
  ·exact (hne _ _ _ rfl).elim
theorem CallsO.shO {P : Program} {f : FuncId} {args cs : List AV} {r : AV} {cs' : List AV} (n : Nat) (h : CallsO P f args (cs.map (AV.shO n)) r cs') : CallsO P f args cs r cs' := by
 refine ⟨h.1,fun w S b x vs hp hv => (h.2 w S b none vs ?_ hv).mono ?_⟩
 ·obtain ⟨us,t,h1,h2,h3,h4⟩ := hp.mem
  refine ⟨hp.lt,hp.avoid,⟨us,t,h1,by simpa using h2,fun j c v hc hv => ?_,h4⟩,fun g e l hq => by cases hq⟩
  simp only [List.getElem?_map,Option.map_eq_some_iff] at hc
  obtain ⟨c0,hc,rfl⟩ := hc
  exact (h3 j c0 v hc hv).shO n
 ·rintro e w' ⟨v,S',x',t,rfl,hd⟩
  refine ⟨v,S',x',t,rfl,⟨hd.size,hd.os,hd.tape,hd.output,(fun b' hb hne _ => hd.old b' hb hne fun _ _ h => by cases h),fun g e l hq => ?_,hd.sub,fun g o hs => ?_,hd.lt,hd.mem,fun g e l hq => ?_,hd.tags,hd.res,hd.fro⟩⟩
  ·obtain ⟨k1,⟨us,t,k2,_⟩,_⟩ := hp.own g e l hq
   refine ⟨us,us,t,k2,?_,rfl,fun _ _ => rfl⟩
   unfold Blk at k2 ⊢
   rw [hd.old g (Blk.lt k2) k1 fun _ _ h => by cases h]; exact k2
  ·rcases hd.new g o hs with h1 | h1 | ⟨_,_,h1,_⟩
   ·exact .inl h1
   ·exact .inr (.inl h1)
   ·cases h1
  ·obtain ⟨k1,k2,k3,k4⟩ := hd.own g e l hq
   refine ⟨?_,k2,k3,k4⟩
   rcases k1 with k1 | ⟨_,_,_,k1,_⟩
   ·exact .inl k1
   ·cases k1
theorem CallsO.wk {P : Program} {f : FuncId} {ns : List Nat} {args cs : List AV} {r : AV} {cs' : List AV} (h : CallsO P f (wkA ns args) cs r cs') : CallsO P f args cs r cs' :=
 ⟨h.1,fun w S b x vs hp hv => h.2 w S b x vs hp hv.wkA⟩
def sumO {σ : Type} (ns : List Nat) (wk : List AV → List AV) (pr : List AV → List AV → σ) (A : σ → List AV) (M : σ → List AV) (pre : σ → Bool) (R : σ → AV) (M' : σ → List AV) : SumT := fun a p =>
 match p with
 | [cs] => .must (wkA ns a = A (pr (wkA ns a) (wk cs))) (.must (wk cs = M (pr (wkA ns a) (wk cs))) (.need (pre (pr (wkA ns a) (wk cs))) (.ret (.leaf (R (pr (wkA ns a) (wk cs)),[M' (pr (wkA ns a) (wk cs))])))))
 | _ => .no
theorem sumO_ok {σ : Type} {P : Program} {f : FuncId} {ns : List Nat} {wk : List AV → List AV} {pr : List AV → List AV → σ} {A : σ → List AV} {M : σ → List AV} {pre : σ → Bool} {R : σ → AV} {M' : σ → List AV}
  (hw : ∀ args cs r cs',CallsO P f args (wk cs) r cs' → CallsO P f args cs r cs') (h : ∀ x,pre x = true → CallsO P f (A x) (M x) (R x) (M' x)) : SumOOk P f (sumO ns wk pr A M pre R M') := by
 refine ⟨?_,fun a t ht => ht.elim⟩
 intro a cs t ht cs' hcs
 obtain ⟨h1,h2,h3,ht⟩ := ht
 cases ht
 simp only [Tree.val,List.cons.injEq,and_true] at hcs
 subst hcs
 have := h _ h3
 rw [← h1,← h2] at this
 exact (hw _ _ _ _ this).wk
def sumV {σ : Type} (pr : List AV → σ) (A : σ → List AV) (pre : σ → Bool) (R : σ → AV) : SumT := fun a p =>
 match p with
 | [] => .must (a = A (pr a)) (.need (pre (pr a)) (.ret (.leaf (R (pr a),[]))))
 | _ => .no
theorem sumV_ok {σ : Type} {P : Program} {f : FuncId} {pr : List AV → σ} {A : σ → List AV} {pre : σ → Bool} {R : σ → AV} (h : ∀ x,pre x = true → CallsV P f (A x) (R x)) : SumOOk P f (sumV pr A pre R) := by
 refine ⟨fun a cs t ht => ht.elim,fun a t ht _ => ?_⟩
 obtain ⟨h1,h3,ht⟩ := ht
 cases ht
 have := h _ h3
 rw [← h1] at this
 exact this
theorem Book.Ok.goV {P : Program} {K : Book} (hK : K.Ok P) {f : FuncId} {fn : Func} (hf : K.fn.get f = some fn) {spec specO : List (FuncId × SumT)} (hs : SpecTL P spec) (hO : SpecOL P specO) {fuel : Nat} {args : List AV} {q : Q} {r : AV} {ps : List (List AV)}
 (h : Goes (runV (K.envO f spec specO fuel) fn args [] q) (r,ps)) : CallsV P f args r := hK.pthV hf hs hO h.ret
end Go.Ev
namespace Go.Ev
abbrev zd {α : Type} (n : Nat) (l : List α) : List α := List.drop n l
abbrev zT {α : Type} (n : Nat) (l : List α) : List α := List.take n l
abbrev zR : Type := AV × List (List AV)
abbrev aT (b c : Bool) : Bool := asTold b c
abbrev iA (a b : Int) : Int := ibits BinOp.and IntKind.i64 a b
abbrev iO (a b : Int) : Int := ibits BinOp.or IntKind.i64 a b
abbrev zs : St := St.sh
abbrev zl (n : Nat) (l : List AV) (s : St) : AV := AV.sl n l s
abbrev za (l : List AV) : AV := AV.agg l
abbrev zt (l : List AV) : AV := AV.tup l
abbrev zJ : IntKind := IntKind.i64
def zc : Nat → List AV → List AV
 | 0,l => l
 | n + 1,l => AV.int IntKind.u64 0 :: zc n l
abbrev z0 (n : Nat) : List AV := List.replicate n (AV.int IntKind.u64 0)
abbrev zU (n : Int) : AV := AV.int IntKind.u64 n
abbrev zB (n : Int) : AV := AV.int IntKind.u8 n
abbrev zI (n : Int) : AV := AV.int IntKind.i64 n
abbrev zN : AV := AV.unk
abbrev zK : IntKind := IntKind.u64
abbrev zk : IntKind := IntKind.u8
noncomputable abbrev bT (f t : TR) (b : Bool) : TR := Bool.rec (motive := fun _ => TR) f t b
noncomputable abbrev bN (t : TR) (b : Bool) : TR := Bool.rec (motive := fun _ => TR) .no t b
noncomputable abbrev bM (p : Prop) (t : TR) : TR := .must p t
noncomputable abbrev bR (x : AV × List (List AV)) : TR := .ret x
noncomputable def bK : Nat → TR → Bool → TR
 | 0,t,_ => t
 | n + 1,t,b => Bool.rec (motive := fun _ => TR) .no (bK n t b) b
theorem Goes.rp {b c : Bool} {t : TR} {r : AV × List (List AV)} (e : b = c) (h : Goes t r) : ∀ {n : Nat},Goes (bK n t (asTold b c)) r
 | 0 => h
 | _ + 1 => .step (told e) (Goes.rp e h)
theorem GoesX.rp {b c : Bool} {t : TR} {G : AV × List (List AV) → Prop} (e : b = c) (h : GoesX t G) : ∀ {n : Nat},GoesX (bK n t (asTold b c)) G
 | 0 => h
 | _ + 1 => .step (told e) (GoesX.rp e h)
theorem Goes.tl {b c : Bool} {t : TR} {r : AV × List (List AV)} (e : b = c) (h : Goes t r) : Goes (Bool.rec (motive := fun _ => TR) .no t (asTold b c)) r := .step (told e) h
theorem GoesX.tl {b c : Bool} {t : TR} {G : AV × List (List AV) → Prop} (e : b = c) (h : GoesX t G) : GoesX (Bool.rec (motive := fun _ => TR) .no t (asTold b c)) G := .step (told e) h
theorem Goes.mo {α : Type} {x : α} {t : TR} {r : AV × List (List AV)} (h : Goes t r) : Goes (.must (Same x) t) r := .must (same_ok _) h
theorem GoesX.mo {α : Type} {x : α} {t : TR} {G : AV × List (List AV) → Prop} (h : GoesX t G) : GoesX (.must (Same x) t) G := .must (same_ok _) h
end Go.Ev
