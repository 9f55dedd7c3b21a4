import Derived.Test.YtdcijmigoefnjaaEv2
import Derived.ProofKit
/- The evaluator: loops by induction; contracts by what they take; ends. -/
set_option linter.unusedVariables false
set_option linter.unusedSimpArgs false
namespace Go.Ev
open Go

/-- a round of a loop, to its end -/
abbrev TE := T (Ex × AS)

def roundP {σ : Type} (E : EnvP) (c : Code) (cl co : AS → AS) (I : σ → AS) (pr : AS → σ) (s : AS) (q : Q) : TE := evP E c s q fun ex s _ =>
  match ex with
  | .normal => .must (cl s = I (pr (cl s))) (.ret (.normal, I (pr (cl s))))
  | ex => .ret (ex, co s)

/-- where a tree comes to -/
structure GoesR (t : TE) (G : Ex × AS → Prop) : Prop where
  ret : ∃ r, t.Ret r ∧ G r

theorem GoesR.step {b : Bool} {t : TE} {G : Ex × AS → Prop} (hb : b = true) (h : GoesR t G) : GoesR (Bool.rec (motive := fun _ => TE) .no t b) G := by
  subst hb; exact h
theorem GoesR.ite {b : Bool} {t t' : TE} {G : Ex × AS → Prop} (h1 : b = true → GoesR t G) (h2 : b = false → GoesR t' G) : GoesR (Bool.rec (motive := fun _ => TE) t' t b) G := by
  cases b with
  | true => exact h1 rfl
  | false => exact h2 rfl
theorem GoesR.must {p : Prop} {t : TE} {G : Ex × AS → Prop} (h : p) (h2 : GoesR t G) : GoesR (.must p t) G := by
  obtain ⟨r, h3, h4⟩ := h2.ret
  exact ⟨⟨r, ⟨h, h3⟩, h4⟩⟩

/-- a round goes on well -/
structure OnOk {σ : Type} (Pr : σ → Prop) (F : σ → Ex × AS) (m : σ → Nat) (x x' : σ) : Prop where
  pr : Pr x'
  same : F x' = F x
  less : m x' < m x

inductive Good {σ : Type} (I : σ → AS) (Pr : σ → Prop) (F : σ → Ex × AS) (m : σ → Nat) (x : σ) : Ex × AS → Prop
  | next {x' : σ} (h : OnOk Pr F m x x') : Good I Pr F m x (.normal, I x')
  | exit {id : Nat} {s' : AS} (h : F x = (.exit id, s')) : Good I Pr F m x (.exit id, s')
  | ret {s' : AS} (h : F x = (.ret, s')) : Good I Pr F m x (.ret, s')

section
variable {σ : Type} {I : σ → AS} {Pr : σ → Prop} {F : σ → Ex × AS} {m : σ → Nat} {x : σ}
theorem GoesR.next {x' : σ} (h : OnOk Pr F m x x') : GoesR (.ret (.normal, I x')) (Good I Pr F m x) := ⟨⟨_, rfl, .next h⟩⟩
theorem GoesR.exit {id : Nat} {s' : AS} (h : F x = (.exit id, s')) : GoesR (.ret (.exit id, s')) (Good I Pr F m x) := ⟨⟨_, rfl, .exit h⟩⟩
theorem GoesR.out {s' : AS} (h : F x = (.ret, s')) : GoesR (.ret (.ret, s')) (Good I Pr F m x) := ⟨⟨_, rfl, .ret h⟩⟩
end

theorem Good.inv {σ : Type} {I : σ → AS} {Pr : σ → Prop} {F : σ → Ex × AS} {m : σ → Nat} {x : σ} {r : Ex × AS} (h : Good I Pr F m x r) :
    (∃ x', r = (.normal, I x') ∧ OnOk Pr F m x x') ∨ (r.1 ≠ .normal ∧ F x = r) := by
  cases h with
  | next h => exact .inl ⟨_, rfl, h⟩
  | exit h => exact .inr ⟨nofun, h⟩
  | ret h => exact .inr ⟨nofun, h⟩

/-- one round of a loop: on, with less to do; or out -/
structure Round {σ : Type} (E : EnvP) (c : Code) (cl co : AS → AS) (I : σ → AS) (pr : AS → σ) (Pr : σ → Prop) (F : σ → Ex × AS) (m : σ → Nat) (x : σ) : Prop where
  ok : ∃ q, GoesR (roundP E c cl co I pr (I x) q) (Good I Pr F m x)

theorem Round.of {σ : Type} {E : EnvP} {c : Code} {cl co : AS → AS} {I : σ → AS} {pr : AS → σ} {Pr : σ → Prop} {F : σ → Ex × AS} {m : σ → Nat} {x : σ} (t : TE) (q : Q)
    (h : roundP E c cl co I pr (I x) q = t) (h2 : GoesR t (Good I Pr F m x)) : Round E c cl co I pr Pr F m x := ⟨⟨q, h ▸ h2⟩⟩

theorem loop_all {σ : Type} {E : EnvP} {c : Code} (hL : LoopsOk E (loopsOf c)) {cl co : AS → AS} {I : σ → AS} {pr : AS → σ} {Pr : σ → Prop} {F : σ → Ex × AS} {m : σ → Nat}
    (step : ∀ x, Pr x → Round E c cl co I pr Pr F m x) : ∀ n x s, Pr x → m x < n → cl s = I x → (loopN (ev E.env c) cl n s).map (fun r => (r.1, co r.2)) = some (F x)
  | 0, x, s, _, hm, _ => by omega
  | n + 1, x, s, hp, hm, hs => by
    simp only [loopN, hs]
    obtain ⟨q, ⟨r, h1, h2⟩⟩ := (step x hp).ok
    obtain ⟨ex, s', q', h3, h4⟩ := evP_ok c hL h1
    rw [h3]
    rcases h2.inv with ⟨x', e, h⟩ | ⟨hn, h⟩
    · cases ex with
      | normal =>
        obtain ⟨h5, h6⟩ := h4
        have h6 : ((Ex.normal, I (pr (cl s'))) : Ex × AS) = r := h6
        rw [e] at h6
        have e2 : cl s' = I x' := h5.trans (Prod.mk.inj h6).2
        simp only
        rw [loop_all hL step n x' _ h.pr (by have := h.less; omega) e2, h.same]
      | exit id => rw [e] at h4; cases h4
      | ret => rw [e] at h4; cases h4
    · cases ex with
      | normal => obtain ⟨h5, h6⟩ := h4; exact (hn (by rw [← h6])).elim
      | exit id => cases h4; simp only [Option.map_some, h]
      | ret => cases h4; simp only [Option.map_some, h]

/-- what a loop does, told for a family of states -/
def loopS {σ : Type} (cl : AS → AS) (pr : AS → σ) (I : σ → AS) (F : σ → Tree (Ex × AS)) (pre : σ → Bool) : AS → T (Tree (Ex × AS)) := fun s =>
  .must (cl s = I (pr (cl s))) (.need (pre (pr (cl s))) (.ret (F (pr (cl s)))))

theorem loopS_ok {σ : Type} {E : EnvP} {c : Code} (hL : LoopsOk E (loopsOf c)) {pr : AS → σ} {I : σ → AS} {Pr : σ → Prop} {F : σ → Tree (Ex × AS)} {pre : σ → Bool} {m : σ → Nat}
    (hpre : ∀ x, pre x = true → Pr x ∧ m x < E.fuel)
    (step : ∀ x, Pr x → Round E c (E.clean (firstKey c)) (E.clean (firstKey c + 500)) I pr Pr (fun x => (F x).val) m x) : LoopOk E c (loopS (E.clean (firstKey c)) pr I F pre) := by
  intro s t h
  obtain ⟨h1, h⟩ := h
  obtain ⟨h2, h⟩ := h
  cases h
  obtain ⟨h3, h4⟩ := hpre _ h2
  simp only [ev]
  exact loop_all hL step E.fuel _ s h3 h4 h1

/-- loops by their first regions -/
def loopsAt : List (Nat × (AS → T (Tree (Ex × AS)))) → Nat → Option (AS → T (Tree (Ex × AS)))
  | [], _ => none
  | (k, f) :: r, n => bif k == n then some f else loopsAt r n

/-- a contract, told for a family of calls -/
def sumS {σ : Type} (pr : List AV → List (List AV) → σ) (A : σ → List AV) (M : σ → List (List AV)) (pre : σ → Bool) (R : σ → Tree (AV × List (List AV))) : SumT := fun a p =>
  .must (a = A (pr a p)) (.must (p = M (pr a p)) (.need (pre (pr a p)) (.ret (R (pr a p)))))

theorem sumS_ok {σ : Type} {P : Program} {f : FuncId} {pr : List AV → List (List AV) → σ} {A : σ → List AV} {M : σ → List (List AV)} {pre : σ → Bool} {R : σ → Tree (AV × List (List AV))}
    (h : ∀ x, pre x = true → CallsA P f (A x) (M x) (R x).val.1 (R x).val.2) : SumTOk P f (sumS pr A M pre R) := by
  intro a p t ht
  obtain ⟨h1, h2, h3, ht⟩ := ht
  cases ht
  have := h _ h3
  rw [← h1, ← h2] at this
  exact this

/-- the same, of what is passed nothing -/
def sum0 {σ : Type} (pr : List AV → σ) (A : σ → List AV) (pre : σ → Bool) (R : σ → Tree AV) : SumT := fun a p =>
  match p with
  | [] => .must (a = A (pr a)) (.need (pre (pr a)) (.ret (treeMap (R (pr a)))))
  | _ => .no
where
  treeMap : Tree AV → Tree (AV × List (List AV))
    | .leaf a => .leaf (a, [])
    | .ite b l r => .ite b (treeMap l) (treeMap r)

theorem treeMap_val : ∀ t : Tree AV, (sum0.treeMap t).val = (t.val, [])
  | .leaf a => rfl
  | .ite b l r => by cases b <;> simp [sum0.treeMap, Tree.val, treeMap_val l, treeMap_val r]

theorem sum0_ok {σ : Type} {P : Program} {f : FuncId} {pr : List AV → σ} {A : σ → List AV} {pre : σ → Bool} {R : σ → Tree AV}
    (h : ∀ x, pre x = true → CallsA P f (A x) [] (R x).val []) : SumTOk P f (sum0 pr A pre R) := by
  intro a p t ht
  unfold sum0 at ht
  cases p with
  | cons => exact ht.elim
  | nil =>
    obtain ⟨h1, h3, ht⟩ := ht
    cases ht
    have := h _ h3
    rw [← h1] at this
    rw [treeMap_val]
    exact this

theorem Goes.ite {b : Bool} {t t' : TR} {r : AV × List (List AV)} (h1 : b = true → Goes t r) (h2 : b = false → Goes t' r) : Goes (Bool.rec (motive := fun _ => TR) t' t b) r := by
  cases b with
  | true => exact h1 rfl
  | false => exact h2 rfl

theorem Goes.must {p : Prop} {t : TR} {r : AV × List (List AV)} (h : p) (h2 : Goes t r) : Goes (.must p t) r := ⟨h, h2.ret⟩
theorem Goes.leafE {r0 r : AV × List (List AV)} (h : r0 = r) : Goes (.ret r0) r := ⟨h⟩

def bodyLoops (fn : Func) : List Code := match fn.body with | some c => loopsOf c | none => []
/-- a function's loop, by its first region -/
def loopBody (fn : Func) (k : Nat) : Code := ((bodyLoops fn).find? fun c => firstKey c == k).getD .skip

theorem find_key : ∀ {l : List Code} {c : Code} {k : Nat}, (l.map firstKey).Nodup → c ∈ l → firstKey c = k → l.find? (fun c => firstKey c == k) = some c
  | [], c, k, _, h, _ => by cases h
  | d :: l, c, k, hn, h, hk => by
    rw [List.map_cons, List.nodup_cons] at hn
    rw [List.find?_cons]
    rcases List.mem_cons.1 h with rfl | h
    · simp [hk]
    · have : (firstKey d == k) = false := by
        rw [beq_eq_false_iff_ne]
        rintro rfl
        exact hn.1 (hk ▸ List.mem_map_of_mem h)
      rw [this]
      exact find_key hn.2 h hk

def nodupB : List Nat → Bool
  | [] => true
  | a :: l => !l.contains a && nodupB l
theorem nodupB_ok : ∀ {l : List Nat}, nodupB l = true → l.Nodup
  | [], _ => .nil
  | a :: l, h => by
    simp only [nodupB, Bool.and_eq_true, Bool.not_eq_true', List.contains_eq_mem, decide_eq_false_iff_not] at h
    exact List.nodup_cons.2 ⟨h.1, nodupB_ok h.2⟩

theorem loops_ok {fn : Func} {c : Code} (hb : fn.body = some c) {E : EnvP} (hn : nodupB ((bodyLoops fn).map firstKey) = true) (hE : ∀ k f, E.loops k = some f → LoopOk E (loopBody fn k) f) : LoopsOk E (loopsOf c) := by
  intro d hd f hf
  have e : bodyLoops fn = loopsOf c := by unfold bodyLoops; rw [hb]
  have := find_key (nodupB_ok hn) (by rw [e]; exact hd) rfl
  have h2 := hE _ f hf
  unfold loopBody at h2
  rw [this] at h2
  exact h2

theorem loopsAt_one {k : Nat} {f : AS → T (Tree (Ex × AS))} {P : Nat → (AS → T (Tree (Ex × AS))) → Prop} (h : P k f) : ∀ k' f', loopsAt [(k, f)] k' = some f' → P k' f' := by
  intro k' f' hk
  simp only [loopsAt] at hk
  cases hb : k == k' <;> rw [hb] at hk <;> simp only [cond_true, cond_false] at hk
  · cases hk
  · rw [beq_iff_eq] at hb
    cases hk
    exact hb ▸ h

def Book.clean (K : Book) (f : FuncId) (k : Nat) : AS → AS := match K.keep.get (f * 1000 + k) with | some (l, m) => AS.clean l m | none => id

def big : Nat := 18446744073709551616

theorem Book.loop_ok {K : Book} {f : FuncId} {spec : List (FuncId × SumT)} {fuel : Nat} {loops loops' : Nat → Option (AS → T (Tree (Ex × AS)))} {fn : Func} {k : Nat} {σ : Type} {pr : AS → σ} {I : σ → AS} {Pr : σ → Prop} {F : σ → Tree (Ex × AS)} {pre : σ → Bool} {m : σ → Nat}
    (hL : LoopsOk (K.envP f spec fuel loops') (loopsOf (loopBody fn k))) (hk : firstKey (loopBody fn k) = k) (hpre : ∀ x, pre x = true → Pr x ∧ m x < fuel)
    (step : ∀ x, Pr x → Round (K.envP f spec fuel loops') (loopBody fn k) (K.clean f k) (K.clean f (k + 500)) I pr Pr (fun x => (F x).val) m x) :
    LoopOk (K.envP f spec fuel loops) (loopBody fn k) (loopS (K.clean f k) pr I F pre) := by
  have e : K.clean f k = (K.envP f spec fuel loops').clean (firstKey (loopBody fn k)) := by rw [hk]; rfl
  have e2 : K.clean f (k + 500) = (K.envP f spec fuel loops').clean (firstKey (loopBody fn k) + 500) := by rw [hk]; rfl
  have := loopS_ok (E := K.envP f spec fuel loops') (c := loopBody fn k) hL (pr := pr) (I := I) (Pr := Pr) (F := F) (pre := pre) (m := m) hpre (by rw [← e, ← e2]; exact step)
  rw [e]
  exact this

/-- a loop without one within -/
theorem noInner {E : EnvP} {c : Code} (h : loopsOf c = []) : LoopsOk E (loopsOf c) := by rw [h]; intro d hd; cases hd

/-- a function with one loop -/
theorem Book.Ok.run1 {P : Program} {K : Book} (hK : K.Ok P) {f : FuncId} {fn : Func} (hf : K.fn.get f = some fn) {spec : List (FuncId × SumT)} (hs : SpecTL P spec) {fuel k : Nat} {l : AS → T (Tree (Ex × AS))}
    (hn : nodupB ((bodyLoops fn).map firstKey) = true) (hl : LoopOk (K.envP f spec fuel (loopsAt [(k, l)])) (loopBody fn k) l) {args : List AV} {passed : List (List AV)} {q : Q} {r : AV} {passed' : List (List AV)}
    (h : Goes (runP (K.envP f spec fuel (loopsAt [(k, l)])) fn args passed q) (r, passed')) : CallsA P f args passed r passed' :=
  hK.path hf hs fuel _ (fun _ hb => loops_ok hb hn (loopsAt_one hl)) q h.ret

end Go.Ev

/- The evaluator: arguments told less sharply; sums over lists. -/
set_option linter.unusedVariables false
set_option linter.unusedSimpArgs false
namespace Go.Ev
open Go

/-- a list, nil or not, whatever is behind it -/
def AV.wk (n : Nat) : AV → AV
  | .sl _ xs .nil => .sl n xs .sh
  | .sl sz xs .full => .sl sz xs .sh
  | v => v

theorem RepV.wk {S w β a v} (n : Nat) (h : RepV S w β a v) : RepV S w β (a.wk n) v := by
  cases h with
  | slNil => exact .slShNil
  | slFull c r => exact .slSh _ c r (Nat.le_refl _)
  | slFullNil => exact .slShNil
  | unk v => exact .unk v
  | int k n => exact .int k n
  | bool b => exact .bool b
  | str s => exact .str s
  | agg l o => exact .agg l o
  | tup l => exact .tup l
  | ptr e => exact .ptr e
  | nilp => exact .nilp
  | ro c r => exact .ro c r
  | slSh cap c r l => exact .slSh cap c r l
  | slShNil => exact .slShNil
  | view cap e l => exact .view cap e l
  | fn l => exact .fn l
  | niliface => exact .niliface
  | nilfn => exact .nilfn

def wkA : List Nat → List AV → List AV
  | n :: ns, a :: as => a.wk n :: wkA ns as
  | _, as => as

theorem RepL.wkA {S w β} : ∀ {ns : List Nat} {as : List AV} {vs : List Value}, RepL S w β as vs → RepL S w β (wkA ns as) vs
  | [], as, vs, h => by simpa [Ev.wkA] using h
  | n :: ns, [], vs, h => by simpa [Ev.wkA] using h
  | n :: ns, a :: as, _, .cons h l => .cons (h.wk n) l.wkA

theorem CallsA.wk {P : Program} {f : FuncId} {ns : List Nat} {args : List AV} {passed : List (List AV)} {r : AV} {passed' : List (List AV)} (h : CallsA P f (wkA ns args) passed r passed') : CallsA P f args passed r passed' :=
  ⟨h.1, fun w S β vs hp hv => h.2 w S β vs hp hv.wkA⟩

/-- a contract over lists, nil or not -/
def sumW {σ : Type} (ns : List Nat) (pr : List AV → σ) (A : σ → List AV) (pre : σ → Bool) (R : σ → Tree AV) : SumT := fun a p => sum0 pr A pre R (wkA ns a) p

theorem sumW_ok {σ : Type} {P : Program} {f : FuncId} {ns : List Nat} {pr : List AV → σ} {A : σ → List AV} {pre : σ → Bool} {R : σ → Tree AV}
    (h : ∀ x, pre x = true → CallsA P f (A x) [] (R x).val []) : SumTOk P f (sumW ns pr A pre R) := fun a p t ht => (sum0_ok h (wkA ns a) p t ht).wk

/-- the same with memory that is passed -/
def sumWS {σ : Type} (ns : List Nat) (pr : List AV → List (List AV) → σ) (A : σ → List AV) (M : σ → List (List AV)) (pre : σ → Bool) (R : σ → Tree (AV × List (List AV))) : SumT := fun a p => sumS pr A M pre R (wkA ns a) p

theorem sumWS_ok {σ : Type} {P : Program} {f : FuncId} {ns : List Nat} {pr : List AV → List (List AV) → σ} {A : σ → List AV} {M : σ → List (List AV)} {pre : σ → Bool} {R : σ → Tree (AV × List (List AV))}
    (h : ∀ x, pre x = true → CallsA P f (A x) (M x) (R x).val.1 (R x).val.2) : SumTOk P f (sumWS ns pr A M pre R) := fun a p t ht => (sumS_ok h (wkA ns a) p t ht).wk

def AV.elems : AV → List AV
  | .sl _ xs _ => xs
  | _ => []

theorem CallsA.of_eq {P : Program} {f : FuncId} {args args' : List AV} {passed : List (List AV)} {r r' : AV} {passed' : List (List AV)} (h : CallsA P f args passed r passed') (ha : args = args') (hr : r = r') : CallsA P f args' passed r' passed' := ha ▸ hr ▸ h

theorem condF {c x y v : Bool} (p : c = false) (q : y = v) : (bif c then x else y) = v := by subst p; exact q
theorem condT' {c x y v : Bool} (p : c = true) (q : (bif c then x else y) = v) : x = v := by subst p; exact q
theorem condF' {c x y v : Bool} (p : c = false) (q : (bif c then x else y) = v) : y = v := by subst p; exact q
theorem notE {b c : Bool} (p : b = c) : (!b) = !c := by rw [p]

/-- calls of one kind, all at once -/
theorem all_of_map {α : Type} {n : Nat} {f g : Nat → α} (h : (List.range n).map f = (List.range n).map g) : ∀ j, j < n → f j = g j :=
  fun j hj => List.map_inj_left.1 h j (List.mem_range.2 hj)

def Sum.T (S : Sum) : SumT := fun a p => match S a p with | some r => .ret (.leaf r) | none => .no
theorem Sum.T_ok {P : Program} {f : FuncId} {S : Sum} (h : SumOk P f S) : SumTOk P f S.T := by
  intro a p t ht
  unfold Sum.T at ht
  cases hs : S a p with
  | none => simp only [hs] at ht; exact ht.elim
  | some r =>
    simp only [hs] at ht
    cases ht
    exact h _ _ _ _ hs

/-- all by code, but for what is told -/
def Book.mix (K : Book) (base : List (FuncId × Sum)) (fuel : Nat) : Nat → FuncId → Sum
  | 0 => specOf base
  | n + 1 => fun f => bif base.any (fun p => p.1 == f) then specOf base f else K.run (K.mix base fuel n) fuel f

theorem Book.mix_ok {P : Program} {K : Book} (hK : K.Ok P) {base : List (FuncId × Sum)} (hb : SpecL P base) (fuel : Nat) : ∀ n, SpecOk P (K.mix base fuel n)
  | 0 => specOf_ok hb
  | n + 1 => fun f => by
    unfold Book.mix
    cases base.any (fun p => p.1 == f) with
    | true => exact specOf_ok hb f
    | false => exact K.run_ok hK (K.mix_ok hK hb fuel n) fuel f

def SumT.S (S : SumT) : Sum := fun a p => (S a p).run.map Tree.val
theorem SumT.S_ok {P : Program} {f : FuncId} {S : SumT} (h : SumTOk P f S) : SumOk P f S.S := by
  intro a p r q hr
  obtain ⟨t, h1, h2⟩ := Option.map_eq_some_iff.1 hr
  have := h a p t (T.of_run h1)
  rw [h2] at this
  exact this

def specS : List (FuncId × SumT) → List (FuncId × Sum)
  | [] => []
  | p :: l => (p.1, SumT.S p.2) :: specS l
theorem specS_ok {P : Program} : ∀ {l : List (FuncId × SumT)}, SpecTL P l → SpecL P (specS l)
  | [], _ => trivial
  | p :: l, h => ⟨SumT.S_ok h.1, specS_ok h.2⟩

/-- a state, slot by slot -/
def stA (n : Nat) (l : List (Nat × AV)) (m : Mem) : AS := { tmps := l.foldl (fun t p => t.set p.1 p.2) (List.replicate n .unk), mem := m }
def AS.at (s : AS) (i : Nat) : AV := s.tmps.getD i .unk

/-- a list behind a door: what is known of it is not looked into till the door is opened -/
def lockL (b : Bool) (l : List AV) : List AV := bif b then l else []

end Go.Ev

/- The evaluator: a thing is itself (short, for printed trees). -/
namespace Go.Ev
open Go
def Same {α : Type} (x : α) : Prop := x = x
theorem same_ok {α : Type} (x : α) : Same x := rfl
end Go.Ev

/- The evaluator: small functions by their code; contracts told less sharply. -/
set_option linter.unusedVariables false
set_option linter.unusedSimpArgs false
namespace Go.Ev
open Go

/-! ### small functions, gone through by their code -/

section
variable {α : Type}
end

/-- a path's end, of which something is so -/
structure GoesX (t : TR) (G : AV × List (List AV) → Prop) : Prop where
  ret : ∃ r, t.Ret r ∧ G r
theorem GoesX.of_eq {t t' : TR} {G : AV × List (List AV) → Prop} (e : t = t') (h : GoesX t' G) : GoesX t G := e ▸ h
theorem GoesX.step {b : Bool} {t : TR} {G : AV × List (List AV) → Prop} (hb : b = true) (h : GoesX t G) : GoesX (Bool.rec (motive := fun _ => TR) .no t b) G := by
  subst hb; exact h
theorem GoesX.ite {b : Bool} {t t' : TR} {G : AV × List (List AV) → Prop} (h1 : b = true → GoesX t G) (h2 : b = false → GoesX t' G) : GoesX (Bool.rec (motive := fun _ => TR) t' t b) G := by
  cases b with
  | true => exact h1 rfl
  | false => exact h2 rfl
theorem GoesX.must {p : Prop} {t : TR} {G : AV × List (List AV) → Prop} (h : p) (h2 : GoesX t G) : GoesX (.must p t) G := by
  obtain ⟨r, h3, h4⟩ := h2.ret
  exact ⟨r, ⟨h, h3⟩, h4⟩
/-- one of two results; what is told less sharply stands for more -/
def AV.le : AV → AV → Prop := fun a b => b = .unk ∨ b = a

theorem RepL.le {S w β} : ∀ {as bs : List AV} {vs : List Value}, RepL S w β as vs → (as.length = bs.length ∧ ∀ (i : Nat) a b, as[i]? = some a → bs[i]? = some b → AV.le a b) → RepL S w β bs vs := by
  intro as bs vs h ⟨hl, he⟩
  refine RepL.of_get (by rw [← hl]; exact h.length) fun i c v hc hv => ?_
  have hi : i < as.length := by rw [hl]; exact (List.getElem?_eq_some_iff.1 hc).1
  obtain ⟨v', h1, h2⟩ := h.get (List.getElem?_eq_getElem hi)
  rw [h1] at hv; cases hv
  rcases he i _ c (List.getElem?_eq_getElem hi) hc with rfl | rfl
  · exact .unk _
  · exact h2

/-- passed memory told less sharply -/
def leM (ps qs : List (List AV)) : Prop := ps.length = qs.length ∧ ∀ (j : Nat) (p q : List AV), ps[j]? = some p → qs[j]? = some q → p.length = q.length ∧ ∀ (i : Nat) a b, p[i]? = some a → q[i]? = some b → AV.le a b

theorem CallsA.le {P : Program} {f : FuncId} {args : List AV} {passed : List (List AV)} {r : AV} {ps qs : List (List AV)} (h : CallsA P f args passed r ps) (hl : leM ps qs) : CallsA P f args passed r qs := by
  refine ⟨h.1, fun w S β vs hp hv => (h.2 w S β vs hp hv).mono ?_⟩
  rintro e w' ⟨v, S', rfl, hd⟩
  refine ⟨v, S', rfl, { hd with len := hl.1 ▸ hd.len, mem := fun j q hq => ?_ }⟩
  have hj : j < ps.length := by rw [hl.1]; exact (List.getElem?_eq_some_iff.1 hq).1
  have hp' := List.getElem?_eq_getElem hj
  obtain ⟨b, us, t, h1, h2, h3, h4⟩ := hd.mem j _ hp'
  exact ⟨b, us, t, h1, h2, h3.le (hl.2 j _ q hp' hq), h4⟩

theorem RepL.wkMap {S w β} (n : Nat) : ∀ {as : List AV} {vs : List Value}, RepL S w β as vs → RepL S w β (as.map (AV.wk n)) vs
  | [], vs, h => h
  | a :: as, _, .cons h l => .cons (h.wk n) (l.wkMap n)

/-- a value told less sharply, and its cells -/
def AV.wkd (n : Nat) : AV → AV
  | .agg cs => .agg (cs.map (AV.wk n))
  | v => v.wk n

theorem RepV.wkd {S w β a v} (n : Nat) (h : RepV S w β a v) : RepV S w β (a.wkd n) v := by
  cases a <;> try exact h.wk n
  cases h with | agg l o => exact .agg (l.wkMap n) o

def wkdA : List Nat → List AV → List AV
  | n :: ns, a :: as => a.wkd n :: wkdA ns as
  | _, as => as

theorem RepL.wkdA {S w β} : ∀ {ns : List Nat} {as : List AV} {vs : List Value}, RepL S w β as vs → RepL S w β (wkdA ns as) vs
  | [], as, vs, h => by simpa [Ev.wkdA] using h
  | n :: ns, [], vs, h => by simpa [Ev.wkdA] using h
  | n :: ns, a :: as, _, .cons h l => .cons (h.wkd n) l.wkdA

/-- a contract over lists in aggregates, nil or not -/
def sumWD {σ : Type} (ns : List Nat) (pr : List AV → σ) (A : σ → List AV) (pre : σ → Bool) (R : σ → Tree AV) : SumT := fun a p => sum0 pr A pre R (wkdA ns a) p

theorem sumWD_ok {σ : Type} {P : Program} {f : FuncId} {ns : List Nat} {pr : List AV → σ} {A : σ → List AV} {pre : σ → Bool} {R : σ → Tree AV}
    (h : ∀ x, pre x = true → CallsA P f (A x) [] (R x).val []) : SumTOk P f (sumWD ns pr A pre R) := fun a p t ht => by
  have := sum0_ok h (wkdA ns a) p t ht
  exact ⟨this.1, fun w S β vs hp hv => this.2 w S β vs hp hv.wkdA⟩

end Go.Ev

/- The evaluator: loops that count: the first place where something is so; what is gathered on the way. -/
set_option linter.unusedVariables false
set_option linter.unusedSimpArgs false
namespace Go.Ev
open Go

theorem getD_drop {xs : List AV} {j : Nat} (h : j < xs.length) : xs.drop j = xs.getD j .unk :: xs.drop (j + 1) := by
  rw [List.drop_eq_getElem_cons h, List.getD_eq_getElem?_getD, List.getElem?_eq_getElem h]; rfl

/-- the first place, from one on, where something is so -/
def firstI (p : Nat → Bool) : Nat → Nat → Nat
  | 0, _ => 0
  | n + 1, j => bif p j then j else firstI p n (j + 1)

/-- a loop over places: out of it at the first where something is so -/
structure FL (ρ : Type) where
  len : ρ → Nat
  p : ρ → Nat → Bool
  any : ρ → Nat → Bool
  idx : ρ → Nat → Nat
  out : ρ → Nat → Ex × AS
  fin : ρ → Ex × AS
  ok : ρ → Bool

/-- what it comes to is told rightly -/
structure FL.Good {ρ : Type} (L : FL ρ) : Prop where
  yes : ∀ r j, L.ok r = true → j < L.len r → L.p r j = true → L.any r j = true ∧ L.out r (L.idx r j) = L.out r j
  no : ∀ r j, L.ok r = true → j < L.len r → L.p r j = false → L.any r j = L.any r (j + 1) ∧ L.idx r j = L.idx r (j + 1)
  end_ : ∀ r j, L.ok r = true → L.len r ≤ j → L.any r j = false

section
variable {ρ : Type} (L : FL ρ)
def FL.tr (x : Int × ρ) : Tree (Ex × AS) := .ite (L.any x.2 x.1.toNat) (.leaf (L.out x.2 (L.idx x.2 x.1.toNat))) (.leaf (L.fin x.2))
def FL.pre (x : Int × ρ) : Bool := ile 0 x.1 && (ile x.1 (L.len x.2) && (Nat.ble (L.len x.2) 9223372036854775807 && L.ok x.2))
structure FL.P (x : Int × ρ) : Prop where
  lo : 0 ≤ x.1
  hi : x.1 ≤ L.len x.2
  big : L.len x.2 ≤ 9223372036854775807
  ok : L.ok x.2 = true
def FL.m (x : Int × ρ) : Nat := (L.len x.2 - x.1).toNat

variable {L}
theorem FL.pre_ok {x : Int × ρ} (h : L.pre x = true) : L.P x := by
  simp only [FL.pre, Bool.and_eq_true, ile, decide_eq_true_eq, Nat.ble_eq] at h
  exact ⟨h.1, h.2.1, h.2.2.1, h.2.2.2⟩
theorem FL.pre_of {i : Nat} {r : ρ} (h1 : i ≤ L.len r) (h2 : L.len r ≤ 9223372036854775807) (h3 : L.ok r = true) : L.pre ((i : Int), r) = true := by
  simp only [FL.pre, Bool.and_eq_true, ile, decide_eq_true_eq, Nat.ble_eq]
  exact ⟨by omega, by omega, h2, h3⟩
theorem FL.P.in_ {i : Int} {r : ρ} (h : L.P (i, r)) (hi : ilt i (L.len r) = true) : inR i (L.len r) = true := by
  have := h.lo
  simp only [ilt, decide_eq_true_eq] at hi
  simp only [inR, decide_eq_true_eq]
  exact ⟨this, hi⟩
theorem FL.P.lt {i : Int} {r : ρ} (h : L.P (i, r)) (hi : ilt i (L.len r) = true) : i.toNat < L.len r := by
  have := h.lo
  simp only [ilt, decide_eq_true_eq] at hi
  omega
theorem FL.P.cast {i : Int} {r : ρ} (h : L.P (i, r)) : ((i.toNat : Nat) : Int) = i := by have := h.lo; simp only at this; omega
theorem FL.P.found {i : Int} {r : ρ} (h : L.P (i, r)) (g : L.Good) (hi : ilt i (L.len r) = true) (hp : L.p r i.toNat = true) : (L.tr (i, r)).val = L.out r i.toNat := by
  obtain ⟨h1, h2⟩ := g.yes r i.toNat h.ok (h.lt hi) hp
  unfold FL.tr
  simp only [h1, Tree.val, cond_true, h2]
theorem FL.P.fin_ {i : Int} {r : ρ} (h : L.P (i, r)) (g : L.Good) (hi : ilt i (L.len r) = false) : (L.tr (i, r)).val = L.fin r := by
  have := h.hi; have := h.lo
  simp only [ilt, decide_eq_false_iff_not] at hi
  have e := g.end_ r i.toNat h.ok (by simp only at *; omega)
  unfold FL.tr
  simp only [e, Tree.val, cond_false]
theorem FL.P.on {i : Int} {r : ρ} (h : L.P (i, r)) (g : L.Good) (hi : ilt i (L.len r) = true) (hp : L.p r i.toNat = false) : OnOk L.P (fun x => (L.tr x).val) L.m (i, r) (iadd .i64 i 1, r) := by
  obtain ⟨e1, e2⟩ := g.no r i.toNat h.ok (h.lt hi) hp
  obtain ⟨h1, h2, h3, h4⟩ := h
  simp only at h1 h2 h3 h4
  simp only [ilt, decide_eq_true_eq] at hi
  have ei : iadd .i64 i 1 = i + 1 := by
    unfold iadd; rw [IntKind.wrap_i64]; omega
  rw [ei]
  refine ⟨⟨by simp only; omega, by simp only; omega, h3, h4⟩, ?_, by simp only [FL.m]; omega⟩
  have e3 : (i + 1).toNat = i.toNat + 1 := by omega
  simp only [FL.tr, e3, e1, e2]
theorem FL.small {x : Int × ρ} (h : L.P x) : L.m x < 9223372036854775808 := by
  have := h.lo; have := h.big; unfold FL.m; omega
end

theorem FL.loop {ρ : Type} {L : FL ρ} {K : Book} {f : FuncId} {spec : List (FuncId × SumT)} {loops loops' : Nat → Option (AS → T (Tree (Ex × AS)))} {fn : Func} {k : Nat} {pr : AS → Int × ρ} {I : Int × ρ → AS}
    (hL : LoopsOk (K.envP f spec big loops') (loopsOf (loopBody fn k))) (hk : firstKey (loopBody fn k) = k)
    (step : ∀ x, L.P x → Round (K.envP f spec big loops') (loopBody fn k) (K.clean f k) (K.clean f (k + 500)) I pr L.P (fun x => (L.tr x).val) L.m x) :
    LoopOk (K.envP f spec big loops) (loopBody fn k) (loopS (K.clean f k) pr I L.tr L.pre) :=
  Book.loop_ok hL hk (fun x hx => ⟨FL.pre_ok hx, by have := FL.small (FL.pre_ok hx); unfold big; omega⟩) step

/-- a search among a list's values -/
theorem FL.good_any {ρ : Type} {L : FL ρ} (xs : ρ → List AV) (q : ρ → AV → Bool) (hl : ∀ r, L.len r = (xs r).length) (hp : ∀ r j, L.p r j = q r ((xs r).getD j .unk)) (ha : ∀ r j, L.any r j = ((xs r).drop j).any (q r))
    (hi : (∀ r j k, L.out r j = L.out r k) ∧ (∀ r j k, L.idx r j = L.idx r k) ∨ ∀ r j, L.idx r j = firstI (L.p r) (L.len r - j) j) : L.Good := by
  refine ⟨fun r j _ hj h => ⟨?_, ?_⟩, fun r j _ hj h => ⟨?_, ?_⟩, fun r j _ hj => ?_⟩
  · rw [ha, getD_drop (by rw [← hl]; exact hj), List.any_cons, ← hp, h]; rfl
  · rcases hi with ⟨h1, _⟩ | h1
    · exact h1 _ _ _
    · rw [h1, show L.len r - j = (L.len r - (j + 1)) + 1 by omega]
      simp only [firstI, h, cond_true]
  · rw [ha, ha, getD_drop (by rw [← hl]; exact hj), List.any_cons, ← hp, h]; rfl
  · rcases hi with ⟨_, h1⟩ | h1
    · exact h1 _ _ _
    · rw [h1, h1, show L.len r - j = (L.len r - (j + 1)) + 1 by omega]
      simp only [firstI, h, cond_false]
  · rw [ha, List.drop_eq_nil_of_le (by rw [← hl]; exact hj)]; rfl

/-- what is gathered, place by place; it may stop -/
structure GL (ρ A : Type) where
  len : ρ → Nat
  stop : ρ → Nat → A → Bool
  next : ρ → Nat → A → A
  stp : ρ → Nat → A → Bool
  idx : ρ → Nat → A → Nat
  acc : ρ → Nat → A → A
  out : ρ → Nat → A → Ex × AS
  fin : ρ → A → Ex × AS
  ok : ρ → Bool
  inv : ρ → Nat → A → Bool

structure GL.Good {ρ A : Type} (L : GL ρ A) : Prop where
  yes : ∀ r j a, L.ok r = true → L.inv r j a = true → j < L.len r → L.stop r j a = true → L.stp r j a = true ∧ L.out r (L.idx r j a) (L.acc r j a) = L.out r j a
  no : ∀ r j a, L.ok r = true → L.inv r j a = true → j < L.len r → L.stop r j a = false → L.stp r j a = L.stp r (j + 1) (L.next r j a) ∧ L.idx r j a = L.idx r (j + 1) (L.next r j a) ∧ L.acc r j a = L.acc r (j + 1) (L.next r j a)
  end_ : ∀ r j a, L.ok r = true → L.inv r j a = true → L.len r ≤ j → L.stp r j a = false ∧ L.acc r j a = a

section
variable {ρ A : Type} (L : GL ρ A)
def GL.tr (x : Int × A × ρ) : Tree (Ex × AS) := .ite (L.stp x.2.2 x.1.toNat x.2.1) (.leaf (L.out x.2.2 (L.idx x.2.2 x.1.toNat x.2.1) (L.acc x.2.2 x.1.toNat x.2.1))) (.leaf (L.fin x.2.2 (L.acc x.2.2 x.1.toNat x.2.1)))
def GL.pre (x : Int × A × ρ) : Bool := ile 0 x.1 && (ile x.1 (L.len x.2.2) && (Nat.ble (L.len x.2.2) 9223372036854775807 && (L.ok x.2.2 && L.inv x.2.2 x.1.toNat x.2.1)))
structure GL.P (x : Int × A × ρ) : Prop where
  lo : 0 ≤ x.1
  hi : x.1 ≤ L.len x.2.2
  big : L.len x.2.2 ≤ 9223372036854775807
  ok : L.ok x.2.2 = true
  inv : L.inv x.2.2 x.1.toNat x.2.1 = true
def GL.m (x : Int × A × ρ) : Nat := (L.len x.2.2 - x.1).toNat

variable {L}
theorem GL.pre_ok {x : Int × A × ρ} (h : L.pre x = true) : L.P x := by
  simp only [GL.pre, Bool.and_eq_true, ile, decide_eq_true_eq, Nat.ble_eq] at h
  exact ⟨h.1, h.2.1, h.2.2.1, h.2.2.2.1, h.2.2.2.2⟩
theorem GL.pre_of {i : Nat} {a : A} {r : ρ} (h1 : i ≤ L.len r) (h2 : L.len r ≤ 9223372036854775807) (h3 : L.ok r = true) (h4 : L.inv r i a = true) : L.pre ((i : Int), a, r) = true := by
  simp only [GL.pre, Bool.and_eq_true, ile, decide_eq_true_eq, Nat.ble_eq]
  exact ⟨by omega, by omega, h2, h3, h4⟩
theorem GL.P.in_ {i : Int} {a : A} {r : ρ} (h : L.P (i, a, r)) (hi : ilt i (L.len r) = true) : inR i (L.len r) = true := by
  have := h.lo
  simp only [ilt, decide_eq_true_eq] at hi
  simp only [inR, decide_eq_true_eq]
  exact ⟨this, hi⟩
theorem GL.P.lt {i : Int} {a : A} {r : ρ} (h : L.P (i, a, r)) (hi : ilt i (L.len r) = true) : i.toNat < L.len r := by
  have := h.lo
  simp only [ilt, decide_eq_true_eq] at hi
  omega
theorem GL.P.cast {i : Int} {a : A} {r : ρ} (h : L.P (i, a, r)) : ((i.toNat : Nat) : Int) = i := by have := h.lo; simp only at this; omega
theorem GL.P.found {i : Int} {a : A} {r : ρ} (h : L.P (i, a, r)) (g : L.Good) (hi : ilt i (L.len r) = true) (hp : L.stop r i.toNat a = true) : (L.tr (i, a, r)).val = L.out r i.toNat a := by
  obtain ⟨h1, h2⟩ := g.yes r i.toNat a h.ok h.inv (h.lt hi) hp
  unfold GL.tr
  simp only [h1, h2, Tree.val, cond_true]
theorem GL.P.fin_ {i : Int} {a : A} {r : ρ} (h : L.P (i, a, r)) (g : L.Good) (hi : ilt i (L.len r) = false) : (L.tr (i, a, r)).val = L.fin r a := by
  have := h.hi; have := h.lo
  simp only [ilt, decide_eq_false_iff_not] at hi
  obtain ⟨e1, e2⟩ := g.end_ r i.toNat a h.ok h.inv (by simp only at *; omega)
  unfold GL.tr
  simp only [e1, e2, Tree.val, cond_false]
theorem GL.P.on {i : Int} {a a' : A} {r : ρ} (h : L.P (i, a, r)) (g : L.Good) (hi : ilt i (L.len r) = true) (hp : L.stop r i.toNat a = false) (ha : a' = L.next r i.toNat a) (hinv : L.inv r (i.toNat + 1) a' = true) :
    OnOk L.P (fun x => (L.tr x).val) L.m (i, a, r) (iadd .i64 i 1, a', r) := by
  obtain ⟨e1, e2, e3⟩ := g.no r i.toNat a h.ok h.inv (h.lt hi) hp
  obtain ⟨h1, h2, h3, h4, h5⟩ := h
  simp only at h1 h2 h3 h4 h5
  simp only [ilt, decide_eq_true_eq] at hi
  have ei : iadd .i64 i 1 = i + 1 := by
    unfold iadd; rw [IntKind.wrap_i64]; omega
  rw [ei]
  have e4 : (i + 1).toNat = i.toNat + 1 := by omega
  refine ⟨⟨by simp only; omega, by simp only; omega, h3, h4, by simp only [e4]; exact hinv⟩, ?_, by simp only [GL.m]; omega⟩
  subst ha
  simp only [GL.tr, e4, e1, e2, e3]
theorem GL.small {x : Int × A × ρ} (h : L.P x) : L.m x < 9223372036854775808 := by
  have := h.lo; have := h.big; unfold GL.m; omega
end

theorem GL.loop {ρ A : Type} {L : GL ρ A} {K : Book} {f : FuncId} {spec : List (FuncId × SumT)} {loops loops' : Nat → Option (AS → T (Tree (Ex × AS)))} {fn : Func} {k : Nat} {pr : AS → Int × A × ρ} {I : Int × A × ρ → AS}
    (hL : LoopsOk (K.envP f spec big loops') (loopsOf (loopBody fn k))) (hk : firstKey (loopBody fn k) = k)
    (step : ∀ x, L.P x → Round (K.envP f spec big loops') (loopBody fn k) (K.clean f k) (K.clean f (k + 500)) I pr L.P (fun x => (L.tr x).val) L.m x) :
    LoopOk (K.envP f spec big loops) (loopBody fn k) (loopS (K.clean f k) pr I L.tr L.pre) :=
  Book.loop_ok hL hk (fun x hx => ⟨GL.pre_ok hx, by have := GL.small (GL.pre_ok hx); unfold big; omega⟩) step

/-- a loop whose state has a flag: the end's states are told apart by it -/
def GL.tr2 {ρ B : Type} (L : GL ρ (Bool × B)) (x : Int × (Bool × B) × ρ) : Tree (Ex × AS) :=
  .ite (L.stp x.2.2 x.1.toNat x.2.1)
    (.ite (L.acc x.2.2 x.1.toNat x.2.1).1 (.leaf (L.out x.2.2 (L.idx x.2.2 x.1.toNat x.2.1) (true, (L.acc x.2.2 x.1.toNat x.2.1).2))) (.leaf (L.out x.2.2 (L.idx x.2.2 x.1.toNat x.2.1) (false, (L.acc x.2.2 x.1.toNat x.2.1).2))))
    (.ite (L.acc x.2.2 x.1.toNat x.2.1).1 (.leaf (L.fin x.2.2 (true, (L.acc x.2.2 x.1.toNat x.2.1).2))) (.leaf (L.fin x.2.2 (false, (L.acc x.2.2 x.1.toNat x.2.1).2))))
theorem GL.tr2_eq {ρ B : Type} {L : GL ρ (Bool × B)} (x : Int × (Bool × B) × ρ) : (L.tr2 x).val = (L.tr x).val := by
  unfold GL.tr2 GL.tr
  generalize L.acc x.2.2 x.1.toNat x.2.1 = a
  obtain ⟨b, c⟩ := a
  cases L.stp x.2.2 x.1.toNat x.2.1 <;> cases b <;> rfl
theorem GL.loop2 {ρ B : Type} {L : GL ρ (Bool × B)} {K : Book} {f : FuncId} {spec : List (FuncId × SumT)} {loops loops' : Nat → Option (AS → T (Tree (Ex × AS)))} {fn : Func} {k : Nat} {pr : AS → Int × (Bool × B) × ρ} {I : Int × (Bool × B) × ρ → AS}
    (hL : LoopsOk (K.envP f spec big loops') (loopsOf (loopBody fn k))) (hk : firstKey (loopBody fn k) = k)
    (step : ∀ x, L.P x → Round (K.envP f spec big loops') (loopBody fn k) (K.clean f k) (K.clean f (k + 500)) I pr L.P (fun x => (L.tr x).val) L.m x) :
    LoopOk (K.envP f spec big loops) (loopBody fn k) (loopS (K.clean f k) pr I L.tr2 L.pre) :=
  Book.loop_ok (Pr := L.P) (m := L.m) hL hk (fun x hx => ⟨GL.pre_ok hx, by have := GL.small (GL.pre_ok hx); unfold big; omega⟩) (by
    rw [show (fun x => (L.tr2 x).val) = fun x => (L.tr x).val from funext GL.tr2_eq]; exact step)

end Go.Ev

namespace Go.Ev
abbrev zU (n : Int) : AV := AV.int IntKind.u64 n
abbrev zB (n : Int) : AV := AV.int IntKind.u8 n
abbrev zI (n : Int) : AV := AV.int IntKind.i64 n
abbrev zN : AV := AV.unk
abbrev zK : IntKind := IntKind.u64
abbrev zk : IntKind := IntKind.u8
end Go.Ev
