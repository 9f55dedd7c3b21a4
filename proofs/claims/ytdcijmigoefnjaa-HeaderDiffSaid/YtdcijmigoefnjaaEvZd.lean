/- The evaluator: loops by induction; contracts by what they take; ends. -/
import Derived.Test.YtdcijmigoefnjaaEvZc
set_option linter.unusedVariables false
set_option linter.unusedSimpArgs false
namespace Go.Ev
open Go

/-- a round of a loop, to its end -/
abbrev TE := T (Ex × AS)

def roundP {σ : Type} (E : EnvP) (c : Code) (cl co : AS → AS) (I : σ → AS) (pr : AS → σ) (s : AS) (q : Q) : TE := evP E c s q fun ex s _ =>
  match ex with
  | .normal => .must (cl s = I (pr (cl s))) (.ret (.normal, I (pr (cl s))))
  | ex => .ret (ex, co s)

/-- where a tree comes to -/
structure GoesR (t : TE) (G : Ex × AS → Prop) : Prop where
  ret : ∃ r, t.Ret r ∧ G r

theorem GoesR.step {b : Bool} {t : TE} {G : Ex × AS → Prop} (hb : b = true) (h : GoesR t G) : GoesR (Bool.rec (motive := fun _ => TE) .no t b) G := by
  subst hb; exact h
theorem GoesR.ite {b : Bool} {t t' : TE} {G : Ex × AS → Prop} (h1 : b = true → GoesR t G) (h2 : b = false → GoesR t' G) : GoesR (Bool.rec (motive := fun _ => TE) t' t b) G := by
  cases b with
  | true => exact h1 rfl
  | false => exact h2 rfl
theorem GoesR.must {p : Prop} {t : TE} {G : Ex × AS → Prop} (h : p) (h2 : GoesR t G) : GoesR (.must p t) G := by
  obtain ⟨r, h3, h4⟩ := h2.ret
  exact ⟨⟨r, ⟨h, h3⟩, h4⟩⟩

/-- a round goes on well -/
structure OnOk {σ : Type} (Pr : σ → Prop) (F : σ → Ex × AS) (m : σ → Nat) (x x' : σ) : Prop where
  pr : Pr x'
  same : F x' = F x
  less : m x' < m x

inductive Good {σ : Type} (I : σ → AS) (Pr : σ → Prop) (F : σ → Ex × AS) (m : σ → Nat) (x : σ) : Ex × AS → Prop
  | next {x' : σ} (h : OnOk Pr F m x x') : Good I Pr F m x (.normal, I x')
  | exit {id : Nat} {s' : AS} (h : F x = (.exit id, s')) : Good I Pr F m x (.exit id, s')
  | ret {s' : AS} (h : F x = (.ret, s')) : Good I Pr F m x (.ret, s')

section
variable {σ : Type} {I : σ → AS} {Pr : σ → Prop} {F : σ → Ex × AS} {m : σ → Nat} {x : σ}
theorem GoesR.next {x' : σ} (h : OnOk Pr F m x x') : GoesR (.ret (.normal, I x')) (Good I Pr F m x) := ⟨⟨_, rfl, .next h⟩⟩
theorem GoesR.exit {id : Nat} {s' : AS} (h : F x = (.exit id, s')) : GoesR (.ret (.exit id, s')) (Good I Pr F m x) := ⟨⟨_, rfl, .exit h⟩⟩
theorem GoesR.out {s' : AS} (h : F x = (.ret, s')) : GoesR (.ret (.ret, s')) (Good I Pr F m x) := ⟨⟨_, rfl, .ret h⟩⟩
end

theorem Good.inv {σ : Type} {I : σ → AS} {Pr : σ → Prop} {F : σ → Ex × AS} {m : σ → Nat} {x : σ} {r : Ex × AS} (h : Good I Pr F m x r) :
    (∃ x', r = (.normal, I x') ∧ OnOk Pr F m x x') ∨ (r.1 ≠ .normal ∧ F x = r) := by
  cases h with
  | next h => exact .inl ⟨_, rfl, h⟩
  | exit h => exact .inr ⟨nofun, h⟩
  | ret h => exact .inr ⟨nofun, h⟩

/-- one round of a loop: on, with less to do; or out -/
structure Round {σ : Type} (E : EnvP) (c : Code) (cl co : AS → AS) (I : σ → AS) (pr : AS → σ) (Pr : σ → Prop) (F : σ → Ex × AS) (m : σ → Nat) (x : σ) : Prop where
  ok : ∃ q, GoesR (roundP E c cl co I pr (I x) q) (Good I Pr F m x)

theorem Round.of {σ : Type} {E : EnvP} {c : Code} {cl co : AS → AS} {I : σ → AS} {pr : AS → σ} {Pr : σ → Prop} {F : σ → Ex × AS} {m : σ → Nat} {x : σ} (t : TE) (q : Q)
    (h : roundP E c cl co I pr (I x) q = t) (h2 : GoesR t (Good I Pr F m x)) : Round E c cl co I pr Pr F m x := ⟨⟨q, h ▸ h2⟩⟩

theorem loop_all {σ : Type} {E : EnvP} {c : Code} (hL : LoopsOk E (loopsOf c)) {cl co : AS → AS} {I : σ → AS} {pr : AS → σ} {Pr : σ → Prop} {F : σ → Ex × AS} {m : σ → Nat}
    (step : ∀ x, Pr x → Round E c cl co I pr Pr F m x) : ∀ n x s, Pr x → m x < n → cl s = I x → (loopN (ev E.env c) cl n s).map (fun r => (r.1, co r.2)) = some (F x)
  | 0, x, s, _, hm, _ => by omega
  | n + 1, x, s, hp, hm, hs => by
    simp only [loopN, hs]
    obtain ⟨q, ⟨r, h1, h2⟩⟩ := (step x hp).ok
    obtain ⟨ex, s', q', h3, h4⟩ := evP_ok c hL h1
    rw [h3]
    rcases h2.inv with ⟨x', e, h⟩ | ⟨hn, h⟩
    · cases ex with
      | normal =>
        obtain ⟨h5, h6⟩ := h4
        have h6 : ((Ex.normal, I (pr (cl s'))) : Ex × AS) = r := h6
        rw [e] at h6
        have e2 : cl s' = I x' := h5.trans (Prod.mk.inj h6).2
        simp only
        rw [loop_all hL step n x' _ h.pr (by have := h.less; omega) e2, h.same]
      | exit id => rw [e] at h4; cases h4
      | ret => rw [e] at h4; cases h4
    · cases ex with
      | normal => obtain ⟨h5, h6⟩ := h4; exact (hn (by rw [← h6])).elim
      | exit id => cases h4; simp only [Option.map_some, h]
      | ret => cases h4; simp only [Option.map_some, h]

/-- what a loop does, told for a family of states -/
def loopS {σ : Type} (cl : AS → AS) (pr : AS → σ) (I : σ → AS) (F : σ → Tree (Ex × AS)) (pre : σ → Bool) : AS → T (Tree (Ex × AS)) := fun s =>
  .must (cl s = I (pr (cl s))) (.need (pre (pr (cl s))) (.ret (F (pr (cl s)))))

theorem loopS_ok {σ : Type} {E : EnvP} {c : Code} (hL : LoopsOk E (loopsOf c)) {pr : AS → σ} {I : σ → AS} {Pr : σ → Prop} {F : σ → Tree (Ex × AS)} {pre : σ → Bool} {m : σ → Nat}
    (hpre : ∀ x, pre x = true → Pr x ∧ m x < E.fuel)
    (step : ∀ x, Pr x → Round E c (E.clean (firstKey c)) (E.clean (firstKey c + 500)) I pr Pr (fun x => (F x).val) m x) : LoopOk E c (loopS (E.clean (firstKey c)) pr I F pre) := by
  intro s t h
  obtain ⟨h1, h⟩ := h
  obtain ⟨h2, h⟩ := h
  cases h
  obtain ⟨h3, h4⟩ := hpre _ h2
  simp only [ev]
  exact loop_all hL step E.fuel _ s h3 h4 h1

/-- loops by their first regions -/
def loopsAt : List (Nat × (AS → T (Tree (Ex × AS)))) → Nat → Option (AS → T (Tree (Ex × AS)))
  | [], _ => none
  | (k, f) :: r, n => bif k == n then some f else loopsAt r n

/-- a contract, told for a family of calls -/
def sumS {σ : Type} (pr : List AV → List (List AV) → σ) (A : σ → List AV) (M : σ → List (List AV)) (pre : σ → Bool) (R : σ → Tree (AV × List (List AV))) : SumT := fun a p =>
  .must (a = A (pr a p)) (.must (p = M (pr a p)) (.need (pre (pr a p)) (.ret (R (pr a p)))))

theorem sumS_ok {σ : Type} {P : Program} {f : FuncId} {pr : List AV → List (List AV) → σ} {A : σ → List AV} {M : σ → List (List AV)} {pre : σ → Bool} {R : σ → Tree (AV × List (List AV))}
    (h : ∀ x, pre x = true → CallsA P f (A x) (M x) (R x).val.1 (R x).val.2) : SumTOk P f (sumS pr A M pre R) := by
  intro a p t ht
  obtain ⟨h1, h2, h3, ht⟩ := ht
  cases ht
  have := h _ h3
  rw [← h1, ← h2] at this
  exact this

/-- the same, of what is passed nothing -/
def sum0 {σ : Type} (pr : List AV → σ) (A : σ → List AV) (pre : σ → Bool) (R : σ → Tree AV) : SumT := fun a p =>
  match p with
  | [] => .must (a = A (pr a)) (.need (pre (pr a)) (.ret (treeMap (R (pr a)))))
  | _ => .no
where
  treeMap : Tree AV → Tree (AV × List (List AV))
    | .leaf a => .leaf (a, [])
    | .ite b l r => .ite b (treeMap l) (treeMap r)

theorem treeMap_val : ∀ t : Tree AV, (sum0.treeMap t).val = (t.val, [])
  | .leaf a => rfl
  | .ite b l r => by cases b <;> simp [sum0.treeMap, Tree.val, treeMap_val l, treeMap_val r]

theorem sum0_ok {σ : Type} {P : Program} {f : FuncId} {pr : List AV → σ} {A : σ → List AV} {pre : σ → Bool} {R : σ → Tree AV}
    (h : ∀ x, pre x = true → CallsA P f (A x) [] (R x).val []) : SumTOk P f (sum0 pr A pre R) := by
  intro a p t ht
  unfold sum0 at ht
  cases p with
  | cons => exact ht.elim
  | nil =>
    obtain ⟨h1, h3, ht⟩ := ht
    cases ht
    have := h _ h3
    rw [← h1] at this
    rw [treeMap_val]
    exact this

/-- what a function does, whatever way it goes -/
theorem Book.Ok.run_ {P : Program} {K : Book} (hK : K.Ok P) {f : FuncId} {fn : Func} (hf : K.fn.get f = some fn) {spec : List (FuncId × SumT)} (hs : SpecTL P spec) {fuel : Nat} {loops : Nat → Option (AS → T (Tree (Ex × AS)))}
    (hL : ∀ c, fn.body = some c → LoopsOk (K.envP f spec fuel loops) (loopsOf c)) {args : List AV} {passed : List (List AV)} {q : Q} {r : AV} {passed' : List (List AV)}
    (h : Goes (runP (K.envP f spec fuel loops) fn args passed q) (r, passed')) : CallsA P f args passed r passed' := hK.path hf hs fuel loops hL q h.ret

theorem Goes.ite {b : Bool} {t t' : TR} {r : AV × List (List AV)} (h1 : b = true → Goes t r) (h2 : b = false → Goes t' r) : Goes (Bool.rec (motive := fun _ => TR) t' t b) r := by
  cases b with
  | true => exact h1 rfl
  | false => exact h2 rfl

theorem Goes.must {p : Prop} {t : TR} {r : AV × List (List AV)} (h : p) (h2 : Goes t r) : Goes (.must p t) r := ⟨h, h2.ret⟩
theorem Goes.leafE {r0 r : AV × List (List AV)} (h : r0 = r) : Goes (.ret r0) r := ⟨h⟩

def bodyLoops (fn : Func) : List Code := match fn.body with | some c => loopsOf c | none => []
/-- a function's loop, by its first region -/
def loopBody (fn : Func) (k : Nat) : Code := ((bodyLoops fn).find? fun c => firstKey c == k).getD .skip

theorem find_key : ∀ {l : List Code} {c : Code} {k : Nat}, (l.map firstKey).Nodup → c ∈ l → firstKey c = k → l.find? (fun c => firstKey c == k) = some c
  | [], c, k, _, h, _ => by cases h
  | d :: l, c, k, hn, h, hk => by
    rw [List.map_cons, List.nodup_cons] at hn
    rw [List.find?_cons]
    rcases List.mem_cons.1 h with rfl | h
    · simp [hk]
    · have : (firstKey d == k) = false := by
        rw [beq_eq_false_iff_ne]
        rintro rfl
        exact hn.1 (hk ▸ List.mem_map_of_mem h)
      rw [this]
      exact find_key hn.2 h hk

def nodupB : List Nat → Bool
  | [] => true
  | a :: l => !l.contains a && nodupB l
theorem nodupB_ok : ∀ {l : List Nat}, nodupB l = true → l.Nodup
  | [], _ => .nil
  | a :: l, h => by
    simp only [nodupB, Bool.and_eq_true, Bool.not_eq_true', List.contains_eq_mem, decide_eq_false_iff_not] at h
    exact List.nodup_cons.2 ⟨h.1, nodupB_ok h.2⟩

theorem loops_ok {fn : Func} {c : Code} (hb : fn.body = some c) {E : EnvP} (hn : nodupB ((bodyLoops fn).map firstKey) = true) (hE : ∀ k f, E.loops k = some f → LoopOk E (loopBody fn k) f) : LoopsOk E (loopsOf c) := by
  intro d hd f hf
  have e : bodyLoops fn = loopsOf c := by unfold bodyLoops; rw [hb]
  have := find_key (nodupB_ok hn) (by rw [e]; exact hd) rfl
  have h2 := hE _ f hf
  unfold loopBody at h2
  rw [this] at h2
  exact h2

theorem loopsAt_one {k : Nat} {f : AS → T (Tree (Ex × AS))} {P : Nat → (AS → T (Tree (Ex × AS))) → Prop} (h : P k f) : ∀ k' f', loopsAt [(k, f)] k' = some f' → P k' f' := by
  intro k' f' hk
  simp only [loopsAt] at hk
  cases hb : k == k' <;> rw [hb] at hk <;> simp only [cond_true, cond_false] at hk
  · cases hk
  · rw [beq_iff_eq] at hb
    cases hk
    exact hb ▸ h

theorem loopsAt_cons {k : Nat} {f : AS → T (Tree (Ex × AS))} {l : List (Nat × (AS → T (Tree (Ex × AS))))} {P : Nat → (AS → T (Tree (Ex × AS))) → Prop} (h : P k f) (h2 : ∀ k' f', loopsAt l k' = some f' → P k' f') :
    ∀ k' f', loopsAt ((k, f) :: l) k' = some f' → P k' f' := by
  intro k' f' hk
  simp only [loopsAt] at hk
  cases hb : k == k' <;> rw [hb] at hk <;> simp only [cond_true, cond_false] at hk
  · exact h2 k' f' hk
  · rw [beq_iff_eq] at hb
    cases hk
    exact hb ▸ h

def Book.clean (K : Book) (f : FuncId) (k : Nat) : AS → AS := match K.keep.get (f * 1000 + k) with | some (l, m) => AS.clean l m | none => id

def big : Nat := 18446744073709551616

theorem Book.loop_ok {K : Book} {f : FuncId} {spec : List (FuncId × SumT)} {fuel : Nat} {loops loops' : Nat → Option (AS → T (Tree (Ex × AS)))} {fn : Func} {k : Nat} {σ : Type} {pr : AS → σ} {I : σ → AS} {Pr : σ → Prop} {F : σ → Tree (Ex × AS)} {pre : σ → Bool} {m : σ → Nat}
    (hL : LoopsOk (K.envP f spec fuel loops') (loopsOf (loopBody fn k))) (hk : firstKey (loopBody fn k) = k) (hpre : ∀ x, pre x = true → Pr x ∧ m x < fuel)
    (step : ∀ x, Pr x → Round (K.envP f spec fuel loops') (loopBody fn k) (K.clean f k) (K.clean f (k + 500)) I pr Pr (fun x => (F x).val) m x) :
    LoopOk (K.envP f spec fuel loops) (loopBody fn k) (loopS (K.clean f k) pr I F pre) := by
  have e : K.clean f k = (K.envP f spec fuel loops').clean (firstKey (loopBody fn k)) := by rw [hk]; rfl
  have e2 : K.clean f (k + 500) = (K.envP f spec fuel loops').clean (firstKey (loopBody fn k) + 500) := by rw [hk]; rfl
  have := loopS_ok (E := K.envP f spec fuel loops') (c := loopBody fn k) hL (pr := pr) (I := I) (Pr := Pr) (F := F) (pre := pre) (m := m) hpre (by rw [← e, ← e2]; exact step)
  rw [e]
  exact this

/-- a loop without one within -/
theorem noInner {E : EnvP} {c : Code} (h : loopsOf c = []) : LoopsOk E (loopsOf c) := by rw [h]; intro d hd; cases hd

/-- a function with one loop -/
theorem Book.Ok.run1 {P : Program} {K : Book} (hK : K.Ok P) {f : FuncId} {fn : Func} (hf : K.fn.get f = some fn) {spec : List (FuncId × SumT)} (hs : SpecTL P spec) {fuel k : Nat} {l : AS → T (Tree (Ex × AS))}
    (hn : nodupB ((bodyLoops fn).map firstKey) = true) (hl : LoopOk (K.envP f spec fuel (loopsAt [(k, l)])) (loopBody fn k) l) {args : List AV} {passed : List (List AV)} {q : Q} {r : AV} {passed' : List (List AV)}
    (h : Goes (runP (K.envP f spec fuel (loopsAt [(k, l)])) fn args passed q) (r, passed')) : CallsA P f args passed r passed' :=
  hK.path hf hs fuel _ (fun _ hb => loops_ok hb hn (loopsAt_one hl)) q h.ret

def idS (s : AS) : AS := s
/-- for looking: the state at a loop -/
def probe (f : FuncId → Nat → AS → AS) (g : FuncId) (k : Nat) : AS → T (Tree (Ex × AS)) := fun s => .must (f g k s = idS (f g k s)) .no

end Go.Ev
