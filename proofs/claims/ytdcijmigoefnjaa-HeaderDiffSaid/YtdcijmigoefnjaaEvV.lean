/- The evaluator: a region whose order is drawn. -/
import Derived.Test.YtdcijmigoefnjaaEvU
import Derived.Orders
set_option linter.unusedVariables false
set_option linter.unusedSimpArgs false
namespace Go.Ev
open Go

def Run (E : Env) (ops : Array Oper) : List (Nat × FP) → AS → AS → Prop
  | [], s, s' => s = s'
  | (i, f) :: r, s, s' => ∃ s1, step1 E ops i s = some s1 ∧ fpOf ops i s = f ∧ Run E ops r s1 s'

theorem evTr_run {E : Env} {ops : Array Oper} : ∀ (l : List Nat) {s s' : AS} {fps : List FP}, evTr E ops l s = some (s', fps) → fps.length = l.length ∧ Run E ops (l.zip fps) s s'
  | [], s, s', fps, h => by
    simp only [evTr, Option.some.injEq, Prod.mk.injEq] at h
    obtain ⟨rfl, rfl⟩ := h
    exact ⟨rfl, rfl⟩
  | i :: l, s, s', fps, h => by
    simp only [evTr] at h
    cases h1 : step1 E ops i s with
    | none => simp [h1] at h
    | some s1 =>
      simp only [h1] at h
      cases h2 : evTr E ops l s1 with
      | none => simp [h2] at h
      | some p =>
        obtain ⟨s2, fs⟩ := p
        simp only [h2, Option.some.injEq, Prod.mk.injEq] at h
        obtain ⟨rfl, rfl⟩ := h
        obtain ⟨k1, k2⟩ := evTr_run l h2
        exact ⟨by simp [k1], s1, h1, rfl, k2⟩

def Swp (ops : Array Oper) (x y : Nat × FP) : Prop := ∃ a b, ops[x.1]? = some a ∧ ops[y.1]? = some b ∧ swaps ops a b x.2 y.2 = true

theorem step_of {E : Env} {ops : Array Oper} {i : Nat} {o : Oper} (ho : ops[i]? = some o) {s : AS} {e : Eff} (h : eff1 E ops o s = some e) : step1 E ops i s = some (e.app o.dst s) := by
  rw [step1_eff ho, h]; rfl

theorem run_swap {E : Env} (hZ : ZeroOk E.ty) {ops : Array Oper} {x y : Nat × FP} {r : List (Nat × FP)} {s s' : AS} (h : Swp ops x y) (hr : Run E ops (x :: y :: r) s s') : Run E ops (y :: x :: r) s s' := by
  obtain ⟨i, f⟩ := x
  obtain ⟨j, g⟩ := y
  obtain ⟨a, b, ha, hb, hs⟩ := h
  simp only at ha hb hs
  obtain ⟨s1, h1, f1, s2, h2, f2, hr⟩ := hr
  rw [step1_eff ha, Option.map_eq_some_iff] at h1
  obtain ⟨ea, hea, rfl⟩ := h1
  rw [step1_eff hb, Option.map_eq_some_iff] at h2
  obtain ⟨eb, heb, rfl⟩ := h2
  simp only [fpOf, ha] at f1
  simp only [fpOf, hb] at f2
  subst f1 f2
  simp only [swaps, Bool.and_eq_true, disj_iff, Bool.or_eq_true, Bool.not_eq_true'] at hs
  obtain ⟨⟨⟨⟨⟨k1, k2⟩, k3⟩, k4⟩, k5⟩, k6⟩ := hs
  have hrb : eb.rt = none := (eff1_keys heb).2.2 k5
  cases hra : ea.rt with
  | none =>
    obtain ⟨q1, q2, q3, q4, q5, q6, q7⟩ := swap_plain hea hra heb hrb k1 k2 k3 k4
    refine ⟨_, step_of hb q1, ?_, _, step_of ha q4, ?_, ?_⟩
    · simp only [fpOf, hb, q2, q3]
    · simp only [fpOf, ha, q5, q6]
    · rw [q7]; exact hr
  | some k =>
    have hbe : besideAppend b = true := by
      rcases k6 with h | h
      · rw [(eff1_keys hea).2.2 h] at hra; cases hra
      · exact h
    obtain ⟨eb', q1, q2, q3, q4, q5, q6, q7⟩ := swap_app hZ hea hra hbe heb k1 k2 k3
    refine ⟨_, step_of hb q1, ?_, _, step_of ha q4, ?_, ?_⟩
    · simp only [fpOf, hb, q2, q3]
    · simp only [fpOf, ha, q5, q6]
    · rw [q7]; exact hr

theorem run_move {E : Env} (hZ : ZeroOk E.ty) {ops : Array Oper} {y : Nat × FP} {r : List (Nat × FP)} {s' : AS} : ∀ (l : List (Nat × FP)) {s : AS}, (∀ x ∈ l, Swp ops x y) → Run E ops (l ++ y :: r) s s' → Run E ops (y :: (l ++ r)) s s'
  | [], s, _, h => h
  | x :: l, s, hs, h => by
    obtain ⟨i, f⟩ := x
    obtain ⟨s1, h1, f1, h2⟩ := h
    have := run_move hZ l (fun z hz => hs z (List.mem_cons_of_mem _ hz)) h2
    exact run_swap hZ (hs _ (by simp)) ⟨s1, h1, f1, this⟩

theorem binds_any (e : Edge) : Region.binds .any e = binding e := by
  unfold Region.binds binding
  cases e.ground <;> rfl

/-- what is not listed yet is not ahead of what is ready -/
theorem not_ahead {ops : Array Oper} {listed : Array Bool} {j : Nat} (hj : listed.getD j false = false)
    (hc : ∀ (i : Nat) o, ops[i]? = some o → listed.getD i false = true → ∀ e ∈ o.after, binding e = true → listed.getD e.on false = true) :
    ∀ (n i : Nat), (∀ o, ops[i]? = some o → ∀ e ∈ o.after, binding e = true → listed.getD e.on false = true) → ahead ops j n i = false
  | 0, i, _ => rfl
  | n + 1, i, h => by
    simp only [ahead]
    cases ho : ops[i]? with
    | none => rfl
    | some o =>
      simp only
      rw [Array.any_eq_false']
      intro e he
      cases hb : binding e with
      | false => simp
      | true =>
        have hl := h o ho e he hb
        have h1 : (e.on == j) = false := by
          apply Bool.eq_false_iff.2
          intro hq
          rw [beq_iff_eq] at hq
          rw [hq, hj] at hl; cases hl
        have h2 := not_ahead hj hc n e.on (fun o' ho' => hc e.on o' ho' hl)
        simp [h1, h2]

theorem step_wpOp {P E} (hE : EnvOk P E) {B G s a w} (h : Sim B G s a w) (hB : B.Ok) {ops : Array Oper} {i : Nat} {s' : AS} (hs : step1 E ops i s = some s') (hk : ∀ k, (ops[i]?).bind makes = some k → G.τ k = none)
    {Q : Exit → Act → World → Prop} {K : Act → World → Prop} (hK : ∀ G' a' w', Sim B G' s' a' w' → TauLe G G' ((ops[i]?).bind makes) → K a' w') : wpOp P ops Q i K a w := by
  unfold wpOp
  unfold step1 at hs
  cases ho : ops[i]? with
  | none =>
    simp only [ho] at hs ⊢
    cases hs
    exact hK G a w h (TauLe.refl _ _)
  | some o =>
    simp only [ho] at hs ⊢
    rw [ho] at hk hK
    split at hs
    · rename_i hw
      rw [want_ok h hw]
      simp only [if_true]
      exact .inl ((op_ok hE h hB o hk hs).wp hK)
    · rename_i hw
      rw [want_ok h hw]
      simp only [Bool.false_eq_true, if_false]
      cases hs
      exact hK G _ w (h.put o.dst (.of RepV_tup0)) (TauLe.refl _ _)
    · cases hs

theorem getD_both {l : Array Bool} {i : Nat} (h : i < l.size) (a b : Bool) : l.getD i a = l.getD i b := by
  simp [Array.getD, h]

theorem any_wp {P E} (hE : EnvOk P E) (hZ : ZeroOk E.ty) {B} (hB : B.Ok) {ops : Array Oper} {Q : Exit → Act → World → Prop} {s' : AS} (hQ : ∀ G' a' w', Sim B G' s' a' w' → Q .normal a' w')
    (hed : ∀ (i : Nat) o, ops[i]? = some o → ∀ e ∈ o.after, binding e = true → e.on < i) :
    ∀ (l : List (Nat × FP)) (n : Nat) (listed : Array Bool) {G s a w}, Sim B G s a w → Run E ops l s s' → l.length = n → (l.map (·.1)).Pairwise (· < ·) → listed.size = ops.size →
      (∀ i, i < ops.size → (listed.getD i false = false ↔ i ∈ l.map (·.1))) → (∀ x ∈ l, x.1 < ops.size) →
      (∀ (i : Nat) o, ops[i]? = some o → listed.getD i false = true → ∀ e ∈ o.after, binding e = true → listed.getD e.on false = true) →
      (∀ x ∈ l, ∀ y ∈ l, x.1 < y.1 → ahead ops x.1 ops.size y.1 = true ∨ Swp ops x y) →
      (l.filterMap fun x => (ops[x.1]?).bind makes).Nodup → (∀ x ∈ l, ∀ k, (ops[x.1]?).bind makes = some k → G.τ k = none) →
      wpAny P .any ops Q n listed a w := by
  intro l n
  induction n generalizing l with
  | zero =>
    intro listed G s a w h hr hn hp hsz hl hlt hc hsw hnd hτ
    have hl0 : l = [] := List.eq_nil_of_length_eq_zero hn
    subst hl0
    cases hr
    refine ⟨?_, hQ G a w h⟩
    unfold Region.ready
    rw [List.filter_eq_nil_iff]
    intro i hi
    have hi := List.mem_range.1 hi
    have : listed.getD i true = true := by
      rw [getD_both (hsz ▸ hi) true false]
      cases hq : listed.getD i false with
      | true => rfl
      | false => exact absurd ((hl i hi).1 hq) (by simp)
    simp only [this, Bool.not_true, Bool.false_and, Bool.false_eq_true, not_false_eq_true]
  | succ n ih =>
    intro listed G s a w h hr hn hp hsz hl hlt hc hsw hnd hτ
    refine ⟨fun hnil => ?_, fun i hi => ?_⟩
    · exfalso
      cases l with
      | nil => simp at hn
      | cons x r =>
        have hx := hlt x (by simp)
        have : x.1 ∈ Region.ready .any ops listed := by
          unfold Region.ready
          refine List.mem_filter.2 ⟨List.mem_range.2 hx, ?_⟩
          have h1 : listed.getD x.1 true = false := by rw [getD_both (hsz ▸ hx) true false]; exact (hl x.1 hx).2 (by simp)
          rw [h1, Array.getElem?_eq_getElem hx]
          simp only [Bool.not_false, Bool.true_and, Option.map_some, Option.getD_some, Array.all_eq_true']
          intro e he
          rw [binds_any]
          cases hb : binding e with
          | false => rfl
          | true =>
            have hlt1 := hed x.1 _ (Array.getElem?_eq_getElem hx) e he hb
            simp only [Bool.not_true, Bool.false_or]
            cases hq : listed.getD e.on false with
            | true => rfl
            | false =>
              have hm := (hl e.on (by omega)).1 hq
              simp only [List.map_cons, List.mem_cons] at hm
              rcases hm with hm | hm
              · omega
              · simp only [List.map_cons, List.pairwise_cons] at hp
                have := hp.1 _ hm
                omega
        rw [hnil] at this
        cases this
    · unfold Region.ready at hi
      obtain ⟨hir, hi2⟩ := List.mem_filter.1 hi
      have hin := List.mem_range.1 hir
      simp only [Bool.and_eq_true, Bool.not_eq_true'] at hi2
      obtain ⟨hi3, hi4⟩ := hi2
      rw [getD_both (hsz ▸ hin) true false] at hi3
      have hi5 : ∀ o, ops[i]? = some o → ∀ e ∈ o.after, binding e = true → listed.getD e.on false = true := by
        intro o ho e he hb
        rw [ho] at hi4
        simp only [Option.map_some, Option.getD_some, Array.all_eq_true'] at hi4
        have := hi4 e he
        rw [binds_any, hb] at this
        simpa using this
      obtain ⟨⟨i', g⟩, hmem, rfl⟩ := List.mem_map.1 ((hl i hin).1 hi3)
      obtain ⟨l1, l2, rfl⟩ := List.append_of_mem hmem
      simp only at hi3 hi5 hin hi4 hir
      rw [List.map_append, List.map_cons, List.pairwise_append] at hp
      obtain ⟨hp1, hp2, hp3⟩ := hp
      rw [List.pairwise_cons] at hp2
      have hlt1 : ∀ x ∈ l1, x.1 < i' := fun x hx => hp3 x.1 (List.mem_map_of_mem hx) i' (by simp)
      have hmv := run_move hZ l1 (fun x hx => by
        have hxl := hlt x (by simp [hx])
        rcases hsw x (by simp [hx]) (i', g) (by simp) (hlt1 x hx) with h1 | h1
        · rw [not_ahead ((hl x.1 hxl).2 (List.mem_map_of_mem (by simp [hx]))) hc _ _ hi5] at h1; cases h1
        · exact h1) hr
      obtain ⟨s1, q1, _, q2⟩ := hmv
      refine step_wpOp hE h hB q1 (hτ _ hmem) fun G' a' w' h' hT => ?_
      have hsub : ∀ x, x ∈ l1 ++ l2 → x ∈ l1 ++ (i', g) :: l2 := fun x hx => by
        rcases List.mem_append.1 hx with h | h <;> simp [h]
      have hnot : i' ∉ (l1 ++ l2).map (·.1) := by
        intro hm
        rw [List.map_append, List.mem_append] at hm
        rcases hm with hm | hm
        · obtain ⟨x, hx, e⟩ := List.mem_map.1 hm
          have := hlt1 x hx
          omega
        · have := hp2.1 _ hm
          omega
      refine ih (l1 ++ l2) _ h' q2 (by simp at hn ⊢; omega) ?_ (by simp [hsz]) ?_ (fun x hx => hlt x (hsub x hx)) ?_ (fun x hx y hy => hsw x (hsub x hx) y (hsub y hy)) ?_ ?_
      · rw [List.map_append, List.pairwise_append]
        exact ⟨hp1, hp2.2, fun x hx y hy => hp3 x hx y (List.mem_cons_of_mem _ hy)⟩
      · intro k hk
        by_cases e : k = i'
        · subst e
          have : (listed.setIfInBounds k true).getD k false = true := by simp [Array.getD, hsz, hk]
          rw [this]
          simp only [Bool.true_eq_false, false_iff]
          exact hnot
        · have : (listed.setIfInBounds i' true).getD k false = listed.getD k false := by
            simp [Array.getD, hsz, hk, Array.getElem_setIfInBounds, Ne.symm e]
          rw [this, hl k hk]
          simp [e]
      · intro k o ho hk e he hb
        have mono : ∀ m, listed.getD m false = true → (listed.setIfInBounds i' true).getD m false = true := by
          intro m hm
          simp only [Array.getD_eq_getD_getElem?, Array.getElem?_setIfInBounds] at hm ⊢
          by_cases h1 : i' = m
          · subst h1
            simp [hsz, hin]
          · rw [if_neg h1]; exact hm
        by_cases ek : k = i'
        · subst ek
          exact mono _ (hi5 o ho e he hb)
        · refine mono _ (hc k o ho ?_ e he hb)
          have hks : k < ops.size := (Array.getElem?_eq_some_iff.1 ho).1
          have : (listed.setIfInBounds i' true).getD k false = listed.getD k false := by
            simp [Array.getD, hsz, hks, Array.getElem_setIfInBounds, Ne.symm ek]
          rw [← this]; exact hk
      · rw [List.filterMap_append] at hnd ⊢
        rw [List.filterMap_cons] at hnd
        split at hnd
        · exact hnd
        · rw [List.nodup_append] at hnd ⊢
          exact ⟨hnd.1, (List.nodup_cons.1 hnd.2.1).2, fun x hx y hy => hnd.2.2 x hx y (List.mem_cons_of_mem _ hy)⟩
      · intro x hx k hk
        cases hg : G'.τ k with
        | none => rfl
        | some v =>
          rcases hT k v hg with h1 | h1
          · exfalso
            rw [List.filterMap_append, List.filterMap_cons] at hnd
            have h1' : (ops[((i', g) : Nat × FP).1]?).bind makes = some k := h1
            rw [h1'] at hnd
            rw [List.nodup_append] at hnd
            rcases List.mem_append.1 hx with hx | hx
            · exact hnd.2.2 k (List.mem_filterMap.2 ⟨x, hx, hk⟩) k (by simp) rfl
            · exact (List.nodup_cons.1 hnd.2.1).1 (List.mem_filterMap.2 ⟨x, hx, hk⟩)
          · exact absurd (hτ x (hsub x hx) k hk) h1

end Go.Ev
