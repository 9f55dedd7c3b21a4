/- The evaluator: operations one behind the other. -/
import Derived.Test.YtdcijmigoefnjaaEvQ
set_option linter.unusedVariables false
set_option linter.unusedSimpArgs false
namespace Go.Ev
open Go

theorem want_ok {B G s a w} (h : Sim B G s a w) {ops : Array Oper} {o : Oper} {b : Bool} (hw : wantA ops s.tmps o = some b) : Region.wanted o (yielded ops a.tmps) = b := by
  unfold wantA at hw
  unfold Region.wanted
  cases hg : o.guard with
  | none => simp [hg] at hw ⊢; exact hw
  | some jw =>
    obtain ⟨j, want⟩ := jw
    simp only [hg] at hw ⊢
    unfold yielded
    cases hj : (ops[j]?).bind (·.dst) with
    | none => simp [hj] at hw ⊢; exact hw
    | some t =>
      simp only [hj] at hw
      have ht := h.tmps t
      simp only [List.getD_eq_getElem?_getD, Array.getD_eq_getD_getElem?] at ht
      split at hw
      · rename_i x hx
        rw [hx] at ht
        have e := ht.bool_inv
        have hlt : t < a.tmps.size := by rw [← h.len]; exact (List.getElem?_eq_some_iff.1 hx).1
        have e2 : a.tmps[t]? = some (.bool x) := by
          rw [Array.getElem?_eq_getElem hlt] at e ⊢
          simpa using e
        simp [e2] at hw ⊢
        exact hw
      · rename_i vs hx
        rw [hx] at ht
        obtain ⟨us, e, _⟩ := ht.tup_inv
        have hlt : t < a.tmps.size := by rw [← h.len]; exact (List.getElem?_eq_some_iff.1 hx).1
        have e2 : a.tmps[t]? = some (.tuple us.toArray) := by
          rw [Array.getElem?_eq_getElem hlt] at e ⊢
          simpa using e
        simp [e2] at hw ⊢
        exact hw
      · rename_i hx
        have hge : a.tmps.size ≤ t := by rw [← h.len]; exact List.getElem?_eq_none_iff.1 hx
        have e2 : a.tmps[t]? = none := Array.getElem?_eq_none hge
        simp [e2] at hw ⊢
        exact hw
      · cases hw

theorem step_wp {P E} (hE : EnvOk P E) {B G s a w} (h : Sim B G s a w) (hB : B.Ok) {ops : Array Oper} {i : Nat} {s' : AS} (hs : step1 E ops i s = some s') (hk : ∀ k, (ops[i]?).bind makes = some k → G.τ k = none)
    {Q : Exit → Act → World → Prop} {rest : List Nat} (hK : ∀ G' a' w', Sim B G' s' a' w' → TauLe G G' ((ops[i]?).bind makes) → wpOps P ops Q rest a' w') : wpOps P ops Q (i :: rest) a w := by
  unfold wpOps
  unfold step1 at hs
  cases ho : ops[i]? with
  | none =>
    simp only [ho] at hs ⊢
    cases hs
    exact hK G a w h (TauLe.refl _ _)
  | some o =>
    simp only [ho] at hs ⊢
    rw [ho] at hk hK
    split at hs
    · rename_i hw
      rw [want_ok h hw]
      simp only [if_true]
      exact .inl ((op_ok hE h hB o hk hs).wp hK)
    · rename_i hw
      rw [want_ok h hw]
      simp only [Bool.false_eq_true, if_false]
      cases hs
      exact hK G _ w (h.put o.dst (.of RepV_tup0)) (TauLe.refl _ _)
    · cases hs

theorem evSeq_wp {P E} (hE : EnvOk P E) {B} (hB : B.Ok) {ops : Array Oper} {Q : Exit → Act → World → Prop} {s' : AS} (hQ : ∀ G' a' w', Sim B G' s' a' w' → Q .normal a' w') :
    ∀ (l : List Nat) {G s a w}, Sim B G s a w → evSeq E ops l s = some s' → wpOps P ops Q l a w
  | [], G, s, a, w, h, he => by
    simp only [evSeq, Option.some.injEq] at he
    subst he
    exact hQ G a w h
  | i :: rest, G, s, a, w, h, he => by
    simp only [evSeq] at he
    cases hm : (ops[i]?).bind makes with
    | none =>
      simp only [hm, cond_true] at he
      cases hs : step1 E ops i s with
      | none => simp [hs] at he
      | some s1 =>
      simp only [hs] at he
      exact step_wp hE h hB hs (fun k hk => by rw [hm] at hk; cases hk) fun G' a' w' h' _ => evSeq_wp hE hB hQ rest h' he
    | some k =>
      simp only [hm] at he
      cases hn : s.noTag k <;> rw [hn] at he <;> simp only [cond_true, cond_false] at he
      · cases he
      cases hs : step1 E ops i s with
      | none => simp [hs] at he
      | some s1 =>
      simp only [hs] at he
      refine step_wp hE (h.drop hn) hB hs (fun k' hk => ?_) fun G' a' w' h' _ => evSeq_wp hE hB hQ rest h' he
      rw [hm] at hk; cases hk
      simp [Gh.drop]

/-- in whatever order: the tails that are made are not known yet -/
theorem evOps_wp {P E} (hE : EnvOk P E) {B} (hB : B.Ok) {ops : Array Oper} {Q : Exit → Act → World → Prop} {s' : AS} (hQ : ∀ G' a' w', Sim B G' s' a' w' → Q .normal a' w') :
    ∀ (l : List Nat) {G s a w}, Sim B G s a w → evOps E ops l s = some s' → (l.filterMap fun i => (ops[i]?).bind makes).Nodup → (∀ i ∈ l, ∀ k, (ops[i]?).bind makes = some k → G.τ k = none) → wpOps P ops Q l a w
  | [], G, s, a, w, h, he, _, _ => by
    simp only [evOps, Option.some.injEq] at he
    subst he
    exact hQ G a w h
  | i :: rest, G, s, a, w, h, he, hn, ht => by
    simp only [evOps] at he
    cases hs : step1 E ops i s with
    | none => simp [hs] at he
    | some s1 =>
    simp only [hs] at he
    refine step_wp hE h hB hs (ht i (by simp)) fun G' a' w' h' hT => evOps_wp hE hB hQ rest h' he ?_ ?_
    · rw [List.filterMap_cons] at hn
      split at hn
      · exact hn
      · exact (List.nodup_cons.1 hn).2
    · intro j hj k hk
      cases hτ : G'.τ k with
      | none => rfl
      | some x =>
        rcases hT k x hτ with h1 | h1
        · rw [List.filterMap_cons, h1] at hn
          exact absurd (List.mem_filterMap.2 ⟨j, hj, hk⟩) (List.nodup_cons.1 hn).1
        · exact absurd (ht j (by simp [hj]) k hk) h1

end Go.Ev
