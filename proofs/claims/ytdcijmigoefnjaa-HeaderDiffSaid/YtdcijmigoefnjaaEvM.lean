/- The evaluator: append, on a frame. -/
import Derived.Test.YtdcijmigoefnjaaEvL
set_option linter.unusedVariables false
set_option linter.unusedSimpArgs false
namespace Go.Ev
open Go

theorem look_mem {m : Mem} {i : Nat} {cs : List AV} (h : look m i = some cs) : (i, cs) ∈ m := by
  induction m with
  | nil => simp [look] at h
  | cons p r ih =>
    obtain ⟨j, c⟩ := p
    simp only [look] at h
    split at h
    · rename_i e; subst e; cases h; simp
    · exact List.mem_cons_of_mem _ (ih h)

theorem noTag_mem {s : AS} {k : Tag} (h : s.noTag k = true) : noTags s.mem k := by
  intro i cs hi c hc
  simp only [AS.noTag, Bool.and_eq_true, List.all_eq_true] at h
  have := h.2 _ (look_mem hi) c hc
  simpa using this

theorem noTag_tmp {s : AS} {k : Tag} (h : s.noTag k = true) (i : Nat) : hasTag k (s.tmps.getD i .unk) = false := by
  simp only [AS.noTag, Bool.and_eq_true, List.all_eq_true] at h
  rw [List.getD_eq_getElem?_getD]
  cases hx : s.tmps[i]? with
  | none => rfl
  | some c => have := h.1 c (List.mem_of_getElem? hx); simpa using this

theorem Sim.drop {B G s a w} (h : Sim B G s a w) {k : Tag} (hk : s.noTag k = true) : Sim B (G.drop k) s a w :=
  ⟨h.inv.drop (noTag_mem hk), h.len, fun i => (h.tmps i).mono2 (Ext.refl _ _) (fun _ _ h => h) (fun k' x hk' hx => by
    simp only [Gh.drop]
    rw [if_neg]
    · exact hx
    · rintro rfl
      rw [noTag_tmp hk i] at hk'
      exact Bool.noConfusion hk'), h.defers⟩

theorem Sim.own {B G s a w} (h : Sim B G s a w) {k : Tag} (hk : G.τ k = none) {g e l : Nat} (hg : B.w0.heap.size ≤ g) (hβ : ∀ i, G.β i ≠ some g) {vs : List Value} {t : TypeId} (hb : Blk w g vs t)
    (hl : l ≤ vs.length) (hS : ∀ o, e ≤ o → ¬ G.S g o) (hτ : ∀ k' e' l', G.τ k' = some (g, e', l') → k' = k) : Sim B (G.own k (g, e, l)) s a w :=
  ⟨h.inv.own hk hg hβ hb hl hS hτ, h.len, fun i => (h.tmps i).mono (Ext.refl _ _) (fun _ _ h => h) (fun k' x hx => by
    simp only [Gh.own]
    rw [if_neg]
    · exact hx
    · rintro rfl
      rw [hk] at hx; cases hx), h.defers⟩

theorem range_add_map {α : Type} (f : Nat → α) (a b : Nat) : (List.range (a + b)).map f = (List.range a).map f ++ (List.range b).map fun i => f (a + i) := by
  rw [List.range_add, List.map_append, List.map_map]; rfl

theorem zeroCells_ok {S w} {ei : TI} {z : Value} (hz : z.cells.toList.map ofVal = ei.zero) (ho : ∀ v ∈ z.cells.toList, oc v = true) (hl : ei.zero.length = ei.size) (hs : (ei.td.agg || ei.size == 1) = true) :
    ∀ n : Nat, RepR S w ei.size (List.replicate n ei.elemZero) (Builtin.zeroCells z.cells n).toList := by
  have hzs : z.cells.size = ei.size := by rw [← hl, ← hz]; simp
  have hzl : (Builtin.zeroCells z.cells 1).toList = z.cells.toList := by
    simp only [Builtin.zeroCells, Nat.one_mul, Array.toList_map, Array.toList_range]
    apply List.ext_getElem
    · simp
    · intro i h1 h2
      simp at h1 h2
      simp [Nat.mod_eq_of_lt h1, getElem!_pos, h1]
  have hrep : RepL S w (fun _ => none) ei.zero z.cells.toList := by rw [← hz]; exact map_ofVal _
  have helem : RepC S w ei.elemZero z.cells.toList := by
    unfold TI.elemZero
    cases ha : ei.td.agg
    · simp [ha] at hs
      simp only [Bool.false_eq_true, if_false]
      have : ∃ v, z.cells.toList = [v] := by
        have : z.cells.toList.length = 1 := by simp [hzs, hs]
        match hq : z.cells.toList with
        | [v] => exact ⟨v, rfl⟩
        | [] => rw [hq] at this; simp at this
        | _ :: _ :: _ => rw [hq] at this; simp at this
      obtain ⟨v, hv⟩ := this
      rw [hv] at hrep ho ⊢
      generalize ei.zero = zs at hrep
      cases hrep with
      | cons h1 h2 => exact .one h1 (oc_notAgg h1 (ho v (by simp))) (ho v (by simp))
    · simp only [if_true]
      exact .agg hrep ho
  intro n
  induction n with
  | zero => simp [Builtin.zeroCells]; exact .nil
  | succ n ih =>
    have e : (Builtin.zeroCells z.cells (n + 1)).toList = z.cells.toList ++ (Builtin.zeroCells z.cells n).toList := by
      rw [← hzl]
      simp only [Builtin.zeroCells, Array.toList_map, Array.toList_range, Nat.one_mul]
      rw [Nat.succ_mul, Nat.add_comm, range_add_map]
      congr 1
      apply List.map_congr_left
      intro i _
      simp
    rw [e, List.replicate_succ]
    exact .cons helem (by simp [hzs]) ih

theorem srcA_ok {P ty} (hT : TyOk P ty) {B G s a w} (h : Sim B G s a w) {e t2 : TypeId} {ei : TI} (he : ty e = some ei) {z : Value} (hz1 : z.cells.toList.map ofVal = ei.zero) (hz2 : ∀ v ∈ z.cells.toList, oc v = true)
    {y : AV} {yv : Value} (hy : RepT G w y yv) {ys : List AV} (hs : srcA ty t2 ei s.mem y = some ys) : ∃ news, RepR G.S w ei.size ys news ∧ Src P t2 ei z w yv ys.length news := by
  unfold srcA at hs
  have slice2 : isSlice ty t2 = true → ∃ e2, P.underlying t2 = some (.slice e2) := by
    intro hi
    unfold isSlice at hi
    cases ht : ty t2 with
    | none => simp [ht] at hi
    | some ti =>
      simp only [ht] at hi
      split at hi
      · rename_i e2 hd; exact ⟨e2, und_slice hT ht hd⟩
      · cases hi
  split at hs
  · rename_i sz ys' st
    cases hb : (isSlice ty t2 && (sz == ei.size || (st == .nil && ys'.isEmpty))) <;> rw [hb] at hs <;> simp only [cond_true, cond_false] at hs
    · cases hs
    cases hs
    simp only [Bool.and_eq_true, Bool.or_eq_true, beq_iff_eq, List.isEmpty_iff] at hb
    obtain ⟨hb1, hb2⟩ := hb
    obtain ⟨e2, hu2⟩ := slice2 hb1
    obtain ⟨ad, cap, rfl, hle, hn, hf, hr⟩ := hy.sl_inv
    by_cases hst : st = .nil
    · obtain ⟨rfl, rfl, rfl⟩ := hn hst
      exact ⟨[], .nil, .inl ⟨e2, none, 0, hu2, rfl, fun w' _ => by simp [Builtin.firstCells]⟩⟩
    · rcases hr hst with ⟨ad', vs, rfl, hrr, hd⟩ | ⟨rfl, rfl, rfl, _⟩
      rotate_left
      · exact ⟨[], .nil, .inl ⟨e2, none, 0, hu2, rfl, fun w' _ => by simp [Builtin.firstCells]⟩⟩
      have hsz : sz = ei.size := by rcases hb2 with h | h; exact h; exact absurd h.1 hst
      subst hsz
      refine ⟨vs, hrr, .inl ⟨e2, some ad', cap, hu2, rfl, fun w' hw' => ?_⟩⟩
      have := run_loadCells P (w := w') (a := ad') (vs := vs) (fun j v hv => by rw [hw']; exact hd.cells j v hv)
      rw [hrr.length] at this
      simpa [Builtin.firstCells] using this
  · rename_i id off n
    cases hl : look s.mem id with
    | none => simp [hl] at hs
    | some cs =>
    simp only [hl] at hs
    cases hb : (isSlice ty t2 && ((cs.drop off).take (n * ei.size)).length == n * ei.size && (ei.td.agg || ei.size == 1)) <;> rw [hb] at hs <;> simp only [cond_true, cond_false] at hs
    · cases hs
    cases hs
    simp only [Bool.and_eq_true, beq_iff_eq] at hb
    obtain ⟨⟨hb1, hb2⟩, hb3⟩ := hb
    obtain ⟨e2, hu2⟩ := slice2 hb1
    obtain ⟨b, cap, hβ, rfl, hle⟩ := hy.view_inv
    obtain ⟨b', vs, t', h1, h2, h3, h4, h5⟩ := h.inv.mem id cs hl
    rw [hβ] at h1; cases h1
    have hrep : RepL G.S w (fun _ => none) (((cs.drop off).take (n * ei.size)).map AV.flat) ((vs.drop off).take (n * ei.size)) := by
      rw [List.map_take, List.map_drop]
      refine RepL.take (RepL.drop (RepL.of_get (by simp [h3]) fun i c v hc hv => ?_) _) _
      simp only [List.getElem?_map, Option.map_eq_some_iff] at hc
      obtain ⟨c0, hc, rfl⟩ := hc
      exact (h4 i c0 v hc hv).flat
    obtain ⟨hrows, hrl⟩ := rows_ok ei.td.agg hb3 n hrep (fun v hv => h5 v (List.mem_of_mem_drop (List.mem_of_mem_take hv))) (by simpa using hb2)
    refine ⟨_, hrows, .inl ⟨e2, _, cap, hu2, by rw [hrl], fun w' hw' => ?_⟩⟩
    have hvl : ((vs.drop off).take (n * ei.size)).length = n * ei.size := by rw [← hrep.length]; simpa using hb2
    have := run_loadCells P (w := w') (a := ⟨b, off, none⟩) (vs := (vs.drop off).take (n * ei.size)) (fun j v hv => by
      rw [hw', add_mk, h2.cell]
      rw [List.getElem?_take] at hv
      split at hv
      · rwa [List.getElem?_drop] at hv
      · cases hv)
    rw [hvl] at this
    rw [hrl]
    simpa [Builtin.firstCells] using this
  · rename_i n
    cases hb : (isInt ty t2 && ile 0 n && ile n 140737488355328 && ile ((ei.bytes : Int) * n) 140737488355328 && ei.zero.length == ei.size && (ei.td.agg || ei.size == 1)) <;> rw [hb] at hs <;> simp only [cond_true, cond_false] at hs
    · cases hs
    cases hs
    simp only [Bool.and_eq_true, beq_iff_eq, ile, decide_eq_true_eq] at hb
    obtain ⟨⟨⟨⟨⟨hb1, hb2⟩, hb3⟩, hb4⟩, hb5⟩, hb6⟩ := hb
    have := hy.int_inv; subst yv
    have hu2 : ∃ k, P.underlying t2 = some (.int k) := by
      unfold isInt at hb1
      cases ht : ty t2 with
      | none => simp [ht] at hb1
      | some ti =>
        simp only [ht] at hb1
        split at hb1
        · rename_i k hd; exact ⟨k, und_int hT ht hd⟩
        · cases hb1
    obtain ⟨k, hu2⟩ := hu2
    exact ⟨_, zeroCells_ok hz1 hz2 hb5 hb6 n.toNat, .inr ⟨k, n, hu2, rfl, hb2, hb3, hb4, by simp, by simp⟩⟩
  · cases hs

end Go.Ev
