/- The evaluator: lists that are made, and appended to. -/
import Derived.Test.YtdcijmigoefnjaaEvJ
set_option linter.unusedVariables false
set_option linter.unusedSimpArgs false
namespace Go.Ev
open Go

theorem oc_notAgg {S w β c v} (h : RepV S w β c v) (ho : oc v = true) : c.isAgg = false := by
  cases h <;> first | rfl | (simp [oc] at ho)

theorem rows_ok {S w} (agg : Bool) {size : Nat} (hs : (agg || size == 1) = true) : ∀ (n : Nat) {cs : List AV} {vs : List Value}, RepL S w (fun _ => none) cs vs → (∀ v ∈ vs, oc v = true) → cs.length = n * size →
    RepR S w size (rows agg size cs n) vs ∧ (rows agg size cs n).length = n
  | 0, cs, vs, h, ho, hl => by
    simp at hl
    subst hl
    cases h
    exact ⟨.nil, rfl⟩
  | n + 1, cs, vs, h, ho, hl => by
    have hl' : cs.length = size + n * size := by rw [hl, Nat.succ_mul, Nat.add_comm]
    obtain ⟨ih, il⟩ := rows_ok agg hs n (h.drop size) (fun v hv => ho v (List.mem_of_mem_drop hv)) (by simp; omega)
    refine ⟨?_, by simp [rows, il]⟩
    have e : vs = vs.take size ++ vs.drop size := (List.take_append_drop size vs).symm
    rw [e]
    have hvl : (vs.take size).length = size := by rw [List.length_take, ← h.length, hl']; omega
    simp only [rows]
    refine .cons ?_ hvl ih
    cases agg
    · simp at hs
      subst hs
      cases cs with
      | nil => simp at hl'; omega
      | cons c cs =>
        cases h with
        | cons hv l =>
          simp only [Bool.false_eq_true, if_false, List.headD_cons, List.take_succ_cons, List.take_zero]
          exact .one hv (oc_notAgg hv (ho _ (by simp))) (ho _ (by simp))
    · simp only [if_true]
      exact .agg (h.take size) fun v hv => ho v (List.mem_of_mem_take hv)

theorem zeros_ok {S w} {z : Array Value} {zs : List AV} (hz : z.toList.map ofVal = zs) (ho : ∀ v ∈ z.toList, oc v = true) (n : Nat) (hn : 0 < n → 0 < z.size) :
    RepL S w (fun _ => none) ((List.range n).map fun i => zs.getD (i % zs.length) .unk) (((Array.range n).map (z[· % z.size]!)).toList) ∧ ∀ v ∈ ((Array.range n).map (z[· % z.size]!)).toList, oc v = true := by
  have hl : zs.length = z.size := by rw [← hz]; simp
  refine ⟨RepL.of_get (by simp) fun i c v h1 h2 => ?_, fun v hv => ?_⟩
  · simp only [List.getElem?_map, Option.map_eq_some_iff, Array.toList_map, Array.toList_range] at h1 h2
    obtain ⟨j, h1, rfl⟩ := h1
    obtain ⟨j', h2, rfl⟩ := h2
    rw [h1] at h2; cases h2
    have hj : j < n := by have := List.mem_of_getElem? h1; simpa using this
    have hlt : j % z.size < z.size := Nat.mod_lt _ (hn (by omega))
    rw [hl]
    have e1 : z[j % z.size]! = z.toList[j % z.size]'(by simpa using hlt) := by simp [getElem!_pos, hlt]
    have e2 : zs.getD (j % z.size) .unk = ofVal (z.toList[j % z.size]'(by simpa using hlt)) := by
      subst hz; simp [List.getD_eq_getElem?_getD, hlt]
    rw [e1, e2]
    exact ofVal_rep _
  · simp only [Array.toList_map, Array.toList_range, List.mem_map, List.mem_range] at hv
    obtain ⟨j, hj, rfl⟩ := hv
    have hlt : j % z.size < z.size := Nat.mod_lt _ (hn (by omega))
    rw [getElem!_pos z _ hlt]
    exact ho _ (by simp)

theorem make_ok {P ty} (hT : TyOk P ty) {B G s a w} (h : Sim B G s a w) (o : Oper) {r : AV} (hr : evMake ty (opv s.tmps) o.op = some r) :
    ∃ v w' G', (execOp a.eval o).run P w = .ok (.value v) w' ∧ Sim B G' s a w' ∧ RepT G' w' r v ∧ G'.τ = G.τ := by
  obtain ⟨dst, op, oty, pos, after, guard⟩ := o
  simp only at hr
  cases op <;> try (simp [evMake] at hr; done)
  rename_i t len parts
  simp only [evMake] at hr
  cases he : elemOf ty t with
  | none => simp [he] at hr
  | some ei =>
  simp only [he] at hr
  cases hb : (isSlice ty t && Nat.ble (len * ei.size) 16777216 && ei.zero.length == ei.size && (ei.td.agg || ei.size == 1)) <;> rw [hb] at hr <;> simp only [cond_true, cond_false] at hr
  · cases hr
  simp only [Bool.and_eq_true, Nat.ble_eq, beq_iff_eq] at hb
  obtain ⟨⟨⟨hb1, hb2⟩, hb3⟩, hb4⟩ := hb
  rw [Option.map_eq_some_iff] at hr
  obtain ⟨cs, hf, rfl⟩ := hr
  obtain ⟨et, hu, hte⟩ := (elemOf_ok hT he).1 hb1
  obtain ⟨z, hz, hz1, hz2⟩ := run_zero hT hte w
  have hzs : z.cells.size = ei.size := by rw [← hb3, ← hz1]; simp
  have hp := parts_ok (fun x => h.opv x) parts
  -- the cells ahead of the parts
  have key : ∃ zc : Array Value, (len * ei.size = 0 ∧ zc = #[] ∨ ¬ len * ei.size = 0 ∧ zc = z.cells) ∧
      RepL G.S w (fun _ => none) (zeros ei len) ((Array.range (len * ei.size)).map (zc[· % zc.size]!)).toList ∧ (∀ v ∈ ((Array.range (len * ei.size)).map (zc[· % zc.size]!)).toList, oc v = true) := by
    unfold zeros
    rw [hb3]
    by_cases h0 : len * ei.size = 0
    · refine ⟨#[], .inl ⟨h0, rfl⟩, ?_, ?_⟩
      · rw [h0]; simp; exact .nil
      · rw [h0]; simp
    · have := zeros_ok (S := G.S) (w := w) hz1 hz2 (len * ei.size) (fun _ => by
        rw [hzs]
        rcases Nat.eq_zero_or_pos ei.size with e | e
        · rw [e] at h0; simp at h0
        · exact e)
      rw [hb3] at this
      exact ⟨z.cells, .inr ⟨h0, rfl⟩, this.1, this.2⟩
  obtain ⟨zc, hzc, hr1, hr2⟩ := key
  obtain ⟨us, hu1, hu2, hu3⟩ := fill_ok _ _ _ hp.1 hp.2 hr1 hr2 hf
  have hlen : cs.length = len * ei.size := by
    have : ∀ (ps : List (Nat × AV)) (c0 c1 : List AV), fillA (fun i => some (i * ei.size, ei.size)) c0 ps = some c1 → c1.length = c0.length := by
      intro ps
      induction ps with
      | nil => intro c0 c1 h; simp [fillA] at h; rw [h]
      | cons p ps ih =>
        intro c0 c1 h
        obtain ⟨i, v⟩ := p
        simp only [fillA] at h
        split at h
        · rw [ih _ _ h, setAt_length]
        · cases h
    rw [this _ _ _ hf]; simp [zeros, hb3]
  have hul : us.length = len * ei.size := by rw [← hu2.length, hlen]
  obtain ⟨hinv, hext⟩ := h.inv.lay us et us.length (Nat.le_refl _)
  obtain ⟨hrows, hrl⟩ := rows_ok ei.td.agg hb4 len hu2 hu3 hlen
  refine ⟨.slice (some ⟨w.heap.size, 0, none⟩) len len, w.alloc (.cells us.toArray et), G.lay w.heap.size us.length, ?_, h.mono hinv hext (fun _ _ h => h) (fun _ _ h => h), ?_, rfl⟩
  · simp only [Array.toArray_toList] at hu1
    have hrun : (Instr.buildSlice t len (parts.map fun p => (p.1, a.eval p.2))).run P w = .ok (.slice (some ⟨w.heap.size, 0, none⟩) len len) (w.alloc (.cells us.toArray et)) := by
      simp only [Instr.buildSlice, Sem.run_bind, run_underlying hu, Result.andThen_ok, run_size hT hte]
      rw [if_neg (by omega)]
      rcases hzc with ⟨h0, rfl⟩ | ⟨h0, rfl⟩
      · rw [if_pos h0]
        simp only [Sem.run_bind, Sem.run_pure, Result.andThen_ok]
        rw [hu1]
        simp [run_newRow]
      · rw [if_neg h0]
        simp only [Sem.run_bind, Sem.run_pure, Result.andThen_ok, hz]
        rw [hu1]
        simp [run_newRow]
    simp [execOp, hrun]
  · have hrd : Rd (G.lay w.heap.size us.length).S (w.alloc (.cells us.toArray et)) ⟨w.heap.size, 0, none⟩ us := by
      refine ⟨rfl, fun j v hv => ⟨.inr ⟨rfl, ?_⟩, ?_⟩⟩
      · have := (List.getElem?_eq_some_iff.1 hv).1; simpa using this
      · simp only [Nat.zero_add]
        rw [(pushed_new w us et).cell]; exact hv
    have := RepV.slFull (β := (G.lay w.heap.size us.length).β) (hrows.ext hext) hrd
    rw [hrl] at this
    exact .of this

end Go.Ev
