/- The evaluator: append, on a frame (2). -/
import Derived.Test.YtdcijmigoefnjaaEvM
set_option linter.unusedVariables false
set_option linter.unusedSimpArgs false
namespace Go.Ev
open Go

/-- a list in a new block, whose tail is the frame's own -/
theorem grow_sim {B G s a w} (h : Sim B G s a w) {d size n m ncap : Nat} (hd : G.τ [d] = none) {xs ys : List AV} {olds news rest : List Value} (e : TypeId) (hx : RepR G.S w size xs olds) (hy : RepR G.S w size ys news)
    (hn : xs.length = n) (hm : ys.length = m) (hc : n + m ≤ ncap) (hr : rest.length = (ncap - (n + m)) * size) :
    ∃ G', Sim B G' (s.put (some d) (.sl size (xs ++ ys) (.own [d]))) (a.put (some d) (.slice (some ⟨w.heap.size, 0, none⟩) (n + m) ncap)) (w.drew.alloc (.cells (olds ++ news ++ rest).toArray e)) ∧ TauLe G G' (some [d]) := by
  have h1 := h.drew
  have hlen : (olds ++ news).length = (n + m) * size := by rw [List.length_append, hx.length, hy.length, hn, hm, Nat.add_mul]
  have htot : (olds ++ news ++ rest).length = ncap * size := by
    rw [List.length_append, hlen, hr, ← Nat.add_mul]; congr 1; omega
  have hsz : w.drew.heap.size = w.heap.size := rfl
  obtain ⟨hi, he⟩ := h1.inv.lay (olds ++ news ++ rest) e ((n + m) * size) (by rw [htot]; exact Nat.mul_le_mul_right _ hc)
  rw [hsz] at hi he
  have h2 := h1.mono hi he (fun _ _ h => h) (fun _ _ h => h)
  have hnew : Blk (w.drew.alloc (.cells (olds ++ news ++ rest).toArray e)) w.heap.size (olds ++ news ++ rest) e := pushed_new w.drew _ e
  have hτ : ∀ k' e' l', G.τ k' = some (w.heap.size, e', l') → k' = [d] := by
    intro k' e' l' hk
    obtain ⟨_, _, ⟨vs, t, hb, _⟩, _⟩ := h.inv.τ k' _ _ _ hk
    have := hb.lt; omega
  have hβ : ∀ i, G.β i ≠ some w.heap.size := fun i hi => by have := βlt h.inv i _ hi; omega
  have hS : ∀ o, (n + m) * size ≤ o → ¬ (G.lay w.heap.size ((n + m) * size)).S w.heap.size o := by
    rintro o ho (hs | ⟨_, hlt⟩)
    · have := h.inv.Slt _ _ hs; omega
    · omega
  have h3 := h2.own (k := [d]) (g := w.heap.size) (e := (n + m) * size) (l := ncap * size) hd h.inv.size hβ hnew (by rw [htot]; exact Nat.le_refl _) hS hτ
  refine ⟨_, h3.put (some d) ?_, fun k x hx => ?_⟩
  rotate_left
  · simp only [Gh.own] at hx
    split at hx
    · rename_i e; exact .inl (by rw [e])
    · exact .inr (by simp only [Gh.lay] at hx; rw [hx]; simp)
  have hE : Ext G.S w (G.lay w.heap.size ((n + m) * size)).S (w.drew.alloc (.cells (olds ++ news ++ rest).toArray e)) := h.inv.drew.2.trans he
  have hrr : RepR (G.lay w.heap.size ((n + m) * size)).S (w.drew.alloc (.cells (olds ++ news ++ rest).toArray e)) size (xs ++ ys) (olds ++ news) := (hx.append hy).ext hE
  have hrd : Rd (G.lay w.heap.size ((n + m) * size)).S (w.drew.alloc (.cells (olds ++ news ++ rest).toArray e)) ⟨w.heap.size, 0, none⟩ (olds ++ news) := by
    refine ⟨rfl, fun j v hv => ⟨.inr ⟨rfl, ?_⟩, ?_⟩⟩
    · have := (List.getElem?_eq_some_iff.1 hv).1
      simp only [Nat.zero_add]; omega
    · simp only [Nat.zero_add]
      rw [hnew.cell, List.getElem?_append_left (List.getElem?_eq_some_iff.1 hv).1]
      exact hv
  have hl2 : (xs ++ ys).length = n + m := by simp [hn, hm]
  unfold RepT
  simp only
  refine ⟨w.heap.size, ncap, olds ++ news, by rw [hl2], hrr, hrd, ?_, by rw [hl2]; exact hc⟩
  simp [Gh.own, hl2]

theorem setAtV_get (ns : List Value) : ∀ (c : List Value) (o j : Nat), (setAtV c o ns)[j]? = if o ≤ j ∧ j < o + ns.length ∧ j < c.length then ns[j - o]? else c[j]? := by
  induction ns with
  | nil => intro c o j; rw [if_neg (by rintro ⟨h1, h2, _⟩; simp at h2; omega)]; rfl
  | cons n ns ih =>
    intro c o j
    simp only [setAtV, ih, List.length_set, List.length_cons]
    by_cases hj : j = o
    · subst hj
      rw [if_neg (by omega)]
      by_cases hl : j < c.length
      · rw [if_pos ⟨by omega, by omega, hl⟩]
        simp [hl]
      · rw [if_neg (by omega)]
        simp [List.getElem?_set, hl]
    · by_cases h1 : o + 1 ≤ j ∧ j < o + 1 + ns.length ∧ j < c.length
      · rw [if_pos h1, if_pos ⟨by omega, by omega, h1.2.2⟩]
        have : j - o = (j - (o + 1)) + 1 := by omega
        rw [this, List.getElem?_cons_succ]
      · rw [if_neg h1, if_neg (by omega)]
        rw [List.getElem?_set_ne (Ne.symm hj)]

/-- a list's own tail is grown in its place -/
theorem room_sim {P : Program} {B G s a w} (h : Sim B G s a w) {d size n m cap g : Nat} {k : Tag} (hd : G.τ [d] = none) {xs ys : List AV} {olds news : List Value} (hx : RepR G.S w size xs olds) (hy : RepR G.S w size ys news)
    (hn : xs.length = n) (hm : ys.length = m) (hc : n + m ≤ cap) (hrd : Rd G.S w ⟨g, 0, none⟩ olds) (hτk : G.τ k = some (g, n * size, cap * size)) :
    ∃ w' G', (storeCells ((Addr.mk g 0 none).add (n * size)) news).run P w = .ok () w' ∧ Sim B G' ((s.retag k).put (some d) (.sl size (xs ++ ys) (.own [d]))) (a.put (some d) (.slice (some ⟨g, 0, none⟩) (n + m) cap)) w' ∧ TauLe G G' (some [d]) := by
  obtain ⟨hg, hβ, ⟨vs, t, hb, hl⟩, hS⟩ := h.inv.τ k _ _ _ hτk
  have hnl : news.length = m * size := by rw [hy.length, hm]
  have hol : olds.length = n * size := by rw [hx.length, hn]
  have hmul : (n + m) * size ≤ cap * size := Nat.mul_le_mul_right _ hc
  have hadd : (n + m) * size = n * size + m * size := Nat.add_mul _ _ _
  obtain ⟨w', hrun, hb', ho⟩ := run_storeCells P (b := g) (o := n * size) news 0 hb (by omega) hy.oc
  have hrun' : (storeCells ((Addr.mk g 0 none).add (n * size)) news).run P w = .ok () w' := by rw [add_mk, Nat.zero_add]; exact hrun
  simp only [Nat.add_zero] at hb'
  have h1 := h.retag k
  have hτ1 : ∀ k' e l, (G.drop k).τ k' ≠ some (g, e, l) := by
    intro k' e l hk'
    simp only [Gh.drop] at hk'
    split at hk'
    · cases hk'
    · rename_i hne
      exact hne (h.inv.τinj k' k g e l _ _ hk' hτk)
  have hkeep : ∀ o, (G.drop k).S g o → (setAtV vs (n * size) news)[o]? = vs[o]? := by
    intro o hs
    rw [setAtV_get, if_neg]
    rintro ⟨h1, _, _⟩
    exact hS o h1 hs
  obtain ⟨hi, he⟩ := h1.inv.grow (w' := w') hg (fun i => hβ i) hτ1 hb hb' (setAtV_length _ _ _).symm ho hkeep (n := (n + m) * size) (by rw [setAtV_length]; omega)
  have h2 := h1.mono hi he (fun _ _ h => h) (fun _ _ h => h)
  have hS2 : ∀ o, (n + m) * size ≤ o → ¬ ((G.drop k).lay g ((n + m) * size)).S g o := by
    rintro o ho' (hs | ⟨_, hlt⟩)
    · exact hS o (by omega) hs
    · omega
  have h3 := h2.own (k := [d]) (g := g) (e := (n + m) * size) (l := cap * size) (by simp only [Gh.lay, Gh.drop]; split; rfl; exact hd) hg (fun i => hβ i) hb' (by rw [setAtV_length]; omega) hS2
    (fun k' e' l' hk' => (hτ1 k' e' l' hk').elim)
  refine ⟨w', _, hrun', h3.put (some d) ?_, fun k' x hx => ?_⟩
  rotate_left
  · simp only [Gh.own] at hx
    split at hx
    · rename_i e; exact .inl (by rw [e])
    · simp only [Gh.lay, Gh.drop] at hx
      split at hx
      · cases hx
      · exact .inr (by rw [hx]; simp)
  have hrr : RepR ((G.drop k).lay g ((n + m) * size)).S w' size (xs ++ ys) (olds ++ news) := (hx.append hy).ext he
  have hcell : ∀ (j : Nat) v, (olds ++ news)[j]? = some v → (setAtV vs (n * size) news)[j]? = some v := by
    intro j v hv
    rw [setAtV_get]
    have hj := (List.getElem?_eq_some_iff.1 hv).1
    rw [List.length_append, hol, hnl] at hj
    by_cases h1 : n * size ≤ j
    · rw [if_pos ⟨h1, by omega, by omega⟩]
      rw [List.getElem?_append_right (by omega), hol] at hv
      exact hv
    · rw [if_neg (by omega)]
      rw [List.getElem?_append_left (by omega)] at hv
      have := (hrd.2 j v hv).2
      simp only [Nat.zero_add] at this
      rw [hb.cell] at this
      exact this
  have hrd' : Rd ((G.drop k).lay g ((n + m) * size)).S w' ⟨g, 0, none⟩ (olds ++ news) := by
    refine ⟨rfl, fun j v hv => ⟨.inr ⟨rfl, ?_⟩, ?_⟩⟩
    · have := (List.getElem?_eq_some_iff.1 hv).1
      rw [List.length_append, hol, hnl] at this
      simp only [Nat.zero_add]; omega
    · simp only [Nat.zero_add]
      rw [hb'.cell]; exact hcell j v hv
  have hl2 : (xs ++ ys).length = n + m := by simp [hn, hm]
  unfold RepT
  simp only
  refine ⟨g, cap, olds ++ news, by rw [hl2], hrr, hrd', ?_, by rw [hl2]; exact hc⟩
  simp [Gh.own, hl2]

theorem put_val (s : AS) (dst : Option Nat) (v : AV) : Eff.app { val := v } dst s = s.put dst v := by
  cases s; rfl
theorem put_rt (s : AS) (dst : Option Nat) (v : AV) (k : Tag) : Eff.app { val := v, rt := some k } dst s = (s.retag k).put dst v := by
  cases s; rfl

theorem append_ok {P ty} (hT : TyOk P ty) {B G s a w} (h : Sim B G s a w) {t t2 oty : TypeId} {ei : TI} (he : elemOf ty t = some ei) (his : isSlice ty t = true) {d : Nat} (hd : G.τ [d] = none)
    {x y : AV} {xv yv : Value} (hx : RepT G w x xv) (hy : RepT G w y yv) {ys : List AV} (hs : srcA ty t2 ei s.mem y = some ys) {e : Eff} (hap : appendA ei d x ys = some e) :
    ∃ v w' G', (Builtin.append_ #[t, t2] oty #[xv, yv]).run P w = .ok v w' ∧ Sim B G' (e.app (some d) s) (a.put (some d) v) w' ∧ TauLe G G' (some [d]) := by
  obtain ⟨et, hu, hte⟩ := (elemOf_ok hT he).1 his
  obtain ⟨z, hz, hz1, hz2⟩ : ∃ z, (∀ w : World, (zeroValue et).run P w = .ok z w) ∧ z.cells.toList.map ofVal = ei.zero ∧ ∀ v ∈ z.cells.toList, oc v = true := by
    obtain ⟨i, z, h1, _, _, h2, h3, h4⟩ := (hT et ei hte).info
    exact ⟨z, fun w => by simp [zeroValue, typeInfo, h1, h2], h3, h4⟩
  have hzs : z.cells.size = ei.size := by rw [← (hT et ei hte).zlen, ← hz1]; simp
  obtain ⟨news, hyr, hsrc⟩ := srcA_ok hT h hte hz1 hz2 hy hs
  unfold appendA at hap
  split at hap
  case h_2 => cases hap
  rename_i sz xs st
  cases hb : ((sz == ei.size || (st == .nil && xs.isEmpty)) && ile (((xs.length + ys.length) * ei.bytes : Nat) : Int) 140737488355328 && ile ((xs.length + ys.length : Nat) : Int) 140737488355328) <;> rw [hb] at hap <;> simp only [cond_true, cond_false] at hap
  · cases hap
  simp only [Bool.and_eq_true, Bool.or_eq_true, beq_iff_eq, List.isEmpty_iff, ile, decide_eq_true_eq] at hb
  obtain ⟨⟨hb1, hb2⟩, hb3⟩ := hb
  have hb2 : (xs.length + ys.length) * ei.bytes ≤ 140737488355328 := by omega
  have hb3 : xs.length + ys.length ≤ 140737488355328 := by omega
  -- nothing is appended
  have same : ys = [] → e = { val := .sl sz xs st } → ∃ v w' G', (Builtin.append_ #[t, t2] oty #[xv, yv]).run P w = .ok v w' ∧ Sim B G' (e.app (some d) s) (a.put (some d) v) w' ∧ TauLe G G' (some [d]) := by
    rintro rfl rfl
    obtain ⟨ad, cap, rfl, hle, _⟩ := hx.sl_inv
    have hn : news = [] := by
      cases hyr; rfl
    subst hn
    refine ⟨.slice ad xs.length cap, w, G, ?_, by rw [put_val]; exact h.put (some d) hx, TauLe.refl _ _⟩
    rw [run_append_room hT hte hu (hz w) hzs hsrc (by simpa using hle)]
    cases ad <;> simp [storeCells]
  -- the list is laid anew
  have anew : ∀ (s1 : AS) (G1 : Gh), Sim B G1 s1 a w → G1.τ [d] = none → G1.S = G.S → (st = .nil ∨ sz = ei.size) → (∀ ad cap, xv = .slice ad xs.length cap → ¬ xs.length + ys.length ≤ cap) →
      ∃ v w' G', (Builtin.append_ #[t, t2] oty #[xv, yv]).run P w = .ok v w' ∧ Sim B G' (s1.put (some d) (.sl ei.size (xs ++ ys) (.own [d]))) (a.put (some d) v) w' ∧ TauLe G1 G' (some [d]) := by
    intro s1 G1 h1 hd1 hSS hsz hcap
    obtain ⟨ad, cap, rfl, hle, hnil, _, hr⟩ := hx.sl_inv
    have hold : ∃ olds : List Value, RepR G.S w ei.size xs olds ∧ ∀ w' : World, (∀ a, w'.cell? a = w.cell? a) → (Builtin.firstCells ei.size xs.length (.slice ad xs.length cap)).run P w' = .ok olds.toArray w' := by
      by_cases hst : st = .nil
      · obtain ⟨rfl, rfl, rfl⟩ := hnil hst
        exact ⟨[], .nil, fun w' _ => by simp [Builtin.firstCells]⟩
      · rcases hr hst with ⟨ad', vs, rfl, hrr, hd'⟩ | ⟨rfl, rfl, rfl, _⟩
        rotate_left
        · exact ⟨[], .nil, fun w' _ => by simp [Builtin.firstCells]⟩
        have hsz' : sz = ei.size := hsz.resolve_left hst
        subst hsz'
        refine ⟨vs, hrr, fun w' hw' => ?_⟩
        have := run_loadCells P (w := w') (a := ad') (vs := vs) (fun j v hv => by rw [hw']; exact hd'.cells j v hv)
        rw [hrr.length] at this
        simpa [Builtin.firstCells] using this
    obtain ⟨olds, hor, hof⟩ := hold
    obtain ⟨ncap, rest, hc1, hc2, hrun⟩ := run_append_grow (oty := oty) hT hte hu hz hzs hsrc (hcap ad cap rfl) hb2 hb3 hof
    obtain ⟨G', hG, hT⟩ := grow_sim h1 hd1 et (by rw [hSS]; exact hor) (by rw [hSS]; exact hyr) rfl rfl hc1 hc2
    exact ⟨_, _, G', hrun, hG, hT⟩
  cases st with
  | nil =>
    simp only at hap
    cases hye : ys.isEmpty <;> rw [hye] at hap <;> simp only [cond_true, cond_false, Option.some.injEq] at hap
    · subst hap
      have hxs : xs = [] := by obtain ⟨_, _, _, _, hn, _⟩ := hx.sl_inv; exact (hn rfl).2.1
      subst hxs
      have := anew s G h hd rfl (.inl rfl) (fun ad cap he => by
        obtain ⟨_, _, he', _, hn, _⟩ := hx.sl_inv
        rw [he'] at he
        obtain ⟨rfl, _, rfl⟩ := hn rfl
        cases he
        have : ys.length ≠ 0 := fun e => by simp [List.eq_nil_of_length_eq_zero e] at hye
        show ¬ 0 + ys.length ≤ 0
        omega)
      rw [put_val]
      simpa using this
    · exact same (by simpa using hye) hap.symm
  | full =>
    simp only at hap
    cases hye : ys.isEmpty <;> rw [hye] at hap <;> simp only [cond_true, cond_false, Option.some.injEq] at hap
    · subst hap
      have hsz : sz = ei.size := by rcases hb1 with h | h; exact h; exact absurd h.1 (by simp)
      have := anew s G h hd rfl (.inr hsz) (fun ad cap he => by
        obtain ⟨_, _, he', _, _, hf, _⟩ := hx.sl_inv
        rw [he'] at he
        have := hf rfl
        cases he
        have : ys.length ≠ 0 := fun e => by simp [List.eq_nil_of_length_eq_zero e] at hye
        omega)
      rw [put_val]
      exact this
    · exact same (by simpa using hye) hap.symm
  | sh =>
    simp only at hap
    cases hye : ys.isEmpty <;> rw [hye] at hap <;> simp only [cond_true, cond_false, Option.some.injEq] at hap
    · cases hap
    · exact same (by simpa using hye) hap.symm
  | own k =>
    simp only [Option.some.injEq] at hap
    subst hap
    have hsz : sz = ei.size := by rcases hb1 with h | h; exact h; exact absurd h.1 (by simp)
    subst hsz
    rw [put_rt]
    have hx' := hx
    unfold RepT at hx'
    obtain ⟨g, cap, olds, rfl, hor, hrd, hτ, hle⟩ := hx'
    by_cases hroom : xs.length + ys.length ≤ cap
    · obtain ⟨w', G', hrun, hG, hTT⟩ := room_sim (P := P) h hd hor hyr rfl rfl hroom hrd hτ
      refine ⟨_, w', G', ?_, hG, hTT⟩
      rw [run_append_room hT hte hu (hz w) hzs hsrc hroom]
      simp [hrun]
    · obtain ⟨v, w', G', h1, h2, h3⟩ := anew (s.retag k) (G.drop k) (h.retag k) (by simp only [Gh.drop]; split; rfl; exact hd) rfl (.inr rfl) (fun ad cap' he => by cases he; exact hroom)
      refine ⟨v, w', G', h1, h2, fun k' x hx => ?_⟩
      rcases h3 k' x hx with h4 | h4
      · exact .inl h4
      · refine .inr fun e => h4 ?_
        simp only [Gh.drop]; split
        · rfl
        · exact e

end Go.Ev
