/- The evaluator: what a loop's head forgets; code. -/
import Derived.Test.YtdcijmigoefnjaaEvV
set_option linter.unusedVariables false
set_option linter.unusedSimpArgs false
namespace Go.Ev
open Go

def Gh.clean (fr m : List Nat) (G : Gh) : Gh :=
  { S := G.S, β := fun i => if keepsKey m i then G.β i else none, τ := fun k => match k with | [d, 1] => if fr.contains d then G.τ [d] else G.τ [d, 1] | _ => none }

theorem clean_τ {fr m : List Nat} {G : Gh} {k : Tag} {x} (h : (G.clean fr m).τ k = some x) : ∃ d, k = [d, 1] ∧ G.τ (if fr.contains d then [d] else [d, 1]) = some x := by
  simp only [Gh.clean] at h
  split at h
  · rename_i d
    refine ⟨d, rfl, ?_⟩
    by_cases e : fr.contains d = true
    · rw [if_pos e] at h ⊢; exact h
    · rw [if_neg e] at h ⊢; exact h
  · cases h

theorem RepT.kept {G w a v} (fr m : List Nat) (h : RepT G w a v) (hf : ∀ d, hasTag [d] a = true → d ∈ fr) : RepT (G.clean fr m) w (a.kept fr m) v := by
  have triv : ∀ (a : AV), (∀ (β β' : Nat → Option Nat), RepV G.S w β a v → RepV G.S w β' a v) → (∀ sz xs k, a ≠ .sl sz xs (.own k)) → RepT G w a v → RepT (G.clean fr m) w a v := by
    intro a h1 h2 h3
    refine .of (h1 G.β _ ?_)
    unfold RepT at h3
    split at h3
    · exact absurd rfl (h2 _ _ _)
    · exact h3
  cases a
  case unk => exact .of (.unk v)
  case int k n => exact triv _ (fun _ _ h => by cases h; exact .int _ _) (fun _ _ _ e => by cases e) h
  case bool b => exact triv _ (fun _ _ h => by cases h; exact .bool _) (fun _ _ _ e => by cases e) h
  case str s => exact triv _ (fun _ _ h => by cases h; exact .str _) (fun _ _ _ e => by cases e) h
  case agg cs => exact triv _ (fun _ _ h => by cases h with | agg h1 h2 => exact .agg h1 h2) (fun _ _ _ e => by cases e) h
  case tup cs => exact triv _ (fun _ _ h => by cases h with | tup h1 => exact .tup h1) (fun _ _ _ e => by cases e) h
  case ptr id off =>
    simp only [AV.kept]
    split
    · rename_i hc
      refine .of ?_
      have h : RepV G.S w G.β (.ptr id off) v := h
      cases h with
      | ptr hb => exact .ptr (by simp only [Gh.clean, if_pos hc]; exact hb)
    · exact .of (.unk v)
  case nilp => exact triv _ (fun _ _ h => by cases h; exact .nilp) (fun _ _ _ e => by cases e) h
  case ro e => exact triv _ (fun _ _ h => by cases h with | ro h1 h2 => exact .ro h1 h2) (fun _ _ _ e => by cases e) h
  case sl sz xs st =>
    cases st with
    | nil => exact triv _ (fun _ _ h => by cases h; exact .slNil) (fun _ _ _ e => by cases e) h
    | full => exact triv _ (fun _ _ h => by cases h with | slFull h1 h2 => exact .slFull h1 h2 | slFullNil => exact .slFullNil) (fun _ _ _ e => by cases e) h
    | sh => exact triv _ (fun _ _ h => by cases h with | slSh c h1 h2 h3 => exact .slSh c h1 h2 h3 | slShNil => exact .slShNil) (fun _ _ _ e => by cases e) h
    | own k =>
      have hsh : RepT (G.clean fr m) w (.sl sz xs .sh) v := by
        have h0 := h.share
        simp only [AV.share] at h0
        refine .of ?_
        cases h0 with
        | slSh c h1 h2 h3 => exact .slSh c h1 h2 h3
        | slShNil => exact .slShNil
      have hown : ∀ k', (G.clean fr m).τ k' = G.τ k → RepT (G.clean fr m) w (.sl sz xs (.own k')) v := by
        intro k' e
        obtain ⟨g, cap, vs, rfl, hr, hd, ht, hl⟩ := h
        exact ⟨g, cap, vs, rfl, hr, hd, e.trans ht, hl⟩
      simp only [AV.kept]
      split
      · rename_i heq
        cases heq
      · rename_i heq; cases heq
      · rename_i heq; cases heq
      · rename_i heq; cases heq
      · rename_i sz' xs' d heq
        cases heq
        refine hown _ ?_
        have : fr.contains d = true := List.contains_iff_mem.2 (hf d (by simp [hasTag]))
        simp only [Gh.clean, if_pos this]
      · rename_i sz' xs' d heq
        cases heq
        split
        · exact hsh
        · rename_i hn
          refine hown _ ?_
          simp only [Gh.clean, if_neg hn]
      · rename_i heq; cases heq
        exact hsh
      · rename_i hne
        exact absurd rfl (hne _ _ _)
  case view id off n =>
    simp only [AV.kept]
    split
    · rename_i hc
      refine .of ?_
      have h : RepV G.S w G.β (.view id off n) v := h
      cases h with
      | view cap hb hl => exact .view cap (by simp only [Gh.clean, if_pos hc]; exact hb) hl
    · exact .of (.unk v)
  case fn f cap =>
    cases cap with
    | nil =>
      refine triv _ (fun _ β' h => ?_) (fun _ _ _ e => by cases e) h
      obtain ⟨us, rfl, hu⟩ : ∃ us : List Value, v = .func (.func f) #[] us.toArray ∧ us = [] := by
        cases h with
        | @fn _ _ _ us hq =>
          refine ⟨us, rfl, ?_⟩
          have := RepL.length hq
          exact List.eq_nil_of_length_eq_zero this.symm
      subst hu
      exact .fn .nil
    | cons => exact .of (.unk v)
  case niliface => exact triv _ (fun _ _ h => by cases h; exact .niliface) (fun _ _ _ e => by cases e) h
  case nilfn => exact triv _ (fun _ _ h => by cases h; exact .nilfn) (fun _ _ _ e => by cases e) h

theorem look_filter (m : List Nat) (mm : Mem) (i : Nat) : look (mm.filter fun p => keepsKey m p.1) i = if keepsKey m i then look mm i else none := by
  induction mm with
  | nil => simp [look]
  | cons p r ih =>
    obtain ⟨j, c⟩ := p
    simp only [List.filter_cons]
    by_cases hj : keepsKey m j = true
    · rw [if_pos hj]
      simp only [look, ih]
      split
      · rename_i e
        have e : j = i := by simpa using e
        subst e
        rw [if_pos hj]
      · rfl
    · rw [if_neg hj, ih]
      simp only [look]
      split
      · rename_i hi
        split
        · rename_i e
          have e : j = i := by simpa using e
          subst e
          exact absurd hi hj
        · rfl
      · rfl

theorem pickT_get (l : List Nat) : ∀ (ts : List AV) (k i : Nat), (pickT l k ts)[i]? = (ts[i]?).map fun v => if l.contains (k + i) then v else .unk
  | [], k, i => by simp [pickT]
  | v :: r, k, 0 => by simp [pickT]
  | v :: r, k, i + 1 => by
    simp only [pickT, List.getElem?_cons_succ, pickT_get l r (k + 1) i]
    rw [show k + 1 + i = k + (i + 1) by omega]

theorem mem_fresh {d : Nat} : ∀ {l : List AV} {a : AV}, a ∈ l → hasTag [d] a = true → d ∈ freshOf l
  | x :: r, a, h, ht => by
    rcases List.mem_cons.1 h with rfl | h
    · cases a <;> try (simp [hasTag] at ht; done)
      rename_i sz xs st
      cases st <;> try (simp [hasTag] at ht; done)
      rename_i k
      have : k = [d] := by simpa [hasTag] using ht
      subst this
      simp [freshOf]
    · have := mem_fresh h ht
      unfold freshOf
      split
      · cases ‹x :: r = []›
      · rename_i e; cases e; exact List.mem_cons_of_mem _ this
      · rename_i e; cases e; exact this

theorem Sim.clean {B G s a w} (h : Sim B G s a w) (hB : B.Ok) (l m : List Nat) : ∃ G', Sim B G' (s.clean l m) a w := by
  let ts := pickT l 0 s.tmps
  let mm := s.mem.filter fun p => keepsKey m p.1
  let fr := freshOf ts ++ mm.flatMap fun p => freshOf p.2
  refine ⟨G.clean fr m, ?_, ?_, fun i => ?_, h.defers⟩
  · have hi := h.inv
    constructor
    · exact hi.size
    · exact hi.os
    · exact hi.tape
    · exact hi.output
    · exact hi.old
    · exact hi.S0
    · exact hi.Snew
    · exact hi.Slt
    · intro i j b h1 h2
      simp only [Gh.clean] at h1 h2
      split at h1
      · split at h2
        · exact hi.βinj i j b h1 h2
        · cases h2
      · cases h1
    · intro i b o h1
      simp only [Gh.clean] at h1 ⊢
      split at h1
      · exact hi.βS i b o h1
      · cases h1
    · intro i b h1
      simp only [Gh.clean] at h1
      split at h1
      · exact hi.βnew i b h1
      · cases h1
    · intro i hl
      simp only [AS.clean, look_map, Option.map_eq_none_iff, look_filter] at hl
      simp only [Gh.clean]
      split
      · rename_i hc
        rw [if_pos hc] at hl
        exact hi.dom i hl
      · rfl
    · intro i cs hl
      simp only [AS.clean, look_map, Option.map_eq_some_iff] at hl
      obtain ⟨cs0, hl, rfl⟩ := hl
      have hl0 := hl
      rw [look_filter] at hl
      split at hl
      · rename_i hc
        obtain ⟨b, vs, t, h1, h2, h3, h4, h5⟩ := hi.mem i cs0 hl
        refine ⟨b, vs, t, by simp only [Gh.clean, if_pos hc]; exact h1, h2, by simp [h3], fun j c v hcj hv => ?_, h5⟩
        simp only [List.getElem?_map, Option.map_eq_some_iff] at hcj
        obtain ⟨c0, hcj, rfl⟩ := hcj
        refine (h4 j c0 v hcj hv).kept fr m fun d hd => ?_
        refine List.mem_append_right _ (List.mem_flatMap.2 ⟨(i, cs0), look_mem hl0, mem_fresh (List.mem_of_getElem? hcj) hd⟩)
      · cases hl
    · intro k g e l' hk
      obtain ⟨d, rfl, hk'⟩ := clean_τ hk
      obtain ⟨h1, h2, h3, h4⟩ := hi.τ _ g e l' hk'
      refine ⟨h1, fun i hb => ?_, h3, h4⟩
      simp only [Gh.clean] at hb
      split at hb
      · exact h2 i hb
      · cases hb
    · intro k k' g e l1 e' l2 h1 h2
      obtain ⟨d, rfl, q1⟩ := clean_τ h1
      obtain ⟨d', rfl, q2⟩ := clean_τ h2
      have := hi.τinj _ _ g e l1 e' l2 q1 q2
      by_cases a1 : fr.contains d = true <;> by_cases a2 : fr.contains d' = true
      · rw [if_pos a1, if_pos a2] at this; simp at this; rw [this]
      · rw [if_pos a1, if_neg a2] at this; simp at this
      · rw [if_neg a1, if_pos a2] at this; simp at this
      · rw [if_neg a1, if_neg a2] at this; simp at this; rw [this]
    · intro i b hb
      have : keepsKey m i = true := by
        have h1 : Nat.ble 1000 i = true := by rw [Nat.ble_eq]; exact hB.b0 i b hb
        simp only [keepsKey, h1, Bool.true_or]
      simp only [Gh.clean, if_pos this]
      exact hi.β0 i b hb
    · exact hi.fro
  · simp only [AS.clean, List.length_map]
    rw [← h.len]
    have : ∀ (ts : List AV) k, (pickT l k ts).length = ts.length := by
      intro ts
      induction ts with
      | nil => intro k; rfl
      | cons v r ih => intro k; simp [pickT, ih]
    exact this _ _
  · have := h.tmps i
    simp only [AS.clean, List.getD_eq_getElem?_getD, List.getElem?_map, pickT_get] at this ⊢
    cases hx : s.tmps[i]? with
    | none => simp only [Option.map_none, Option.getD_none]; exact .of (.unk _)
    | some c =>
      simp only [hx, Option.map_some, Option.getD_some] at this ⊢
      split
      · rename_i hc
        refine this.kept fr m fun d hd => ?_
        refine List.mem_append_left _ (mem_fresh (a := c) (List.mem_of_getElem? (i := i) ?_) hd)
        show (pickT l 0 s.tmps)[i]? = some c
        rw [pickT_get, hx, Option.map_some, if_pos hc]
      · exact .of (.unk _)

/-! ### code -/


theorem evCode_wp {P E} (hE : EnvOk P E) (hZ : ZeroOk E.ty) (hm : P.follows .mixedOrders = true) {B} (hB : B.Ok) : ∀ (c : Code) {G s a w} {r : Ex} {s' : AS}, Sim B G s a w → ev E c s = some (r, s') →
    c.wp P (fun e a' w' => e = r.of ∧ ∃ G', Sim B G' s' a' w') a w := by
  intro c
  induction c with
  | skip =>
    intro G s a w r s' h he
    simp only [ev, Option.some.injEq, Prod.mk.injEq] at he
    obtain ⟨rfl, rfl⟩ := he
    exact wp_skip ⟨rfl, G, h⟩
  | label l =>
    intro G s a w r s' h he
    simp only [ev, Option.some.injEq, Prod.mk.injEq] at he
    obtain ⟨rfl, rfl⟩ := he
    exact wp_label ⟨rfl, G, h⟩
  | exit id =>
    intro G s a w r s' h he
    simp only [ev, Option.some.injEq, Prod.mk.injEq] at he
    obtain ⟨rfl, rfl⟩ := he
    exact wp_exit ⟨rfl, G, h⟩
  | ret =>
    intro G s a w r s' h he
    simp only [ev, Option.some.injEq, Prod.mk.injEq] at he
    obtain ⟨rfl, rfl⟩ := he
    exact wp_ret ⟨rfl, G, h⟩
  | region rid ops draw =>
    intro G s a w r s' h he
    cases draw with
    | false =>
      simp only [ev, cond_false, Option.map_eq_some_iff] at he
      obtain ⟨s1, he, hq⟩ := he
      cases hq
      exact wp_region (evSeq_wp hE hB (fun G' a' w' h' => ⟨rfl, G', h'⟩) _ h he)
    | true =>
      simp only [ev, cond_true] at he
      cases ht : evTr E ops (List.range ops.size) s with
      | none => simp [ht] at he
      | some p =>
        obtain ⟨s1, fps⟩ := p
        simp only [ht] at he
        cases hd2 : drawOk2 ops s fps <;> rw [hd2] at he <;> simp only [cond_true, cond_false] at he
        · cases he
        cases he
        obtain ⟨hl, hr⟩ := evTr_run _ ht
        have hd := drawOk_of hd2
        simp only [drawOk, Bool.and_eq_true] at hd
        obtain ⟨⟨⟨d1, d2⟩, d3⟩, d4⟩ := hd
        have hdrop : ∃ G1, Sim B G1 s a w ∧ ∀ (i : Nat) k, (ops[i]?).bind makes = some k → G1.τ k = none := by
          have key : ∀ (ks : List Tag) (G : Gh), Sim B G s a w → (∀ k ∈ ks, s.noTag k = true) → ∃ G1, Sim B G1 s a w ∧ (∀ k ∈ ks, G1.τ k = none) := by
            intro ks
            induction ks with
            | nil => intro G h _; exact ⟨G, h, fun k hk => by cases hk⟩
            | cons k ks ih =>
              intro G h hk
              obtain ⟨G1, h1, h2⟩ := ih G h (fun k' hk' => hk k' (List.mem_cons_of_mem _ hk'))
              refine ⟨G1.drop k, h1.drop (hk k (by simp)), fun k' hk' => ?_⟩
              simp only [Gh.drop]
              split
              · rfl
              · rename_i hne
                rcases List.mem_cons.1 hk' with e | e
                · exact absurd e hne
                · exact h2 k' e
          obtain ⟨G1, h1, h2⟩ := key (ops.toList.filterMap makes) G h (fun k hk => by
            obtain ⟨o, ho, hmk⟩ := List.mem_filterMap.1 hk
            rw [Array.all_eq_true'] at d4
            have := d4 o (by simpa using ho)
            rw [hmk] at this
            exact this)
          refine ⟨G1, h1, fun i k hk => h2 k ?_⟩
          obtain ⟨o, ho, hmk⟩ := Option.bind_eq_some_iff.1 hk
          exact List.mem_filterMap.2 ⟨o, by simpa using Array.mem_of_getElem? ho, hmk⟩
        obtain ⟨G1, h1, hτ⟩ := hdrop
        have hfst : ((List.range ops.size).zip fps).map (·.1) = List.range ops.size := by
          rw [List.map_fst_zip]; omega
        refine wp_region_any hm (any_wp hE hZ hB (s' := s') (fun G' a' w' h' => ⟨rfl, G', h'⟩) ?_ ((List.range ops.size).zip fps) ops.size _ h1.drew hr ?_ ?_ (by simp) ?_ ?_ ?_ ?_ ?_ ?_)
        · intro i o ho e he hb
          simp only [edgesOk, List.all_eq_true] at d1
          have := d1 i (List.mem_range.2 (Array.getElem?_eq_some_iff.1 ho).1)
          rw [ho] at this
          simp only [Array.all_eq_true'] at this
          have := this e he
          rw [hb] at this
          simp at this
          omega
        · simp [hl]
        · rw [hfst]; exact List.pairwise_lt_range
        · intro i hi
          rw [hfst]
          simp [Array.getD, hi]
        · intro x hx
          have := (List.of_mem_zip (a := x.1) (b := x.2) hx).1
          exact List.mem_range.1 this
        · intro i o ho hl'
          exfalso
          simp only [Array.getD_eq_getD_getElem?, Array.getElem?_replicate] at hl'
          split at hl' <;> simp at hl'
        · intro x hx y hy hlt
          have hget : ∀ x ∈ (List.range ops.size).zip fps, x.1 < ops.size ∧ fps.getD x.1 ([], []) = x.2 := by
            intro x hx
            obtain ⟨n, hn⟩ := List.getElem?_of_mem hx
            rw [List.getElem?_zip_eq_some] at hn
            obtain ⟨n1, n2⟩ := hn
            rw [List.getElem?_eq_some_iff] at n1
            obtain ⟨n3, n4⟩ := n1
            simp at n3 n4
            rw [← n4, List.getD_eq_getElem?_getD, n2]
            exact ⟨n3, rfl⟩
          obtain ⟨x1, x2⟩ := hget x hx
          obtain ⟨y1, y2⟩ := hget y hy
          rw [List.all_eq_true] at d3
          have := d3 y.1 (List.mem_range.2 y1)
          rw [List.all_eq_true] at this
          have := this x.1 (List.mem_range.2 hlt)
          rw [Bool.or_eq_true] at this
          rcases this with h | h
          · exact .inl h
          · refine .inr ⟨ops[x.1], ops[y.1], Array.getElem?_eq_getElem x1, Array.getElem?_eq_getElem y1, ?_⟩
            rw [Array.getElem?_eq_getElem x1, Array.getElem?_eq_getElem y1] at h
            simp only [x2, y2] at h
            exact h
        · have e : (List.range ops.size).map (fun i => (ops[i]?).bind makes) = ops.toList.map makes := by
            apply List.ext_getElem?
            intro i
            simp only [List.getElem?_map, List.getElem?_range', Array.getElem?_toList]
            by_cases hi : i < ops.size
            · simp [hi]
            · simp [hi]
          have e2 : ((List.range ops.size).zip fps).filterMap (fun x => (ops[x.1]?).bind makes) = ops.toList.filterMap makes := by
            rw [show (fun x : Nat × FP => (ops[x.1]?).bind makes) = (fun i => (ops[i]?).bind makes) ∘ (·.1) from rfl, ← List.filterMap_map, hfst]
            have h1 : (List.range ops.size).filterMap (fun i => (ops[i]?).bind makes) = ((List.range ops.size).map (fun i => (ops[i]?).bind makes)).filterMap id := by
              rw [List.filterMap_map]; rfl
            have h2 : ops.toList.filterMap makes = (ops.toList.map makes).filterMap id := by rw [List.filterMap_map]; rfl
            rw [h1, h2, e]
          rw [e2]
          simpa [makesOk] using d2
        · intro x hx k hk
          exact hτ x.1 k hk
  | seq x y ihx ihy =>
    intro G s a w r s' h he
    simp only [ev] at he
    cases hx : ev E x s with
    | none => simp [hx] at he
    | some p =>
      obtain ⟨r1, s1⟩ := p
      simp only [hx] at he
      refine wp_seq (wp_mono (ihx h hx) ?_)
      rintro e a1 w1 ⟨rfl, G1, h1⟩
      cases r1 with
      | normal => exact ihy h1 he
      | exit id => cases he; exact ⟨rfl, G1, h1⟩
      | ret => cases he; exact ⟨rfl, G1, h1⟩
  | cond c x y ihx ihy =>
    intro G s a w r s' h he
    simp only [ev] at he
    have hc := h.opv c
    split at he
    · rename_i t ht
      rw [ht] at hc
      have e := RepT.bool_inv hc
      cases t with
      | true => exact wp_cond_true e (ihx h he)
      | false => exact wp_cond_false e (ihy h he)
    · cases he
  | block id c ih =>
    intro G s a w r s' h he
    simp only [ev] at he
    cases hx : ev E c s with
    | none => simp [hx] at he
    | some p =>
      obtain ⟨r1, s1⟩ := p
      simp only [hx] at he
      refine wp_block (wp_mono (ih h hx) ?_)
      rintro e a1 w1 ⟨rfl, G1, h1⟩
      cases r1 with
      | normal => cases he; exact ⟨rfl, G1, h1⟩
      | ret => cases he; exact ⟨rfl, G1, h1⟩
      | exit id' =>
        cases he
        simp only [Ex.of, Exit.inBlock]
        split
        · exact ⟨rfl, G1, h1⟩
        · exact ⟨rfl, G1, h1⟩
  | loop c ih =>
    intro G s a w r s' h he
    simp only [ev] at he
    have key : ∀ (cl : AS → AS), (∀ {G s a w}, Sim B G s a w → ∃ G', Sim B G' (cl s) a w) → ∀ n {G s a w r s'}, Sim B G s a w → loopN (ev E c) cl n s = some (r, s') →
        ∀ (b : Frame) (k : List Item) (cs : List Frame), ∃ e a' w', (e = r.of ∧ ∃ G', Sim B G' s' a' w') ∧ Arrives P (lone (b.at a (.code c :: .inLoop c :: k)) cs w) b k cs e a' w' := by
      intro cl hcl
      intro n
      induction n with
      | zero => intro G s a w r s' _ h; cases h
      | succ n ihn =>
        intro G s a w r s' h he b k cs
        simp only [loopN] at he
        obtain ⟨G1, h1⟩ := hcl h
        cases hx : ev E c (cl s) with
        | none => simp [hx] at he
        | some p =>
          obtain ⟨r1, s1⟩ := p
          simp only [hx] at he
          obtain ⟨e, a2, w2, ⟨rfl, G2, h2⟩, harr⟩ := ih h1 hx b (.inLoop c :: k) cs
          cases r1 with
          | normal =>
            obtain ⟨e3, a3, w3, hq, harr3⟩ := ihn h2 he b k cs
            exact ⟨e3, a3, w3, hq, .of_steps (Steps.trans harr (.one step_inLoop)) harr3⟩
          | exit id =>
            cases he
            exact ⟨_, a2, w2, ⟨rfl, G2, h2⟩, .pass (x := .inLoop c) rfl (fun _ _ => .inl (by simp [Ex.of])) harr⟩
          | ret =>
            cases he
            exact ⟨_, a2, w2, ⟨rfl, G2, h2⟩, .pass (x := .inLoop c) rfl (fun _ _ => .inl (by simp [Ex.of])) harr⟩
    intro b k cs
    obtain ⟨r0, he0, hr0⟩ := Option.map_eq_some_iff.1 he
    obtain ⟨r1, s1⟩ := r0
    simp only [Prod.mk.injEq] at hr0
    obtain ⟨rfl, hs1⟩ := hr0
    have out : ∀ {e a' w'}, (e = r1.of ∧ ∃ G', Sim B G' s1 a' w') → (e = r1.of ∧ ∃ G', Sim B G' s' a' w') := by
      rintro e a' w' ⟨h1, G', h2⟩
      refine ⟨h1, ?_⟩
      rw [← hs1]
      cases hk : E.keep (firstKey c + 500) with
      | none => exact ⟨G', h2⟩
      | some p => obtain ⟨l, m⟩ := p; exact h2.clean hB l m
    replace he := he0
    obtain ⟨e, a', w', hq, harr⟩ : ∃ e a' w', (e = r1.of ∧ ∃ G', Sim B G' s1 a' w') ∧ Arrives P (lone (b.at a (.code c :: .inLoop c :: k)) cs w) b k cs e a' w' := by
      cases hk : E.keep (firstKey c) with
      | none =>
        rw [hk] at he
        exact key _ (fun h => ⟨_, h⟩) _ h he b k cs
      | some p =>
        obtain ⟨l, m⟩ := p
        rw [hk] at he
        exact key _ (fun h => h.clean hB l m) _ h he b k cs
    exact ⟨e, a', w', out hq, .of_steps (.one step_loop) harr⟩
  | _ =>
    intro G s a w r s' h he
    simp [ev] at he

end Go.Ev
