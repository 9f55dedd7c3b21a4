import Derived.Test.YtdcijmigoefnjaaP11n
import Derived.Test.YtdcijmigoefnjaaL11d
import Derived.Test.YtdcijmigoefnjaaL10h
/- Chapter 11: headers that a match has, have what its fields need: contracts, and the law's call. -/
set_option linter.unusedVariables false
set_option linter.unusedSimpArgs false
set_option maxRecDepth 100000
set_option maxHeartbeats 0
namespace Go.Proofs.Ytdcijmigoefnjaa
open Go Go.Ev

theorem s194 : SumTOk Try.prog 194 S194 := sum0_ok fun x _ => book_ok.pth (by kernel_rfl) noSpec_ok (p194 x.1.1 x.1.2 x.2.1 x.2.2 _ rfl)
theorem sp180_ok : SpecTL Try.prog sp180 := ⟨s194, s68, trivial⟩
theorem s180 : SumTOk Try.prog 180 S180 := sum0_ok fun x _ => book_ok.pth (by kernel_rfl) sp180_ok (p180 x.1.1 x.1.2 x.2.1.1 x.2.1.2 x.2.2.1 x.2.2.2 _ rfl)
theorem sp147_ok : SpecTL Try.prog sp147 := ⟨s180, s125, trivial⟩
theorem s147 : SumTOk Try.prog 147 S147 := sum0_ok fun x _ => by
  obtain ⟨⟨⟨a, b⟩, c, d⟩, e, f⟩ := x
  have hi : inW (andW (xorW (a, b) (e, f)) (c, d)) = true := by
    show (inU (ibits .and .u64 _ _) && inU (ibits .and .u64 _ _)) = true
    rw [inU_bits, inU_bits]; rfl
  exact book_ok.pth (by kernel_rfl) sp147_ok (p147 a b c d e f _ hi rfl)
theorem sp96_ok : SpecTL Try.prog sp96 := ⟨s147, trivial⟩

/-! ### a header in a cube -/
theorem cells4 {cs : List AV} (h : isCub cs = true) {j : Nat} (hj : j < 24) : List.take 4 (List.drop (j * 4) cs) = [.int .u64 (cell cs (j * 4)), .int .u64 (cell cs (j * 4 + 1)), .int .u64 (cell cs (j * 4 + 2)), .int .u64 (cell cs (j * 4 + 3))] := by
  obtain ⟨h1, h2⟩ := isCub_iff.1 h
  have at_ : ∀ i, i < 96 → cs[i]? = some (.int .u64 (cell cs i)) := by
    intro i hi
    have hm : isI .u64 (cs.getD i .unk) = true := by
      rw [List.getD_eq_getElem?_getD, List.getElem?_eq_getElem (by omega)]
      exact List.all_eq_true.1 h2 _ (List.getElem_mem _)
    unfold cell
    rw [List.getD_eq_getElem?_getD] at hm ⊢
    rw [List.getElem?_eq_getElem (show i < cs.length by omega)] at hm ⊢
    generalize cs[i] = v at hm
    cases v <;> try (cases hm; done)
    simp only [Option.getD_some, isI, decide_eq_true_eq] at hm
    rw [hm]; rfl
  have dr : ∀ i, i < 96 → cs.drop i = .int .u64 (cell cs i) :: cs.drop (i + 1) := by
    intro i hi
    have := at_ i hi
    obtain ⟨hlt, e⟩ := List.getElem?_eq_some_iff.1 this
    rw [List.drop_eq_getElem_cons hlt, e]
  rw [dr _ (by omega), dr _ (by omega), dr _ (by omega), dr _ (by omega)]
  rfl
theorem notHas_at {cs hs : List AV} {j : Nat} (hj : j < 24) : notHas cs hs (24 - j) = (!hasT (ternAt cs j) (widAt hs j) || notHas cs hs (24 - (j + 1))) := by
  have e : 24 - j = (24 - (j + 1)) + 1 := by omega
  have e2 : 23 - (24 - (j + 1)) = j := by omega
  rw [e, notHas, e2]
theorem good96 (h : Nat → Int) : (L96 h).Good := by
  refine ⟨fun r j _ hj e => ⟨?_, rfl⟩, fun r j _ hj e => ⟨?_, rfl⟩, fun r j _ hj => ?_⟩
  · have e : (!hasT (ternAt r j) (widAt (hdrC h) j)) = true := e
    show notHas r (hdrC h) (24 - j) = true
    rw [notHas_at hj, e]; rfl
  · have e : (!hasT (ternAt r j) (widAt (hdrC h) j)) = false := e
    show notHas r (hdrC h) (24 - j) = notHas r (hdrC h) (24 - (j + 1))
    rw [notHas_at hj, e]; rfl
  · have hj : 24 ≤ j := hj
    show notHas r (hdrC h) (24 - j) = false
    rw [show 24 - j = 0 by omega]; rfl
theorem step96 (h : Nat → Int) (x : Int × List AV) (hp : (L96 h).P x) : Round (book.envP 96 sp96 big noLoops) (loopBody Try.f96 2) (book.clean 96 2) (book.clean 96 (2 + 500)) (st96 h) pr96 (L96 h).P (fun x => ((L96 h).tr x).val) (L96 h).m x := by
  have hc := hp.ok
  obtain ⟨i, cs⟩ := x
  have hc : isCub cs = true := hc
  have lt : ilt i 24 = true → i.toNat < 24 := fun k => hp.lt k
  have c4 : ∀ k : ilt i 24 = true, List.take 4 (List.drop (i.toNat * 4) cs) = _ := fun k => cells4 hc (lt k)
  have h2 : ∀ k : ilt i 24 = true, List.map AV.flat (List.take 2 (List.drop (0 + i.toNat * 2) (hdrC h))) = _ := fun k => pair_at h i.toNat (lt k)
  have wd : ∀ k : ilt i 24 = true, widAt (hdrC h) i.toNat = (h (i.toNat * 2), h (i.toNat * 2 + 1)) := fun k => by
    have := lt k
    unfold widAt
    rw [cell_hdr h (by omega), cell_hdr h (by omega)]
  refine r96 h i cs _ _ _ (fun k => hp.in_ k) (fun k => ?_) (fun k => ?_) (fun k => ?_) (fun k e => ?_) (fun k e => ?_) (fun k => hp.fin_ (good96 h) k)
  · rw [c4 k]; rfl
  · exact len_at h (lt k)
  · show AV.has _ (AV.agg (List.map AV.flat (List.take 2 (List.drop (0 + i.toNat * 2) (hdrC h))))) = true
    rw [h2 k]; rfl
  · rw [c4 k, h2 k] at e
    exact hp.found (good96 h) k (show (!hasT (ternAt cs i.toNat) (widAt (hdrC h) i.toNat)) = true by rw [wd k]; exact e)
  · rw [c4 k, h2 k] at e
    exact hp.on (good96 h) k (show (!hasT (ternAt cs i.toNat) (widAt (hdrC h) i.toNat)) = false by rw [wd k]; exact e)
theorem lok96 (h : Nat → Int) {loops} : LoopOk (book.envP 96 sp96 big loops) (loopBody Try.f96 2) (lp96 h) := FL.loop (loops' := noLoops) (noInner (by kernel_rfl)) (by kernel_rfl) (step96 h)
theorem s96 : SumTOk Try.prog 96 S96 := sum0_ok fun x hx => by
  obtain ⟨cs, hs⟩ := x
  simp only [Bool.and_eq_true] at hx
  obtain ⟨hc, hh⟩ := hx
  have h1 := isCub_iff.1 hc
  show CallsA Try.prog 96 [.agg cs, .agg hs] [] (.bool (!notHas cs hs 24)) []
  rw [isHdr_eq hh]
  generalize (fun j => (hs.getD j .unk).asInt) = h
  have e1 : List.map AV.flat (List.take 96 cs) = cs := by rw [List.take_of_length_le (by omega)]; exact ints_map h1.2 fun _ => rfl
  have p := p96 cs h (AV.bool (!notHas cs (hdrC h) 24), [])
  simp only [e1, AV.cells] at p
  refine book_ok.run1 (by kernel_rfl) sp96_ok (by kernel_rfl) (lok96 h) (p ?_ (FL.pre_of (i := 0) (Nat.zero_le _) (show 24 ≤ _ by omega) hc) (fun e => by rw [e]; rfl) (fun e => by rw [e]; rfl))
  rw [List.take_of_length_le (by omega), h1.1]; rfl

/-! ### parts that may not be -/
theorem sp95_ok : SpecTL Try.prog sp95 := ⟨s65, trivial⟩
theorem s95 : SumTOk Try.prog 95 S95 := sum0_ok fun x hx => by
  obtain ⟨f, k, ⟨a, b⟩, c, d⟩ := x
  exact book_ok.pth (by kernel_rfl) sp95_ok (p95 f k a b c d _ hx rfl)
theorem sp146b_ok : SpecTL Try.prog sp146b := ⟨s95, trivial⟩
theorem good146b : L146b.Good := FL.good_any (fun r => r) (fun _ v => !rightO (ox v)) (fun _ => rfl) (fun _ _ => rfl) (fun _ _ => rfl) (.inr fun _ _ => rfl)
theorem step146b (x : Int × List AV) (h : L146b.P x) : Round (book.envP 146 sp146b big noLoops) (loopBody Try.f146 2) (book.clean 146 2) (book.clean 146 (2 + 500)) st146b pr146b L146b.P (fun x => (L146b.tr x).val) L146b.m x := by
  obtain ⟨i, xs⟩ := x
  refine r146b i xs _ _ _ (fun k => h.in_ k) (fun k => okX_has h.ok (h.lt k)) (fun k => (ox_of (okX_get h.ok (h.lt k))).2) (fun k e => ?_) (fun k e => h.on good146b k e) (fun k => h.fin_ good146b k)
  refine (h.found good146b k e).trans ?_
  show (Ex.ret, stA 19 [(4, .int .i64 ((i.toNat : Nat) : Int))] []) = _
  rw [h.cast]; rfl
theorem lok146b {loops} : LoopOk (book.envP 146 sp146b big loops) (loopBody Try.f146 2) lp146b := FL.loop (loops' := noLoops) (noInner (by kernel_rfl)) (by kernel_rfl) step146b
theorem s146b : SumTOk Try.prog 146 S146b := sumW_ok fun xs h => by
  have h : okX xs = true := h
  refine book_ok.run1 (by kernel_rfl) sp146b_ok (by kernel_rfl) lok146b (p146b xs _ (FL.pre_of (i := 0) (Nat.zero_le _) (okX_iff.1 h).2 h) (fun e => ?_) (fun e => ?_)) <;> show _ = ((Tree.ite (badO xs) _ _).val, _) <;> rw [e] <;> rfl
theorem sp94b_ok : SpecTL Try.prog sp94b := ⟨s146b, trivial⟩
theorem s94b : SumTOk Try.prog 94 S94b := sumW_ok fun xs h => by
  refine book_ok.pth (by kernel_rfl) sp94b_ok (p94b xs _ h (fun e => ?_) (fun e => ?_)) <;> show _ = (AV.bool (badO xs), _) <;> rw [e]

/-! ### what a field needs, by its form -/
def tr30 (n : Int) : AV := bif ndZ n then .sl 0 [] .nil else bif ndF n then .sl 2 [ndN 5] .full else bif ndO n then .sl 2 [ndC 4 (ndV n 0) .sh] .full else .sl 2 [ndC 4 (ndV n 0) .sh, ndC 9 (ndV n 1) .sh] (.own [])
theorem tr30_at : ∀ j : Nat, j < 24 → needP (needOf (j : Int)) = tr30 (j : Int)
  | 0, _ => by kernel_rfl
  | 1, _ => by kernel_rfl
  | 2, _ => by kernel_rfl
  | 3, _ => by kernel_rfl
  | 4, _ => by kernel_rfl
  | 5, _ => by kernel_rfl
  | 6, _ => by kernel_rfl
  | 7, _ => by kernel_rfl
  | 8, _ => by kernel_rfl
  | 9, _ => by kernel_rfl
  | 10, _ => by kernel_rfl
  | 11, _ => by kernel_rfl
  | 12, _ => by kernel_rfl
  | 13, _ => by kernel_rfl
  | 14, _ => by kernel_rfl
  | 15, _ => by kernel_rfl
  | 16, _ => by kernel_rfl
  | 17, _ => by kernel_rfl
  | 18, _ => by kernel_rfl
  | 19, _ => by kernel_rfl
  | 20, _ => by kernel_rfl
  | 21, _ => by kernel_rfl
  | 22, _ => by kernel_rfl
  | 23, _ => by kernel_rfl
  | j + 24, h => by omega
theorem tr30_all (n : Int) : needP (needOf n) = tr30 n := by
  cases hf : isF n
  · have e : needOf n = [] := by unfold needOf; rw [hf]; rfl
    have z : ndZ n = true := by unfold ndZ; rw [e]; rfl
    unfold tr30
    rw [e, z]; rfl
  · have := isF_in hf
    have e : n = ((n.toNat : Nat) : Int) := by omega
    rw [e]
    exact tr30_at _ (by omega)
theorem s30t : SumTOk Try.prog 30 S30t := sum0_ok fun n _ => by
  have := s30 [.int .i64 n] [] (.leaf (needP (needOf n), [])) (by simp [sumOf, gI, G30, T.Ret])
  rw [tr30_all] at this
  have e : (Tree.ite (ndZ n) (.leaf (.sl 0 [] .nil)) (.ite (ndF n) (.leaf (.sl 2 [ndN 5] .full)) (.ite (ndO n) (.leaf (.sl 2 [ndC 4 (ndV n 0) .sh] .full)) (.leaf (.sl 2 [ndC 4 (ndV n 0) .sh, ndC 9 (ndV n 1) .sh] (.own [])))))).val = tr30 n := by
    unfold tr30
    cases ndZ n <;> cases ndF n <;> cases ndO n <;> rfl
  show CallsA Try.prog 30 [.int .i64 n] [] (Tree.val _) []
  rw [e]
  exact this
def ndFm : List (Int × List Int) → Bool
  | [] => true
  | [p] => (ieq p.1 5 && p.2.isEmpty) || ieq p.1 4
  | [p, q] => ieq p.1 4 && ieq q.1 9
  | _ => false
theorem ndFm_all (f : Int) : ndFm (needOf f) = true := by
  unfold needOf
  cases isF f
  · rfl
  · simp only [cond_true]
    have hall : needTab.all ndFm = true := by kernel_rfl
    rw [List.getD_eq_getElem?_getD]
    cases hq : needTab[f.toNat]? with
    | none => rfl
    | some l => exact List.all_eq_true.1 hall l (List.mem_of_getElem? hq)
theorem nd_one {f : Int} (h1 : ndZ f = false) (h2 : ndF f = false) (h3 : ndO f = true) : ∃ l, needOf f = [(4, l)] := by
  have h := ndFm_all f
  unfold ndZ at h1; unfold ndF ndAt at h2; unfold ndO at h3
  generalize needOf f = L at *
  match L with
  | [] => cases h1
  | [(a, l)] =>
    simp only [List.getD_cons_zero] at h2
    unfold ieq at h2
    simp only [ndFm, ieq, h2, Bool.false_and, Bool.false_or, beq_iff_eq] at h
    subst h
    exact ⟨l, rfl⟩
  | _ :: _ :: _ => cases Nat.eq_of_beq_eq_true h3
theorem nd_two {f : Int} (h1 : ndZ f = false) (h3 : ndO f = false) : ∃ l k, needOf f = [(4, l), (9, k)] := by
  have h := ndFm_all f
  unfold ndZ at h1; unfold ndO at h3
  generalize needOf f = L at *
  match L with
  | [] => cases h1
  | [_] => cases h3
  | [(a, l), (b, k)] =>
    simp only [ndFm, Bool.and_eq_true, ieq, beq_iff_eq] at h
    obtain ⟨rfl, rfl⟩ := h
    exact ⟨l, k, rfl⟩
  | _ :: _ :: _ :: _ => cases h
theorem okN_of {h : Nat → Int} {n : Int} {m : Nat} {l : List Int} (hl : l.length ≤ 100) (hm : (getH (hdrC h) n).2 = h m) (hh : (l.isEmpty || hasW (l.map wideA) (0, ibits .and .u64 (getH (hdrC h) n).2 (ndMask n))) = true) :
    okN h n (m : Int) (ndC n (l.map wideA) .sh) = true := by
  rw [hm] at hh
  have hw : okW (l.map wideA) = true := okW_wide l (by omega)
  have e1 : (l.map wideA).isEmpty = l.isEmpty := by cases l <;> rfl
  show (ieq n n && (Nat.beq 2 2 && (decide (St.sh = St.sh) && (okW (l.map wideA) && ((l.map wideA).isEmpty || hasW (l.map wideA) (0, ibits .and .u64 (h ((m : Int)).toNat) (ndMask n))))))) = true
  rw [hw, e1, show ((m : Int)).toNat = m by omega, hh, ieq_self']
  simp
theorem sp21_ok : SpecTL Try.prog (sp21 true) := ⟨s91, s94b, s82, s96, s81, s30t, s97, s32, trivial⟩

/-! ### the loops -/
theorem okN_inv {h : Nat → Int} {n m : Int} {c : AV} (hc : okN h n m c = true) : ∃ vs, c = ndC n vs .sh ∧ okW vs = true ∧ (vs.isEmpty || hasW vs (0, ibits .and .u64 (h m.toNat) (ndMask n))) = true := by
  unfold okN at hc
  split at hc
  · rename_i k sz vs st'
    simp only [Bool.and_eq_true, decide_eq_true_eq, ieq, beq_iff_eq] at hc
    obtain ⟨rfl, h1, rfl, h3, h4⟩ := hc
    have := Nat.eq_of_beq_eq_true h1
    subst this
    exact ⟨vs, rfl, h3, h4⟩
  · cases hc
theorem isN5_inv {c : AV} (hc : isN5 c = true) : c = ndN 5 := by
  unfold isN5 at hc
  split at hc
  · rename_i k sz st'
    simp only [Bool.and_eq_true, decide_eq_true_eq, ieq, beq_iff_eq] at hc
    obtain ⟨rfl, h1, rfl⟩ := hc
    have := Nat.eq_of_beq_eq_true h1
    subst this
    rfl
  · cases hc
def m21 (x : X21) : Nat := (x.2.1.length - x.1).toNat
theorem no_miss {vs : List AV} {w : Int × Int} {b : Bool} (h : (vs.isEmpty || hasW vs w) = true) (k : ilt 0 (vs.length : Int) = true) (e : (!hasW vs w) = true) : b = true := by
  cases vs with
  | nil => simp [ilt] at k
  | cons v vs =>
    simp only [List.isEmpty_cons, Bool.false_or] at h
    rw [h] at e; cases e
theorem step21i (h : Nat → Int) (x : X21) (hp : ok21 h x = true) : Round (book.envP 21 (sp21 true) big noLoops) (loopBody Try.f21 7) (book.clean 21 7) (book.clean 21 (7 + 500)) (st21i h) pr21i (fun x => ok21 h x = true) (fun x => (F21i h x).val) m21 x := by
  obtain ⟨j, L, xs, i⟩ := x
  have hp0 := hp
  unfold ok21 at hp
  simp only at hp
  split at hp
  · have hj : j = 0 := by simpa [ieq] using hp
    subst hj
    exact r21z true h i xs _ _ _ rfl
  · rename_i c
    simp only [Bool.and_eq_true, Bool.or_eq_true] at hp
    obtain ⟨hj, hc⟩ := hp
    have on : j = 0 → OnOk (fun x => ok21 h x = true) (fun x => (F21i h x).val) m21 (j, [c], xs, i) (1, [c], xs, i) := fun e => by
      subst e
      refine ⟨?_, rfl, by show (1 - (1 : Int)).toNat < (1 - (0 : Int)).toNat; omega⟩
      show ((ieq 1 0 || ieq 1 1) && (isN5 c || okN h 4 9 c)) = true
      rw [show (isN5 c || okN h 4 9 c) = true by rw [Bool.or_eq_true]; exact hc]; rfl
    rcases hj with hj | hj
    · have hj : j = 0 := by simpa [ieq] using hj
      subst hj
      rcases hc with hc | hc
      · have := isN5_inv hc
        subst this
        exact r21n0 true h i xs _ _ _ (on rfl)
      · obtain ⟨vs, rfl, hv, hn⟩ := okN_inv hc
        refine r21o0 true h i xs vs _ _ _ (fun _ => hv) (fun k e => absurd (no_miss (b := false) hn k e) (by decide)) (fun _ _ => on rfl) (fun _ => on rfl)
    · have hj : j = 1 := by simpa [ieq] using hj
      subst hj
      rcases hc with hc | hc
      · have := isN5_inv hc
        subst this
        exact r21n1 true h i xs _ _ _ rfl
      · obtain ⟨vs, rfl, hv, hn⟩ := okN_inv hc
        exact r21o1 true h i xs vs _ _ _ rfl
  · rename_i c d
    simp only [Bool.and_eq_true, Bool.or_eq_true] at hp
    obtain ⟨hj, hc, hd⟩ := hp
    have on : ∀ k : Int, (k = 1 ∨ k = 2) → j + 1 = k → OnOk (fun x => ok21 h x = true) (fun x => (F21i h x).val) m21 (j, [c, d], xs, i) (k, [c, d], xs, i) := fun k hk e => by
      refine ⟨?_, rfl, by show (2 - k).toNat < (2 - j).toNat; omega⟩
      show ((ieq k 0 || (ieq k 1 || ieq k 2)) && (okN h 4 9 c && okN h 9 19 d)) = true
      rw [hc, hd]
      rcases hk with rfl | rfl <;> rfl
    obtain ⟨vs, rfl, hv, hn⟩ := okN_inv hc
    obtain ⟨us, rfl, hu, hn2⟩ := okN_inv hd
    rcases hj with hj | hj | hj
    · have hj : j = 0 := by simpa [ieq] using hj
      subst hj
      exact r21t0 true h i xs vs us _ _ _ (fun _ => hv) (fun k e => absurd (no_miss (b := false) hn k e) (by decide)) (fun _ _ => on 1 (.inl rfl) rfl) (fun _ => on 1 (.inl rfl) rfl)
    · have hj : j = 1 := by simpa [ieq] using hj
      subst hj
      exact r21t1 true h i xs vs us _ _ _ (fun _ => hu) (fun k e => absurd (no_miss (b := false) hn2 k e) (by decide)) (fun _ _ => on 2 (.inr rfl) rfl) (fun _ => on 2 (.inr rfl) rfl)
    · have hj : j = 2 := by simpa [ieq] using hj
      subst hj
      exact r21t2 true h i xs vs us _ _ _ rfl
  · cases hp
theorem small21 {h : Nat → Int} {x : X21} (hp : ok21 h x = true) : m21 x < big := by
  obtain ⟨j, L, xs, i⟩ := x
  unfold ok21 at hp
  simp only at hp
  unfold m21 big
  split at hp
  · have hj : j = 0 := by simpa [ieq] using hp
    subst hj
    show (0 - (0 : Int)).toNat < 18446744073709551616
    decide
  · simp only [Bool.and_eq_true, Bool.or_eq_true, ieq, beq_iff_eq] at hp
    simp only [List.length_cons, List.length_nil]
    omega
  · simp only [Bool.and_eq_true, Bool.or_eq_true, ieq, beq_iff_eq] at hp
    simp only [List.length_cons, List.length_nil]
    omega
  · cases hp
theorem lok21i (h : Nat → Int) {loops} : LoopOk (book.envP 21 (sp21 true) big loops) (loopBody Try.f21 7) (lp21i h) :=
  Book.loop_ok (loops' := noLoops) (noInner (by kernel_rfl)) (by kernel_rfl) (fun x hx => ⟨hx, small21 hx⟩) (step21i h)
theorem good21 (h : Nat → Int) : (L21 h).Good := ⟨fun _ _ _ _ e => (nomatch e), fun _ _ _ _ _ => ⟨rfl, rfl⟩, fun _ _ _ _ => rfl⟩
theorem step21 (h : Nat → Int) (x : Int × List AV) (hp : (L21 h).P x) : Round (book.envP 21 (sp21 true) big (loopsAt [(7, lp21i h)])) (loopBody Try.f21 4) (book.clean 21 4) (book.clean 21 (4 + 500)) (st21 h) pr21 (L21 h).P (fun x => ((L21 h).tr x).val) (L21 h).m x := by
  have hk := hp.ok
  obtain ⟨i, xs⟩ := x
  have hk : (okX xs && xs.all fun v => ndHas (hdrC h) (ox v).1) = true := hk
  simp only [Bool.and_eq_true] at hk
  obtain ⟨hx, hn⟩ := hk
  have on : ilt i (xs.length : Int) = true → OnOk (L21 h).P (fun x => ((L21 h).tr x).val) (L21 h).m (i, xs) (iadd .i64 i 1, xs) := fun k => hp.on (good21 h) k rfl
  have nd : ilt i (xs.length : Int) = true → ndHas (hdrC h) (ox (xs.getD i.toNat .unk)).1 = true := fun k => List.all_eq_true.1 hn _ (getD_mem (hp.lt k))
  refine r21 true h i xs _ _ _ (fun k => hp.in_ k) (fun k => okX_has hx (hp.lt k)) (fun k _ => on k) (fun k _ _ => on k) (fun k e1 e2 e3 => ?_) (fun k _ _ _ => on k) (fun k e1 e2 e3 => ?_) (fun k _ _ _ => on k) (fun k => hp.fin_ (good21 h) k)
  · have hh := nd k
    have hs := ndShort_of (ox (xs.getD i.toNat .unk)).1
    have e1 : ndZ (ox (xs.getD i.toNat .unk)).1 = false := e1
    have e2 : ndF (ox (xs.getD i.toNat .unk)).1 = false := e2
    have e3 : ndO (ox (xs.getD i.toNat .unk)).1 = true := e3
    show ok21 h (0, [ndC 4 (ndV (ox (xs.getD i.toNat .unk)).1 0) .sh], xs, i) = true
    generalize (ox (xs.getD i.toNat .unk)).1 = f at *
    obtain ⟨l, hl⟩ := nd_one e1 e2 e3
    unfold ndHas at hh
    rw [hl] at hh hs
    simp only [List.all_cons, List.all_nil, Bool.and_true, ndShort, Nat.ble_eq] at hh hs
    have := okN_of (h := h) (n := 4) (m := 9) hs rfl hh
    unfold ndV ndAt
    rw [hl]
    show ((ieq 0 0 || ieq 0 1) && (isN5 _ || okN h 4 9 (ndC 4 (l.map wideA) .sh))) = true
    rw [show okN h 4 9 (ndC 4 (l.map wideA) .sh) = true from this, Bool.or_true]; rfl
  · have hh := nd k
    have hs := ndShort_of (ox (xs.getD i.toNat .unk)).1
    have e1 : ndZ (ox (xs.getD i.toNat .unk)).1 = false := e1
    have e3 : ndO (ox (xs.getD i.toNat .unk)).1 = false := e3
    show ok21 h (0, [ndC 4 (ndV (ox (xs.getD i.toNat .unk)).1 0) .sh, ndC 9 (ndV (ox (xs.getD i.toNat .unk)).1 1) .sh], xs, i) = true
    generalize (ox (xs.getD i.toNat .unk)).1 = f at *
    obtain ⟨l, l2, hl⟩ := nd_two e1 e3
    unfold ndHas at hh
    rw [hl] at hh hs
    simp only [List.all_cons, List.all_nil, Bool.and_true, Bool.and_eq_true, ndShort, Nat.ble_eq] at hh hs
    have t1 := okN_of (h := h) (n := 4) (m := 9) hs.1 rfl hh.1
    have t2 := okN_of (h := h) (n := 9) (m := 19) hs.2 rfl hh.2
    unfold ndV ndAt
    rw [hl]
    show ((ieq 0 0 || (ieq 0 1 || ieq 0 2)) && (okN h 4 9 (ndC 4 (l.map wideA) .sh) && okN h 9 19 (ndC 9 (l2.map wideA) .sh))) = true
    rw [show okN h 4 9 (ndC 4 (l.map wideA) .sh) = true from t1, show okN h 9 19 (ndC 9 (l2.map wideA) .sh) = true from t2]; rfl
theorem lok21 (h : Nat → Int) {loops} : LoopOk (book.envP 21 (sp21 true) big loops) (loopBody Try.f21 4) (lp21 h) :=
  FL.loop (loops' := loopsAt [(7, lp21i h)]) (inner1 (d := loopBody Try.f21 7) (by kernel_rfl) rfl (lok21i h)) (by kernel_rfl) (step21 h)

theorem c21 {xs : List AV} (hx : okX xs = true) {h : Nat → Int} (hh : ∀ i, i < 48 → inU (h i) = true) : CallsA Try.prog 21 [.sl 6 xs .sh, .agg (hdrC h)] [] (.bool true) [] := by
  refine book_ok.run1 (by kernel_rfl) sp21_ok (by kernel_rfl) (lok21 h) (p21 true xs h _ (fun _ => rfl) (fun _ => hx) (fun _ _ _ => rfl) (fun _ _ _ => ?_) (fun _ _ _ _ => rfl) (fun _ e1 e2 e3 => ?_) (fun _ _ _ _ => rfl) (fun _ _ => rfl))
  · show (isCub (cub11 true xs) && true) = true
    rw [cub11_ok]; rfl
  · refine FL.pre_of (i := 0) (Nat.zero_le _) (okX_iff.1 hx).2 ?_
    show (okX xs && xs.all fun v => ndHas (hdrC h) (ox v).1) = true
    have e3 : notHas (cubL xs zero96) (hdrC h) 24 = false := by
      have e3 : (!!notHas (cub11 true xs) (hdrC h) 24) = false := e3
      rw [Bool.not_not] at e3
      exact e3
    rw [hx, needs_met hx (fun i hi => by rw [cell_hdr h hi]; exact hh i hi) e1 e2 e3]; rfl
theorem tyl_cell {k : IntKind} : ∀ {ls : List Lf} {l : List AV}, TyL ls l → (∀ x ∈ ls, x = .int k) → ∀ i, i < l.length → k.min ≤ cell l i ∧ cell l i ≤ k.max
  | [], [], _, _, i, hi => by simp at hi
  | x :: ls, a :: l, h, hk, i, hi => by
    have e := hk x (by simp)
    subst e
    obtain ⟨⟨n, rfl, hn⟩, h2⟩ := h
    cases i with
    | zero => exact hn
    | succ i => exact tyl_cell h2 (fun y hy => hk y (List.mem_cons_of_mem _ hy)) i (by simpa using hi)
  | [], _ :: _, h, _, _, _ => h.elim
  | _ :: _, [], h, _, _, _ => h.elim
theorem cMatchNeeds {xs a : List AV} (hx : ∀ x ∈ xs, TyE true [.int .i64, .bool, .int .u64, .int .u64, .int .u64, .int .u64] x) (hl : xs.length ≤ maxLen) (ha : TyL (repL 24 [.int .u64, .int .u64]) a) :
    CallsA Try.prog 21 [.sl 6 xs .sh, .agg a] [] (.bool true) [] := by
  have hh := hdr_of ha
  have hl48 : a.length = 48 := by
    have h1 := TyL.length ha
    have h3 : (repL 24 [Lf.int .u64, Lf.int .u64]).length = 48 := rfl
    omega
  have hc : ∀ i, i < 48 → inU (cell a i) = true := fun i hi => by
    have := tyl_cell (k := .u64) ha (by decide) i (by omega)
    have h1 : IntKind.u64.min = 0 := by decide
    have h2 : IntKind.u64.max = 18446744073709551615 := by decide
    rw [inU_iff]
    omega
  rw [isHdr_eq hh]
  exact c21 (tyx hx hl) (h := fun j => (a.getD j .unk).asInt) hc
end Go.Proofs.Ytdcijmigoefnjaa
