import Derived.Test.YtdcijmigoefnjaaP11j
import Derived.Test.YtdcijmigoefnjaaPlO
import Derived.Test.YtdcijmigoefnjaaP11k
import Derived.Test.YtdcijmigoefnjaaD03
import Derived.Test.YtdcijmigoefnjaaL11c
import Derived.Test.YtdcijmigoefnjaaL10b
/- Chapter 11: a match out of bytes: the loop. -/
set_option linter.unusedVariables false
set_option linter.unusedSimpArgs false
set_option maxRecDepth 100000
set_option maxHeartbeats 0
namespace Go.Proofs.Ytdcijmigoefnjaa
open Go Go.Ev

theorem s141z : SumTOk Try.prog 141 S141z := sum0_ok fun n _ => book_ok.pth (by kernel_rfl) noSpec_ok (p141 n _ rfl)
theorem sp179_ok : SpecTL Try.prog sp179 := ⟨s141z, trivial⟩
theorem okL_has {xs : List AV} (h : okL xs = true) {i : Nat} (hi : i < xs.length) : AV.has (TI.mk (TD.int IntKind.u8) 1 1 [AV.int IntKind.u8 0]) (xs.getD i AV.unk) = true := by
  obtain ⟨z, _, e⟩ := byteL_get (okL_iff.1 h).1 hi
  rw [e]; rfl
theorem good179 : L179.Good := FL.good_any (fun r => r) (fun r v => nz v) (fun _ => rfl) (fun _ _ => rfl) (fun _ _ => rfl) (.inr fun _ _ => rfl)
theorem step179 (x : Int × List AV) (h : L179.P x) : Round (book.envP 179 sp179 big noLoops) (loopBody Try.f179 2) (book.clean 179 2) (book.clean 179 (2 + 500)) st179 pr179 L179.P (fun x => (L179.tr x).val) L179.m x := by
  obtain ⟨i, xs⟩ := x
  refine r179 i xs _ _ _ (fun k => h.in_ k) (fun k => okL_has h.ok (h.lt k)) (fun k e => ?_) (fun k e => ?_) (fun k => h.fin_ good179 k)
  · refine (h.found good179 k e).trans ?_
    show (Ex.ret, stA 19 [(4, .int .i64 ((i.toNat : Nat) : Int))] []) = _
    rw [h.cast]; rfl
  · exact h.on good179 k e
theorem lok179 {loops} : LoopOk (book.envP 179 sp179 big loops) (loopBody Try.f179 2) lp179 := FL.loop (loops' := noLoops) (noInner (by kernel_rfl)) (by kernel_rfl) step179
theorem s179 : SumTOk Try.prog 179 S179 := sumW_ok fun xs h => by
  have h : okL xs = true := h
  refine book_ok.run1 (by kernel_rfl) sp179_ok (by kernel_rfl) lok179 (p179 xs _ (FL.pre_of (i := 0) (Nat.zero_le _) (okL_iff.1 h).2 h) (fun e => ?_) (fun e => ?_))
  · show _ = ((Tree.ite (nzB xs) _ _).val, _)
    rw [e]; rfl
  · show _ = ((Tree.ite (nzB xs) _ _).val, _)
    rw [e]; rfl
theorem sp139_ok : SpecTL Try.prog sp139 := ⟨s179, trivial⟩
theorem s139 : SumTOk Try.prog 139 S139 := sumW_ok fun xs h => by
  refine book_ok.pth (by kernel_rfl) sp139_ok (p139 xs _ h (fun e => ?_) (fun e => ?_)) <;> show _ = (AV.bool (nzB xs), _) <;> rw [e]

theorem sp86_ok : SpecTL Try.prog (sp86 true) := ⟨s138, S62_eq ▸ s62, s91, s140, s139, s142, trivial⟩

/-- a part out of bytes -/
theorem dec_ok {xs : List AV} (hb : byteL xs) (h : ieq (decCode xs) 0 = true) : inO (decX xs) = true ∧ inR (4 + byN xs 3) (xs.length + 1) = true ∧ 4 ≤ (4 + byN xs 3).toNat ∧ (4 + byN xs 3).toNat ≤ xs.length := by
  have h : decCode xs = 0 := by simpa [ieq] using h
  obtain ⟨h1, h2, h3, h4⟩ := enc_dec hb h
  refine ⟨?_, inR_iff.2 ⟨by omega, by omega⟩, by omega, h3⟩
  unfold inO decX valX
  simp only [inW_get, Bool.true_and]
  cases hdM xs
  · rfl
  · exact inW_get _ _
theorem decAll_fuel : ∀ (k : Nat) (ys : List AV) (n m : Nat), byteL ys → ys.length ≤ k → ys.length ≤ n → ys.length ≤ m → decAll n ys = decAll m ys
  | 0, ys, n, m, _, hk, _, _ => by
    obtain rfl : ys = [] := List.length_eq_zero_iff.1 (by omega)
    cases n <;> cases m <;> rfl
  | k + 1, ys, n, m, hb, hk, hn, hm => by
    cases ys with
    | nil => cases n <;> cases m <;> rfl
    | cons y ys =>
      simp only [List.length_cons] at hk hn hm
      obtain ⟨n, rfl⟩ : ∃ n', n = n' + 1 := ⟨n - 1, by omega⟩
      obtain ⟨m, rfl⟩ : ∃ m', m = m' + 1 := ⟨m - 1, by omega⟩
      unfold decAll
      cases hq : ieq (decCode (y :: ys)) 0 with
      | false => rfl
      | true =>
        obtain ⟨_, _, h4, h5⟩ := dec_ok hb hq
        have hd : byteL ((y :: ys).drop (4 + byN (y :: ys) 3).toNat) := fun z hz => hb z (List.mem_of_mem_drop hz)
        have hl : ((y :: ys).drop (4 + byN (y :: ys) 3).toNat).length ≤ k ∧ ((y :: ys).drop (4 + byN (y :: ys) 3).toNat).length ≤ n ∧ ((y :: ys).drop (4 + byN (y :: ys) 3).toNat).length ≤ m := by
          simp only [List.length_drop, List.length_cons] at h5 ⊢; omega
        rw [decAll_fuel k _ n m hd hl.1 hl.2.1 hl.2.2]
theorem dec_step {ys : List AV} (hb : byteL ys) (hn : ys ≠ []) (h : ieq (decCode ys) 0 = true) :
    decL ys = oxA (decX ys) :: decL (ys.drop (4 + byN ys 3).toNat) ∧ decC ys = decC (ys.drop (4 + byN ys 3).toNat) := by
  obtain ⟨_, _, h4, h5⟩ := dec_ok hb h
  have hd : byteL (ys.drop (4 + byN ys 3).toNat) := fun z hz => hb z (List.mem_of_mem_drop hz)
  obtain ⟨k, hk⟩ : ∃ k, ys.length = k + 1 := ⟨ys.length - 1, by have := List.length_pos_iff.2 hn; omega⟩
  have e : decAll ys.length ys = (oxA (decX ys) :: decL (ys.drop (4 + byN ys 3).toNat), decC (ys.drop (4 + byN ys 3).toNat)) := by
    rw [hk]
    unfold decL decC
    rw [decAll_fuel ys.length _ (ys.drop (4 + byN ys 3).toNat).length k hd (by rw [List.length_drop]; omega) (Nat.le_refl _) (by rw [List.length_drop]; omega)]
    cases ys with
    | nil => exact absurd rfl hn
    | cons y ys =>
      show (bif ieq (decCode (y :: ys)) 0 then _ else _) = _
      rw [h]; rfl
  have e1 := congrArg Prod.fst e
  have e2 := congrArg Prod.snd e
  exact ⟨e1, e2⟩
theorem dec_stop {ys : List AV} (hn : ys ≠ []) (h : ieq (decCode ys) 0 = false) : decL ys = [] ∧ decC ys = decCode ys := by
  cases ys with
  | nil => exact absurd rfl hn
  | cons y ys =>
    have e : decAll (y :: ys).length (y :: ys) = ([], decCode (y :: ys)) := by
      show (bif ieq (decCode (y :: ys)) 0 then _ else _) = _
      rw [h]; rfl
    have e1 := congrArg Prod.fst e
    have e2 := congrArg Prod.snd e
    exact ⟨e1, e2⟩
structure P86 (x : D86) : Prop where
  b : byteL x.2.1
  l : x.1.2.length + x.2.1.length ≤ 1000
  f : x.1.1 = true → x.1.2 = []
theorem pre86_ok {x : D86} (h : pre86 x = true) : P86 x := by
  simp only [pre86, Bool.and_eq_true, Nat.ble_eq] at h
  refine ⟨bytB_iff.1 h.1, h.2.1, fun e => ?_⟩
  have := h.2.2; rw [e] at this; simpa using this
theorem ilt0 {ys : List AV} : ilt 0 (ys.length : Int) = true ↔ ys ≠ [] := by
  rw [ilt_iff]; cases ys <;> simp
theorem tr86_on {fl : Bool} {cs ys xs : List AV} {n : Int} (hb : byteL ys) (hn : ys ≠ []) (h : ieq (decCode ys) 0 = true) :
    (tr86 true ((false, cs ++ [oxA (decX ys)]), ys.drop (4 + byN ys 3).toNat, xs, n)).val = (tr86 true ((fl, cs), ys, xs, n)).val := by
  obtain ⟨e1, e2⟩ := dec_step hb hn h
  simp only [tr86, fl2, ac2, lockL, e1, e2, Tree.val, List.isEmpty_cons, Bool.and_false, Bool.false_and, cond_false, cond_true, List.append_assoc, List.singleton_append]
theorem tr86_stop {fl : Bool} {cs ys xs : List AV} {n : Int} (hf : fl = true → cs = []) (hn : ys ≠ []) (h : ieq (decCode ys) 0 = false) :
    (tr86 true ((fl, cs), ys, xs, n)).val = out86 (fl, cs) xs n (decCode ys) := by
  obtain ⟨e1, e2⟩ := dec_stop hn h
  cases fl
  · simp only [tr86, fl2, ac2, lockL, e1, e2, h, Tree.val, Bool.false_and, cond_false, cond_true, List.append_nil]
  · obtain rfl := hf rfl
    simp only [tr86, fl2, ac2, lockL, e1, e2, h, Tree.val, Bool.true_and, List.isEmpty_nil, cond_false, cond_true]
theorem tr86_fin {fl : Bool} {cs xs : List AV} {n : Int} (hf : fl = true → cs = []) :
    (tr86 true ((fl, cs), [], xs, n)).val = fin86 (fl, cs) xs n := by
  have e1 : decL [] = [] := rfl
  have e2 : ieq (decC []) 0 = true := rfl
  cases fl
  · simp only [tr86, fl2, ac2, lockL, e1, e2, Tree.val, Bool.false_and, cond_false, cond_true, List.append_nil]
  · obtain rfl := hf rfl
    simp only [tr86, fl2, ac2, lockL, e1, e2, Tree.val, Bool.true_and, List.isEmpty_nil, cond_false, cond_true]
theorem step86 (x : D86) (h : P86 x) : Round (book.envP 86 (sp86 true) big noLoops) (loopBody Try.f86 6) (book.clean 86 6) (book.clean 86 (6 + 500)) st86 pr86 P86 (fun x => (tr86 true x).val) (fun x => x.2.1.length) x := by
  obtain ⟨⟨fl, cs⟩, ys, xs, n⟩ := x
  obtain ⟨hb, hl, hf⟩ := h
  have hb : byteL ys := hb
  have hl : cs.length + ys.length ≤ 1000 := hl
  have hf : fl = true → cs = [] := hf
  have q0 : ilt 0 (ys.length : Int) = true → (bytB ys && lenB ys) = true := fun _ => by rw [bytB_iff.2 hb, lenB_small (by omega)]; rfl
  have on : ilt 0 (ys.length : Int) = true → ieq (decCode ys) 0 = true → OnOk P86 (fun x => (tr86 true x).val) (fun x => x.2.1.length) ((fl, cs), ys, xs, n) ((false, cs ++ [oxA (decX ys)]), ys.drop (4 + byN ys 3).toNat, xs, n) := fun k e => by
    obtain ⟨_, _, h4, h5⟩ := dec_ok hb e
    refine ⟨⟨fun z hz => hb z (List.mem_of_mem_drop hz), ?_, fun e => by cases e⟩, tr86_on hb (ilt0.1 k) e, ?_⟩
    · show (cs ++ [oxA (decX ys)]).length + (ys.drop (4 + byN ys 3).toNat).length ≤ 1000
      rw [List.length_append, List.length_drop]; simp only [List.length_singleton]; omega
    · show (ys.drop (4 + byN ys 3).toNat).length < ys.length
      rw [List.length_drop]; omega
  have st : ilt 0 (ys.length : Int) = true → ieq (decCode ys) 0 = false → (tr86 true ((fl, cs), ys, xs, n)).val = out86 (fl, cs) xs n (decCode ys) := fun k e => tr86_stop hf (ilt0.1 k) e
  have fi : ilt 0 (ys.length : Int) = false → (tr86 true ((fl, cs), ys, xs, n)).val = fin86 (fl, cs) xs n := fun k => by
    obtain rfl : ys = [] := by
      cases ys with
      | nil => rfl
      | cons y ys => rw [ilt_no] at k; simp only [List.length_cons] at k; omega
    exact tr86_fin hf
  cases fl
  · exact r86f true cs ys xs n _ _ _ q0 (fun k e => by
      exact bleB' (by omega)) (fun k e => bleB' (by omega)) (fun k e => (dec_ok hb e).2.1) on st fi
  · obtain rfl := hf rfl
    exact r86t true ys xs n _ _ _ q0 (fun k e => (dec_ok hb e).2.1) on st fi
theorem lok86 {loops} : LoopOk (book.envP 86 (sp86 true) big loops) (loopBody Try.f86 6) (lp86 true) :=
  Book.loop_ok (loops' := noLoops) (noInner (by kernel_rfl)) (by kernel_rfl) (fun x hx => ⟨pre86_ok hx, by
    have := (pre86_ok hx).l
    unfold big; omega⟩) step86
end Go.Proofs.Ytdcijmigoefnjaa

/- Chapter 11: a match out of bytes: Decode. -/
set_option linter.unusedVariables false
set_option linter.unusedSimpArgs false
set_option maxRecDepth 100000
set_option maxHeartbeats 0
namespace Go.Proofs.Ytdcijmigoefnjaa
open Go Go.Ev

theorem hd_facts {xs : List AV} (h : ieq (hdC xs) (-1) = true) : 4 ≤ nv xs 2 2 ∧ nv xs 2 2 ≤ 1004 ∧ padI (nv xs 2 2) ≤ xs.length ∧ nv xs 0 2 = 1 := by
  unfold hdC at h
  cases h1 : ilt (xs.length : Int) 4 <;> rw [h1] at h
  · cases h2 : ilt (nv xs 2 2) 4 <;> rw [h2] at h
    · cases h3 : ilt (xs.length : Int) (padI (nv xs 2 2)) <;> rw [h3] at h
      · cases h4 : ieq (nv xs 0 2) 1 <;> rw [h4] at h
        · cases h
        · cases h5 : ilt 1004 (nv xs 2 2) <;> rw [h5] at h
          · rw [ilt_no] at h2 h3 h5
            simp only [ieq, beq_iff_eq] at h4
            exact ⟨by omega, by omega, by omega, h4⟩
          · cases h
      · cases h
    · cases h
  · cases h
theorem decAll_cons (n : Nat) (y : AV) (ys : List AV) : decAll (n + 1) (y :: ys) = bif ieq (decCode (y :: ys)) 0 then (oxA (decX (y :: ys)) :: (decAll n ((y :: ys).drop (4 + byN (y :: ys) 3).toNat)).1, (decAll n ((y :: ys).drop (4 + byN (y :: ys) 3).toNat)).2) else ([], decCode (y :: ys)) := rfl
/-- the parts are parts -/
theorem decAll_ox : ∀ (n : Nat) (ys : List AV), byteL ys → (decAll n ys).1.all isOx = true ∧ (decAll n ys).1.length ≤ ys.length
  | 0, ys, _ => ⟨rfl, Nat.zero_le _⟩
  | n + 1, [], _ => ⟨rfl, Nat.zero_le _⟩
  | n + 1, y :: ys, hb => by
    rw [decAll_cons]
    cases hq : ieq (decCode (y :: ys)) 0 with
    | false => exact ⟨rfl, Nat.zero_le _⟩
    | true =>
      obtain ⟨hi, _, h4, h5⟩ := dec_ok hb hq
      have hd : byteL ((y :: ys).drop (4 + byN (y :: ys) 3).toNat) := fun z hz => hb z (List.mem_of_mem_drop hz)
      obtain ⟨a, b⟩ := decAll_ox n _ hd
      have ho : isOx (oxA (decX (y :: ys))) = true := by
        have hy : ((inU (decX (y :: ys)).2.2.1.1 && inU (decX (y :: ys)).2.2.1.2) && (inU (decX (y :: ys)).2.2.2.1 && inU (decX (y :: ys)).2.2.2.2)) = true := hi
        show (inU (decX (y :: ys)).2.2.1.1 && (inU (decX (y :: ys)).2.2.1.2 && (inU (decX (y :: ys)).2.2.2.1 && inU (decX (y :: ys)).2.2.2.2))) = true
        simp only [Bool.and_eq_true] at hy ⊢
        exact ⟨hy.1.1, hy.1.2, hy.2.1, hy.2.2⟩
      refine ⟨?_, ?_⟩
      · show (oxA (decX (y :: ys)) :: (decAll n _).1).all isOx = true
        rw [List.all_cons, ho, a]; rfl
      · show (oxA (decX (y :: ys)) :: (decAll n _).1).length ≤ _
        rw [List.length_drop] at b
        simp only [List.length_cons] at b h5 ⊢; omega
theorem decL_ok {ys : List AV} (hb : byteL ys) (hl : ys.length ≤ 1000000) : okX (decL ys) = true := by
  obtain ⟨a, b⟩ := decAll_ox ys.length ys hb
  exact okX_iff.2 ⟨a, by show (decAll ys.length ys).1.length ≤ _; omega⟩
theorem bdL_ok {xs : List AV} (h : byteL xs) (h1 : nv xs 2 2 ≤ 1004) : byteL (bdL xs) ∧ (bdL xs).length ≤ 1000 :=
  ⟨fun y hy => h y (List.mem_of_mem_drop (List.mem_of_mem_take hy)), by unfold bdL; rw [List.length_take]; omega⟩
theorem pdL_ok {xs : List AV} (h : okL xs = true) : okL (pdL xs) = true := by
  obtain ⟨a, b⟩ := okL_iff.1 h
  refine okL_iff.2 ⟨fun y hy => a y (List.mem_of_mem_drop (List.mem_of_mem_take hy)), ?_⟩
  unfold pdL; rw [List.length_take, List.length_drop]; omega
theorem chk_nil : ieq (chk11 []) 0 = true := by kernel_rfl
theorem emp_nil {xs : List AV} (h : xs.isEmpty = true) : xs = [] := by simpa using h

section
variable {e : AV} {xs : List AV}
theorem dt_bad {c : Int} (h : okD xs = false) (hc : cdD xs = c) : (AV.tup [AV.sl 0 [] St.nil, AV.int IntKind.i64 0, AV.agg [AV.bool true, AV.int IntKind.i64 4, AV.int IntKind.i64 c]], ([] : List (List AV))) = ((decT11 e true xs).val, []) := by
  unfold decT11; simp only [Tree.val, h, cond_false, hc]; rfl
theorem dt_empty (h : okD xs = true) (he : (decL (bdL xs)).isEmpty = true) : (AV.tup [e, AV.int IntKind.i64 (padI (nv xs 2 2)), AV.agg [AV.bool false, AV.int IntKind.i64 0, AV.int IntKind.i64 0]], ([] : List (List AV))) = ((decT11 e true xs).val, []) := by
  unfold decT11; simp only [Tree.val, h, he, cond_true]; rfl
theorem dt_full (h : okD xs = true) (he : (decL (bdL xs)).isEmpty = false) : (AV.tup [AV.sl 6 (decL (bdL xs)) .sh, AV.int IntKind.i64 (padI (nv xs 2 2)), AV.agg [AV.bool false, AV.int IntKind.i64 0, AV.int IntKind.i64 0]], ([] : List (List AV))) = ((decT11 e true xs).val, []) := by
  unfold decT11; simp only [Tree.val, h, he, cond_true, cond_false]; rfl
theorem d1 (h1 : ieq (hdC xs) (-1) = false) : okD xs = false ∧ cdD xs = hdC xs := by
  unfold okD cdD; rw [h1]; exact ⟨rfl, rfl⟩
theorem d2 (h1 : ieq (hdC xs) (-1) = true) (h2 : ieq (decC (bdL xs)) 0 = false) : okD xs = false ∧ cdD xs = decC (bdL xs) := by
  unfold okD cdD; rw [h1, h2]; exact ⟨rfl, rfl⟩
theorem d3 (h1 : ieq (hdC xs) (-1) = true) (h2 : ieq (decC (bdL xs)) 0 = true) (h3 : ieq (chk11 (decL (bdL xs))) 0 = false) : okD xs = false ∧ cdD xs = chk11 (decL (bdL xs)) := by
  unfold okD cdD; rw [h1, h2, h3]; exact ⟨rfl, rfl⟩
theorem d4 (h1 : ieq (hdC xs) (-1) = true) (h2 : ieq (decC (bdL xs)) 0 = true) (h3 : ieq (chk11 (decL (bdL xs))) 0 = true) (h4 : nzB (pdL xs) = true) : okD xs = false ∧ cdD xs = 1 := by
  unfold okD cdD; rw [h1, h2, h3, h4]; exact ⟨rfl, rfl⟩
theorem d5 (h1 : ieq (hdC xs) (-1) = true) (h2 : ieq (decC (bdL xs)) 0 = true) (h3 : ieq (chk11 (decL (bdL xs))) 0 = true) (h4 : nzB (pdL xs) = false) : okD xs = true := by
  unfold okD; rw [h1, h2, h3, h4]; rfl
end
theorem s86 : SumTOk Try.prog 86 (S86 (.sl 0 [] .nil) true) := sumW_ok fun xs h => by
  have h : okL xs = true := h
  obtain ⟨hb, hl⟩ := okL_iff.1 h
  have i1 : ieq (hdC xs) (-1) = true → inR (nv xs 2 2) (xs.length + 1) = true := fun k => by
    obtain ⟨a, b, c, _⟩ := hd_facts k
    have p := padI_ge (n := nv xs 2 2) (by omega)
    exact inR_iff.2 ⟨by omega, by omega⟩
  have i2 : ieq (hdC xs) (-1) = true → inR 4 ((nv xs 2 2).toNat + 1) = true := fun k => by
    obtain ⟨a, b, c, _⟩ := hd_facts k
    exact inR_iff.2 ⟨by omega, by omega⟩
  have i3 : ieq (hdC xs) (-1) = true → pre86 ((true, []), bdL xs, xs, nv xs 2 2) = true := fun k => by
    obtain ⟨a, b, c, _⟩ := hd_facts k
    obtain ⟨x1, x2⟩ := bdL_ok hb b
    show (bytB (bdL xs) && (Nat.ble (0 + (bdL xs).length) 1000 && true)) = true
    rw [bytB_iff.2 x1, Bool.and_true, Bool.true_and, Nat.ble_eq]; omega
  have i4 : ieq (hdC xs) (-1) = true → (true && ile (nv xs 2 2) 1000000) = true := fun k => by
    obtain ⟨a, b, c, _⟩ := hd_facts k
    rw [Bool.true_and]; exact ile_iff'.2 (by omega)
  have i5 : ieq (hdC xs) (-1) = true → inR (padI (nv xs 2 2)) (xs.length + 1) = true := fun k => by
    obtain ⟨a, b, c, _⟩ := hd_facts k
    have p := padI_ge (n := nv xs 2 2) (by omega)
    exact inR_iff.2 ⟨by omega, by omega⟩
  have i6 : ieq (hdC xs) (-1) = true → inR (nv xs 2 2) ((padI (nv xs 2 2)).toNat + 1) = true := fun k => by
    obtain ⟨a, b, c, _⟩ := hd_facts k
    have p := padI_ge (n := nv xs 2 2) (by omega)
    exact inR_iff.2 ⟨by omega, by omega⟩
  have io : ieq (hdC xs) (-1) = true → okX (decL (bdL xs)) = true := fun k => by
    obtain ⟨a, b, c, _⟩ := hd_facts k
    obtain ⟨x1, x2⟩ := bdL_ok hb b
    exact decL_ok x1 (by omega)
  have ce : (decL (bdL xs)).isEmpty = true → ieq (chk11 (decL (bdL xs))) 0 = true := fun e => by rw [emp_nil e]; exact chk_nil
  exact book_ok.run1 (by kernel_rfl) sp86_ok (by kernel_rfl) lok86 (p86 true xs _ h i1 i2 i3 (fun k _ _ => i4 k) (fun k _ _ => i5 k) (fun k _ _ => i6 k) (fun _ _ _ => pdL_ok h)
    (fun k k2 k3 k4 => dt_bad (d4 k k2 (ce k3) k4).1 (d4 k k2 (ce k3) k4).2) (fun k k2 k3 k4 => dt_empty (d5 k k2 (ce k3) k4) k3)
    (fun k _ _ => io k) (fun k _ _ _ => i4 k) (fun k _ _ _ => i5 k) (fun k _ _ _ => i6 k) (fun _ _ _ _ => pdL_ok h)
    (fun k k2 k3 kc k4 => dt_bad (d4 k k2 kc k4).1 (d4 k k2 kc k4).2) (fun k k2 k3 kc k4 => dt_full (d5 k k2 kc k4) k3) (fun k k2 k3 kc => dt_bad (d3 k k2 kc).1 (d3 k k2 kc).2)
    (fun k k2 _ => dt_bad (d2 k k2).1 (d2 k k2).2) (fun k k2 _ => dt_bad (d2 k k2).1 (d2 k k2).2) (fun k => dt_bad (d1 k).1 (d1 k).2))
end Go.Proofs.Ytdcijmigoefnjaa

/- Chapter 11: a match out of bytes: the reference's Decode. -/
set_option linter.unusedVariables false
set_option linter.unusedSimpArgs false
set_option maxRecDepth 100000
set_option maxHeartbeats 0
namespace Go.Proofs.Ytdcijmigoefnjaa
open Go Go.Ev

theorem sp87_ok : SpecTL Try.prog (sp87 true) := ⟨S62_eq ▸ s63, s92, s143, trivial⟩
structure P87 (x : D87) : Prop where
  b : byteL x.2.2.1
  i0 : 0 ≤ x.2.1
  i1 : x.2.1 ≤ x.2.2.2.1
  n1 : x.2.2.2.1 ≤ 1004
  n2 : x.2.2.2.1 ≤ x.2.2.1.length
  l : x.1.2.length ≤ x.2.1.toNat
  f : x.1.1 = true → x.1.2 = []
theorem pre87_ok {x : D87} (h : pre87 x = true) : P87 x := by
  simp only [pre87, Bool.and_eq_true, Nat.ble_eq, ile_iff'] at h
  refine ⟨bytB_iff.1 h.1, h.2.1.1, h.2.1.2.1, h.2.1.2.2.1, h.2.1.2.2.2, h.2.2.1, fun e => ?_⟩
  have := h.2.2.2; rw [e] at this; simpa using this
theorem tr87_on {fl : Bool} {cs xs : List AV} {i n t : Int} (hb : byteL (ys87 ((fl, cs), i, xs, n, t))) (hn : ys87 ((fl, cs), i, xs, n, t) ≠ []) (h : ieq (decCode (ys87 ((fl, cs), i, xs, n, t))) 0 = true) {i' : Int}
    (hy : ys87 ((false, cs ++ [oxA (decX (ys87 ((fl, cs), i, xs, n, t)))]), i', xs, n, t) = (ys87 ((fl, cs), i, xs, n, t)).drop (4 + byN (ys87 ((fl, cs), i, xs, n, t)) 3).toNat) :
    (tr87 true ((false, cs ++ [oxA (decX (ys87 ((fl, cs), i, xs, n, t)))]), i', xs, n, t)).val = (tr87 true ((fl, cs), i, xs, n, t)).val := by
  obtain ⟨e1, e2⟩ := dec_step hb hn h
  unfold tr87 fl3 ac3 lockL
  rw [hy]
  simp only [e1, e2, Tree.val, List.isEmpty_cons, Bool.and_false, Bool.false_and, cond_false, cond_true, List.append_assoc, List.singleton_append]
theorem tr87_stop {fl : Bool} {cs xs : List AV} {i n t : Int} (hf : fl = true → cs = []) (hn : ys87 ((fl, cs), i, xs, n, t) ≠ []) (h : ieq (decCode (ys87 ((fl, cs), i, xs, n, t))) 0 = false) :
    (tr87 true ((fl, cs), i, xs, n, t)).val = out87 (fl, cs) xs n t (decCode (ys87 ((fl, cs), i, xs, n, t))) := by
  obtain ⟨e1, e2⟩ := dec_stop hn h
  cases fl
  · simp only [tr87, fl3, ac3, lockL, e1, e2, h, Tree.val, Bool.false_and, cond_false, cond_true, List.append_nil]
  · obtain rfl := hf rfl
    simp only [tr87, fl3, ac3, lockL, e1, e2, h, Tree.val, Bool.true_and, List.isEmpty_nil, cond_false, cond_true]
theorem tr87_fin {fl : Bool} {cs xs : List AV} {i n t : Int} (hf : fl = true → cs = []) (hn : ys87 ((fl, cs), i, xs, n, t) = []) :
    (tr87 true ((fl, cs), i, xs, n, t)).val = fin87 (fl, cs) xs n t := by
  have e1 : decL [] = [] := rfl
  have e2 : ieq (decC []) 0 = true := rfl
  cases fl
  · simp only [tr87, fl3, ac3, lockL, hn, e1, e2, Tree.val, Bool.false_and, cond_false, cond_true, List.append_nil]
  · obtain rfl := hf rfl
    simp only [tr87, fl3, ac3, lockL, hn, e1, e2, Tree.val, Bool.true_and, List.isEmpty_nil, cond_false, cond_true]
theorem step87 (x : D87) (h : P87 x) : Round (book.envP 87 (sp87 true) big noLoops) (loopBody Try.f87 13) (book.clean 87 13) (book.clean 87 (13 + 500)) st87 pr87 P87 (fun x => (tr87 true x).val) (fun x => (x.2.2.2.1 - x.2.1).toNat) x := by
  obtain ⟨⟨fl, cs⟩, i, xs, n, t⟩ := x
  obtain ⟨hb, i0, i1, n1, n2, hl, hf⟩ := h
  simp only at hb i0 i1 n1 n2 hl hf
  have yb : byteL (ys87 ((fl, cs), i, xs, n, t)) := fun z hz => hb z (List.mem_of_mem_drop (List.mem_of_mem_take hz))
  have yl : (ys87 ((fl, cs), i, xs, n, t)).length = n.toNat - i.toNat := by
    show (List.take (n.toNat - i.toNat) (List.drop i.toNat xs)).length = _
    rw [List.length_take, List.length_drop]; omega
  have q0 : ilt i n = true → inR n (xs.length + 1) = true := fun k => inR_iff.2 ⟨by omega, by omega⟩
  have q1 : ilt i n = true → inR i (n.toNat + 1) = true := fun k => inR_iff.2 ⟨by omega, by omega⟩
  have q2 : ilt i n = true → (bytB (ys87 ((fl, cs), i, xs, n, t)) && lenB (ys87 ((fl, cs), i, xs, n, t))) = true := fun _ => by rw [bytB_iff.2 yb, lenB_small (by omega)]; rfl
  have ne : ilt i n = true → ys87 ((fl, cs), i, xs, n, t) ≠ [] := fun k e => by
    rw [ilt_iff] at k; rw [e] at yl; simp only [List.length_nil] at yl; omega
  have on : ilt i n = true → ieq (decCode (ys87 ((fl, cs), i, xs, n, t))) 0 = true → OnOk P87 (fun x => (tr87 true x).val) (fun x => (x.2.2.2.1 - x.2.1).toNat) ((fl, cs), i, xs, n, t) ((false, cs ++ [oxA (decX (ys87 ((fl, cs), i, xs, n, t)))]), iadd .i64 i (4 + byN (ys87 ((fl, cs), i, xs, n, t)) 3), xs, n, t) := fun k e => by
    obtain ⟨_, h3, h4, h5⟩ := dec_ok yb e
    rw [yl] at h5
    rw [ilt_iff] at k
    have ei : iadd .i64 i (4 + byN (ys87 ((fl, cs), i, xs, n, t)) 3) = i + (4 + byN (ys87 ((fl, cs), i, xs, n, t)) 3) := by unfold iadd; rw [IntKind.wrap_i64]; omega
    rw [ei]
    refine ⟨⟨hb, by simp only; omega, by simp only; omega, n1, n2, ?_, fun e => by cases e⟩, tr87_on yb (ne (ilt_iff.2 k)) e ?_, ?_⟩
    · show (cs ++ [oxA (decX (ys87 ((fl, cs), i, xs, n, t)))]).length ≤ (i + (4 + byN (ys87 ((fl, cs), i, xs, n, t)) 3)).toNat
      rw [List.length_append]; simp only [List.length_singleton]; omega
    · show List.take (n.toNat - (i + (4 + byN (ys87 ((fl, cs), i, xs, n, t)) 3)).toNat) (List.drop (i + (4 + byN (ys87 ((fl, cs), i, xs, n, t)) 3)).toNat xs) = (List.take (n.toNat - i.toNat) (List.drop i.toNat xs)).drop (4 + byN (ys87 ((fl, cs), i, xs, n, t)) 3).toNat
      rw [List.drop_take, List.drop_drop]
      congr 1
      · omega
      · congr 1; omega
    · show (n - (i + (4 + byN (ys87 ((fl, cs), i, xs, n, t)) 3))).toNat < (n - i).toNat
      omega
  have st : ilt i n = true → ieq (decCode (ys87 ((fl, cs), i, xs, n, t))) 0 = false → (tr87 true ((fl, cs), i, xs, n, t)).val = out87 (fl, cs) xs n t (decCode (ys87 ((fl, cs), i, xs, n, t))) := fun k e => tr87_stop hf (ne k) e
  have fi : ilt i n = false → (tr87 true ((fl, cs), i, xs, n, t)).val = fin87 (fl, cs) xs n t := fun k => by
    rw [ilt_no] at k
    exact tr87_fin hf (List.length_eq_zero_iff.1 (by rw [yl]; omega))
  cases fl
  · exact r87f true cs i xs n t _ _ _ q0 q1 q2 (fun k e => bleB' (by omega)) (fun k e => bleB' (by omega)) on st fi
  · obtain rfl := hf rfl
    exact r87t true i xs n t _ _ _ q0 q1 q2 on st fi
theorem lok87 {loops} : LoopOk (book.envP 87 (sp87 true) big loops) (loopBody Try.f87 13) (lp87 true) :=
  Book.loop_ok (loops' := noLoops) (noInner (by kernel_rfl)) (by kernel_rfl) (fun x hx => ⟨pre87_ok hx, by
    have h := pre87_ok hx
    have := h.n1; have := h.i0
    unfold big; omega⟩) step87

structure P87b (x : E87) : Prop where
  o : okL x.2.1 = true
  i0 : 0 ≤ x.1
  i1 : x.1 ≤ x.2.2.1
  t1 : x.2.2.1 ≤ x.2.1.length
  f : x.2.2.2.1 = true → x.2.2.2.2 = []
theorem pre87b_ok {x : E87} (h : pre87b x = true) : P87b x := by
  simp only [pre87b, Bool.and_eq_true, ile_iff'] at h
  refine ⟨h.1, h.2.1, h.2.2.1, h.2.2.2.1, fun e => ?_⟩
  have := h.2.2.2.2; rw [e] at this; simpa using this
theorem step87b (x : E87) (h : P87b x) : Round (book.envP 87 (sp87 true) big noLoops) (loopBody Try.f87 23) (book.clean 87 23) (book.clean 87 (23 + 500)) st87b pr87b P87b (fun x => (tr87b x).val) (fun x => (x.2.2.1 - x.1).toNat) x := by
  obtain ⟨i, xs, t, fl, cs⟩ := x
  obtain ⟨ho, i0, i1, t1, hf⟩ := h
  simp only at ho i0 i1 t1 hf
  have hl := (okL_iff.1 ho).2
  have q0 : ilt i t = true → inR i xs.length = true := fun k => by rw [ilt_iff] at k; exact inR_iff.2 ⟨by omega, by omega⟩
  have q1 : ilt i t = true → AV.has (TI.mk (TD.int IntKind.u8) 1 1 [AV.int IntKind.u8 0]) (xs.getD i.toNat AV.unk) = true := fun k => okL_has ho (by rw [ilt_iff] at k; omega)
  have cons : ilt i t = true → pd87 (i, xs, t, fl, cs) = xs.getD i.toNat .unk :: pd87 (iadd .i64 i 1, xs, t, fl, cs) := fun k => by
    rw [ilt_iff] at k
    have ei : iadd .i64 i 1 = i + 1 := by unfold iadd; rw [IntKind.wrap_i64]; omega
    rw [ei]
    show List.take (t.toNat - i.toNat) (List.drop i.toNat xs) = xs.getD i.toNat .unk :: List.take (t.toNat - (i + 1).toNat) (List.drop (i + 1).toNat xs)
    rw [getD_drop (by omega), show t.toNat - i.toNat = (t.toNat - (i + 1).toNat) + 1 by omega, List.take_succ_cons, show i.toNat + 1 = (i + 1).toNat by omega]
  have st : ilt i t = true → (!ieq (xs.getD i.toNat AV.unk).asInt 0) = true → (tr87b (i, xs, t, fl, cs)).val = out87b (fl, cs) t := fun k e => by
    have hz : nzB (pd87 (i, xs, t, fl, cs)) = true := by rw [cons k]; unfold nzB; rw [List.any_cons, e]; rfl
    unfold tr87b; simp only [Tree.val, hz, cond_true]
  have on : ilt i t = true → (!ieq (xs.getD i.toNat AV.unk).asInt 0) = false → OnOk P87b (fun x => (tr87b x).val) (fun x => (x.2.2.1 - x.1).toNat) (i, xs, t, fl, cs) (iadd .i64 i 1, xs, t, fl, cs) := fun k e => by
    have hz : nzB (pd87 (i, xs, t, fl, cs)) = nzB (pd87 (iadd .i64 i 1, xs, t, fl, cs)) := by rw [cons k]; unfold nzB; rw [List.any_cons, e]; rfl
    rw [ilt_iff] at k
    have ei : iadd .i64 i 1 = i + 1 := by unfold iadd; rw [IntKind.wrap_i64]; omega
    refine ⟨⟨ho, by rw [ei]; simp only; omega, by rw [ei]; simp only; omega, t1, hf⟩, ?_, ?_⟩
    · unfold tr87b; simp only [Tree.val, hz]
    · rw [ei]; show (t - (i + 1)).toNat < (t - i).toNat; omega
  have fi : ilt i t = false → (tr87b (i, xs, t, fl, cs)).val = fin87b (fl, cs) t := fun k => by
    rw [ilt_no] at k
    have hz : nzB (pd87 (i, xs, t, fl, cs)) = false := by
      show nzB (List.take (t.toNat - i.toNat) (List.drop i.toNat xs)) = false
      rw [show t.toNat - i.toNat = 0 by omega]; rfl
    unfold tr87b; simp only [Tree.val, hz, cond_false]
  cases fl
  · exact r87bf true i xs t cs _ _ _ q0 q1 st on fi
  · obtain rfl := hf rfl
    exact r87bt true i xs t _ _ _ q0 q1 st on fi
theorem lok87b {loops} : LoopOk (book.envP 87 (sp87 true) big loops) (loopBody Try.f87 23) lp87b :=
  Book.loop_ok (loops' := noLoops) (noInner (by kernel_rfl)) (by kernel_rfl) (fun x hx => ⟨pre87b_ok hx, by
    have h := pre87b_ok hx
    have := h.t1; have := h.i0; have := (okL_iff.1 h.o).2
    unfold big; omega⟩) step87b
end Go.Proofs.Ytdcijmigoefnjaa

/- Chapter 11: a match out of bytes: the reference's Decode, whole. -/
set_option linter.unusedVariables false
set_option linter.unusedSimpArgs false
set_option maxRecDepth 100000
set_option maxHeartbeats 0
namespace Go.Proofs.Ytdcijmigoefnjaa
open Go Go.Ev

theorem nv_two {xs : List AV} (hb : byteL xs) {o : Nat} (h : o + 1 < xs.length) : ∃ a b : Nat, a < 256 ∧ b < 256 ∧ xs.getD o .unk = .int .u8 (a : Int) ∧ xs.getD (o + 1) .unk = .int .u8 (b : Int) ∧ nv xs o 2 = ((a * 256 + b : Nat) : Int) := by
  obtain ⟨a, a1, a2, a3⟩ := drop_byte hb (o := o) (by omega)
  obtain ⟨b, b1, b2, b3⟩ := drop_byte hb (o := o + 1) (by omega)
  refine ⟨a, b, a1, b1, a3, b3, ?_⟩
  unfold nv; rw [a2, b2]; simp [valB, AV.asInt]
theorem et87 {n : Int} (h0 : 0 ≤ n) (h1 : n < 65536) : imul IntKind.i64 (iquo IntKind.i64 (iadd IntKind.i64 n 7) 8) 8 = padI n := by
  have a1 : iadd .i64 n 7 = n + 7 := by unfold iadd; rw [IntKind.wrap_i64]; omega
  have a2 : iquo .i64 (n + 7) 8 = (n + 7) / 8 := by
    unfold iquo; rw [Int.tdiv_eq_ediv_of_nonneg (by omega), IntKind.wrap_i64]; omega
  rw [a1, a2]
  unfold padI imul
  rw [IntKind.wrap_i64]; omega
theorem en87 {xs : List AV} (hb : byteL xs) (h : 4 ≤ xs.length) : iadd IntKind.i64 (imul IntKind.i64 (IntKind.i64.wrap (xs.getD 2 AV.unk).asInt) 256) (IntKind.i64.wrap (xs.getD 3 AV.unk).asInt) = nv xs 2 2 := by
  obtain ⟨z2, z3, l2, l3, g2, g3, e2⟩ := nv_two hb (o := 2) (by omega)
  have g3 : xs.getD 3 .unk = .int .u8 (z3 : Int) := g3
  rw [g2, g3, e2]
  show iadd IntKind.i64 (imul IntKind.i64 (IntKind.i64.wrap (z2 : Int)) 256) (IntKind.i64.wrap (z3 : Int)) = _
  rw [wrapI l2, add8 z2 z3 (by omega) l3]
theorem s87 : SumTOk Try.prog 87 (S86 (.sl 6 [] .full) true) := sumW_ok fun xs h => by
  have h : okL xs = true := h
  obtain ⟨hb, hl⟩ := okL_iff.1 h
  have p := p87 true xs ((decT11 (.sl 6 [] .full) true xs).val, [])
  have bad : ∀ c : Int, hdC xs = c → ieq c (-1) = false → (AV.tup [AV.sl 0 [] St.nil, AV.int IntKind.i64 0, AV.agg [AV.bool true, AV.int IntKind.i64 4, AV.int IntKind.i64 c]], ([] : List (List AV))) = ((decT11 (.sl 6 [] .full) true xs).val, []) := fun c e n => by
    have k : ieq (hdC xs) (-1) = false := by rw [e]; exact n
    exact dt_bad (d1 k).1 ((d1 k).2.trans e)
  refine run2e book_ok (by kernel_rfl) sp87_ok (by kernel_rfl) lok87 lok87b (p ?_ ?_ ?_ ?_ ?_ ?_ ?_ ?_ ?_ ?_ ?_ ?_ ?_ ?_ ?_ ?_ ?_ ?_ ?_ ?_ ?_ ?_ ?_ ?_ ?_)
  · intro k
    exact bad 1 (by unfold hdC; rw [k]; rfl) rfl
  all_goals
    intro k
    have k' := k
    rw [ilt_no] at k'
    obtain ⟨z0, z1, l0, l1, g0, g1, e0⟩ := nv_two hb (o := 0) (by omega)
    obtain ⟨z2, z3, l2, l3, g2, g3, e2⟩ := nv_two hb (o := 2) (by omega)
    have g1 : xs.getD 1 .unk = .int .u8 (z1 : Int) := g1
    have g3 : xs.getD 3 .unk = .int .u8 (z3 : Int) := g3
    have en := en87 hb (show 4 ≤ xs.length by omega)
    have nr : 0 ≤ nv xs 2 2 ∧ nv xs 2 2 < 65536 := nv2_lt hb
    have et := et87 nr.1 nr.2
    try rw [en]
    try rw [et]
  · exact inR_iff.2 ⟨by omega, by omega⟩
  · rw [g2]; rfl
  · exact inR_iff.2 ⟨by omega, by omega⟩
  · rw [g3]; rfl
  · intro k2; exact bad 1 (by unfold hdC; rw [k, k2]; rfl) rfl
  · intro k2 k3; exact bad 1 (by unfold hdC; rw [k, k2, k3]; rfl) rfl
  · intro k2 k3; exact inR_iff.2 ⟨by omega, by omega⟩
  · intro k2 k3; rw [g0]; rfl
  · intro k2 k3 k4
    refine bad 0 ?_ rfl
    have : ieq (nv xs 0 2) 1 = false := by
      rw [g0] at k4
      simp only [AV.asInt, ieq, Bool.not_eq_true', beq_eq_false_iff_ne] at k4 ⊢
      omega
    unfold hdC; rw [k, k2, k3, this]; rfl
  · intro k2 k3 k4; exact inR_iff.2 ⟨by omega, by omega⟩
  · intro k2 k3 k4; rw [g1]; rfl
  · intro k2 k3 k4 k5
    refine bad 0 ?_ rfl
    have : ieq (nv xs 0 2) 1 = false := by
      rw [g1] at k5
      simp only [AV.asInt, ieq, Bool.not_eq_true', beq_eq_false_iff_ne] at k5 ⊢
      omega
    unfold hdC; rw [k, k2, k3, this]; rfl
  all_goals
    intro k2 k3 k4 k5 k6
    have v1 : ieq (nv xs 0 2) 1 = true := by
      rw [g0] at k4; rw [g1] at k5
      simp only [AV.asInt, ieq, Bool.not_eq_false', beq_iff_eq] at k4 k5 ⊢
      omega
  · exact bad 1 (by unfold hdC; rw [k, k2, k3, v1, k6]; rfl) rfl
  all_goals
    have hm : ieq (hdC xs) (-1) = true := by
      have : hdC xs = -1 := by unfold hdC; rw [k, k2, k3, v1, k6]; rfl
      rw [this]; rfl
    obtain ⟨f1, f2, f3, _⟩ := hd_facts hm
    have pg := padI_ge (n := nv xs 2 2) (by omega)
    have io : okX (decL (bdL xs)) = true := by
      obtain ⟨x1, x2⟩ := bdL_ok hb f2
      exact decL_ok x1 (by omega)
    have ce : (decL (bdL xs)).isEmpty = true → ieq (chk11 (decL (bdL xs))) 0 = true := fun e => by rw [emp_nil e]; exact chk_nil
    have pb : ∀ a : Bool × List AV, (bif a.1 then a.2.isEmpty else true) = true → pre87b (nv xs 2 2, xs, padI (nv xs 2 2), a) = true := fun a ha => by
      unfold pre87b
      simp only [h, ha, Bool.and_true, Bool.true_and, Bool.and_eq_true, ile_iff']
      exact ⟨by omega, by omega, by omega⟩
  · unfold pre87
    simp only [bytB_iff.2 hb, Bool.true_and, Bool.and_true, Bool.and_eq_true, ile_iff', Nat.ble_eq, cond_true, List.isEmpty_nil, List.length_nil]
    exact ⟨⟨by omega, by omega, by omega, by omega⟩, by omega⟩
  · intro d f; exact pb (true, []) rfl
  · intro d f z; exact dt_bad (d4 hm d (ce f) z).1 (d4 hm d (ce f) z).2
  · intro d f z; exact dt_empty (d5 hm d (ce f) z) f
  · intro d f; exact io
  · intro d f c; unfold p87_c15; rw [en, et]; exact pb (false, decL (bdL xs)) rfl
  · intro d f c z; exact dt_bad (d4 hm d c z).1 (d4 hm d c z).2
  · intro d f c z; exact dt_full (d5 hm d c z) f
  · intro d f c; exact dt_bad (d3 hm d c).1 (d3 hm d c).2
  · intro d f; exact dt_bad (d2 hm d).1 (d2 hm d).2
  · intro d f; exact dt_bad (d2 hm d).1 (d2 hm d).2
end Go.Proofs.Ytdcijmigoefnjaa

/- Chapter 11: the same, and cubes (printed by program; long names). -/
set_option linter.unusedVariables false
set_option maxRecDepth 100000
set_option maxHeartbeats 0
namespace Go.Proofs.Ytdcijmigoefnjaa
open Go Go.Ev

def r88_o0 (i : Int) (xs ys : List AV) : AS := AS.mk [AV.unk, AV.unk, AV.unk, AV.unk, AV.bool false, AV.unk, AV.unk, AV.unk, AV.unk, AV.unk, AV.unk, AV.unk, AV.unk, AV.unk, AV.unk, AV.unk, AV.unk, AV.unk, AV.unk, AV.unk, AV.unk, AV.unk, AV.unk, AV.unk, AV.unk, AV.unk, AV.unk] []
def r88_o1 (i : Int) (xs ys : List AV) : AS := AS.mk [AV.unk, AV.unk, AV.unk, AV.unk, AV.unk, AV.unk, AV.unk, AV.unk, AV.unk, AV.unk, AV.unk, AV.unk, AV.unk, AV.unk, AV.unk, AV.unk, AV.unk, AV.unk, AV.unk, AV.unk, AV.unk, AV.unk, AV.unk, AV.unk, AV.unk, AV.unk, AV.unk] []
def r88_c0 (i : Int) (xs ys : List AV) : Bool := AV.has (TI.mk (TD.struct [(0, 3, false), (1, 4, false), (2, 36, false), (4, 36, false)]) 6 48 [AV.int IntKind.i64 0, AV.bool false, AV.int IntKind.u64 0, AV.int IntKind.u64 0, AV.int IntKind.u64 0, AV.int IntKind.u64 0]) (xs.getD i.toNat AV.unk)
def r88_c1 (i : Int) (xs ys : List AV) : Bool := AV.has (TI.mk (TD.struct [(0, 3, false), (1, 4, false), (2, 36, false), (4, 36, false)]) 6 48 [AV.int IntKind.i64 0, AV.bool false, AV.int IntKind.u64 0, AV.int IntKind.u64 0, AV.int IntKind.u64 0, AV.int IntKind.u64 0]) (ys.getD i.toNat AV.unk)
def r88_c2 (i : Int) (xs ys : List AV) : Bool := !sameO (((xs.getD i.toNat AV.unk).cells.getD 0 AV.unk).asInt, ((xs.getD i.toNat AV.unk).cells.getD 1 AV.unk).asBool, (((xs.getD i.toNat AV.unk).cells.getD 2 AV.unk).asInt, ((xs.getD i.toNat AV.unk).cells.getD 3 AV.unk).asInt), ((xs.getD i.toNat AV.unk).cells.getD 4 AV.unk).asInt, ((xs.getD i.toNat AV.unk).cells.getD 5 AV.unk).asInt) (((ys.getD i.toNat AV.unk).cells.getD 0 AV.unk).asInt, ((ys.getD i.toNat AV.unk).cells.getD 1 AV.unk).asBool, (((ys.getD i.toNat AV.unk).cells.getD 2 AV.unk).asInt, ((ys.getD i.toNat AV.unk).cells.getD 3 AV.unk).asInt), ((ys.getD i.toNat AV.unk).cells.getD 4 AV.unk).asInt, ((ys.getD i.toNat AV.unk).cells.getD 5 AV.unk).asInt)
theorem r88 (i : Int) (xs ys : List AV) (Pr : _ → Prop) (F : _ → Ex × AS) (m : _ → Nat) (k0 : (ilt i (↑xs.length : Int)) = true → (inR i xs.length) = true) (k1 : (ilt i (↑xs.length : Int)) = true → (AV.has (TI.mk (TD.struct [(0, 3, false), (1, 4, false), (2, 36, false), (4, 36, false)]) 6 48 [AV.int IntKind.i64 0, AV.bool false, AV.int IntKind.u64 0, AV.int IntKind.u64 0, AV.int IntKind.u64 0, AV.int IntKind.u64 0]) (xs.getD i.toNat AV.unk)) = true) (k2 : (ilt i (↑xs.length : Int)) = true → (inR i ys.length) = true) (k3 : (ilt i (↑xs.length : Int)) = true → (AV.has (TI.mk (TD.struct [(0, 3, false), (1, 4, false), (2, 36, false), (4, 36, false)]) 6 48 [AV.int IntKind.i64 0, AV.bool false, AV.int IntKind.u64 0, AV.int IntKind.u64 0, AV.int IntKind.u64 0, AV.int IntKind.u64 0]) (ys.getD i.toNat AV.unk)) = true) (k4 : (ilt i (↑xs.length : Int)) = true → (!sameO (((xs.getD i.toNat AV.unk).cells.getD 0 AV.unk).asInt, ((xs.getD i.toNat AV.unk).cells.getD 1 AV.unk).asBool, (((xs.getD i.toNat AV.unk).cells.getD 2 AV.unk).asInt, ((xs.getD i.toNat AV.unk).cells.getD 3 AV.unk).asInt), ((xs.getD i.toNat AV.unk).cells.getD 4 AV.unk).asInt, ((xs.getD i.toNat AV.unk).cells.getD 5 AV.unk).asInt) (((ys.getD i.toNat AV.unk).cells.getD 0 AV.unk).asInt, ((ys.getD i.toNat AV.unk).cells.getD 1 AV.unk).asBool, (((ys.getD i.toNat AV.unk).cells.getD 2 AV.unk).asInt, ((ys.getD i.toNat AV.unk).cells.getD 3 AV.unk).asInt), ((ys.getD i.toNat AV.unk).cells.getD 4 AV.unk).asInt, ((ys.getD i.toNat AV.unk).cells.getD 5 AV.unk).asInt)) = true → F (i, xs, ys) = (Ex.ret, r88_o0 i xs ys)) (k5 : (ilt i (↑xs.length : Int)) = true → (!sameO (((xs.getD i.toNat AV.unk).cells.getD 0 AV.unk).asInt, ((xs.getD i.toNat AV.unk).cells.getD 1 AV.unk).asBool, (((xs.getD i.toNat AV.unk).cells.getD 2 AV.unk).asInt, ((xs.getD i.toNat AV.unk).cells.getD 3 AV.unk).asInt), ((xs.getD i.toNat AV.unk).cells.getD 4 AV.unk).asInt, ((xs.getD i.toNat AV.unk).cells.getD 5 AV.unk).asInt) (((ys.getD i.toNat AV.unk).cells.getD 0 AV.unk).asInt, ((ys.getD i.toNat AV.unk).cells.getD 1 AV.unk).asBool, (((ys.getD i.toNat AV.unk).cells.getD 2 AV.unk).asInt, ((ys.getD i.toNat AV.unk).cells.getD 3 AV.unk).asInt), ((ys.getD i.toNat AV.unk).cells.getD 4 AV.unk).asInt, ((ys.getD i.toNat AV.unk).cells.getD 5 AV.unk).asInt)) = false → OnOk Pr F m (i, xs, ys) ((iadd IntKind.i64 i 1, xs, ys))) (k6 : (ilt i (↑xs.length : Int)) = false → F (i, xs, ys) = (Ex.exit 0, r88_o1 i xs ys)) : Round (book.envP 88 sp145 big noLoops) (loopBody Try.f88 4) (book.clean 88 4) (book.clean 88 (4 + 500)) st88 pr88 Pr F m (i, xs, ys) :=
  Round.of (Bool.rec (motive := fun _ => TE) (.ret (Ex.exit 0, r88_o1 i xs ys)) (Bool.rec (motive := fun _ => TE) .no (Bool.rec (motive := fun _ => TE) .no (Bool.rec (motive := fun _ => TE) .no (Bool.rec (motive := fun _ => TE) .no (.must (Same ([AV.agg [AV.int IntKind.i64 ((xs.getD i.toNat AV.unk).cells.getD 0 AV.unk).asInt, AV.bool ((xs.getD i.toNat AV.unk).cells.getD 1 AV.unk).asBool, AV.int IntKind.u64 ((xs.getD i.toNat AV.unk).cells.getD 2 AV.unk).asInt, AV.int IntKind.u64 ((xs.getD i.toNat AV.unk).cells.getD 3 AV.unk).asInt, AV.int IntKind.u64 ((xs.getD i.toNat AV.unk).cells.getD 4 AV.unk).asInt, AV.int IntKind.u64 ((xs.getD i.toNat AV.unk).cells.getD 5 AV.unk).asInt], AV.agg [AV.int IntKind.i64 ((ys.getD i.toNat AV.unk).cells.getD 0 AV.unk).asInt, AV.bool ((ys.getD i.toNat AV.unk).cells.getD 1 AV.unk).asBool, AV.int IntKind.u64 ((ys.getD i.toNat AV.unk).cells.getD 2 AV.unk).asInt, AV.int IntKind.u64 ((ys.getD i.toNat AV.unk).cells.getD 3 AV.unk).asInt, AV.int IntKind.u64 ((ys.getD i.toNat AV.unk).cells.getD 4 AV.unk).asInt, AV.int IntKind.u64 ((ys.getD i.toNat AV.unk).cells.getD 5 AV.unk).asInt]])) (Bool.rec (motive := fun _ => TE) (.must (Same (st88 (iadd IntKind.i64 i 1, xs, ys))) (.ret (.normal, st88 ((iadd IntKind.i64 i 1, xs, ys))))) (.ret (Ex.ret, r88_o0 i xs ys)) ((r88_c2 i xs ys)))) ((r88_c1 i xs ys))) (inR i ys.length)) ((r88_c0 i xs ys))) (inR i xs.length)) (ilt i (↑xs.length : Int))) (.s (.s .z .z) .z) (by kernel_rfl) (.ite (fun h0_0 => .step (k0 h0_0) (.step (k1 h0_0) (.step (k2 h0_0) (.step (k3 h0_0) (.must (same_ok _) (.ite (fun h4_5 => .out (k4 h0_0 h4_5)) (fun h4_5 => .must (same_ok _) (.next (k5 h0_0 h4_5))))))))) (fun h0_0 => .exit (k6 h0_0)))
theorem p88 (xs ys : List AV) (r : AV × List (List AV)) (k0 : (!ieq (↑xs.length : Int) (↑ys.length : Int)) = true → ((AV.bool false, [])) = r) (k1 : (!ieq (↑xs.length : Int) (↑ys.length : Int)) = false → (L88.pre (0, xs, ys)) = true) (k2 : (!ieq (↑xs.length : Int) (↑ys.length : Int)) = false → (!eqO xs ys) = true → ((AV.bool false, [])) = r) (k3 : (!ieq (↑xs.length : Int) (↑ys.length : Int)) = false → (!eqO xs ys) = false → ((AV.bool true, [])) = r) : Goes (runP (book.envP 88 sp145 big (loopsAt [(4, lp88)])) Try.f88 [.sl 6 xs .sh, .sl 6 ys .sh] [] (.s .z (.s .z .z))) r :=
  Goes.of_eq (t' := Bool.rec (motive := fun _ => TR) (.must (Same (st88 (0, xs, ys))) (Bool.rec (motive := fun _ => TR) .no (Bool.rec (motive := fun _ => TR) (.ret ((AV.bool true, []))) (.ret ((AV.bool false, []))) (!eqO xs ys)) (L88.pre (0, xs, ys)))) (.ret ((AV.bool false, []))) (!ieq (↑xs.length : Int) (↑ys.length : Int))) (by kernel_rfl) (.ite (fun h0_0 => Goes.leafE (k0 h0_0)) (fun h0_0 => .must (same_ok _) (.step (k1 h0_0) (.ite (fun h2_2 => Goes.leafE (k2 h0_0 h2_2)) (fun h2_2 => Goes.leafE (k3 h0_0 h2_2))))))
end Go.Proofs.Ytdcijmigoefnjaa

/- Chapter 11: the same, and cubes: contracts. -/
set_option linter.unusedVariables false
set_option linter.unusedSimpArgs false
set_option maxRecDepth 100000
set_option maxHeartbeats 0
namespace Go.Proofs.Ytdcijmigoefnjaa
open Go Go.Ev

theorem eqO_step {xs ys : List AV} {n : Nat} (h1 : n < xs.length) (h2 : n < ys.length) : eqO (xs.drop n) (ys.drop n) = (sameO (ox (xs.getD n .unk)) (ox (ys.getD n .unk)) && eqO (xs.drop (n + 1)) (ys.drop (n + 1))) := by
  rw [getD_drop h1, getD_drop h2]; rfl
theorem eqO_len : ∀ {xs ys : List AV}, eqO xs ys = true → xs.length = ys.length
  | [], [], _ => rfl
  | x :: xs, y :: ys, h => by
    simp only [eqO, Bool.and_eq_true] at h
    simp [eqO_len h.2]
  | [], _ :: _, h => by cases h
  | _ :: _, [], h => by cases h
theorem ok145 {r : X145} (h : (okX r.1 && (okX r.2 && Nat.beq r.1.length r.2.length)) = true) : okX r.1 = true ∧ okX r.2 = true ∧ r.1.length = r.2.length := by
  simp only [Bool.and_eq_true] at h
  exact ⟨h.1, h.2.1, Nat.eq_of_beq_eq_true h.2.2⟩
theorem good145 : L145.Good := by
  refine ⟨fun r j ho hj h => ⟨?_, rfl⟩, fun r j ho hj h => ⟨?_, rfl⟩, fun r j ho hj => ?_⟩
  all_goals
    obtain ⟨h1, h2, h3⟩ := ok145 (r := r) ho
  · have hj : j < r.1.length := hj
    have h : (!sameO (ox (r.1.getD j .unk)) (ox (r.2.getD j .unk))) = true := h
    show (!eqO (r.1.drop j) (r.2.drop j)) = true
    rw [eqO_step hj (by omega)]
    cases hs : sameO (ox (r.1.getD j .unk)) (ox (r.2.getD j .unk)) <;> rw [hs] at h
    · rfl
    · cases h
  · have hj : j < r.1.length := hj
    have h : (!sameO (ox (r.1.getD j .unk)) (ox (r.2.getD j .unk))) = false := h
    show (!eqO (r.1.drop j) (r.2.drop j)) = !eqO (r.1.drop (j + 1)) (r.2.drop (j + 1))
    rw [eqO_step hj (by omega)]
    cases hs : sameO (ox (r.1.getD j .unk)) (ox (r.2.getD j .unk)) <;> rw [hs] at h
    · cases h
    · rfl
  · have hj : r.1.length ≤ j := hj
    show (!eqO (r.1.drop j) (r.2.drop j)) = false
    rw [List.drop_eq_nil_of_le hj, List.drop_eq_nil_of_le (by omega)]; rfl
theorem good88 : L88.Good := ⟨fun r j a b c => ⟨(good145.yes r j a b c).1, rfl⟩, good145.no, good145.end_⟩
theorem sp145_ok : SpecTL Try.prog sp145 := ⟨s78, s79, trivial⟩
theorem step88 (x : Int × X145) (h : L88.P x) : Round (book.envP 88 sp145 big noLoops) (loopBody Try.f88 4) (book.clean 88 4) (book.clean 88 (4 + 500)) st88 pr88 L88.P (fun x => (L88.tr x).val) L88.m x := by
  obtain ⟨i, xs, ys⟩ := x
  obtain ⟨h1, h2, h3⟩ := ok145 (r := (xs, ys)) h.ok
  have h3 : xs.length = ys.length := h3
  exact r88 i xs ys _ _ _ (fun k => h.in_ k) (fun k => okX_has h1 (h.lt k)) (fun k => h3 ▸ h.in_ k) (fun k => okX_has h2 (h3 ▸ h.lt k)) (fun k e => h.found good88 k e) (fun k e => h.on good88 k e) (fun k => h.fin_ good88 k)
theorem lok88 {loops} : LoopOk (book.envP 88 sp145 big loops) (loopBody Try.f88 4) lp88 := FL.loop (loops' := noLoops) (noInner (by kernel_rfl)) (by kernel_rfl) step88
theorem len_ne {xs ys : List AV} (e : (!ieq (xs.length : Int) (ys.length : Int)) = true) : eqO xs ys = false := by
  cases hq : eqO xs ys
  · rfl
  · rw [eqO_len hq] at e; simp [ieq] at e
theorem len_eq {xs ys : List AV} (e : (!ieq (xs.length : Int) (ys.length : Int)) = false) : xs.length = ys.length := by
  simp only [Bool.not_eq_false', ieq, beq_iff_eq] at e; omega
theorem pre145 {xs ys : List AV} (h : (okX xs && okX ys) = true) (e : xs.length = ys.length) : (okX xs && (okX ys && Nat.beq xs.length ys.length)) = true := by
  simp only [Bool.and_eq_true] at h
  rw [h.1, h.2, e]; simp
theorem s88 : SumTOk Try.prog 88 S93 := sumW_ok fun x h => by
  obtain ⟨xs, ys⟩ := x
  have h : (okX xs && okX ys) = true := h
  have hx : okX xs = true := by simp only [Bool.and_eq_true] at h; exact h.1
  refine book_ok.run1 (by kernel_rfl) sp145_ok (by kernel_rfl) lok88 (p88 xs ys _ (fun e => ?_) (fun e => FL.pre_of (i := 0) (Nat.zero_le _) (okX_iff.1 hx).2 (pre145 h (len_eq e))) (fun e e2 => ?_) (fun e e2 => ?_)) <;> show _ = (AV.bool (eqO xs ys), _)
  · rw [len_ne e]
  · rw [show eqO xs ys = false by simpa using e2]
  · rw [show eqO xs ys = true by simpa using e2]

end Go.Proofs.Ytdcijmigoefnjaa
