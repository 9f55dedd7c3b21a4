import Derived.Test.YtdcijmigoefnjaaP11b
import Derived.Test.YtdcijmigoefnjaaP11a
import Derived.Test.YtdcijmigoefnjaaL03b
import Derived.Test.YtdcijmigoefnjaaP11c
/- Chapter 11: what a field needs: contracts. -/
set_option linter.unusedVariables false
set_option linter.unusedSimpArgs false
set_option maxRecDepth 100000
set_option maxHeartbeats 0
namespace Go.Proofs.Ytdcijmigoefnjaa
open Go Go.Ev

theorem okX_iff {xs : List AV} : okX xs = true ↔ xs.all isOx = true ∧ xs.length ≤ 9223372036854775807 := by unfold okX oxsB; rw [Bool.and_eq_true, lenB_iff]
theorem ox_of {v : AV} (h : isOx v = true) : v = oxA (ox v) ∧ inO (ox v) = true := by
  unfold isOx at h
  split at h
  · rename_i f m a b c d
    refine ⟨rfl, ?_⟩
    simp only [Bool.and_eq_true] at h
    show ((inU a && inU b) && (inU c && inU d)) = true
    rw [h.1, h.2.1, h.2.2.1, h.2.2.2]; rfl
  · cases h
theorem ox_has {v : AV} (h : isOx v = true) : AV.has (TI.mk (TD.struct [(0, 3, false), (1, 4, false), (2, 36, false), (4, 36, false)]) 6 48 [AV.int IntKind.i64 0, AV.bool false, AV.int IntKind.u64 0, AV.int IntKind.u64 0, AV.int IntKind.u64 0, AV.int IntKind.u64 0]) v = true := by
  rw [(ox_of h).1]; rfl
theorem okX_get {xs : List AV} (h : okX xs = true) {i : Nat} (hi : i < xs.length) : isOx (xs.getD i .unk) = true := List.all_eq_true.1 (okX_iff.1 h).1 _ (getD_mem hi)
theorem okX_has {xs : List AV} (h : okX xs = true) {i : Nat} (hi : i < xs.length) : AV.has (TI.mk (TD.struct [(0, 3, false), (1, 4, false), (2, 36, false), (4, 36, false)]) 6 48 [AV.int IntKind.i64 0, AV.bool false, AV.int IntKind.u64 0, AV.int IntKind.u64 0, AV.int IntKind.u64 0, AV.int IntKind.u64 0]) (xs.getD i .unk) = true := ox_has (okX_get h hi)

theorem S30a_of {P : Program} {g : FuncId} {N : Int → AV} (h : SumTOk P g (sumOf (gI .i64 N))) {f : Int} {L : AV} (hL : N f = L) : SumTOk P g (S30a f L) := sum0_ok fun n hn => by
  have e : n = f := by simpa [ieq] using hn
  subst e
  have := h [.int .i64 n] [] (.leaf (N n, [])) (by simp [sumOf, gI, T.Ret])
  rw [hL] at this
  exact this
theorem ieq_self' (a : Int) : ieq a a = true := by simp [ieq]

theorem good84 (st : St) : (L84 st).Good := FL.good_any (fun r => r.1) (fun r v => givesF (ox v) r.2.1 r.2.2.1) (fun _ => rfl) (fun _ _ => rfl) (fun _ _ => rfl) (.inl ⟨fun _ _ _ => rfl, fun _ _ _ => rfl⟩)
theorem ok84 {st : St} {x : Int × X84} (h : (L84 st).P x) : okX x.2.1 = true ∧ okW x.2.2.2.1 = true := by
  have := h.ok
  simpa [L84, Bool.and_eq_true] using this
theorem step84 (g : Int) (D : AV) (x : Int × X84) (h : (L84 .full).P x) : Round (book.envP 84 (sp84 g D) big noLoops) (loopBody Try.f84 5) (book.clean 84 5) (book.clean 84 (5 + 500)) (st84 cSh .full) pr84 (L84 .full).P (fun x => ((L84 .full).tr x).val) (L84 .full).m x := by
  have hk := ok84 h
  obtain ⟨i, xs, n, vs, L, ln, j⟩ := x
  exact r84 g D i xs n vs L ln j _ _ _ (fun k => h.in_ k) (fun k => okX_has hk.1 (h.lt k)) (fun _ => hk.2) (fun k e => h.found (good84 _) k e) (fun k e => h.on (good84 _) k e) (fun k => h.fin_ (good84 _) k)
theorem step84t (g : Int) (D : AV) (x : Int × X84) (h : (L84 (.own [10, 1])).P x) : Round (book.envP 84 (sp84 g D) big noLoops) (loopBody Try.f84 5) (book.clean 84 5) (book.clean 84 (5 + 500)) (st84 cSh (.own [10, 1])) pr84 (L84 (.own [10, 1])).P (fun x => ((L84 (.own [10, 1])).tr x).val) (L84 (.own [10, 1])).m x := by
  have hk := ok84 h
  obtain ⟨i, xs, n, vs, L, ln, j⟩ := x
  exact r84t g D i xs n vs L ln j _ _ _ (fun k => h.in_ k) (fun k => okX_has hk.1 (h.lt k)) (fun _ => hk.2) (fun k e => h.found (good84 _) k e) (fun k e => h.on (good84 _) k e) (fun k => h.fin_ (good84 _) k)
theorem good84n : L84n.Good := FL.good_any (fun r => r.1) (fun r v => givesF (ox v) r.2.1 r.2.2.1) (fun _ => rfl) (fun _ _ => rfl) (fun _ _ => rfl) (.inl ⟨fun _ _ _ => rfl, fun _ _ _ => rfl⟩)
theorem step84n (g : Int) (D : AV) (x : Int × X84) (h : L84n.P x) : Round (book.envP 84 (sp84 g D) big noLoops) (loopBody Try.f84 5) (book.clean 84 5) (book.clean 84 (5 + 500)) (st84 cNil .full) pr84 L84n.P (fun x => (L84n.tr x).val) L84n.m x := by
  have hk := h.ok
  obtain ⟨i, xs, n, vs, L, ln, j⟩ := x
  simp only [L84n, Bool.and_eq_true, List.isEmpty_iff] at hk
  obtain ⟨hk, rfl⟩ := hk
  exact r84n g D i xs n L ln j _ _ _ (fun k => h.in_ k) (fun k => okX_has hk (h.lt k)) (fun k e => h.found good84n k e) (fun k e => h.on good84n k e) (fun k => h.fin_ good84n k)

/-! ### all that a field needs -/

theorem lok84 {g : Int} {D : AV} {loops} : LoopOk (book.envP 84 (sp84 g D) big loops) (loopBody Try.f84 5) (lp84 cSh .full) := FL.loop (loops' := noLoops) (noInner (by kernel_rfl)) (by kernel_rfl) (step84 g D)
theorem lok84t {g : Int} {D : AV} {loops} : LoopOk (book.envP 84 (sp84 g D) big loops) (loopBody Try.f84 5) (lp84 cSh (.own [10, 1])) := FL.loop (loops' := noLoops) (noInner (by kernel_rfl)) (by kernel_rfl) (step84t g D)
theorem lok84n {g : Int} {D : AV} {loops} : LoopOk (book.envP 84 (sp84 g D) big loops) (loopBody Try.f84 5) lp84n := FL.loop (loops' := noLoops) (noInner (by kernel_rfl)) (by kernel_rfl) (step84n g D)
/-- what fields need, by its form -/
inductive NdForm : List (Int × List Int) → Prop
  | z : NdForm []
  | n (f : Int) : f ≠ 9 → NdForm [(f, [])]
  | o (f v : Int) (l : List Int) : f ≠ 9 → NdForm [(f, v :: l)]
  | t (f v : Int) (l : List Int) (v2 : Int) (l2 : List Int) : f ≠ 9 → NdForm [(f, v :: l), (9, v2 :: l2)]
def ndFormB : List (Int × List Int) → Bool
  | [] => true
  | [(f, _)] => !ieq f 9
  | [(f, _ :: _), (g, _ :: _)] => !ieq f 9 && ieq g 9
  | _ => false
theorem ndForm_of {L : List (Int × List Int)} (h : ndFormB L = true) : NdForm L := by
  unfold ndFormB at h
  split at h
  · exact .z
  · rename_i f l
    have hf : f ≠ 9 := by simpa [ieq] using h
    cases l with
    | nil => exact .n f hf
    | cons v l => exact .o f v l hf
  · rename_i f v l g v2 l2
    simp only [Bool.and_eq_true] at h
    have hf : f ≠ 9 := by simpa [ieq] using h.1
    have hg : g = 9 := by simpa [ieq] using h.2
    subst hg
    exact .t f v l v2 l2 hf
  · cases h
theorem ndForm (f : Int) : NdForm (needOf f) := by
  refine ndForm_of ?_
  unfold needOf
  cases isF f
  · rfl
  · simp only [cond_true]
    have hall : needTab.all ndFormB = true := by kernel_rfl
    rw [List.getD_eq_getElem?_getD]
    cases hq : needTab[f.toNat]? with
    | none => rfl
    | some l => exact List.all_eq_true.1 hall l (List.mem_of_getElem? hq)
theorem okW_wide (l : List Int) (h : l.length ≤ 9223372036854775807) : okW (l.map wideA) = true := by
  rw [okW_iff]
  refine ⟨?_, by simpa using h⟩
  rw [List.all_map, List.all_eq_true]
  intro x _; rfl
theorem pre84 {xs : List AV} (h : okX xs = true) {vs : List AV} (hv : okW vs = true) (st : St) (n : Int) (L : List AV) (ln j : Int) : (L84 st).pre (0, xs, n, vs, L, ln, j) = true := by
  refine FL.pre_of (i := 0) (Nat.zero_le _) (okX_iff.1 h).2 ?_
  show (okX xs && okW vs) = true
  rw [h, hv]; rfl
theorem pre84n {xs : List AV} (h : okX xs = true) (n : Int) (L : List AV) (ln j : Int) : L84n.pre (0, xs, n, [], L, ln, j) = true := by
  refine FL.pre_of (i := 0) (Nat.zero_le _) (okX_iff.1 h).2 ?_
  show (okX xs && List.isEmpty []) = true
  rw [h]; rfl
/-- lists of values are short -/
def ndShort (L : List (Int × List Int)) : Bool := L.all fun p => Nat.ble p.2.length 100
theorem ndShort_of (f : Int) : ndShort (needOf f) = true := by
  unfold needOf
  cases isF f
  · rfl
  · simp only [cond_true]
    have hall : needTab.all ndShort = true := by kernel_rfl
    rw [List.getD_eq_getElem?_getD]
    cases hq : needTab[f.toNat]? with
    | none => rfl
    | some l => exact List.all_eq_true.1 hall l (List.mem_of_getElem? hq)
theorem s84 : SumTOk Try.prog 84 S84 := sumW_ok fun x h => by
  obtain ⟨xs, f⟩ := x
  have h : okX xs = true := h
  have hs := ndShort_of f
  show CallsA Try.prog 84 [.sl 6 xs .sh, .int .i64 f] [] (.bool (metF xs f)) []
  unfold metF
  generalize hL : needOf f = L at hs
  have hF := ndForm f
  rw [hL] at hF
  have sp : ∀ D, needP (needOf f) = D → SpecTL Try.prog (sp84 f D) := fun D hD => ⟨S30a_of s30 hD, s136, trivial⟩
  rw [hL] at sp
  cases hF with
  | z => exact book_ok.pth (by kernel_rfl) (sp _ rfl) (p84z f xs _ (ieq_self' f) rfl)
  | n g hg =>
    refine book_ok.run1 (by kernel_rfl) (sp (.sl 2 [ndN g] .full) rfl) (by kernel_rfl) lok84n (p84n f g xs _ (ieq_self' f) (pre84n h _ _ _ _) (fun e => ?_) (fun e => ?_)) <;>
      simp only [List.all_cons, List.all_nil, List.map_nil, e, Bool.and_true]
  | o g v l hg =>
    have hw : okW ((v :: l).map wideA) = true := okW_wide _ (by simp only [ndShort, List.all_cons, List.all_nil, Nat.ble_eq, Bool.and_true] at hs; omega)
    refine book_ok.run1 (by kernel_rfl) (sp (.sl 2 [ndC g ((v :: l).map wideA) .sh] .full) rfl) (by kernel_rfl) lok84 (p84 f g xs ((v :: l).map wideA) _ (ieq_self' f) (pre84 h hw _ _ _ _ _) (fun e => ?_) (fun e => ?_)) <;>
      simp only [List.all_cons, List.all_nil, e, Bool.and_true]
  | t g v l v2 l2 hg =>
    simp only [ndShort, List.all_cons, List.all_nil, Nat.ble_eq, Bool.and_true, Bool.and_eq_true] at hs
    have hw : okW ((v :: l).map wideA) = true := okW_wide _ (by omega)
    have hw2 : okW ((v2 :: l2).map wideA) = true := okW_wide _ (by omega)
    refine book_ok.run1 (by kernel_rfl) (sp (.sl 2 [ndC g ((v :: l).map wideA) .sh, ndC 9 ((v2 :: l2).map wideA) .sh] (.own [])) rfl) (by kernel_rfl) lok84t
      (p84t f g 9 xs ((v :: l).map wideA) ((v2 :: l2).map wideA) _ (ieq_self' f) (pre84 h hw _ _ _ _ _) (fun _ => pre84 h hw2 _ _ _ _ _) (fun e e2 => ?_) (fun e e2 => ?_) (fun e => ?_)) <;>
      simp only [List.all_cons, List.all_nil, *, Bool.and_true, Bool.false_and, Bool.true_and]
end Go.Proofs.Ytdcijmigoefnjaa

/- Chapter 11: what is wrong with a match: contracts. -/
set_option linter.unusedVariables false
set_option linter.unusedSimpArgs false
set_option maxRecDepth 100000
set_option maxHeartbeats 0
namespace Go.Proofs.Ytdcijmigoefnjaa
open Go Go.Ev

theorem s142 : SumTOk Try.prog 142 S142 := sum0_ok fun c _ => book_ok.pth (by kernel_rfl) noSpec_ok (p142 c _ rfl)
theorem s144 : SumTOk Try.prog 144 S144 := sumS_ok fun x _ => book_ok.pth (by kernel_rfl) noSpec_ok (p144 x.1 x.2 _ rfl)
theorem sp146_ok : SpecTL Try.prog sp146 := ⟨s144, trivial⟩
theorem good146 : L146.Good := FL.good_any (fun r => r.1) (fun r v => ieq (ox v).1 r.2.1) (fun _ => rfl) (fun _ _ => rfl) (fun _ _ => rfl) (.inr fun _ _ => rfl)
theorem step146 (x : Int × List AV × XO) (h : L146.P x) : Round (book.envP 146 sp146 big noLoops) (loopBody Try.f146 2) (book.clean 146 2) (book.clean 146 (2 + 500)) st146 pr146 L146.P (fun x => (L146.tr x).val) L146.m x := by
  obtain ⟨i, xs, o⟩ := x
  refine r146 i xs o _ _ _ (fun k => h.in_ k) (fun k => okX_has h.ok (h.lt k)) (fun k e => ?_) (fun k e => h.on good146 k e) (fun k => h.fin_ good146 k)
  refine (h.found good146 k e).trans ?_
  show (Ex.ret, stA 19 [(4, .int .i64 ((i.toNat : Nat) : Int))] _) = _
  rw [h.cast]; rfl
theorem lok146 {loops} : LoopOk (book.envP 146 sp146 big loops) (loopBody Try.f146 2) lp146 := FL.loop (loops' := noLoops) (noInner (by kernel_rfl)) (by kernel_rfl) step146
theorem pre146 {xs : List AV} (h : okX xs = true) (o : XO) : L146.pre (0, xs, o) = true := FL.pre_of (i := 0) (Nat.zero_le _) (okX_iff.1 h).2 h
theorem s146 : SumTOk Try.prog 146 S146 := sumWS_ok fun x h => by
  obtain ⟨xs, o⟩ := x
  have h : okX xs = true := h
  have key : ∀ b, sameF xs o.1 = b → CallsA Try.prog 146 [.sl 6 xs .sh, .fn 144 [.ptr 1000 0]] [oxC o] (bif b then .int .i64 (ixF xs o.1 0) else .int .i64 (-1)) [oxC o] := by
    intro b hb
    refine book_ok.run1 (by kernel_rfl) sp146_ok (by kernel_rfl) lok146 (p146 xs o _ (pre146 h o) (fun e => ?_) (fun e => ?_)) <;> rw [e] at hb <;> subst hb <;> rfl
  have := key _ rfl
  cases hb : sameF xs o.1 <;> simp only [hb, Tree.val, cond_true, cond_false] at this ⊢ <;> exact this
theorem sp94_ok : SpecTL Try.prog sp94 := ⟨s146, trivial⟩
theorem s94 : SumTOk Try.prog 94 S94 := sumWS_ok fun x h => by
  obtain ⟨xs, o⟩ := x
  refine book_ok.pth (by kernel_rfl) sp94_ok (p94 xs o _ h (fun e => ?_) (fun e => ?_)) <;> show _ = (AV.bool (sameF xs o.1), [oxC o]) <;> rw [e] <;> rfl

theorem chkJ_lt {xs : List AV} {j : Nat} (h : j < xs.length) : chkJ xs j = bif ieq (chkAt xs j) 0 then chkJ xs (j + 1) else chkAt xs j := by
  unfold chkJ
  rw [show xs.length - j = (xs.length - (j + 1)) + 1 by omega]; rfl
theorem chkJ_end {xs : List AV} {j : Nat} (h : xs.length ≤ j) : chkJ xs j = 0 := by
  unfold chkJ
  rw [show xs.length - j = 0 by omega]; rfl
theorem ixC_lt {xs : List AV} {j : Nat} (h : j < xs.length) : ixC xs j = bif !ieq (chkAt xs j) 0 then j else ixC xs (j + 1) := by
  unfold ixC
  rw [show xs.length - j = (xs.length - (j + 1)) + 1 by omega]; rfl
theorem chk_ix {xs : List AV} : ∀ (n j : Nat), n = xs.length - j → ieq (chkJ xs j) 0 = false → chkAt xs (ixC xs j) = chkJ xs j
  | 0, j, hn, h => by rw [chkJ_end (by omega)] at h; cases h
  | n + 1, j, hn, h => by
    have hlt : j < xs.length := by omega
    rw [chkJ_lt hlt] at h ⊢
    rw [ixC_lt hlt]
    cases hc : ieq (chkAt xs j) 0 <;> rw [hc] at h <;> simp only [Bool.not_true, Bool.not_false, cond_true, cond_false] at h ⊢
    exact chk_ix n (j + 1) (by omega) h
theorem good91 : L91.Good := by
  refine ⟨fun r j _ hj h => ?_, fun r j _ hj h => ?_, fun r j _ hj => ?_⟩
  · have h : (!ieq (chkAt r j) 0) = true := h
    refine ⟨?_, ?_⟩
    · show (!ieq (chkJ r j) 0) = true
      rw [chkJ_lt hj]
      cases hc : ieq (chkAt r j) 0 <;> rw [hc] at h
      · simp only [cond_false, hc]; rfl
      · cases h
    · show L91.out r (ixC r j) = _
      rw [ixC_lt hj, h]; rfl
  · have h : (!ieq (chkAt r j) 0) = false := h
    have hc : ieq (chkAt r j) 0 = true := by simpa using h
    refine ⟨?_, ?_⟩
    · show (!ieq (chkJ r j) 0) = !ieq (chkJ r (j + 1)) 0
      rw [chkJ_lt hj, hc]; rfl
    · show ixC r j = ixC r (j + 1)
      rw [ixC_lt hj, h]; rfl
  · show (!ieq (chkJ r j) 0) = false
    rw [chkJ_end hj]; rfl
theorem okX_take {xs : List AV} (h : okX xs = true) (n : Nat) : okX (xs.take n) = true := by
  rw [okX_iff] at h ⊢
  refine ⟨List.all_eq_true.2 fun x hx => List.all_eq_true.1 h.1 x (List.mem_of_mem_take hx), ?_⟩
  rw [List.length_take]; omega
theorem sp91_ok : SpecTL Try.prog sp91 := ⟨s94, s84, s142, trivial⟩
theorem chkAt_ge (xs : List AV) (j : Nat) : chkAt xs j = bif sameF (xs.take j) (ox (xs.getD j .unk)).1 then 10 else bif !metF (xs.take j) (ox (xs.getD j .unk)).1 then 9 else 0 := rfl
theorem inR1 {i : Int} {n : Nat} (h : inR i n = true) : inR i (n + 1) = true := by rw [inR_iff] at h ⊢; omega
theorem step91 (x : Int × List AV) (h : L91.P x) : Round (book.envP 91 sp91 big noLoops) (loopBody Try.f91 2) (book.clean 91 2) (book.clean 91 (2 + 500)) st91 pr91 L91.P (fun x => (L91.tr x).val) L91.m x := by
  obtain ⟨i, xs⟩ := x
  have hx : okX xs = true := h.ok
  refine r91 i xs _ _ _ (fun k => h.in_ k) (fun k => okX_has hx (h.lt k)) (fun k => inR1 (h.in_ k)) (fun k => okX_take hx _) (fun k e => ?_) (fun k e e2 => ?_) (fun k e e2 => ?_) (fun k => h.fin_ good91 k)
  · have e : sameF (xs.take i.toNat) (ox (xs.getD i.toNat .unk)).1 = true := e
    have hc : chkAt xs i.toNat = 10 := by rw [chkAt_ge, e]; rfl
    refine (h.found good91 k (show (!ieq (chkAt xs i.toNat) 0) = true by rw [hc]; rfl)).trans ?_
    show (Ex.ret, stA 28 [(2, .ptr 2 0)] [(2, baF (chkAt xs i.toNat))]) = _
    rw [hc]; rfl
  · have e : sameF (xs.take i.toNat) (ox (xs.getD i.toNat .unk)).1 = false := e
    have e2 : (!metF (xs.take i.toNat) (ox (xs.getD i.toNat .unk)).1) = true := e2
    have hc : chkAt xs i.toNat = 9 := by rw [chkAt_ge, e, e2]; rfl
    refine (h.found good91 k (show (!ieq (chkAt xs i.toNat) 0) = true by rw [hc]; rfl)).trans ?_
    show (Ex.ret, stA 28 [(2, .ptr 2 0)] [(2, baF (chkAt xs i.toNat))]) = _
    rw [hc]; rfl
  · have e : sameF (xs.take i.toNat) (ox (xs.getD i.toNat .unk)).1 = false := e
    have e2 : (!metF (xs.take i.toNat) (ox (xs.getD i.toNat .unk)).1) = false := e2
    have hc : chkAt xs i.toNat = 0 := by rw [chkAt_ge, e, e2]; rfl
    exact h.on good91 k (show (!ieq (chkAt xs i.toNat) 0) = false by rw [hc]; rfl)
theorem lok91 {loops} : LoopOk (book.envP 91 sp91 big loops) (loopBody Try.f91 2) lp91 := FL.loop (loops' := noLoops) (noInner (by kernel_rfl)) (by kernel_rfl) step91
theorem pre91 {xs : List AV} (h : okX xs = true) : L91.pre (0, xs) = true := FL.pre_of (i := 0) (Nat.zero_le _) (okX_iff.1 h).2 h
theorem chkJ0 (xs : List AV) : chkJ xs 0 = chk11 xs := rfl
theorem chk_end {xs : List AV} {f : FuncId} (key : ∀ r, ((!ieq (chkJ xs 0) 0) = true → ((AV.agg [.bool true, .int .i64 4, .int .i64 (chkAt xs (ixC xs 0))], ([] : List (List AV))) = r)) → ((!ieq (chkJ xs 0) 0) = false → ((AV.agg [.bool false, .int .i64 0, .int .i64 0], []) = r)) →
    CallsA Try.prog f [.sl 6 xs .sh] [] r.1 r.2) : CallsA Try.prog f [.sl 6 xs .sh] [] (Tree.val (.ite (ieq (chk11 xs) 0) (.leaf (.agg noF)) (.leaf (.agg (baF (chk11 xs)))))) [] := by
  refine key (_, []) (fun e => ?_) (fun e => ?_)
  · have e2 : ieq (chkJ xs 0) 0 = false := by simpa using e
    rw [chk_ix _ 0 rfl e2]
    rw [chkJ0] at e2 ⊢
    simp only [Tree.val, e2, cond_false]; rfl
  · have e2 : ieq (chkJ xs 0) 0 = true := by simpa using e
    rw [chkJ0] at e2
    simp only [Tree.val, e2, cond_true]; rfl
theorem s91 : SumTOk Try.prog 91 S91 := sumW_ok fun xs h => chk_end fun r k1 k2 => book_ok.run1 (by kernel_rfl) sp91_ok (by kernel_rfl) lok91 (p91 xs r (pre91 h) k1 k2)

end Go.Proofs.Ytdcijmigoefnjaa
