/- Chapter 11: what a part gives: contracts. -/
import Derived.Test.YtdcijmigoefnjaaP11a
import Derived.Test.YtdcijmigoefnjaaL1
set_option linter.unusedVariables false
set_option linter.unusedSimpArgs false
set_option maxRecDepth 100000
set_option maxHeartbeats 0
namespace Go.Proofs.Ytdcijmigoefnjaa
open Go Go.Ev

theorem ieq_comm (a b : Int) : ieq a b = ieq b a := by
  unfold ieq; rw [Bool.eq_iff_iff]; simp only [beq_iff_eq]; exact ⟨Eq.symm, Eq.symm⟩
theorem sameW_comm (v w : Int × Int) : sameW v w = sameW w v := by unfold sameW; rw [ieq_comm v.1, ieq_comm v.2]
theorem lenB_iff {xs : List AV} : lenB xs = true ↔ xs.length ≤ 9223372036854775807 := by unfold lenB; rw [Nat.ble_eq]
theorem okW_iff {vs : List AV} : okW vs = true ↔ vs.all isWd = true ∧ vs.length ≤ 9223372036854775807 := by unfold okW; rw [Bool.and_eq_true, lenB_iff]
theorem getD_mem {xs : List AV} {i : Nat} (h : i < xs.length) : xs.getD i .unk ∈ xs := by
  rw [List.getD_eq_getElem?_getD, List.getElem?_eq_getElem h]; exact List.getElem_mem h
theorem wd_has {v : AV} (h : isWd v = true) : AV.has (TI.mk (TD.struct [(0, 34, false), (1, 34, false)]) 2 16 [AV.int IntKind.u64 0, AV.int IntKind.u64 0]) v = true := by
  unfold isWd at h
  split at h
  · rfl
  · cases h
theorem okW_has {vs : List AV} (h : okW vs = true) {i : Nat} (hi : i < vs.length) : AV.has (TI.mk (TD.struct [(0, 34, false), (1, 34, false)]) 2 16 [AV.int IntKind.u64 0, AV.int IntKind.u64 0]) (vs.getD i .unk) = true :=
  wd_has (List.all_eq_true.1 (okW_iff.1 h).1 _ (getD_mem hi))

theorem and_true3 (a b : Bool) : (a && (b && true)) = (a && b) := by cases a <;> cases b <;> rfl
theorem good148 : L148.Good := FL.good_any (fun r => r.1) (fun r v => sameW r.2 (wideOf v)) (fun _ => rfl) (fun _ _ => rfl) (fun _ _ => rfl) (.inr fun _ _ => rfl)
theorem step148 (x : Int × List AV × (Int × Int)) (h : L148.P x) : Round (book.envP 148 noSpec big noLoops) (loopBody Try.f148 2) (book.clean 148 2) (book.clean 148 (2 + 500)) st148 pr148 L148.P (fun x => (L148.tr x).val) L148.m x := by
  obtain ⟨i, vs, a, b⟩ := x
  refine r148 i vs a b _ _ _ (fun k => h.in_ k) (fun k => okW_has h.ok (h.lt k)) (fun k e => ?_) (fun k e => ?_) (fun k => h.fin_ good148 k)
  · rw [and_true3] at e
    refine (h.found good148 k e).trans ?_
    show (Ex.ret, stA 19 [(4, .int .i64 ((i.toNat : Nat) : Int))] []) = _
    rw [h.cast]; rfl
  · rw [and_true3] at e; exact h.on good148 k e
theorem lok148 {loops} : LoopOk (book.envP 148 noSpec big loops) (loopBody Try.f148 2) lp148 := FL.loop (loops' := noLoops) (noInner (by kernel_rfl)) (by kernel_rfl) step148
theorem pre148 {vs : List AV} {w : Int × Int} (h : okW vs = true) : L148.pre (0, vs, w) = true := FL.pre_of (i := 0) (Nat.zero_le _) (okW_iff.1 h).2 h
theorem s148 : SumTOk Try.prog 148 S148 := sumWD_ok fun x h => by
  obtain ⟨vs, a, b⟩ := x
  refine book_ok.run1 (by kernel_rfl) noSpec_ok (by kernel_rfl) lok148 (p148 vs a b _ (pre148 h) (fun e => ?_) (fun e => ?_))
  · show _ = ((Tree.ite (hasV vs (a, b)) _ _).val, _)
    rw [e]; rfl
  · show _ = ((Tree.ite (hasV vs (a, b)) _ _).val, _)
    rw [e]; rfl
theorem hasV_eq (vs : List AV) (w : Int × Int) : hasV vs w = hasW vs w := by
  unfold hasV hasW
  rw [show (fun v => sameW (wideOf v) w) = fun v => sameW w (wideOf v) from funext fun v => sameW_comm _ _]
theorem sp97_ok : SpecTL Try.prog sp97 := ⟨s148, trivial⟩
theorem s97 : SumTOk Try.prog 97 S97 := sumWD_ok fun x h => by
  obtain ⟨vs, a, b⟩ := x
  refine book_ok.pth (by kernel_rfl) sp97_ok (p97 vs a b _ h (fun e => ?_) (fun e => ?_)) <;> rw [hasV_eq] at e <;> show _ = (AV.bool (hasW vs (a, b)), _) <;> rw [e]

theorem good137 : L137.Good := FL.good_any (fun r => r.1) (fun r v => sameW (wideOf v) r.2) (fun _ => rfl) (fun _ _ => rfl) (fun _ _ => rfl) (.inl ⟨fun _ _ _ => rfl, fun _ _ _ => rfl⟩)
theorem step137 (x : Int × List AV × (Int × Int)) (h : L137.P x) : Round (book.envP 137 noSpec big noLoops) (loopBody Try.f137 2) (book.clean 137 2) (book.clean 137 (2 + 500)) st137 pr137 L137.P (fun x => (L137.tr x).val) L137.m x := by
  obtain ⟨i, vs, a, b⟩ := x
  refine r137 i vs a b _ _ _ (fun k => h.in_ k) (fun k => okW_has h.ok (h.lt k)) (fun k e => ?_) (fun k e => ?_) (fun k => h.fin_ good137 k)
  · rw [and_true3] at e; exact h.found good137 k e
  · rw [and_true3] at e; exact h.on good137 k e
theorem lok137 {loops} : LoopOk (book.envP 137 noSpec big loops) (loopBody Try.f137 2) lp137 := FL.loop (loops' := noLoops) (noInner (by kernel_rfl)) (by kernel_rfl) step137
theorem len0 (vs : List AV) : ieq (vs.length : Int) 0 = vs.isEmpty := by cases vs <;> simp [ieq]; omega
theorem s137 : SumTOk Try.prog 137 S137 := sumWD_ok fun x h => by
  obtain ⟨⟨a, b⟩, vs⟩ := x
  refine book_ok.run1 (by kernel_rfl) noSpec_ok (by kernel_rfl) lok137 (p137 vs a b _ (FL.pre_of (i := 0) (Nat.zero_le _) (okW_iff.1 h).2 h) (fun e => ?_) (fun e => ?_)) <;> show _ = (AV.bool (vs.isEmpty || hasW vs (a, b)), _)
  · rw [e, Bool.or_true]
  · rw [e, Bool.or_false, len0]
theorem sp136_ok : SpecTL Try.prog sp136 := ⟨s97, trivial⟩
theorem s136 : SumTOk Try.prog 136 S136 := sumWD_ok fun x h => by
  obtain ⟨⟨f, k, ⟨a, b⟩, c, d⟩, n, vs⟩ := x
  refine book_ok.pth (by kernel_rfl) sp136_ok (p136 f k a b c d n vs _ (fun e1 e2 => ?_) (fun _ _ _ => h) (fun e1 e2 e3 => ?_) (fun e1 e2 e3 => ?_) (fun e1 => ?_)) <;> show _ = (AV.bool (givesF (f, k, (a, b), (c, d)) n vs), _) <;> unfold givesF <;> simp only [e1, Bool.true_and, Bool.false_and, cond_true]
  · rw [len0] at e2; rw [e2]; rfl
  · rw [len0] at e2 ⊢; rw [e2, e3]; simp
  · rw [len0] at e2 ⊢; rw [e2, e3]; rfl

end Go.Proofs.Ytdcijmigoefnjaa
