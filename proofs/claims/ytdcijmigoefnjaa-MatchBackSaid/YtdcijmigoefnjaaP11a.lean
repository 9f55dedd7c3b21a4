import Derived.Test.YtdcijmigoefnjaaD03
/- Chapter 11: what a part gives (printed by program; long names). -/
set_option linter.unusedVariables false
set_option maxRecDepth 100000
set_option maxHeartbeats 0
namespace Go.Proofs.Ytdcijmigoefnjaa
open Go Go.Ev

def r148_o0 (i : Int) (vs : List AV) (a b : Int) : AS := AS.mk [AV.unk, AV.unk, AV.unk, AV.unk, AV.int IntKind.i64 i, AV.unk, AV.unk, AV.unk, AV.unk, AV.unk, AV.unk, AV.unk, AV.unk, AV.unk, AV.unk, AV.unk, AV.unk, AV.unk, AV.unk] []
def r148_o1 (i : Int) (vs : List AV) (a b : Int) : AS := AS.mk [AV.unk, AV.unk, AV.unk, AV.unk, AV.unk, AV.unk, AV.unk, AV.unk, AV.unk, AV.unk, AV.unk, AV.unk, AV.unk, AV.unk, AV.unk, AV.unk, AV.unk, AV.unk, AV.unk] []
def r148_c0 (i : Int) (vs : List AV) (a b : Int) : Bool := AV.has (TI.mk (TD.struct [(0, 34, false), (1, 34, false)]) 2 16 [AV.int IntKind.u64 0, AV.int IntKind.u64 0]) (vs.getD i.toNat AV.unk)
def r148_c1 (i : Int) (vs : List AV) (a b : Int) : Bool := ieq a ((vs.getD i.toNat AV.unk).cells.getD 0 AV.unk).asInt && (ieq b ((vs.getD i.toNat AV.unk).cells.getD 1 AV.unk).asInt && true)
theorem r148 (i : Int) (vs : List AV) (a b : Int) (Pr : _ → Prop) (F : _ → Ex × AS) (m : _ → Nat) (k0 : (ilt i (↑vs.length : Int)) = true → (inR i vs.length) = true) (k1 : (ilt i (↑vs.length : Int)) = true → (AV.has (TI.mk (TD.struct [(0, 34, false), (1, 34, false)]) 2 16 [AV.int IntKind.u64 0, AV.int IntKind.u64 0]) (vs.getD i.toNat AV.unk)) = true) (k2 : (ilt i (↑vs.length : Int)) = true → (ieq a ((vs.getD i.toNat AV.unk).cells.getD 0 AV.unk).asInt && (ieq b ((vs.getD i.toNat AV.unk).cells.getD 1 AV.unk).asInt && true)) = true → F (i, vs, (a, b)) = (Ex.ret, r148_o0 i vs a b)) (k3 : (ilt i (↑vs.length : Int)) = true → (ieq a ((vs.getD i.toNat AV.unk).cells.getD 0 AV.unk).asInt && (ieq b ((vs.getD i.toNat AV.unk).cells.getD 1 AV.unk).asInt && true)) = false → OnOk Pr F m (i, vs, (a, b)) ((iadd IntKind.i64 i 1, vs, a, b))) (k4 : (ilt i (↑vs.length : Int)) = false → F (i, vs, (a, b)) = (Ex.exit 0, r148_o1 i vs a b)) : Round (book.envP 148 noSpec big noLoops) (loopBody Try.f148 2) (book.clean 148 2) (book.clean 148 (2 + 500)) st148 pr148 Pr F m (i, vs, (a, b)) :=
  Round.of (Bool.rec (motive := fun _ => TE) (.ret (Ex.exit 0, r148_o1 i vs a b)) (Bool.rec (motive := fun _ => TE) .no (Bool.rec (motive := fun _ => TE) .no (Bool.rec (motive := fun _ => TE) (.must (Same (st148 (iadd IntKind.i64 i 1, vs, a, b))) (.ret (.normal, st148 ((iadd IntKind.i64 i 1, vs, a, b))))) (.ret (Ex.ret, r148_o0 i vs a b)) ((r148_c1 i vs a b))) ((r148_c0 i vs a b))) (inR i vs.length)) (ilt i (↑vs.length : Int))) (.s (.s .z .z) .z) (by kernel_rfl) (.ite (fun h0_0 => .step (k0 h0_0) (.step (k1 h0_0) (.ite (fun h2_3 => .out (k2 h0_0 h2_3)) (fun h2_3 => .must (same_ok _) (.next (k3 h0_0 h2_3)))))) (fun h0_0 => .exit (k4 h0_0)))
theorem p148 (vs : List AV) (a b : Int) (r : AV × List (List AV)) (k0 : (L148.pre (0, vs, a, b)) = true) (k1 : (hasV vs (a, b)) = true → ((AV.int IntKind.i64 (↑(ixV vs (a, b) 0) : Int), [])) = r) (k2 : (hasV vs (a, b)) = false → ((AV.int IntKind.i64 (-1), [])) = r) : Goes (runP (book.envP 148 noSpec big (loopsAt [(2, lp148)])) Try.f148 [.sl 2 vs .sh, wA (a, b)] [] (.s .z .z)) r :=
  Goes.of_eq (t' := .must (Same (st148 (0, vs, a, b))) (Bool.rec (motive := fun _ => TR) .no (Bool.rec (motive := fun _ => TR) (.ret ((AV.int IntKind.i64 (-1), []))) (.ret ((AV.int IntKind.i64 (↑(ixV vs (a, b) 0) : Int), []))) (hasV vs (a, b))) (L148.pre (0, vs, a, b)))) (by kernel_rfl) (.must (same_ok _) (.step (k0) (.ite (fun h1_1 => Goes.leafE (k1 h1_1)) (fun h1_1 => Goes.leafE (k2 h1_1)))))
theorem p97 (vs : List AV) (a b : Int) (r : AV × List (List AV)) (k0 : (okW vs) = true) (k1 : (hasV vs (a, b)) = true → ((AV.bool true, [])) = r) (k2 : (hasV vs (a, b)) = false → ((AV.bool false, [])) = r) : Goes (runP (book.envP 97 sp97 100 noLoops) Try.f97 [.sl 2 vs .sh, wA (a, b)] [] (.s .z .z)) r :=
  Goes.of_eq (t' := .must (Same ([AV.sl 2 vs St.sh, AV.agg [AV.int IntKind.u64 a, AV.int IntKind.u64 b]])) (Bool.rec (motive := fun _ => TR) .no (Bool.rec (motive := fun _ => TR) (.ret ((AV.bool false, []))) (.ret ((AV.bool true, []))) (hasV vs (a, b))) (okW vs))) (by kernel_rfl) (.must (same_ok _) (.step (k0) (.ite (fun h1_1 => Goes.leafE (k1 h1_1)) (fun h1_1 => Goes.leafE (k2 h1_1)))))
theorem p136 (f : Int) (k : Bool) (a b c d : Int) (n : Int) (vs : List AV) (r : AV × List (List AV)) (k0 : (ieq f n) = true → (ieq (↑vs.length : Int) 0) = true → ((AV.bool (bif ieq f n then true else false), [])) = r) (k1 : (ieq f n) = true → (ieq (↑vs.length : Int) 0) = false → (!k) = true → (okW vs) = true) (k2 : (ieq f n) = true → (ieq (↑vs.length : Int) 0) = false → (!k) = true → ((AV.bool (bif ieq f n then bif ieq (↑vs.length : Int) 0 then true else bif !k then hasW vs (a, b) else false else false), [])) = r) (k3 : (ieq f n) = true → (ieq (↑vs.length : Int) 0) = false → (!k) = false → ((AV.bool (bif ieq f n then bif ieq (↑vs.length : Int) 0 then true else false else false), [])) = r) (k4 : (ieq f n) = false → ((AV.bool false, [])) = r) : Goes (runP (book.envP 136 sp136 100 noLoops) Try.f136 [oxA (f, k, (a, b), (c, d)), .agg [.int .i64 n, .sl 2 vs .sh]] [] (.s (.t (.t (.t (.t (.s (.t (.t (.t (.t (.t (.t .z)))))) (.f (.f (.f (.s (.t (.t (.t (.t (.f (.t .z)))))) (.f (.f (.f (.f (.f (.f (.t .z)))))))))))))))) (.f (.f (.f (.f (.f (.f .z)))))))) r :=
  Goes.of_eq (t' := Bool.rec (motive := fun _ => TR) (Bool.rec (motive := fun _ => TR) .no (Bool.rec (motive := fun _ => TR) .no (Bool.rec (motive := fun _ => TR) .no (Bool.rec (motive := fun _ => TR) .no (Bool.rec (motive := fun _ => TR) .no (Bool.rec (motive := fun _ => TR) .no (.ret ((AV.bool false, []))) (asTold (ieq f n) false)) (asTold (ieq f n) false)) (asTold (ieq f n) false)) (asTold (ieq f n) false)) (asTold (ieq f n) false)) (asTold (ieq f n) false)) (Bool.rec (motive := fun _ => TR) .no (Bool.rec (motive := fun _ => TR) .no (Bool.rec (motive := fun _ => TR) .no (Bool.rec (motive := fun _ => TR) .no (Bool.rec (motive := fun _ => TR) (Bool.rec (motive := fun _ => TR) .no (Bool.rec (motive := fun _ => TR) .no (Bool.rec (motive := fun _ => TR) .no (Bool.rec (motive := fun _ => TR) (Bool.rec (motive := fun _ => TR) .no (Bool.rec (motive := fun _ => TR) .no (Bool.rec (motive := fun _ => TR) .no (Bool.rec (motive := fun _ => TR) .no (Bool.rec (motive := fun _ => TR) .no (Bool.rec (motive := fun _ => TR) .no (Bool.rec (motive := fun _ => TR) .no (.ret ((AV.bool (bif ieq f n then bif ieq (↑vs.length : Int) 0 then true else false else false), []))) (asTold (ieq f n) true)) (asTold (!k) false)) (asTold (ieq (↑vs.length : Int) 0) false)) (asTold (!k) false)) (asTold (!k) false)) (asTold (!k) false)) (asTold (!k) false)) (Bool.rec (motive := fun _ => TR) .no (Bool.rec (motive := fun _ => TR) .no (Bool.rec (motive := fun _ => TR) .no (Bool.rec (motive := fun _ => TR) .no (.must (Same ([AV.sl 2 vs St.sh, AV.agg [AV.int IntKind.u64 a, AV.int IntKind.u64 b]])) (Bool.rec (motive := fun _ => TR) .no (Bool.rec (motive := fun _ => TR) .no (Bool.rec (motive := fun _ => TR) .no (.ret ((AV.bool (bif ieq f n then bif ieq (↑vs.length : Int) 0 then true else bif !k then hasW vs (a, b) else false else false), []))) (asTold (ieq f n) true)) (asTold (ieq (↑vs.length : Int) 0) false)) (okW vs))) (asTold (!k) true)) (asTold (!k) true)) (asTold (!k) true)) (asTold (!k) true)) (!k)) (asTold (ieq (↑vs.length : Int) 0) false)) (asTold (ieq (↑vs.length : Int) 0) false)) (asTold (ieq (↑vs.length : Int) 0) false)) (Bool.rec (motive := fun _ => TR) .no (Bool.rec (motive := fun _ => TR) .no (Bool.rec (motive := fun _ => TR) .no (Bool.rec (motive := fun _ => TR) .no (Bool.rec (motive := fun _ => TR) .no (Bool.rec (motive := fun _ => TR) .no (.ret ((AV.bool (bif ieq f n then true else false), []))) (asTold (ieq (↑vs.length : Int) 0) true)) (asTold (ieq f n) true)) (asTold (ieq (↑vs.length : Int) 0) true)) (asTold (ieq (↑vs.length : Int) 0) true)) (asTold (ieq (↑vs.length : Int) 0) true)) (asTold (ieq (↑vs.length : Int) 0) true)) (ieq (↑vs.length : Int) 0)) (asTold (ieq f n) true)) (asTold (ieq f n) true)) (asTold (ieq f n) true)) (asTold (ieq f n) true)) (ieq f n)) (by kernel_rfl) (.ite (fun h0_0 => .step (told h0_0) (.step (told h0_0) (.step (told h0_0) (.step (told h0_0) (.ite (fun h0_1 => .step (told h0_1) (.step (told h0_1) (.step (told h0_1) (.step (told h0_1) (.step (told h0_0) (.step (told h0_1) (Goes.leafE (k0 h0_0 h0_1)))))))) (fun h0_1 => .step (told h0_1) (.step (told h0_1) (.step (told h0_1) (.ite (fun h1_2 => .step (told h1_2) (.step (told h1_2) (.step (told h1_2) (.step (told h1_2) (.must (same_ok _) (.step (k1 h0_0 h0_1 h1_2) (.step (told h0_1) (.step (told h0_0) (Goes.leafE (k2 h0_0 h0_1 h1_2)))))))))) (fun h1_2 => .step (told h1_2) (.step (told h1_2) (.step (told h1_2) (.step (told h1_2) (.step (told h0_1) (.step (told h1_2) (.step (told h0_0) (Goes.leafE (k3 h0_0 h0_1 h1_2)))))))))))))))))) (fun h0_0 => .step (told h0_0) (.step (told h0_0) (.step (told h0_0) (.step (told h0_0) (.step (told h0_0) (.step (told h0_0) (Goes.leafE (k4 h0_0)))))))))

end Go.Proofs.Ytdcijmigoefnjaa

/- Chapter 11: what a part gives: contracts. -/
set_option linter.unusedVariables false
set_option linter.unusedSimpArgs false
set_option maxRecDepth 100000
set_option maxHeartbeats 0
namespace Go.Proofs.Ytdcijmigoefnjaa
open Go Go.Ev

theorem ieq_comm (a b : Int) : ieq a b = ieq b a := by
  unfold ieq; rw [Bool.eq_iff_iff]; simp only [beq_iff_eq]; exact ⟨Eq.symm, Eq.symm⟩
theorem sameW_comm (v w : Int × Int) : sameW v w = sameW w v := by unfold sameW; rw [ieq_comm v.1, ieq_comm v.2]
theorem lenB_iff {xs : List AV} : lenB xs = true ↔ xs.length ≤ 9223372036854775807 := by unfold lenB; rw [Nat.ble_eq]
theorem okW_iff {vs : List AV} : okW vs = true ↔ vs.all isWd = true ∧ vs.length ≤ 9223372036854775807 := by unfold okW; rw [Bool.and_eq_true, lenB_iff]
theorem getD_mem {xs : List AV} {i : Nat} (h : i < xs.length) : xs.getD i .unk ∈ xs := by
  rw [List.getD_eq_getElem?_getD, List.getElem?_eq_getElem h]; exact List.getElem_mem h
theorem wd_has {v : AV} (h : isWd v = true) : AV.has (TI.mk (TD.struct [(0, 34, false), (1, 34, false)]) 2 16 [AV.int IntKind.u64 0, AV.int IntKind.u64 0]) v = true := by
  unfold isWd at h
  split at h
  · rfl
  · cases h
theorem okW_has {vs : List AV} (h : okW vs = true) {i : Nat} (hi : i < vs.length) : AV.has (TI.mk (TD.struct [(0, 34, false), (1, 34, false)]) 2 16 [AV.int IntKind.u64 0, AV.int IntKind.u64 0]) (vs.getD i .unk) = true :=
  wd_has (List.all_eq_true.1 (okW_iff.1 h).1 _ (getD_mem hi))

theorem and_true3 (a b : Bool) : (a && (b && true)) = (a && b) := by cases a <;> cases b <;> rfl
theorem good148 : L148.Good := FL.good_any (fun r => r.1) (fun r v => sameW r.2 (wideOf v)) (fun _ => rfl) (fun _ _ => rfl) (fun _ _ => rfl) (.inr fun _ _ => rfl)
theorem step148 (x : Int × List AV × (Int × Int)) (h : L148.P x) : Round (book.envP 148 noSpec big noLoops) (loopBody Try.f148 2) (book.clean 148 2) (book.clean 148 (2 + 500)) st148 pr148 L148.P (fun x => (L148.tr x).val) L148.m x := by
  obtain ⟨i, vs, a, b⟩ := x
  refine r148 i vs a b _ _ _ (fun k => h.in_ k) (fun k => okW_has h.ok (h.lt k)) (fun k e => ?_) (fun k e => ?_) (fun k => h.fin_ good148 k)
  · rw [and_true3] at e
    refine (h.found good148 k e).trans ?_
    show (Ex.ret, stA 19 [(4, .int .i64 ((i.toNat : Nat) : Int))] []) = _
    rw [h.cast]; rfl
  · rw [and_true3] at e; exact h.on good148 k e
theorem lok148 {loops} : LoopOk (book.envP 148 noSpec big loops) (loopBody Try.f148 2) lp148 := FL.loop (loops' := noLoops) (noInner (by kernel_rfl)) (by kernel_rfl) step148
theorem pre148 {vs : List AV} {w : Int × Int} (h : okW vs = true) : L148.pre (0, vs, w) = true := FL.pre_of (i := 0) (Nat.zero_le _) (okW_iff.1 h).2 h
theorem s148 : SumTOk Try.prog 148 S148 := sumWD_ok fun x h => by
  obtain ⟨vs, a, b⟩ := x
  refine book_ok.run1 (by kernel_rfl) noSpec_ok (by kernel_rfl) lok148 (p148 vs a b _ (pre148 h) (fun e => ?_) (fun e => ?_))
  · show _ = ((Tree.ite (hasV vs (a, b)) _ _).val, _)
    rw [e]; rfl
  · show _ = ((Tree.ite (hasV vs (a, b)) _ _).val, _)
    rw [e]; rfl
theorem hasV_eq (vs : List AV) (w : Int × Int) : hasV vs w = hasW vs w := by
  unfold hasV hasW
  rw [show (fun v => sameW (wideOf v) w) = fun v => sameW w (wideOf v) from funext fun v => sameW_comm _ _]
theorem sp97_ok : SpecTL Try.prog sp97 := ⟨s148, trivial⟩
theorem s97 : SumTOk Try.prog 97 S97 := sumWD_ok fun x h => by
  obtain ⟨vs, a, b⟩ := x
  refine book_ok.pth (by kernel_rfl) sp97_ok (p97 vs a b _ h (fun e => ?_) (fun e => ?_)) <;> rw [hasV_eq] at e <;> show _ = (AV.bool (hasW vs (a, b)), _) <;> rw [e]

theorem len0 (vs : List AV) : ieq (vs.length : Int) 0 = vs.isEmpty := by cases vs <;> simp [ieq]; omega
theorem sp136_ok : SpecTL Try.prog sp136 := ⟨s97, trivial⟩
theorem s136 : SumTOk Try.prog 136 S136 := sumWD_ok fun x h => by
  obtain ⟨⟨f, k, ⟨a, b⟩, c, d⟩, n, vs⟩ := x
  refine book_ok.pth (by kernel_rfl) sp136_ok (p136 f k a b c d n vs _ (fun e1 e2 => ?_) (fun _ _ _ => h) (fun e1 e2 e3 => ?_) (fun e1 e2 e3 => ?_) (fun e1 => ?_)) <;> show _ = (AV.bool (givesF (f, k, (a, b), (c, d)) n vs), _) <;> unfold givesF <;> simp only [e1, Bool.true_and, Bool.false_and, cond_true]
  · rw [len0] at e2; rw [e2]; rfl
  · rw [len0] at e2 ⊢; rw [e2, e3]; simp
  · rw [len0] at e2 ⊢; rw [e2, e3]; rfl

end Go.Proofs.Ytdcijmigoefnjaa
