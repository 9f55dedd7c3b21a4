import Derived.Test.YtdcijmigoefnjaaP11c
import Derived.Test.YtdcijmigoefnjaaL11b
/- Chapter 11: what is wrong with a match: contracts. -/
set_option linter.unusedVariables false
set_option linter.unusedSimpArgs false
set_option maxRecDepth 100000
set_option maxHeartbeats 0
namespace Go.Proofs.Ytdcijmigoefnjaa
open Go Go.Ev

theorem s142 : SumTOk Try.prog 142 S142 := sum0_ok fun c _ => book_ok.pth (by kernel_rfl) noSpec_ok (p142 c _ rfl)
theorem s143 : SumTOk Try.prog 143 S142 := sum0_ok fun c _ => book_ok.pth (by kernel_rfl) noSpec_ok (p143 c _ rfl)
theorem s144 : SumTOk Try.prog 144 S144 := sumS_ok fun x _ => book_ok.pth (by kernel_rfl) noSpec_ok (p144 x.1 x.2 _ rfl)
theorem sp146_ok : SpecTL Try.prog sp146 := ⟨s144, trivial⟩
theorem good146 : L146.Good := FL.good_any (fun r => r.1) (fun r v => ieq (ox v).1 r.2.1) (fun _ => rfl) (fun _ _ => rfl) (fun _ _ => rfl) (.inr fun _ _ => rfl)
theorem step146 (x : Int × List AV × XO) (h : L146.P x) : Round (book.envP 146 sp146 big noLoops) (loopBody Try.f146 2) (book.clean 146 2) (book.clean 146 (2 + 500)) st146 pr146 L146.P (fun x => (L146.tr x).val) L146.m x := by
  obtain ⟨i, xs, o⟩ := x
  refine r146 i xs o _ _ _ (fun k => h.in_ k) (fun k => okX_has h.ok (h.lt k)) (fun k e => ?_) (fun k e => h.on good146 k e) (fun k => h.fin_ good146 k)
  refine (h.found good146 k e).trans ?_
  show (Ex.ret, stA 19 [(4, .int .i64 ((i.toNat : Nat) : Int))] _) = _
  rw [h.cast]; rfl
theorem lok146 {loops} : LoopOk (book.envP 146 sp146 big loops) (loopBody Try.f146 2) lp146 := FL.loop (loops' := noLoops) (noInner (by kernel_rfl)) (by kernel_rfl) step146
theorem pre146 {xs : List AV} (h : okX xs = true) (o : XO) : L146.pre (0, xs, o) = true := FL.pre_of (i := 0) (Nat.zero_le _) (okX_iff.1 h).2 h
theorem s146 : SumTOk Try.prog 146 S146 := sumWS_ok fun x h => by
  obtain ⟨xs, o⟩ := x
  have h : okX xs = true := h
  have key : ∀ b, sameF xs o.1 = b → CallsA Try.prog 146 [.sl 6 xs .sh, .fn 144 [.ptr 1000 0]] [oxC o] (bif b then .int .i64 (ixF xs o.1 0) else .int .i64 (-1)) [oxC o] := by
    intro b hb
    refine book_ok.run1 (by kernel_rfl) sp146_ok (by kernel_rfl) lok146 (p146 xs o _ (pre146 h o) (fun e => ?_) (fun e => ?_)) <;> rw [e] at hb <;> subst hb <;> rfl
  have := key _ rfl
  cases hb : sameF xs o.1 <;> simp only [hb, Tree.val, cond_true, cond_false] at this ⊢ <;> exact this
theorem sp94_ok : SpecTL Try.prog sp94 := ⟨s146, trivial⟩
theorem s94 : SumTOk Try.prog 94 S94 := sumWS_ok fun x h => by
  obtain ⟨xs, o⟩ := x
  refine book_ok.pth (by kernel_rfl) sp94_ok (p94 xs o _ h (fun e => ?_) (fun e => ?_)) <;> show _ = (AV.bool (sameF xs o.1), [oxC o]) <;> rw [e] <;> rfl

theorem chkJ_lt {xs : List AV} {j : Nat} (h : j < xs.length) : chkJ xs j = bif ieq (chkAt xs j) 0 then chkJ xs (j + 1) else chkAt xs j := by
  unfold chkJ
  rw [show xs.length - j = (xs.length - (j + 1)) + 1 by omega]; rfl
theorem chkJ_end {xs : List AV} {j : Nat} (h : xs.length ≤ j) : chkJ xs j = 0 := by
  unfold chkJ
  rw [show xs.length - j = 0 by omega]; rfl
theorem ixC_lt {xs : List AV} {j : Nat} (h : j < xs.length) : ixC xs j = bif !ieq (chkAt xs j) 0 then j else ixC xs (j + 1) := by
  unfold ixC
  rw [show xs.length - j = (xs.length - (j + 1)) + 1 by omega]; rfl
theorem chk_ix {xs : List AV} : ∀ (n j : Nat), n = xs.length - j → ieq (chkJ xs j) 0 = false → chkAt xs (ixC xs j) = chkJ xs j
  | 0, j, hn, h => by rw [chkJ_end (by omega)] at h; cases h
  | n + 1, j, hn, h => by
    have hlt : j < xs.length := by omega
    rw [chkJ_lt hlt] at h ⊢
    rw [ixC_lt hlt]
    cases hc : ieq (chkAt xs j) 0 <;> rw [hc] at h <;> simp only [Bool.not_true, Bool.not_false, cond_true, cond_false] at h ⊢
    exact chk_ix n (j + 1) (by omega) h
theorem good91 : L91.Good := by
  refine ⟨fun r j _ hj h => ?_, fun r j _ hj h => ?_, fun r j _ hj => ?_⟩
  · have h : (!ieq (chkAt r j) 0) = true := h
    refine ⟨?_, ?_⟩
    · show (!ieq (chkJ r j) 0) = true
      rw [chkJ_lt hj]
      cases hc : ieq (chkAt r j) 0 <;> rw [hc] at h
      · simp only [cond_false, hc]; rfl
      · cases h
    · show L91.out r (ixC r j) = _
      rw [ixC_lt hj, h]; rfl
  · have h : (!ieq (chkAt r j) 0) = false := h
    have hc : ieq (chkAt r j) 0 = true := by simpa using h
    refine ⟨?_, ?_⟩
    · show (!ieq (chkJ r j) 0) = !ieq (chkJ r (j + 1)) 0
      rw [chkJ_lt hj, hc]; rfl
    · show ixC r j = ixC r (j + 1)
      rw [ixC_lt hj, h]; rfl
  · show (!ieq (chkJ r j) 0) = false
    rw [chkJ_end hj]; rfl
theorem good92 : L92.Good := by
  refine ⟨fun r j h1 h2 h3 => ⟨(good91.yes r j h1 h2 h3).1, ?_⟩, good91.no, good91.end_⟩
  show L92.out r (ixC r j) = _
  rw [ixC_lt h2, show (!ieq (chkAt r j) 0) = true from h3]; rfl
theorem okX_take {xs : List AV} (h : okX xs = true) (n : Nat) : okX (xs.take n) = true := by
  rw [okX_iff] at h ⊢
  refine ⟨List.all_eq_true.2 fun x hx => List.all_eq_true.1 h.1 x (List.mem_of_mem_take hx), ?_⟩
  rw [List.length_take]; omega
theorem sp91_ok : SpecTL Try.prog sp91 := ⟨s94, s84, s142, trivial⟩
theorem chkAt_ge (xs : List AV) (j : Nat) : chkAt xs j = bif sameF (xs.take j) (ox (xs.getD j .unk)).1 then 10 else bif !metF (xs.take j) (ox (xs.getD j .unk)).1 then 9 else 0 := rfl
theorem inR1 {i : Int} {n : Nat} (h : inR i n = true) : inR i (n + 1) = true := by rw [inR_iff] at h ⊢; omega
theorem step91 (x : Int × List AV) (h : L91.P x) : Round (book.envP 91 sp91 big noLoops) (loopBody Try.f91 2) (book.clean 91 2) (book.clean 91 (2 + 500)) st91 pr91 L91.P (fun x => (L91.tr x).val) L91.m x := by
  obtain ⟨i, xs⟩ := x
  have hx : okX xs = true := h.ok
  refine r91 i xs _ _ _ (fun k => h.in_ k) (fun k => okX_has hx (h.lt k)) (fun k => inR1 (h.in_ k)) (fun k => okX_take hx _) (fun k e => ?_) (fun k e e2 => ?_) (fun k e e2 => ?_) (fun k => h.fin_ good91 k)
  · have e : sameF (xs.take i.toNat) (ox (xs.getD i.toNat .unk)).1 = true := e
    have hc : chkAt xs i.toNat = 10 := by rw [chkAt_ge, e]; rfl
    refine (h.found good91 k (show (!ieq (chkAt xs i.toNat) 0) = true by rw [hc]; rfl)).trans ?_
    show (Ex.ret, stA 28 [(2, .ptr 2 0)] [(2, baF (chkAt xs i.toNat))]) = _
    rw [hc]; rfl
  · have e : sameF (xs.take i.toNat) (ox (xs.getD i.toNat .unk)).1 = false := e
    have e2 : (!metF (xs.take i.toNat) (ox (xs.getD i.toNat .unk)).1) = true := e2
    have hc : chkAt xs i.toNat = 9 := by rw [chkAt_ge, e, e2]; rfl
    refine (h.found good91 k (show (!ieq (chkAt xs i.toNat) 0) = true by rw [hc]; rfl)).trans ?_
    show (Ex.ret, stA 28 [(2, .ptr 2 0)] [(2, baF (chkAt xs i.toNat))]) = _
    rw [hc]; rfl
  · have e : sameF (xs.take i.toNat) (ox (xs.getD i.toNat .unk)).1 = false := e
    have e2 : (!metF (xs.take i.toNat) (ox (xs.getD i.toNat .unk)).1) = false := e2
    have hc : chkAt xs i.toNat = 0 := by rw [chkAt_ge, e, e2]; rfl
    exact h.on good91 k (show (!ieq (chkAt xs i.toNat) 0) = false by rw [hc]; rfl)
theorem lok91 {loops} : LoopOk (book.envP 91 sp91 big loops) (loopBody Try.f91 2) lp91 := FL.loop (loops' := noLoops) (noInner (by kernel_rfl)) (by kernel_rfl) step91
theorem pre91 {xs : List AV} (h : okX xs = true) : L91.pre (0, xs) = true := FL.pre_of (i := 0) (Nat.zero_le _) (okX_iff.1 h).2 h
theorem chkJ0 (xs : List AV) : chkJ xs 0 = chk11 xs := rfl
theorem chk_end {xs : List AV} {f : FuncId} (key : ∀ r, ((!ieq (chkJ xs 0) 0) = true → ((AV.agg [.bool true, .int .i64 4, .int .i64 (chkAt xs (ixC xs 0))], ([] : List (List AV))) = r)) → ((!ieq (chkJ xs 0) 0) = false → ((AV.agg [.bool false, .int .i64 0, .int .i64 0], []) = r)) →
    CallsA Try.prog f [.sl 6 xs .sh] [] r.1 r.2) : CallsA Try.prog f [.sl 6 xs .sh] [] (Tree.val (.ite (ieq (chk11 xs) 0) (.leaf (.agg noF)) (.leaf (.agg (baF (chk11 xs)))))) [] := by
  refine key (_, []) (fun e => ?_) (fun e => ?_)
  · have e2 : ieq (chkJ xs 0) 0 = false := by simpa using e
    rw [chk_ix _ 0 rfl e2]
    rw [chkJ0] at e2 ⊢
    simp only [Tree.val, e2, cond_false]; rfl
  · have e2 : ieq (chkJ xs 0) 0 = true := by simpa using e
    rw [chkJ0] at e2
    simp only [Tree.val, e2, cond_true]; rfl
theorem s91 : SumTOk Try.prog 91 S91 := sumW_ok fun xs h => chk_end fun r k1 k2 => book_ok.run1 (by kernel_rfl) sp91_ok (by kernel_rfl) lok91 (p91 xs r (pre91 h) k1 k2)

theorem sp92_ok : SpecTL Try.prog sp92 := ⟨s85, s143, trivial⟩
theorem good92i : L92i.Good := by
  refine ⟨fun r j ho hj h => ⟨?_, rfl⟩, fun r j ho hj h => ⟨?_, rfl⟩, fun r j ho hj => ?_⟩
  all_goals
    have ho : (okX r.1 && inR r.2 r.1.length) = true := ho
    simp only [Bool.and_eq_true, inR_iff] at ho
  · have hj : j < r.2.toNat := hj
    show sameF ((r.1.take r.2.toNat).drop j) _ = true
    unfold sameF
    rw [getD_drop (by rw [List.length_take]; omega), List.any_cons]
    have e : (r.1.take r.2.toNat).getD j .unk = r.1.getD j .unk := by
      rw [List.getD_eq_getElem?_getD, List.getD_eq_getElem?_getD, List.getElem?_take_of_lt hj]
    rw [e, show ieq (ox (r.1.getD j .unk)).1 _ = true from h]; rfl
  · have hj : j < r.2.toNat := hj
    show sameF ((r.1.take r.2.toNat).drop j) _ = sameF ((r.1.take r.2.toNat).drop (j + 1)) _
    unfold sameF
    rw [getD_drop (by rw [List.length_take]; omega), List.any_cons]
    have e : (r.1.take r.2.toNat).getD j .unk = r.1.getD j .unk := by
      rw [List.getD_eq_getElem?_getD, List.getD_eq_getElem?_getD, List.getElem?_take_of_lt hj]
    rw [e, show ieq (ox (r.1.getD j .unk)).1 _ = false from h]; rfl
  · have hj : r.2.toNat ≤ j := hj
    show sameF ((r.1.take r.2.toNat).drop j) _ = false
    rw [List.drop_eq_nil_of_le (by rw [List.length_take]; omega)]; rfl
theorem step92i (x : Int × List AV × Int) (h : L92i.P x) : Round (book.envP 92 sp92 big noLoops) (loopBody Try.f92 5) (book.clean 92 5) (book.clean 92 (5 + 500)) st92i pr92i L92i.P (fun x => (L92i.tr x).val) L92i.m x := by
  have ho := h.ok
  obtain ⟨j, xs, i⟩ := x
  have ho : (okX xs && inR i xs.length) = true := ho
  simp only [Bool.and_eq_true] at ho
  obtain ⟨hx, hi⟩ := ho
  have hi' := inR_iff.1 hi
  have lo : 0 ≤ j := h.lo
  have cv : ilt j i = ilt j ((i.toNat : Nat) : Int) := by rw [show ((i.toNat : Nat) : Int) = i by omega]
  have lt : ilt j i = true → j < i := fun k => ilt_iff.1 k
  refine r92i j xs i _ _ _ (fun k => inR_iff.2 ⟨lo, by have := lt k; omega⟩) (fun k => okX_has hx (by have := lt k; omega)) (fun k => hi) (fun k => okX_has hx (by omega)) (fun k e => h.found good92i (cv ▸ k) e) (fun k e => h.on good92i (cv ▸ k) e) (fun k => h.fin_ good92i (cv ▸ k))
theorem lok92i {loops} : LoopOk (book.envP 92 sp92 big loops) (loopBody Try.f92 5) lp92i := FL.loop (loops' := noLoops) (noInner (by kernel_rfl)) (by kernel_rfl) step92i
theorem inner1 {E : EnvP} {c d : Code} {k : Nat} {l : AS → T (Tree (Ex × AS))} (h : loopsOf c = [d]) (hk : E.loops = loopsAt [(k, l)]) (hl : LoopOk E d l) : LoopsOk E (loopsOf c) := by
  rw [h]
  intro d' hd f hf
  simp only [List.mem_singleton] at hd
  subst hd
  rw [hk] at hf
  exact loopsAt_one (P := fun _ f => LoopOk E d' f) hl _ _ hf
theorem step92 (x : Int × List AV) (h : L92.P x) : Round (book.envP 92 sp92 big (loopsAt [(5, lp92i)])) (loopBody Try.f92 2) (book.clean 92 2) (book.clean 92 (2 + 500)) st92 pr92 L92.P (fun x => (L92.tr x).val) L92.m x := by
  obtain ⟨i, xs⟩ := x
  have hx : okX xs = true := h.ok
  refine r92 i xs _ _ _ (fun k => ?_) (fun k e => ?_) (fun k e => inR1 (h.in_ k)) (fun k e => h.in_ k) (fun k e => okX_has hx (h.lt k)) (fun k e => okX_take hx _) (fun k e e2 => ?_) (fun k e e2 => ?_) (fun k => h.fin_ good92 k)
  · have hin := h.in_ k
    have h1 := inR_iff.1 (show inR i xs.length = true from hin)
    have := (okX_iff.1 hx).2
    refine FL.pre_of (i := 0) (Nat.zero_le _) (show i.toNat ≤ _ by omega) ?_
    show (okX xs && inR i xs.length) = true
    rw [hx, show inR i xs.length = true from hin]; rfl
  · have e : sameF (xs.take i.toNat) (ox (xs.getD i.toNat .unk)).1 = true := e
    have hc : chkAt xs i.toNat = 10 := by rw [chkAt_ge, e]; rfl
    refine (h.found good92 k (show (!ieq (chkAt xs i.toNat) 0) = true by rw [hc]; rfl)).trans ?_
    show (Ex.ret, stA 40 [(2, .ptr 2 0)] [(2, baF (chkAt xs i.toNat))]) = _
    rw [hc]; rfl
  · have e : sameF (xs.take i.toNat) (ox (xs.getD i.toNat .unk)).1 = false := e
    have e2 : (!metF (xs.take i.toNat) (ox (xs.getD i.toNat .unk)).1) = true := e2
    have hc : chkAt xs i.toNat = 9 := by rw [chkAt_ge, e, e2]; rfl
    refine (h.found good92 k (show (!ieq (chkAt xs i.toNat) 0) = true by rw [hc]; rfl)).trans ?_
    show (Ex.ret, stA 40 [(2, .ptr 2 0)] [(2, baF (chkAt xs i.toNat))]) = _
    rw [hc]; rfl
  · have e : sameF (xs.take i.toNat) (ox (xs.getD i.toNat .unk)).1 = false := e
    have e2 : (!metF (xs.take i.toNat) (ox (xs.getD i.toNat .unk)).1) = false := e2
    have hc : chkAt xs i.toNat = 0 := by rw [chkAt_ge, e, e2]; rfl
    exact h.on good92 k (show (!ieq (chkAt xs i.toNat) 0) = false by rw [hc]; rfl)
theorem lok92 {loops} : LoopOk (book.envP 92 sp92 big loops) (loopBody Try.f92 2) lp92 := FL.loop (loops' := loopsAt [(5, lp92i)]) (inner1 (d := loopBody Try.f92 5) (by kernel_rfl) rfl lok92i) (by kernel_rfl) step92
theorem s92 : SumTOk Try.prog 92 S91 := sumW_ok fun xs h => chk_end fun r k1 k2 => book_ok.run1 (by kernel_rfl) sp92_ok (by kernel_rfl) lok92 (p92 xs r (pre91 h) k1 k2)

end Go.Proofs.Ytdcijmigoefnjaa
