/- Chapter 11: the same, and cubes: contracts. -/
import Derived.Test.YtdcijmigoefnjaaP11d
import Derived.Test.YtdcijmigoefnjaaL11c
import Derived.Test.YtdcijmigoefnjaaL10b
set_option linter.unusedVariables false
set_option linter.unusedSimpArgs false
set_option maxRecDepth 100000
set_option maxHeartbeats 0
namespace Go.Proofs.Ytdcijmigoefnjaa
open Go Go.Ev

theorem eqO_step {xs ys : List AV} {n : Nat} (h1 : n < xs.length) (h2 : n < ys.length) : eqO (xs.drop n) (ys.drop n) = (sameO (ox (xs.getD n .unk)) (ox (ys.getD n .unk)) && eqO (xs.drop (n + 1)) (ys.drop (n + 1))) := by
  rw [getD_drop h1, getD_drop h2]; rfl
theorem eqO_len : ∀ {xs ys : List AV}, eqO xs ys = true → xs.length = ys.length
  | [], [], _ => rfl
  | x :: xs, y :: ys, h => by
    simp only [eqO, Bool.and_eq_true] at h
    simp [eqO_len h.2]
  | [], _ :: _, h => by cases h
  | _ :: _, [], h => by cases h
theorem ok145 {r : X145} (h : (okX r.1 && (okX r.2 && Nat.beq r.1.length r.2.length)) = true) : okX r.1 = true ∧ okX r.2 = true ∧ r.1.length = r.2.length := by
  simp only [Bool.and_eq_true] at h
  exact ⟨h.1, h.2.1, Nat.eq_of_beq_eq_true h.2.2⟩
theorem good145 : L145.Good := by
  refine ⟨fun r j ho hj h => ⟨?_, rfl⟩, fun r j ho hj h => ⟨?_, rfl⟩, fun r j ho hj => ?_⟩
  all_goals
    obtain ⟨h1, h2, h3⟩ := ok145 (r := r) ho
  · have hj : j < r.1.length := hj
    have h : (!sameO (ox (r.1.getD j .unk)) (ox (r.2.getD j .unk))) = true := h
    show (!eqO (r.1.drop j) (r.2.drop j)) = true
    rw [eqO_step hj (by omega)]
    cases hs : sameO (ox (r.1.getD j .unk)) (ox (r.2.getD j .unk)) <;> rw [hs] at h
    · rfl
    · cases h
  · have hj : j < r.1.length := hj
    have h : (!sameO (ox (r.1.getD j .unk)) (ox (r.2.getD j .unk))) = false := h
    show (!eqO (r.1.drop j) (r.2.drop j)) = !eqO (r.1.drop (j + 1)) (r.2.drop (j + 1))
    rw [eqO_step hj (by omega)]
    cases hs : sameO (ox (r.1.getD j .unk)) (ox (r.2.getD j .unk)) <;> rw [hs] at h
    · cases h
    · rfl
  · have hj : r.1.length ≤ j := hj
    show (!eqO (r.1.drop j) (r.2.drop j)) = false
    rw [List.drop_eq_nil_of_le hj, List.drop_eq_nil_of_le (by omega)]; rfl
theorem good88 : L88.Good := ⟨fun r j a b c => ⟨(good145.yes r j a b c).1, rfl⟩, good145.no, good145.end_⟩
theorem sp145_ok : SpecTL Try.prog sp145 := ⟨s78, s79, trivial⟩
theorem step145 (x : Int × X145) (h : L145.P x) : Round (book.envP 145 sp145 big noLoops) (loopBody Try.f145 4) (book.clean 145 4) (book.clean 145 (4 + 500)) st145 pr145 L145.P (fun x => (L145.tr x).val) L145.m x := by
  obtain ⟨i, xs, ys⟩ := x
  obtain ⟨h1, h2, h3⟩ := ok145 (r := (xs, ys)) h.ok
  have h3 : xs.length = ys.length := h3
  exact r145 i xs ys _ _ _ (fun k => h.in_ k) (fun k => okX_has h1 (h.lt k)) (fun k => h3 ▸ h.in_ k) (fun k => okX_has h2 (h3 ▸ h.lt k)) (fun k e => h.found good145 k e) (fun k e => h.on good145 k e) (fun k => h.fin_ good145 k)
theorem lok145 {loops} : LoopOk (book.envP 145 sp145 big loops) (loopBody Try.f145 4) lp145 := FL.loop (loops' := noLoops) (noInner (by kernel_rfl)) (by kernel_rfl) step145
theorem step88 (x : Int × X145) (h : L88.P x) : Round (book.envP 88 sp145 big noLoops) (loopBody Try.f88 4) (book.clean 88 4) (book.clean 88 (4 + 500)) st88 pr88 L88.P (fun x => (L88.tr x).val) L88.m x := by
  obtain ⟨i, xs, ys⟩ := x
  obtain ⟨h1, h2, h3⟩ := ok145 (r := (xs, ys)) h.ok
  have h3 : xs.length = ys.length := h3
  exact r88 i xs ys _ _ _ (fun k => h.in_ k) (fun k => okX_has h1 (h.lt k)) (fun k => h3 ▸ h.in_ k) (fun k => okX_has h2 (h3 ▸ h.lt k)) (fun k e => h.found good88 k e) (fun k e => h.on good88 k e) (fun k => h.fin_ good88 k)
theorem lok88 {loops} : LoopOk (book.envP 88 sp145 big loops) (loopBody Try.f88 4) lp88 := FL.loop (loops' := noLoops) (noInner (by kernel_rfl)) (by kernel_rfl) step88
theorem len_ne {xs ys : List AV} (e : (!ieq (xs.length : Int) (ys.length : Int)) = true) : eqO xs ys = false := by
  cases hq : eqO xs ys
  · rfl
  · rw [eqO_len hq] at e; simp [ieq] at e
theorem len_eq {xs ys : List AV} (e : (!ieq (xs.length : Int) (ys.length : Int)) = false) : xs.length = ys.length := by
  simp only [Bool.not_eq_false', ieq, beq_iff_eq] at e; omega
theorem pre145 {xs ys : List AV} (h : (okX xs && okX ys) = true) (e : xs.length = ys.length) : (okX xs && (okX ys && Nat.beq xs.length ys.length)) = true := by
  simp only [Bool.and_eq_true] at h
  rw [h.1, h.2, e]; simp
theorem s145 : SumTOk Try.prog 145 S145 := sumW_ok fun x h => by
  obtain ⟨xs, ys⟩ := x
  have h : (okX xs && okX ys) = true := h
  have hx : okX xs = true := by simp only [Bool.and_eq_true] at h; exact h.1
  refine book_ok.run1 (by kernel_rfl) sp145_ok (by kernel_rfl) lok145 (p145 xs ys _ (fun e => ?_) (fun e => FL.pre_of (i := 0) (Nat.zero_le _) (okX_iff.1 hx).2 (pre145 h (len_eq e))) (fun e e2 => ?_) (fun e e2 => ?_)) <;> show _ = (AV.bool (eqO xs ys), _)
  · rw [len_ne e]
  · rw [show eqO xs ys = false by simpa using e2]
  · rw [show eqO xs ys = true by simpa using e2]
theorem sp93_ok : SpecTL Try.prog sp93 := ⟨s145, trivial⟩
theorem s93 : SumTOk Try.prog 93 S93 := sumW_ok fun x h => by
  obtain ⟨xs, ys⟩ := x
  exact book_ok.pth (by kernel_rfl) sp93_ok (p93 xs ys _ h rfl)
theorem s88 : SumTOk Try.prog 88 S93 := sumW_ok fun x h => by
  obtain ⟨xs, ys⟩ := x
  have h : (okX xs && okX ys) = true := h
  have hx : okX xs = true := by simp only [Bool.and_eq_true] at h; exact h.1
  refine book_ok.run1 (by kernel_rfl) sp145_ok (by kernel_rfl) lok88 (p88 xs ys _ (fun e => ?_) (fun e => FL.pre_of (i := 0) (Nat.zero_le _) (okX_iff.1 hx).2 (pre145 h (len_eq e))) (fun e e2 => ?_) (fun e e2 => ?_)) <;> show _ = (AV.bool (eqO xs ys), _)
  · rw [len_ne e]
  · rw [show eqO xs ys = false by simpa using e2]
  · rw [show eqO xs ys = true by simpa using e2]

/-! ### cubes -/
theorem ints_mem {k : IntKind} {cs : List AV} (h : intsA k cs = true) {v : AV} (hv : v ∈ cs) : ∃ z, v = .int k z := by
  have := List.all_eq_true.1 h v hv
  cases v <;> try (cases this; done)
  simp only [isI, decide_eq_true_eq] at this
  exact ⟨_, by rw [this]⟩
theorem ints_map {k : IntKind} {cs : List AV} (h : intsA k cs = true) {f : AV → AV} (hf : ∀ z, f (.int k z) = .int k z) : cs.map f = cs := by
  rw [List.map_congr_left (g := id) (fun v hv => by obtain ⟨z, rfl⟩ := ints_mem h hv; exact hf z)]; exact List.map_id _
theorem ints_all {k : IntKind} {cs : List AV} (h : intsA k cs = true) {p : AV → Bool} (hp : ∀ z, p (.int k z) = true) : cs.all p = true :=
  List.all_eq_true.2 fun v hv => by obtain ⟨z, rfl⟩ := ints_mem h hv; exact hp z
theorem ints_setAt {k : IntKind} : ∀ (ns cs : List AV) (o : Nat), intsA k cs = true → intsA k ns = true → intsA k (setAt cs o ns) = true
  | [], cs, o, h, _ => h
  | n :: ns, cs, o, h, hn => by
    have hn' : isI k n = true ∧ intsA k ns = true := by simpa [intsA] using hn
    refine ints_setAt ns _ _ ?_ hn'.2
    unfold intsA at h ⊢
    rw [List.all_eq_true] at h ⊢
    intro x hx
    rcases List.mem_or_eq_of_mem_set hx with hx | rfl
    · exact h x hx
    · exact hn'.1
theorem isCub_iff {cs : List AV} : isCub cs = true ↔ cs.length = 96 ∧ intsA .u64 cs = true := by unfold isCub; simp
theorem isCub_zero : isCub zero96 = true := by kernel_rfl
theorem isCub_s {cs : List AV} (h : isCub cs = true) (o : XO) : isCub (cubS cs o) = true := by
  unfold cubS
  cases isF o.1 <;> simp only [cond_true, cond_false]
  · exact h
  · rw [isCub_iff] at h ⊢
    exact ⟨by rw [setAt_length]; exact h.1, ints_setAt _ _ _ h.2 (by simp [intsA, ternL, isI])⟩
theorem isCub_l : ∀ (xs : List AV) {cs : List AV}, isCub cs = true → isCub (cubL xs cs) = true
  | [], cs, h => h
  | x :: xs, cs, h => isCub_l xs (isCub_s h _)
theorem good82 : L82.Good := by
  refine ⟨fun r j a _ _ _ h => (nomatch h), fun r j a _ _ hj _ => ⟨rfl, rfl, ?_⟩, fun r j a _ _ hj => ⟨rfl, ?_⟩⟩
  · show cubL (r.drop j) a = cubL (r.drop (j + 1)) (cubS a (ox (r.getD j .unk)))
    rw [getD_drop (show j < r.length from hj)]; rfl
  · show cubL (r.drop j) a = a
    rw [List.drop_eq_nil_of_le (show r.length ≤ j from hj)]; rfl
theorem good83 : L83.Good := ⟨fun _ _ _ _ _ _ h => (nomatch h), good82.no, good82.end_⟩
theorem kept_ints {cs : List AV} (h : intsA .u64 cs = true) (fr m : List Nat) : (some (cs.map (AV.kept fr m))).getD [] = cs := by
  show cs.map (AV.kept fr m) = cs
  exact ints_map h fun _ => rfl
theorem noTag_ints {cs : List AV} (h : intsA .u64 cs = true) (k : Tag) : (cs.all fun v => !hasTag k v) = true := ints_all h fun _ => rfl
theorem isF_in {f : Int} (h : isF f = true) : 0 ≤ f ∧ f < 24 := by
  unfold isF at h
  cases h1 : ile 0 f <;> rw [h1] at h <;> simp only [cond_true, cond_false] at h
  · cases h
  · simp only [ile, decide_eq_true_eq] at h1
    exact ⟨h1, ilt_iff.1 h⟩
theorem cub_step {cs : List AV} {v : AV} (hc : isCub cs = true) (hf : isF (ox v).1 = true) (fr m : List Nat) (L : List AV) (hL : L = ternL (ternO (ox v))) : (some ((setAt cs (0 + (ox v).1.toNat * 4) L).map (AV.kept fr m))).getD [] = cubS cs (ox v) := by
  subst hL
  rw [isCub_iff] at hc
  rw [kept_ints (ints_setAt _ _ _ hc.2 (by simp [intsA, ternL, isI]))]
  unfold cubS
  rw [hf, Nat.zero_add]; rfl
theorem fits_cub {f : Int} {cs : List AV} (hf : isF f = true) (hc : isCub cs = true) : (true && (0 + f.toNat * 4 + 4).ble cs.length) = true := by
  rw [isCub_iff] at hc
  have := isF_in hf
  rw [Bool.true_and, Nat.ble_eq, hc.1]; omega
theorem s135 : SumTOk Try.prog 135 (sumOf (g0 (.agg zero96))) := g0_ok (book_ok.pth (by kernel_rfl) noSpec_ok (p135 _ rfl))
theorem sp82_ok : SpecTL Try.prog sp82 := ⟨s31, s53, s66, s77, s135, trivial⟩
theorem on2 {ρ A : Type} {L : GL ρ A} {i : Int} {a a' : A} {r : ρ} (h : L.P (i, a, r)) (g : L.Good) (hi : ilt i (L.len r) = true) (hp : L.stop r i.toNat a = false) (ha : a' = L.next r i.toNat a) (hinv : L.inv r (L.next r i.toNat a) = true) :
    OnOk L.P (fun x => (L.tr x).val) L.m (i, a, r) (iadd .i64 i 1, a', r) := by
  subst ha; exact h.on g hi hp rfl hinv
theorem drawOk2_of {ops : Array Oper} {s : AS} {l : List FP} (h : (edgesOk ops && makesOk ops && pairsOk ops (masks ops) l) = true) (hn : ∀ k, s.noTag k = true) : drawOk2 ops s l = true := by
  unfold drawOk2
  rw [h, Bool.true_and, Array.all_eq_true]
  intro i hi
  cases hm : makes ops[i] with
  | none => rfl
  | some k => exact hn k
theorem step82 (x : Int × List AV × List AV) (h : L82.P x) : Round (book.envP 82 sp82 big noLoops) (loopBody Try.f82 3) (book.clean 82 3) (book.clean 82 (3 + 500)) st82 pr82 L82.P (fun x => (L82.tr x).val) L82.m x := by
  obtain ⟨i, cs, xs⟩ := x
  have hx : okX xs = true := h.ok
  have hc : isCub cs = true := h.inv
  have hi := (isCub_iff.1 hc).2
  refine r82 i cs xs _ _ _ (fun k => h.in_ k) (fun k => okX_has hx (h.lt k)) (fun k => ?_) (fun k e => ?_) (fun k e => fits_cub e hc) (fun k e => ?_) (fun k e => ?_) (fun k e => ?_) (fun k => ?_)
  · have hn := noTag_ints hi [15]
    unfold r82_c1
    simp only [AS.noTag, List.all_cons, List.all_nil, hasTag, Bool.not_false, Bool.true_and, Bool.and_true]
    exact hn
  · have := isF_in e
    exact inR_iff.2 ⟨this.1, this.2⟩
  · unfold r82_c3
    refine drawOk2_of (by kernel_rfl) fun k => ?_
    have hn := noTag_ints hi k
    simp only [AS.noTag, List.all_cons, List.all_nil, hasTag, Bool.not_false, Bool.true_and, Bool.and_true]
    exact hn
  · exact on2 h good82 k rfl (cub_step (v := xs.getD i.toNat .unk) hc e _ _ _ rfl) (isCub_s hc _)
  · have e2 : ∀ fr m, (some (cs.map (AV.kept fr m))).getD [] = cubS cs (ox (xs.getD i.toNat .unk)) := fun fr m => by
      rw [kept_ints hi]
      unfold cubS
      rw [show isF (ox (xs.getD i.toNat .unk)).1 = false from e]; rfl
    exact on2 h good82 k rfl (e2 _ _) (isCub_s hc _)
  · refine (h.fin_ good82 k).trans ?_
    show (Ex.exit 0, stA 23 [(2, .ptr 2 0), (3, .ptr 3 0)] [(2, zero96), (3, cs)]) = _
    have e3 : ∀ fr m, cs.map (AV.kept fr m) = cs := fun fr m => ints_map hi fun _ => rfl
    unfold r82_o0
    rw [e3]; rfl
theorem step83 (x : Int × List AV × List AV) (h : L83.P x) : Round (book.envP 83 sp82 big noLoops) (loopBody Try.f83 3) (book.clean 83 3) (book.clean 83 (3 + 500)) st83 pr83 L83.P (fun x => (L83.tr x).val) L83.m x := by
  obtain ⟨i, cs, xs⟩ := x
  have hx : okX xs = true := h.ok
  have hc : isCub cs = true := h.inv
  have hi := (isCub_iff.1 hc).2
  refine r83 i cs xs _ _ _ (fun k => h.in_ k) (fun k => okX_has hx (h.lt k)) (fun k => ?_) (fun k e => ?_) (fun k e => fits_cub e hc) (fun k e => ?_) (fun k e => ?_) (fun k e => ?_) (fun k => ?_)
  · have hn := noTag_ints hi [17]
    unfold r83_c1
    simp only [AS.noTag, List.all_cons, List.all_nil, hasTag, Bool.not_false, Bool.true_and, Bool.and_true]
    exact hn
  · have := isF_in e
    exact inR_iff.2 ⟨this.1, this.2⟩
  · unfold r83_c3
    refine drawOk2_of (by kernel_rfl) fun k => ?_
    have hn := noTag_ints hi k
    simp only [AS.noTag, List.all_cons, List.all_nil, hasTag, Bool.not_false, Bool.true_and, Bool.and_true]
    exact hn
  · exact on2 h good83 k rfl (cub_step (v := xs.getD i.toNat .unk) hc e _ _ _ rfl) (isCub_s hc _)
  · have e2 : ∀ fr m, (some (cs.map (AV.kept fr m))).getD [] = cubS cs (ox (xs.getD i.toNat .unk)) := fun fr m => by
      rw [kept_ints hi]
      unfold cubS
      rw [show isF (ox (xs.getD i.toNat .unk)).1 = false from e]; rfl
    exact on2 h good83 k rfl (e2 _ _) (isCub_s hc _)
  · refine (h.fin_ good83 k).trans ?_
    show (Ex.exit 0, stA 30 [(2, .ptr 2 0), (3, .ptr 3 0)] [(2, zero96), (3, cs)]) = _
    have e3 : ∀ fr m, cs.map (AV.kept fr m) = cs := fun fr m => ints_map hi fun _ => rfl
    unfold r83_o0
    rw [e3]; rfl
theorem lok82 {loops} : LoopOk (book.envP 82 sp82 big loops) (loopBody Try.f82 3) lp82 := GL.loop0 (loops' := noLoops) (fun _ _ _ => rfl) (noInner (by kernel_rfl)) (by kernel_rfl) step82
theorem lok83 {loops} : LoopOk (book.envP 83 sp82 big loops) (loopBody Try.f83 3) lp83 := GL.loop0 (loops' := noLoops) (fun _ _ _ => rfl) (noInner (by kernel_rfl)) (by kernel_rfl) step83
theorem setAt_full : ∀ (ns cs : List AV), ns.length = cs.length → setAt cs 0 ns = ns := by
  intro ns cs hl
  apply List.ext_getElem?
  intro i
  rw [setAt_get]
  by_cases h : i < ns.length
  · rw [if_pos ⟨by omega, by omega, by omega⟩]; rfl
  · rw [if_neg (by omega), List.getElem?_eq_none (by omega), List.getElem?_eq_none (by omega)]
theorem cub_out {Z L : List AV} (hZ : Z.length = 96) (h : isCub L = true) : ((List.take 96 (List.drop 0 (setAt Z 0 (AV.agg (List.map AV.flat (List.take 96 (List.drop 0 L)))).cells))).map AV.flat) = L ∧ (List.take 96 (List.drop 0 L)).length = 96 ∧
    (AV.agg (List.map AV.flat (List.take 96 (List.drop 0 L)))).cells.length = 96 ∧ (List.take 96 (List.drop 0 (setAt Z 0 (AV.agg (List.map AV.flat (List.take 96 (List.drop 0 L)))).cells))).length = 96 := by
  obtain ⟨h1, h2⟩ := isCub_iff.1 h
  have e1 : List.take 96 (List.drop 0 L) = L := by rw [List.drop_zero, List.take_of_length_le (by omega)]
  have e2 : List.map AV.flat L = L := ints_map h2 fun _ => rfl
  have e3 : setAt Z 0 L = L := setAt_full _ _ (by omega)
  simp only [e1, e2, AV.cells, e3]
  exact ⟨trivial, h1, h1, h1⟩
theorem sum82 {f : FuncId} {xs : List AV} (h : okX xs = true) (key : ∀ r, ((AV.agg ((List.take 96 (List.drop 0 (setAt zero96 0 (AV.agg (List.map AV.flat (List.take 96 (List.drop 0 (cubL xs zero96))))).cells))).map AV.flat), ([] : List (List AV))) = r) → CallsA Try.prog f [.sl 6 xs .sh] [] r.1 r.2) :
    CallsA Try.prog f [.sl 6 xs .sh] [] (.agg (cub11 true xs)) [] :=
  key (AV.agg (cubL xs zero96), []) (by rw [(cub_out (Z := zero96) rfl (isCub_l xs isCub_zero)).1])
theorem s82 : SumTOk Try.prog 82 (S82 true) := sumW_ok fun xs h => by
  have h : okX xs = true := h
  obtain ⟨_, h1, h2, h3⟩ := cub_out (Z := zero96) rfl (isCub_l xs isCub_zero)
  refine sum82 h fun r k => book_ok.run1 (by kernel_rfl) sp82_ok (by kernel_rfl) lok82 (p82 xs r (GL.pre_of (i := 0) (Nat.zero_le _) (okX_iff.1 h).2 h isCub_zero) ?_ ?_ ?_ k)
  · show ((List.take 96 (List.drop 0 (cubL xs zero96))).length == 96) = true
    rw [h1]; rfl
  · show (true && (AV.agg (List.map AV.flat (List.take 96 (List.drop 0 (cubL xs zero96))))).cells.length == 96 && true) = true
    rw [h2]; rfl
  · show ((List.take 96 (List.drop 0 (setAt zero96 0 (AV.agg (List.map AV.flat (List.take 96 (List.drop 0 (cubL xs zero96))))).cells))).length == 96) = true
    rw [h3]; rfl
theorem s83 : SumTOk Try.prog 83 (S82 true) := sumW_ok fun xs h => by
  have h : okX xs = true := h
  obtain ⟨_, h1, h2, h3⟩ := cub_out (Z := zero96) rfl (isCub_l xs isCub_zero)
  refine sum82 h fun r k => book_ok.run1 (by kernel_rfl) sp82_ok (by kernel_rfl) lok83 (p83 xs r (GL.pre_of (i := 0) (Nat.zero_le _) (okX_iff.1 h).2 h isCub_zero) ?_ ?_ ?_ k)
  · show ((List.take 96 (List.drop 0 (cubL xs zero96))).length == 96) = true
    rw [h1]; rfl
  · show (true && (AV.agg (List.map AV.flat (List.take 96 (List.drop 0 (cubL xs zero96))))).cells.length == 96 && true) = true
    rw [h2]; rfl
  · show ((List.take 96 (List.drop 0 (setAt zero96 0 (AV.agg (List.map AV.flat (List.take 96 (List.drop 0 (cubL xs zero96))))).cells))).length == 96) = true
    rw [h3]; rfl
end Go.Proofs.Ytdcijmigoefnjaa
