import Derived.Test.YtdcijmigoefnjaaP11d
import Derived.Test.YtdcijmigoefnjaaL11b
import Derived.Test.YtdcijmigoefnjaaL10b
import Derived.Test.YtdcijmigoefnjaaD03
import Derived.Test.YtdcijmigoefnjaaL10g
/- Chapter 11: the same, and cubes: contracts. -/
set_option linter.unusedVariables false
set_option linter.unusedSimpArgs false
set_option maxRecDepth 100000
set_option maxHeartbeats 0
namespace Go.Proofs.Ytdcijmigoefnjaa
open Go Go.Ev

/-! ### cubes -/
theorem ints_mem {k : IntKind} {cs : List AV} (h : intsA k cs = true) {v : AV} (hv : v ∈ cs) : ∃ z, v = .int k z := by
  have := List.all_eq_true.1 h v hv
  cases v <;> try (cases this; done)
  simp only [isI, decide_eq_true_eq] at this
  exact ⟨_, by rw [this]⟩
theorem ints_map {k : IntKind} {cs : List AV} (h : intsA k cs = true) {f : AV → AV} (hf : ∀ z, f (.int k z) = .int k z) : cs.map f = cs := by
  rw [List.map_congr_left (g := id) (fun v hv => by obtain ⟨z, rfl⟩ := ints_mem h hv; exact hf z)]; exact List.map_id _
theorem ints_all {k : IntKind} {cs : List AV} (h : intsA k cs = true) {p : AV → Bool} (hp : ∀ z, p (.int k z) = true) : cs.all p = true :=
  List.all_eq_true.2 fun v hv => by obtain ⟨z, rfl⟩ := ints_mem h hv; exact hp z
theorem ints_setAt {k : IntKind} : ∀ (ns cs : List AV) (o : Nat), intsA k cs = true → intsA k ns = true → intsA k (setAt cs o ns) = true
  | [], cs, o, h, _ => h
  | n :: ns, cs, o, h, hn => by
    have hn' : isI k n = true ∧ intsA k ns = true := by simpa [intsA] using hn
    refine ints_setAt ns _ _ ?_ hn'.2
    unfold intsA at h ⊢
    rw [List.all_eq_true] at h ⊢
    intro x hx
    rcases List.mem_or_eq_of_mem_set hx with hx | rfl
    · exact h x hx
    · exact hn'.1
theorem isCub_iff {cs : List AV} : isCub cs = true ↔ cs.length = 96 ∧ intsA .u64 cs = true := by unfold isCub; simp
theorem isCub_zero : isCub zero96 = true := by kernel_rfl
theorem isCub_s {cs : List AV} (h : isCub cs = true) (o : XO) : isCub (cubS cs o) = true := by
  unfold cubS
  cases isF o.1 <;> simp only [cond_true, cond_false]
  · exact h
  · rw [isCub_iff] at h ⊢
    exact ⟨by rw [setAt_length]; exact h.1, ints_setAt _ _ _ h.2 (by simp [intsA, ternL, isI])⟩
theorem isCub_l : ∀ (xs : List AV) {cs : List AV}, isCub cs = true → isCub (cubL xs cs) = true
  | [], cs, h => h
  | x :: xs, cs, h => isCub_l xs (isCub_s h _)
theorem good82 : L82.Good := by
  refine ⟨fun r j a _ _ _ h => (nomatch h), fun r j a _ _ hj _ => ⟨rfl, rfl, ?_⟩, fun r j a _ _ hj => ⟨rfl, ?_⟩⟩
  · show cubL (r.drop j) a = cubL (r.drop (j + 1)) (cubS a (ox (r.getD j .unk)))
    rw [getD_drop (show j < r.length from hj)]; rfl
  · show cubL (r.drop j) a = a
    rw [List.drop_eq_nil_of_le (show r.length ≤ j from hj)]; rfl
theorem kept_ints {cs : List AV} (h : intsA .u64 cs = true) (fr m : List Nat) : (some (cs.map (AV.kept fr m))).getD [] = cs := by
  show cs.map (AV.kept fr m) = cs
  exact ints_map h fun _ => rfl
theorem noTag_ints {cs : List AV} (h : intsA .u64 cs = true) (k : Tag) : (cs.all fun v => !hasTag k v) = true := ints_all h fun _ => rfl
theorem isF_in {f : Int} (h : isF f = true) : 0 ≤ f ∧ f < 24 := by
  unfold isF at h
  cases h1 : ile 0 f <;> rw [h1] at h <;> simp only [cond_true, cond_false] at h
  · cases h
  · simp only [ile, decide_eq_true_eq] at h1
    exact ⟨h1, ilt_iff.1 h⟩
theorem cub_step {cs : List AV} {v : AV} (hc : isCub cs = true) (hf : isF (ox v).1 = true) (fr m : List Nat) (L : List AV) (hL : L = ternL (ternO (ox v))) : (some ((setAt cs (0 + (ox v).1.toNat * 4) L).map (AV.kept fr m))).getD [] = cubS cs (ox v) := by
  subst hL
  rw [isCub_iff] at hc
  rw [kept_ints (ints_setAt _ _ _ hc.2 (by simp [intsA, ternL, isI]))]
  unfold cubS
  rw [hf, Nat.zero_add]; rfl
theorem fits_cub {f : Int} {cs : List AV} (hf : isF f = true) (hc : isCub cs = true) : (true && (0 + f.toNat * 4 + 4).ble cs.length) = true := by
  rw [isCub_iff] at hc
  have := isF_in hf
  rw [Bool.true_and, Nat.ble_eq, hc.1]; omega
theorem s135 : SumTOk Try.prog 135 (sumOf (g0 (.agg zero96))) := g0_ok (book_ok.pth (by kernel_rfl) noSpec_ok (p135 _ rfl))
theorem sp82_ok : SpecTL Try.prog sp82 := ⟨s31, s53, s66, s77, s135, trivial⟩
theorem on2 {ρ A : Type} {L : GL ρ A} {i : Int} {a a' : A} {r : ρ} (h : L.P (i, a, r)) (g : L.Good) (hi : ilt i (L.len r) = true) (hp : L.stop r i.toNat a = false) (ha : a' = L.next r i.toNat a) (hinv : L.inv r (i.toNat + 1) (L.next r i.toNat a) = true) :
    OnOk L.P (fun x => (L.tr x).val) L.m (i, a, r) (iadd .i64 i 1, a', r) := by
  subst ha; exact h.on g hi hp rfl hinv
theorem drawOk2_of {ops : Array Oper} {s : AS} {l : List FP} (h : (edgesOk ops && makesOk ops && pairsOk ops (masks ops) l) = true) (hn : ∀ k, s.noTag k = true) : drawOk2 ops s l = true := by
  unfold drawOk2
  rw [h, Bool.true_and, Array.all_eq_true]
  intro i hi
  cases hm : makes ops[i] with
  | none => rfl
  | some k => exact hn k
theorem step82 (x : Int × List AV × List AV) (h : L82.P x) : Round (book.envP 82 sp82 big noLoops) (loopBody Try.f82 3) (book.clean 82 3) (book.clean 82 (3 + 500)) st82 pr82 L82.P (fun x => (L82.tr x).val) L82.m x := by
  obtain ⟨i, cs, xs⟩ := x
  have hx : okX xs = true := h.ok
  have hc : isCub cs = true := h.inv
  have hi := (isCub_iff.1 hc).2
  refine r82 i cs xs _ _ _ (fun k => h.in_ k) (fun k => okX_has hx (h.lt k)) (fun k => ?_) (fun k e => ?_) (fun k e => fits_cub e hc) (fun k e => ?_) (fun k e => ?_) (fun k e => ?_) (fun k => ?_)
  · have hn := noTag_ints hi [15]
    unfold r82_c1
    simp only [AS.noTag, List.all_cons, List.all_nil, hasTag, Bool.not_false, Bool.true_and, Bool.and_true]
    exact hn
  · have := isF_in e
    exact inR_iff.2 ⟨this.1, this.2⟩
  · unfold r82_c3
    refine drawOk2_of (by kernel_rfl) fun k => ?_
    have hn := noTag_ints hi k
    simp only [AS.noTag, List.all_cons, List.all_nil, hasTag, Bool.not_false, Bool.true_and, Bool.and_true]
    exact hn
  · exact on2 h good82 k rfl (cub_step (v := xs.getD i.toNat .unk) hc e _ _ _ rfl) (isCub_s hc _)
  · have e2 : ∀ fr m, (some (cs.map (AV.kept fr m))).getD [] = cubS cs (ox (xs.getD i.toNat .unk)) := fun fr m => by
      rw [kept_ints hi]
      unfold cubS
      rw [show isF (ox (xs.getD i.toNat .unk)).1 = false from e]; rfl
    exact on2 h good82 k rfl (e2 _ _) (isCub_s hc _)
  · refine (h.fin_ good82 k).trans ?_
    show (Ex.exit 0, stA 23 [(2, .ptr 2 0), (3, .ptr 3 0)] [(2, zero96), (3, cs)]) = _
    have e3 : ∀ fr m, cs.map (AV.kept fr m) = cs := fun fr m => ints_map hi fun _ => rfl
    unfold r82_o0
    rw [e3]; rfl
theorem lok82 {loops} : LoopOk (book.envP 82 sp82 big loops) (loopBody Try.f82 3) lp82 := GL.loop0 (loops' := noLoops) (fun _ _ _ => rfl) (noInner (by kernel_rfl)) (by kernel_rfl) step82
theorem setAt_full : ∀ (ns cs : List AV), ns.length = cs.length → setAt cs 0 ns = ns := by
  intro ns cs hl
  apply List.ext_getElem?
  intro i
  rw [setAt_get]
  by_cases h : i < ns.length
  · rw [if_pos ⟨by omega, by omega, by omega⟩]; rfl
  · rw [if_neg (by omega), List.getElem?_eq_none (by omega), List.getElem?_eq_none (by omega)]
theorem cub_out {Z L : List AV} (hZ : Z.length = 96) (h : isCub L = true) : ((List.take 96 (List.drop 0 (setAt Z 0 (AV.agg (List.map AV.flat (List.take 96 (List.drop 0 L)))).cells))).map AV.flat) = L ∧ (List.take 96 (List.drop 0 L)).length = 96 ∧
    (AV.agg (List.map AV.flat (List.take 96 (List.drop 0 L)))).cells.length = 96 ∧ (List.take 96 (List.drop 0 (setAt Z 0 (AV.agg (List.map AV.flat (List.take 96 (List.drop 0 L)))).cells))).length = 96 := by
  obtain ⟨h1, h2⟩ := isCub_iff.1 h
  have e1 : List.take 96 (List.drop 0 L) = L := by rw [List.drop_zero, List.take_of_length_le (by omega)]
  have e2 : List.map AV.flat L = L := ints_map h2 fun _ => rfl
  have e3 : setAt Z 0 L = L := setAt_full _ _ (by omega)
  simp only [e1, e2, AV.cells, e3]
  exact ⟨trivial, h1, h1, h1⟩
theorem sum82 {f : FuncId} {xs : List AV} (h : okX xs = true) (key : ∀ r, ((AV.agg ((List.take 96 (List.drop 0 (setAt zero96 0 (AV.agg (List.map AV.flat (List.take 96 (List.drop 0 (cubL xs zero96))))).cells))).map AV.flat), ([] : List (List AV))) = r) → CallsA Try.prog f [.sl 6 xs .sh] [] r.1 r.2) :
    CallsA Try.prog f [.sl 6 xs .sh] [] (.agg (cub11 true xs)) [] :=
  key (AV.agg (cubL xs zero96), []) (by rw [(cub_out (Z := zero96) rfl (isCub_l xs isCub_zero)).1])
theorem s82 : SumTOk Try.prog 82 (S82 true) := sumW_ok fun xs h => by
  have h : okX xs = true := h
  obtain ⟨_, h1, h2, h3⟩ := cub_out (Z := zero96) rfl (isCub_l xs isCub_zero)
  refine sum82 h fun r k => book_ok.run1 (by kernel_rfl) sp82_ok (by kernel_rfl) lok82 (p82 xs r (GL.pre_of (i := 0) (Nat.zero_le _) (okX_iff.1 h).2 h isCub_zero) ?_ ?_ ?_ k)
  · show ((List.take 96 (List.drop 0 (cubL xs zero96))).length == 96) = true
    rw [h1]; rfl
  · show (true && (AV.agg (List.map AV.flat (List.take 96 (List.drop 0 (cubL xs zero96))))).cells.length == 96 && true) = true
    rw [h2]; rfl
  · show ((List.take 96 (List.drop 0 (setAt zero96 0 (AV.agg (List.map AV.flat (List.take 96 (List.drop 0 (cubL xs zero96))))).cells))).length == 96) = true
    rw [h3]; rfl
end Go.Proofs.Ytdcijmigoefnjaa

/- Headers that a match without fault has, have all that its fields need: no program in sight. -/
set_option linter.unusedVariables false
set_option linter.unusedSimpArgs false
set_option maxRecDepth 100000
set_option maxHeartbeats 0
namespace Go.Proofs.Ytdcijmigoefnjaa
open Go Go.Ev

theorem notHas_all {cs hs : List AV} : ∀ {n : Nat}, n ≤ 24 → notHas cs hs n = false → ∀ j, j < 24 → 24 - n ≤ j → hasT (ternAt cs j) (widAt hs j) = true
  | 0, _, _, j, h1, h2 => by omega
  | n + 1, hn, h, j, h1, h2 => by
    simp only [notHas, Bool.or_eq_false_iff, Bool.not_eq_false'] at h
    by_cases e : j = 23 - n
    · subst e; exact h.1
    · exact notHas_all (by omega) h.2 j h1 (by omega)

theorem chk_all {xs : List AV} : ∀ (n j : Nat), n = xs.length - j → chkJ xs j = 0 → ∀ i, j ≤ i → i < xs.length → chkAt xs i = 0
  | 0, j, hn, h, i, h1, h2 => by omega
  | n + 1, j, hn, h, i, h1, h2 => by
    rw [chkJ_lt (by omega)] at h
    cases hc : ieq (chkAt xs j) 0 <;> rw [hc] at h
    · simp only [cond_false] at h
      rw [h] at hc; cases hc
    · simp only [cond_true] at h
      by_cases e : i = j
      · subst e; simpa [ieq] using hc
      · exact chk_all n (j + 1) (by omega) h i (by omega) h2
theorem chk_at {xs : List AV} (h : ieq (chk11 xs) 0 = true) {i : Nat} (hi : i < xs.length) : sameF (xs.take i) (ox (xs.getD i .unk)).1 = false ∧ metF (xs.take i) (ox (xs.getD i .unk)).1 = true := by
  have h0 : chkJ xs 0 = 0 := by rw [chkJ0]; simpa [ieq] using h
  have := chk_all xs.length 0 rfl h0 i (Nat.zero_le _) hi
  rw [chkAt_ge] at this
  cases h1 : sameF (xs.take i) (ox (xs.getD i .unk)).1 <;> rw [h1] at this
  · simp only [cond_false] at this
    cases h2 : metF (xs.take i) (ox (xs.getD i .unk)).1 <;> rw [h2] at this
    · simp at this
    · exact ⟨rfl, rfl⟩
  · simp at this

theorem cell_setAt {cs ns : List AV} {o i : Nat} : cell (setAt cs o ns) i = if o ≤ i ∧ i < o + ns.length ∧ i < cs.length then (ns.getD (i - o) .unk).asInt else cell cs i := by
  unfold cell
  rw [List.getD_eq_getElem?_getD, setAt_get]
  split <;> simp [List.getD_eq_getElem?_getD]

theorem cubL_app : ∀ (a b cs : List AV), cubL (a ++ b) cs = cubL b (cubL a cs)
  | [], _, _ => rfl
  | x :: a, b, cs => cubL_app a b (cubS cs (ox x))
/-- what is not spoken of stays -/
theorem cubL_no {f : Int} (hf : isF f = true) {k : Nat} (hk : k < 4) : ∀ {xs : List AV} (cs : List AV), (∀ v ∈ xs, (ox v).1 ≠ f) → cell (cubL xs cs) (f.toNat * 4 + k) = cell cs (f.toNat * 4 + k)
  | [], _, _ => rfl
  | x :: xs, cs, h => by
    show cell (cubL xs (cubS cs (ox x))) _ = _
    rw [cubL_no hf hk (cubS cs (ox x)) fun v hv => h v (List.mem_cons_of_mem _ hv)]
    have hne := h x List.mem_cons_self
    unfold cubS
    cases hx : isF (ox x).1
    · rfl
    · simp only [cond_true]
      have h1 := isF_in hx
      have h2 := isF_in hf
      rw [cell_setAt, if_neg]
      simp only [ternL, List.length_cons, List.length_nil]
      omega
/-- what a part gives a cube -/
theorem cub_at {a b : List AV} {v : AV} (hb : ∀ w ∈ b, (ox w).1 ≠ (ox v).1) (hf : isF (ox v).1 = true) : ternAt (cubL (a ++ v :: b) zero96) (ox v).1.toNat = ternO (ox v) := by
  have hl : (cubL a zero96).length = 96 := (isCub_iff.1 (isCub_l a isCub_zero)).1
  have h2 := isF_in hf
  have key : ∀ k, k < 4 → cell (cubL (a ++ v :: b) zero96) ((ox v).1.toNat * 4 + k) = ((ternL (ternO (ox v))).getD k .unk).asInt := by
    intro k hk
    rw [cubL_app, show cubL (v :: b) (cubL a zero96) = cubL b (cubS (cubL a zero96) (ox v)) from rfl, cubL_no hf hk _ hb]
    unfold cubS
    rw [hf]
    simp only [cond_true]
    rw [cell_setAt, if_pos ⟨by omega, by simp only [ternL, List.length_cons, List.length_nil]; omega, by omega⟩, Nat.add_sub_cancel_left]
  unfold ternAt
  rw [show (ox v).1.toNat * 4 = (ox v).1.toNat * 4 + 0 from rfl, key 0 (by omega), show (ox v).1.toNat * 4 + 0 + 1 = (ox v).1.toNat * 4 + 1 from rfl, show (ox v).1.toNat * 4 + 0 + 2 = (ox v).1.toNat * 4 + 2 from rfl,
    show (ox v).1.toNat * 4 + 0 + 3 = (ox v).1.toNat * 4 + 3 from rfl, key 1 (by omega), key 2 (by omega), key 3 (by omega)]
  rfl

theorem u64_nat {n : Int} (h : inU n = true) : ∃ m : Nat, n = m ∧ m < 2 ^ 64 := by
  rw [inU_iff] at h
  exact ⟨n.toNat, by omega, by omega⟩
/-- what is the same beneath a mask -/
theorem mask_of {v h m : Int} (hv : inU v = true) (hh : inU h = true) (hm : inU m = true) (h1 : ieq (ibits .and .u64 (ibits .xor .u64 v h) m) 0 = true) : ibits .and .u64 h m = ibits .and .u64 v m := by
  obtain ⟨a, rfl, ha⟩ := u64_nat hv
  obtain ⟨b, rfl, hb⟩ := u64_nat hh
  obtain ⟨c, rfl, hc⟩ := u64_nat hm
  rw [ibits_eq, ibits_eq] at h1
  rw [ibits_eq, ibits_eq]
  simp only [ieq, beq_iff_eq] at h1
  have h1 : IntKind.u64.wrap ((BitVec.ofInt 64 (IntKind.u64.wrap ((BitVec.ofInt 64 (a : Int) ^^^ BitVec.ofInt 64 (b : Int)).toNat : Int)) &&& (BitVec.ofInt 64 (c : Int))).toNat : Int) = 0 := h1
  show IntKind.u64.wrap ((BitVec.ofInt 64 (b : Int) &&& (BitVec.ofInt 64 (c : Int))).toNat : Int) = IntKind.u64.wrap ((BitVec.ofInt 64 (a : Int) &&& (BitVec.ofInt 64 (c : Int))).toNat : Int)
  generalize BitVec.ofInt 64 (a : Int) = x at h1 ⊢
  generalize BitVec.ofInt 64 (b : Int) = y at h1 ⊢
  generalize BitVec.ofInt 64 (c : Int) = z at h1 ⊢
  have hxy := (x ^^^ y).isLt
  have e : BitVec.ofInt 64 (IntKind.u64.wrap ((x ^^^ y).toNat : Int)) = x ^^^ y := by
    rw [IntKind.wrap_u64, show ((x ^^^ y).toNat : Int) % 18446744073709551616 = (((x ^^^ y).toNat : Nat) : Int) by omega, BitVec.ofInt_natCast]
    simp
  rw [e, IntKind.wrap_u64] at h1
  have hlt := ((x ^^^ y) &&& z).isLt
  have h0 : ((x ^^^ y) &&& z).toNat = 0 := by omega
  have hz : (x ^^^ y) &&& z = 0#64 := BitVec.eq_of_toNat_eq (by rw [h0]; rfl)
  have : y &&& z = x &&& z := by
    apply BitVec.eq_of_getLsbD_eq
    intro i hi
    have := congrArg (fun b => b.getLsbD i) hz
    simp only [BitVec.getLsbD_and, BitVec.getLsbD_xor, BitVec.getLsbD_zero] at this
    rw [BitVec.getLsbD_and, BitVec.getLsbD_and]
    cases hx' : x.getLsbD i <;> cases hy' : y.getLsbD i <;> cases hz' : z.getLsbD i <;> simp_all
  rw [this]

/-- needs with values are of few fields, and their values lie below the fields' bits -/
def ndOk (p : Int × List Int) : Bool := p.2.isEmpty || (isF p.1 && (inU (ndMask p.1) && p.2.all fun x => inU x && ieq (ibits .and .u64 x (ndMask p.1)) x))
theorem ndOk_all (f : Int) : (needOf f).all ndOk = true := by
  unfold needOf
  cases isF f
  · rfl
  · simp only [cond_true]
    have hall : needTab.all (fun l => l.all ndOk) = true := by kernel_rfl
    rw [List.getD_eq_getElem?_getD]
    cases hq : needTab[f.toNat]? with
    | none => rfl
    | some l => exact List.all_eq_true.1 hall l (List.mem_of_getElem? hq)

theorem hasW_iff {l : List Int} {w : Int × Int} : hasW (l.map wideA) w = true ↔ w.1 = 0 ∧ w.2 ∈ l := by
  unfold hasW
  rw [List.any_eq_true]
  constructor
  · rintro ⟨v, hv, h⟩
    obtain ⟨x, hx, rfl⟩ := List.mem_map.1 hv
    simp only [sameW, Bool.and_eq_true, ieq, beq_iff_eq] at h
    have h1 : (0 : Int) = w.1 := h.1
    have h2 : x = w.2 := h.2
    exact ⟨h1.symm, h2 ▸ hx⟩
  · rintro ⟨h1, h2⟩
    refine ⟨wideA w.2, List.mem_map_of_mem h2, ?_⟩
    simp only [sameW, Bool.and_eq_true, ieq, beq_iff_eq]
    exact ⟨h1.symm, rfl⟩

/-- the law -/
theorem needs_met {xs hs : List AV} (hx : okX xs = true) (hh : ∀ i, i < 48 → inU (cell hs i) = true) (hc : ieq (chk11 xs) 0 = true) (hr : badO xs = false) (ha : notHas (cubL xs zero96) hs 24 = false) :
    (xs.all fun v => ndHas hs (ox v).1) = true := by
  rw [List.all_eq_true]
  intro o ho
  obtain ⟨i, hi, rfl⟩ := List.mem_iff_getElem.1 ho
  have gi : ∀ {j : Nat} (hj : j < xs.length), xs.getD j .unk = xs[j] := fun hj => by rw [List.getD_eq_getElem?_getD, List.getElem?_eq_getElem hj]; rfl
  have hm := (chk_at hc hi).2
  rw [gi hi] at hm
  unfold ndHas
  rw [List.all_eq_true]
  intro p hp
  have hok := List.all_eq_true.1 (ndOk_all (ox xs[i]).1) p hp
  have hg := List.all_eq_true.1 hm p hp
  cases he : p.2.isEmpty
  · simp only [Bool.false_or]
    unfold ndOk at hok
    rw [he] at hok
    simp only [Bool.false_or, Bool.and_eq_true] at hok
    obtain ⟨hF, hM, hV⟩ := hok
    -- the part that gives it
    unfold anyG at hg
    obtain ⟨v, hv, hgv⟩ := List.any_eq_true.1 hg
    obtain ⟨k, hk, rfl⟩ := List.mem_iff_getElem.1 hv
    have hk' : k < i ∧ k < xs.length := by rw [List.length_take] at hk; omega
    rw [List.getElem_take] at hgv
    unfold givesF at hgv
    simp only [Bool.and_eq_true, Bool.or_eq_true, Bool.not_eq_true', ieq, beq_iff_eq, List.isEmpty_iff, List.map_eq_nil_iff] at hgv
    obtain ⟨hf, hval⟩ := hgv
    have hne : p.2 ≠ [] := by intro e; rw [e] at he; cases he
    have hval := hval.resolve_left hne
    obtain ⟨hmask, hval⟩ := hval
    obtain ⟨v1, v2⟩ := hasW_iff.1 hval
    -- it alone is of its field
    have hb : ∀ w ∈ xs.drop (k + 1), (ox w).1 ≠ (ox xs[k]).1 := by
      intro w hw e
      obtain ⟨m, hm, rfl⟩ := List.mem_iff_getElem.1 hw
      rw [List.length_drop] at hm
      rw [List.getElem_drop] at e
      have hs := (chk_at hc (i := k + 1 + m) (by omega)).1
      rw [gi (by omega)] at hs
      have : sameF (xs.take (k + 1 + m)) (ox xs[k + 1 + m]).1 = true := by
        unfold sameF
        rw [List.any_eq_true]
        refine ⟨xs[k], ?_, by rw [e]; exact ieq_self' _⟩
        rw [List.mem_take_iff_getElem]
        exact ⟨k, by omega, rfl⟩
      rw [this] at hs; cases hs
    have hsplit : xs = xs.take k ++ xs[k] :: xs.drop (k + 1) := by rw [← List.drop_eq_getElem_cons hk'.2, List.take_append_drop]
    have hFk : isF (ox xs[k]).1 = true := by rw [hf]; exact hF
    have hcell := cub_at (a := xs.take k) hb hFk
    rw [← hsplit, hf] at hcell
    have hin := isF_in hF
    have hh1 := notHas_all (Nat.le_refl 24) ha p.1.toNat (by omega) (by omega)
    rw [hcell] at hh1
    unfold ternO at hh1
    rw [hFk, hmask] at hh1
    simp only [cond_true, cond_false, hasT, zeroW, andW, xorW, Bool.and_eq_true] at hh1
    have h2 := hh1.2
    rw [hf] at h2
    have hx2 := List.all_eq_true.1 hV _ v2
    simp only [Bool.and_eq_true] at hx2
    have := mask_of hx2.1 (hh (p.1.toNat * 2 + 1) (by omega)) hM h2
    rw [hasW_iff]
    refine ⟨rfl, ?_⟩
    show ibits .and .u64 (getH hs p.1).2 (ndMask p.1) ∈ p.2
    unfold getH
    rw [hF]
    simp only [cond_true]
    rw [this, show ibits .and .u64 (ox xs[k]).2.2.1.2 (ndMask p.1) = (ox xs[k]).2.2.1.2 by simpa [ieq] using hx2.2]
    exact v2
  · rfl
end Go.Proofs.Ytdcijmigoefnjaa
