import Derived.Test.YtdcijmigoefnjaaP11b
import Derived.Test.YtdcijmigoefnjaaP11a
import Derived.Test.YtdcijmigoefnjaaL03b
/- Chapter 11: what a field needs: contracts. -/
set_option linter.unusedVariables false
set_option linter.unusedSimpArgs false
set_option maxRecDepth 100000
set_option maxHeartbeats 0
namespace Go.Proofs.Ytdcijmigoefnjaa
open Go Go.Ev

theorem okX_iff {xs : List AV} : okX xs = true ↔ xs.all isOx = true ∧ xs.length ≤ 9223372036854775807 := by unfold okX oxsB; rw [Bool.and_eq_true, lenB_iff]
theorem ox_of {v : AV} (h : isOx v = true) : v = oxA (ox v) ∧ inO (ox v) = true := by
  unfold isOx at h
  split at h
  · rename_i f m a b c d
    refine ⟨rfl, ?_⟩
    simp only [Bool.and_eq_true] at h
    show ((inU a && inU b) && (inU c && inU d)) = true
    rw [h.1, h.2.1, h.2.2.1, h.2.2.2]; rfl
  · cases h
theorem ox_has {v : AV} (h : isOx v = true) : AV.has (TI.mk (TD.struct [(0, 3, false), (1, 4, false), (2, 36, false), (4, 36, false)]) 6 48 [AV.int IntKind.i64 0, AV.bool false, AV.int IntKind.u64 0, AV.int IntKind.u64 0, AV.int IntKind.u64 0, AV.int IntKind.u64 0]) v = true := by
  rw [(ox_of h).1]; rfl
theorem okX_get {xs : List AV} (h : okX xs = true) {i : Nat} (hi : i < xs.length) : isOx (xs.getD i .unk) = true := List.all_eq_true.1 (okX_iff.1 h).1 _ (getD_mem hi)
theorem okX_has {xs : List AV} (h : okX xs = true) {i : Nat} (hi : i < xs.length) : AV.has (TI.mk (TD.struct [(0, 3, false), (1, 4, false), (2, 36, false), (4, 36, false)]) 6 48 [AV.int IntKind.i64 0, AV.bool false, AV.int IntKind.u64 0, AV.int IntKind.u64 0, AV.int IntKind.u64 0, AV.int IntKind.u64 0]) (xs.getD i .unk) = true := ox_has (okX_get h hi)

theorem S30a_of {P : Program} {g : FuncId} {N : Int → AV} (h : SumTOk P g (sumOf (gI .i64 N))) {f : Int} {L : AV} (hL : N f = L) : SumTOk P g (S30a f L) := sum0_ok fun n hn => by
  have e : n = f := by simpa [ieq] using hn
  subst e
  have := h [.int .i64 n] [] (.leaf (N n, [])) (by simp [sumOf, gI, T.Ret])
  rw [hL] at this
  exact this
theorem ieq_self' (a : Int) : ieq a a = true := by simp [ieq]

theorem good84 (st : St) : (L84 st).Good := FL.good_any (fun r => r.1) (fun r v => givesF (ox v) r.2.1 r.2.2.1) (fun _ => rfl) (fun _ _ => rfl) (fun _ _ => rfl) (.inl ⟨fun _ _ _ => rfl, fun _ _ _ => rfl⟩)
theorem ok84 {st : St} {x : Int × X84} (h : (L84 st).P x) : okX x.2.1 = true ∧ okW x.2.2.2.1 = true := by
  have := h.ok
  simpa [L84, Bool.and_eq_true] using this
theorem step84 (g : Int) (D : AV) (x : Int × X84) (h : (L84 .full).P x) : Round (book.envP 84 (sp84 g D) big noLoops) (loopBody Try.f84 5) (book.clean 84 5) (book.clean 84 (5 + 500)) (st84 cSh .full) pr84 (L84 .full).P (fun x => ((L84 .full).tr x).val) (L84 .full).m x := by
  have hk := ok84 h
  obtain ⟨i, xs, n, vs, L, ln, j⟩ := x
  exact r84 g D i xs n vs L ln j _ _ _ (fun k => h.in_ k) (fun k => okX_has hk.1 (h.lt k)) (fun _ => hk.2) (fun k e => h.found (good84 _) k e) (fun k e => h.on (good84 _) k e) (fun k => h.fin_ (good84 _) k)
theorem step84t (g : Int) (D : AV) (x : Int × X84) (h : (L84 (.own [10, 1])).P x) : Round (book.envP 84 (sp84 g D) big noLoops) (loopBody Try.f84 5) (book.clean 84 5) (book.clean 84 (5 + 500)) (st84 cSh (.own [10, 1])) pr84 (L84 (.own [10, 1])).P (fun x => ((L84 (.own [10, 1])).tr x).val) (L84 (.own [10, 1])).m x := by
  have hk := ok84 h
  obtain ⟨i, xs, n, vs, L, ln, j⟩ := x
  exact r84t g D i xs n vs L ln j _ _ _ (fun k => h.in_ k) (fun k => okX_has hk.1 (h.lt k)) (fun _ => hk.2) (fun k e => h.found (good84 _) k e) (fun k e => h.on (good84 _) k e) (fun k => h.fin_ (good84 _) k)
theorem good84n : L84n.Good := FL.good_any (fun r => r.1) (fun r v => givesF (ox v) r.2.1 r.2.2.1) (fun _ => rfl) (fun _ _ => rfl) (fun _ _ => rfl) (.inl ⟨fun _ _ _ => rfl, fun _ _ _ => rfl⟩)
theorem step84n (g : Int) (D : AV) (x : Int × X84) (h : L84n.P x) : Round (book.envP 84 (sp84 g D) big noLoops) (loopBody Try.f84 5) (book.clean 84 5) (book.clean 84 (5 + 500)) (st84 cNil .full) pr84 L84n.P (fun x => (L84n.tr x).val) L84n.m x := by
  have hk := h.ok
  obtain ⟨i, xs, n, vs, L, ln, j⟩ := x
  simp only [L84n, Bool.and_eq_true, List.isEmpty_iff] at hk
  obtain ⟨hk, rfl⟩ := hk
  exact r84n g D i xs n L ln j _ _ _ (fun k => h.in_ k) (fun k => okX_has hk (h.lt k)) (fun k e => h.found good84n k e) (fun k e => h.on good84n k e) (fun k => h.fin_ good84n k)

def gvs (v : AV) (n : Int) (vs : List AV) : Bool := ieq (v.cells.getD 0 .unk).asInt n && (vs.isEmpty || (!(v.cells.getD 1 .unk).asBool && hasW vs ((v.cells.getD 2 .unk).asInt, (v.cells.getD 3 .unk).asInt)))
theorem good85 : L85.Good := by
  refine ⟨fun r j a _ _ _ h => (nomatch h), fun r j a _ _ hj _ => ⟨rfl, rfl, ?_⟩, fun r j a _ _ hj => ⟨rfl, ?_⟩⟩
  · show (a || anyG (r.1.drop j) _ _) = ((a || givesF (ox (r.1.getD j .unk)) _ _) || anyG (r.1.drop (j + 1)) _ _)
    rw [getD_drop (show j < r.1.length from hj)]
    unfold anyG
    rw [List.any_cons, Bool.or_assoc]
  · show (a || anyG (r.1.drop j) _ _) = a
    rw [List.drop_eq_nil_of_le (show r.1.length ≤ j from hj)]
    exact Bool.or_false a
theorem isNd_inv {st : St} {c : AV} (h : isNd st c = true) : ∃ n vs, c = ndC n vs st ∧ okW vs = true := by
  unfold isNd at h
  split at h
  · rename_i n sz vs st'
    simp only [Bool.and_eq_true, decide_eq_true_eq] at h
    obtain ⟨h1, rfl, h3⟩ := h
    have := Nat.eq_of_beq_eq_true h1
    subst this
    exact ⟨n, vs, rfl, h3⟩
  · cases h
theorem isNdN_inv {c : AV} (h : isNdN c = true) : ∃ n, c = ndN n := by
  unfold isNdN at h
  split at h
  · rename_i n sz st'
    simp only [Bool.and_eq_true, decide_eq_true_eq] at h
    obtain ⟨h1, rfl⟩ := h
    have := Nat.eq_of_beq_eq_true h1
    subst this
    exact ⟨n, rfl⟩
  · cases h
theorem step85 (g : Int) (D : AV) (x : Int × Bool × X85) (h : L85.P x) : Round (book.envP 85 (sp85 g D) big noLoops) (loopBody Try.f85 7) (book.clean 85 7) (book.clean 85 (7 + 500)) st85 pr85 L85.P (fun x => (L85.tr x).val) L85.m x := by
  have hk := h.ok
  obtain ⟨i, fd, xs, L, j⟩ := x
  simp only [L85, Bool.and_eq_true] at hk
  obtain ⟨hx, hL⟩ := hk
  unfold ok85 at hL
  split at hL
  · rename_i c
    simp only [Bool.and_eq_true, Bool.or_eq_true] at hL
    obtain ⟨hj, hc⟩ := hL
    have hj : j = 0 := by simpa [ieq] using hj
    subst hj
    rcases hc with hc | hc
    · obtain ⟨n, vs, rfl, hv⟩ := isNd_inv hc
      have on : ∀ a', ilt i (xs.length : Int) = true → a' = (fd || gvs (xs.getD i.toNat .unk) n vs) → OnOk L85.P (fun x => (L85.tr x).val) L85.m (i, fd, xs, [ndC n vs .sh], 0) (iadd .i64 i 1, a', xs, [ndC n vs .sh], 0) := fun a' k e => h.on good85 k rfl e rfl
      refine r85 g D i fd xs n vs _ _ _ (fun k e => on _ k ?_) (fun k _ => h.in_ k) (fun k _ => okX_has hx (h.lt k)) (fun k e1 e2 e3 => on _ k ?_) (fun _ _ _ _ _ => hv) (fun k e1 e2 e3 e4 => on _ k ?_) (fun k e1 e2 e3 e4 => on _ k ?_) (fun k e1 e2 => on _ k ?_) (fun k => h.fin_ good85 k)
      all_goals (unfold gvs; rw [← len0]; simp_all)
    · obtain ⟨n, rfl⟩ := isNdN_inv hc
      have on : ∀ a', ilt i (xs.length : Int) = true → a' = (fd || gvs (xs.getD i.toNat .unk) n []) → OnOk L85.P (fun x => (L85.tr x).val) L85.m (i, fd, xs, [ndN n], 0) (iadd .i64 i 1, a', xs, [ndN n], 0) := fun a' k e => h.on good85 k rfl e rfl
      refine r85n g D i fd xs n _ _ _ (fun k e => on _ k ?_) (fun k _ => h.in_ k) (fun k _ => okX_has hx (h.lt k)) (fun k e1 e2 => on _ k ?_) (fun k e1 e2 => on _ k ?_) (fun k => h.fin_ good85 k)
      all_goals (unfold gvs; simp_all)
  · rename_i c d
    simp only [Bool.and_eq_true, Bool.or_eq_true] at hL
    obtain ⟨hj, hc, hd⟩ := hL
    obtain ⟨n, vs, rfl, hv⟩ := isNd_inv hc
    obtain ⟨p, us, rfl, hu⟩ := isNd_inv hd
    rcases hj with hj | hj
    · have hj : j = 0 := by simpa [ieq] using hj
      subst hj
      have on : ∀ a', ilt i (xs.length : Int) = true → a' = (fd || gvs (xs.getD i.toNat .unk) n vs) → OnOk L85.P (fun x => (L85.tr x).val) L85.m (i, fd, xs, [ndC n vs .sh, ndC p us .full], 0) (iadd .i64 i 1, a', xs, [ndC n vs .sh, ndC p us .full], 0) := fun a' k e => h.on good85 k rfl e rfl
      refine r85a g D i fd xs n p vs us _ _ _ (fun k e => on _ k ?_) (fun k _ => h.in_ k) (fun k _ => okX_has hx (h.lt k)) (fun k e1 e2 e3 => on _ k ?_) (fun _ _ _ _ _ => hv) (fun k e1 e2 e3 e4 => on _ k ?_) (fun k e1 e2 e3 e4 => on _ k ?_) (fun k e1 e2 => on _ k ?_) (fun k => h.fin_ good85 k)
      all_goals (unfold gvs; rw [← len0]; simp_all)
    · have hj : j = 1 := by simpa [ieq] using hj
      subst hj
      have on : ∀ a', ilt i (xs.length : Int) = true → a' = (fd || gvs (xs.getD i.toNat .unk) p us) → OnOk L85.P (fun x => (L85.tr x).val) L85.m (i, fd, xs, [ndC n vs .sh, ndC p us .full], 1) (iadd .i64 i 1, a', xs, [ndC n vs .sh, ndC p us .full], 1) := fun a' k e => h.on good85 k rfl e rfl
      refine r85b g D i fd xs n p vs us _ _ _ (fun k e => on _ k ?_) (fun k _ => h.in_ k) (fun k _ => okX_has hx (h.lt k)) (fun k e1 e2 e3 => on _ k ?_) (fun _ _ _ _ _ => hu) (fun k e1 e2 e3 e4 => on _ k ?_) (fun k e1 e2 e3 e4 => on _ k ?_) (fun k e1 e2 => on _ k ?_) (fun k => h.fin_ good85 k)
      all_goals (unfold gvs; rw [← len0]; simp_all)
  · cases hL

/-! ### all that a field needs -/

theorem lok84 {g : Int} {D : AV} {loops} : LoopOk (book.envP 84 (sp84 g D) big loops) (loopBody Try.f84 5) (lp84 cSh .full) := FL.loop (loops' := noLoops) (noInner (by kernel_rfl)) (by kernel_rfl) (step84 g D)
theorem lok84t {g : Int} {D : AV} {loops} : LoopOk (book.envP 84 (sp84 g D) big loops) (loopBody Try.f84 5) (lp84 cSh (.own [10, 1])) := FL.loop (loops' := noLoops) (noInner (by kernel_rfl)) (by kernel_rfl) (step84t g D)
theorem lok84n {g : Int} {D : AV} {loops} : LoopOk (book.envP 84 (sp84 g D) big loops) (loopBody Try.f84 5) lp84n := FL.loop (loops' := noLoops) (noInner (by kernel_rfl)) (by kernel_rfl) (step84n g D)
theorem lok85 {g : Int} {D : AV} {loops} : LoopOk (book.envP 85 (sp85 g D) big loops) (loopBody Try.f85 7) lp85 := GL.loop0 (loops' := noLoops) (fun _ _ _ => rfl) (noInner (by kernel_rfl)) (by kernel_rfl) (step85 g D)

/-- what fields need, by its form -/
inductive NdForm : List (Int × List Int) → Prop
  | z : NdForm []
  | n (f : Int) : f ≠ 9 → NdForm [(f, [])]
  | o (f v : Int) (l : List Int) : f ≠ 9 → NdForm [(f, v :: l)]
  | t (f v : Int) (l : List Int) (v2 : Int) (l2 : List Int) : f ≠ 9 → NdForm [(f, v :: l), (9, v2 :: l2)]
def ndFormB : List (Int × List Int) → Bool
  | [] => true
  | [(f, _)] => !ieq f 9
  | [(f, _ :: _), (g, _ :: _)] => !ieq f 9 && ieq g 9
  | _ => false
theorem ndForm_of {L : List (Int × List Int)} (h : ndFormB L = true) : NdForm L := by
  unfold ndFormB at h
  split at h
  · exact .z
  · rename_i f l
    have hf : f ≠ 9 := by simpa [ieq] using h
    cases l with
    | nil => exact .n f hf
    | cons v l => exact .o f v l hf
  · rename_i f v l g v2 l2
    simp only [Bool.and_eq_true] at h
    have hf : f ≠ 9 := by simpa [ieq] using h.1
    have hg : g = 9 := by simpa [ieq] using h.2
    subst hg
    exact .t f v l v2 l2 hf
  · cases h
theorem ndForm (f : Int) : NdForm (needOf f) := by
  refine ndForm_of ?_
  unfold needOf
  cases isF f
  · rfl
  · simp only [cond_true]
    have hall : needTab.all ndFormB = true := by kernel_rfl
    rw [List.getD_eq_getElem?_getD]
    cases hq : needTab[f.toNat]? with
    | none => rfl
    | some l => exact List.all_eq_true.1 hall l (List.mem_of_getElem? hq)
theorem okW_wide (l : List Int) (h : l.length ≤ 9223372036854775807) : okW (l.map wideA) = true := by
  rw [okW_iff]
  refine ⟨?_, by simpa using h⟩
  rw [List.all_map, List.all_eq_true]
  intro x _; rfl
theorem pre84 {xs : List AV} (h : okX xs = true) {vs : List AV} (hv : okW vs = true) (st : St) (n : Int) (L : List AV) (ln j : Int) : (L84 st).pre (0, xs, n, vs, L, ln, j) = true := by
  refine FL.pre_of (i := 0) (Nat.zero_le _) (okX_iff.1 h).2 ?_
  show (okX xs && okW vs) = true
  rw [h, hv]; rfl
theorem pre84n {xs : List AV} (h : okX xs = true) (n : Int) (L : List AV) (ln j : Int) : L84n.pre (0, xs, n, [], L, ln, j) = true := by
  refine FL.pre_of (i := 0) (Nat.zero_le _) (okX_iff.1 h).2 ?_
  show (okX xs && List.isEmpty []) = true
  rw [h]; rfl
theorem pre85 {xs : List AV} (h : okX xs = true) {L : List AV} {j : Int} (hL : ok85 L j = true) : L85.pre (0, false, xs, L, j) = true := by
  refine GL.pre_of (i := 0) (Nat.zero_le _) (okX_iff.1 h).2 ?_ rfl
  show (okX xs && ok85 L j) = true
  rw [h, hL]; rfl
theorem isNd_ndC {vs : List AV} (h : okW vs = true) (n : Int) (st : St) : isNd st (ndC n vs st) = true := by
  simp [isNd, ndC, h]

/-- lists of values are short -/
def ndShort (L : List (Int × List Int)) : Bool := L.all fun p => Nat.ble p.2.length 100
theorem ndShort_of (f : Int) : ndShort (needOf f) = true := by
  unfold needOf
  cases isF f
  · rfl
  · simp only [cond_true]
    have hall : needTab.all ndShort = true := by kernel_rfl
    rw [List.getD_eq_getElem?_getD]
    cases hq : needTab[f.toNat]? with
    | none => rfl
    | some l => exact List.all_eq_true.1 hall l (List.mem_of_getElem? hq)
theorem s84 : SumTOk Try.prog 84 S84 := sumW_ok fun x h => by
  obtain ⟨xs, f⟩ := x
  have h : okX xs = true := h
  have hs := ndShort_of f
  show CallsA Try.prog 84 [.sl 6 xs .sh, .int .i64 f] [] (.bool (metF xs f)) []
  unfold metF
  generalize hL : needOf f = L at hs
  have hF := ndForm f
  rw [hL] at hF
  have sp : ∀ D, needP (needOf f) = D → SpecTL Try.prog (sp84 f D) := fun D hD => ⟨S30a_of s30 hD, s136, trivial⟩
  rw [hL] at sp
  cases hF with
  | z => exact book_ok.pth (by kernel_rfl) (sp _ rfl) (p84z f xs _ (ieq_self' f) rfl)
  | n g hg =>
    refine book_ok.run1 (by kernel_rfl) (sp (.sl 2 [ndN g] .full) rfl) (by kernel_rfl) lok84n (p84n f g xs _ (ieq_self' f) (pre84n h _ _ _ _) (fun e => ?_) (fun e => ?_)) <;>
      simp only [List.all_cons, List.all_nil, List.map_nil, e, Bool.and_true]
  | o g v l hg =>
    have hw : okW ((v :: l).map wideA) = true := okW_wide _ (by simp only [ndShort, List.all_cons, List.all_nil, Nat.ble_eq, Bool.and_true] at hs; omega)
    refine book_ok.run1 (by kernel_rfl) (sp (.sl 2 [ndC g ((v :: l).map wideA) .sh] .full) rfl) (by kernel_rfl) lok84 (p84 f g xs ((v :: l).map wideA) _ (ieq_self' f) (pre84 h hw _ _ _ _ _) (fun e => ?_) (fun e => ?_)) <;>
      simp only [List.all_cons, List.all_nil, e, Bool.and_true]
  | t g v l v2 l2 hg =>
    simp only [ndShort, List.all_cons, List.all_nil, Nat.ble_eq, Bool.and_true, Bool.and_eq_true] at hs
    have hw : okW ((v :: l).map wideA) = true := okW_wide _ (by omega)
    have hw2 : okW ((v2 :: l2).map wideA) = true := okW_wide _ (by omega)
    refine book_ok.run1 (by kernel_rfl) (sp (.sl 2 [ndC g ((v :: l).map wideA) .sh, ndC 9 ((v2 :: l2).map wideA) .sh] (.own [])) rfl) (by kernel_rfl) lok84t
      (p84t f g 9 xs ((v :: l).map wideA) ((v2 :: l2).map wideA) _ (ieq_self' f) (pre84 h hw _ _ _ _ _) (fun _ => pre84 h hw2 _ _ _ _ _) (fun e e2 => ?_) (fun e e2 => ?_) (fun e => ?_)) <;>
      simp only [List.all_cons, List.all_nil, *, Bool.and_true, Bool.false_and, Bool.true_and]
theorem s85 : SumTOk Try.prog 85 S84 := sumW_ok fun x h => by
  obtain ⟨xs, f⟩ := x
  have h : okX xs = true := h
  have hs := ndShort_of f
  show CallsA Try.prog 85 [.sl 6 xs .sh, .int .i64 f] [] (.bool (metF xs f)) []
  unfold metF
  generalize hL : needOf f = L at hs
  have hF := ndForm f
  rw [hL] at hF
  have sp : ∀ D, needR (needOf f) = D → SpecTL Try.prog (sp85 f D) := fun D hD => ⟨S30a_of s55 hD, s137, trivial⟩
  rw [hL] at sp
  have ne9 : ∀ g : Int, g ≠ 9 → ieq g 9 = false := fun g hg => by simp [ieq, hg]
  cases hF with
  | z => exact book_ok.pth (by kernel_rfl) (sp _ rfl) (p85z f xs _ (ieq_self' f) rfl)
  | n g hg =>
    refine book_ok.run1 (by kernel_rfl) (sp (.sl 2 [ndN g] .full) rfl) (by kernel_rfl) lok85 (p85n f g xs _ (ieq_self' f) (pre85 h ?_) (fun e => ?_) (fun e => ?_))
    · simp [ok85, isNdN, ndN, ieq]
    all_goals
      simp only [Bool.false_or, Bool.not_eq_true', Bool.not_eq_false'] at e
      simp only [List.all_cons, List.all_nil, List.map_nil, e, Bool.and_true]
  | o g v l hg =>
    have hw : okW ((v :: l).map wideA) = true := okW_wide _ (by simp only [ndShort, List.all_cons, List.all_nil, Nat.ble_eq, Bool.and_true] at hs; omega)
    refine book_ok.run1 (by kernel_rfl) (sp (.sl 2 [ndC g ((v :: l).map wideA) .sh] .full) (by simp only [needR, List.map_cons, List.map_nil, ne9 g hg]; rfl)) (by kernel_rfl) lok85 (p85 f g xs ((v :: l).map wideA) _ (ieq_self' f) (pre85 h ?_) (fun e => ?_) (fun e => ?_))
    · have := isNd_ndC hw g .sh
      simp only [ok85, Bool.and_eq_true, Bool.or_eq_true]
      exact ⟨rfl, .inl this⟩
    all_goals
      simp only [Bool.false_or, Bool.not_eq_true', Bool.not_eq_false'] at e
      simp only [List.all_cons, List.all_nil, e, Bool.and_true]
  | t g v l v2 l2 hg =>
    simp only [ndShort, List.all_cons, List.all_nil, Nat.ble_eq, Bool.and_true, Bool.and_eq_true] at hs
    have hw : okW ((v :: l).map wideA) = true := okW_wide _ (by omega)
    have hw2 : okW ((v2 :: l2).map wideA) = true := okW_wide _ (by omega)
    have hok : ∀ j : Int, j = 0 ∨ j = 1 → ok85 [ndC g ((v :: l).map wideA) .sh, ndC 9 ((v2 :: l2).map wideA) .full] j = true := by
      intro j hj
      simp only [ok85, isNd_ndC hw, isNd_ndC hw2, Bool.and_true]
      rcases hj with rfl | rfl <;> rfl
    refine book_ok.run1 (by kernel_rfl) (sp (.sl 2 [ndC g ((v :: l).map wideA) .sh, ndC 9 ((v2 :: l2).map wideA) .full] .full) (by simp only [needR, List.map_cons, List.map_nil, ne9 g hg]; rfl)) (by kernel_rfl) lok85
      (p85t f g 9 xs ((v :: l).map wideA) ((v2 :: l2).map wideA) _ (ieq_self' f) (pre85 h (hok 0 (.inl rfl))) (fun e => ?_) (fun e => pre85 h (hok 1 (.inr rfl))) (fun e e2 => ?_) (fun e e2 => ?_)) <;>
      simp only [Bool.false_or, Bool.not_eq_true', Bool.not_eq_false'] at * <;>
      simp only [List.all_cons, List.all_nil, *, Bool.and_true, Bool.false_and, Bool.true_and]
end Go.Proofs.Ytdcijmigoefnjaa
