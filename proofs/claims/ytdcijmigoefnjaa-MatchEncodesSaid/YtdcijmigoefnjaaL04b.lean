import Derived.Test.YtdcijmigoefnjaaPL1b
import Derived.Test.YtdcijmigoefnjaaL10g
import Derived.Test.YtdcijmigoefnjaaP04c
import Derived.Test.YtdcijmigoefnjaaL04w
/- Chapter 04: what two headers have otherwise; the call of HeaderSets. -/
set_option linter.unusedVariables false
set_option linter.unusedSimpArgs false
set_option maxRecDepth 100000
set_option maxHeartbeats 0
namespace Go.Proofs.Ytdcijmigoefnjaa
open Go Go.Ev

theorem sp39_ok : SpecTL Try.prog sp39 := ⟨s68, s109, s32, s47, s108, s110, trivial⟩
theorem s39 : SumTOk Try.prog 39 (S39 true) := sum0_ok fun x hx => by
  have hx : isHdr x = true := hx
  show CallsA Try.prog 39 [.agg x] [] (.agg (clipC x)) []
  rw [isHdr_eq hx]
  exact book_ok.pth (by kernel_rfl) sp39_ok (p39 _ _ rfl)
theorem s40 : SumTOk Try.prog 40 (S39 true) := sum0_ok fun x hx => by
  have hx : isHdr x = true := hx
  show CallsA Try.prog 40 [.agg x] [] (.agg (clipC x)) []
  rw [isHdr_eq hx]
  exact book_ok.pth (by kernel_rfl) sp39_ok (p40 _ _ rfl)

theorem clip_hdr (h : Nat → Int) : isHdr (clipC (hdrC h)) = true := rfl
theorem set_hdr (h : Nat → Int) (f : Int) (v : Int × Int) : isHdr (setC (hdrC h) f v) = true := rfl

theorem pairEq_comm : ∀ cs ds : List AV, pairEq cs ds = pairEq ds cs
  | [], [] => rfl
  | [], [_] => rfl
  | [], _ :: _ :: _ => rfl
  | [_], [] => rfl
  | [_], [_] => rfl
  | [_], _ :: _ :: _ => rfl
  | _ :: _ :: _, [] => rfl
  | _ :: _ :: _, [_] => rfl
  | a :: b :: cs, c :: d :: ds => by
    have e : ∀ x y : Int, ieq x y = ieq y x := fun x y => by
      unfold ieq
      by_cases h : x = y
      · subst h; rfl
      · rw [beq_eq_false_iff_ne.2 h, beq_eq_false_iff_ne.2 (Ne.symm h)]
    simp only [pairEq, e a.asInt, e b.asInt, pairEq_comm cs ds]

theorem sp37_ok : SpecTL Try.prog (sp37 true) := ⟨s39, s40, trivial⟩
theorem s37 : SumTOk Try.prog 37 S37 := sum0_ok fun x hx => by
  have hx : isHdr x = true := hx
  show CallsA Try.prog 37 [.agg x] [] (.bool (fitsC x)) []
  rw [isHdr_eq hx]
  exact book_ok.pth (by kernel_rfl) sp37_ok (p37 true _ _ rfl rfl)
theorem s38 : SumTOk Try.prog 38 S37 := sum0_ok fun x hx => by
  have hx : isHdr x = true := hx
  show CallsA Try.prog 38 [.agg x] [] (.bool (fitsC x)) []
  rw [isHdr_eq hx]
  exact book_ok.pth (by kernel_rfl) sp37_ok (p38 true _ _ rfl (congrArg (fun b => (AV.bool b, [])) (pairEq_comm _ _)))

/-! what two headers have otherwise -/
theorem pair_at (h : Nat → Int) : ∀ j, j < 24 → List.map AV.flat (List.take 2 (List.drop (0 + j * 2) (hdrC h))) = [.int .u64 (h (j * 2)), .int .u64 (h (j * 2 + 1))] := by
  intro j hj
  match j, hj with
  | 0, _ => rfl
  | 1, _ => rfl
  | 2, _ => rfl
  | 3, _ => rfl
  | 4, _ => rfl
  | 5, _ => rfl
  | 6, _ => rfl
  | 7, _ => rfl
  | 8, _ => rfl
  | 9, _ => rfl
  | 10, _ => rfl
  | 11, _ => rfl
  | 12, _ => rfl
  | 13, _ => rfl
  | 14, _ => rfl
  | 15, _ => rfl
  | 16, _ => rfl
  | 17, _ => rfl
  | 18, _ => rfl
  | 19, _ => rfl
  | 20, _ => rfl
  | 21, _ => rfl
  | 22, _ => rfl
  | 23, _ => rfl
  | j + 24, h => omega

theorem diff_step (h g : Nat → Int) {j : Nat} (hj : j < 24) : diffF h g (24 - j) =
    bif ieq (h (j * 2)) (g (j * 2)) && ieq (h (j * 2 + 1)) (g (j * 2 + 1)) then diffF h g (24 - (j + 1)) else .int .i64 (j : Int) :: diffF h g (24 - (j + 1)) := by
  have e : 24 - j = (24 - (j + 1)) + 1 := by omega
  have e2 : 23 - (24 - (j + 1)) = j := by omega
  rw [e, diffF, e2]

structure P42 (x : X2) : Prop where
  i0 : 0 ≤ x.1
  i1 : x.1 ≤ 24
  len : (x.2.length : Int) ≤ x.1

theorem pre42_ok {x : X2} (h : pre42 x = true) : P42 x := by
  simp only [pre42, Bool.and_eq_true, ile, decide_eq_true_eq] at h
  exact ⟨h.1, h.2.1, h.2.2⟩

/-- what a round meets -/
theorem at42 {i : Int} {l : List AV} (hp : P42 (i, l)) (hi : ilt i 24 = true) : ∃ j : Nat, j < 24 ∧ i = j ∧ l.length ≤ j := by
  rw [ilt_iff] at hi
  have := hp.i0
  have := hp.len
  simp only at this ⊢
  exact ⟨i.toNat, by omega, by omega, by omega⟩

theorem len_at (h : Nat → Int) {j : Nat} (hj : j < 24) : ((List.take 2 (List.drop (0 + j * 2) (hdrC h))).length == 2) = true := by
  have := congrArg List.length (pair_at h j hj)
  rw [List.length_map] at this
  rw [this]; rfl

abbrev wideTI : TI := TI.mk (TD.struct [(0, 34, false), (1, 34, false)]) 2 16 [AV.int IntKind.u64 0, AV.int IntKind.u64 0]

theorem on42 {h g : Nat → Int} {i : Int} {l : List AV} {F : X2 → Tree (Ex × AS)} {out : List AV → AS} (hF : F = fun x => .leaf (.exit 0, out (x.2 ++ diffF h g (24 - x.1).toNat)))
    (hp : P42 (i, l)) (hi : ilt i 24 = true) (b : Bool) (hb : ∀ j : Nat, i = j → (ieq (h (j * 2)) (g (j * 2)) && ieq (h (j * 2 + 1)) (g (j * 2 + 1))) = b) (l' : List AV) (hl : l' = bif b then l else l ++ [.int .i64 i]) :
    OnOk P42 (fun x => (F x).val) (fun x => (24 - x.1).toNat) (i, l) (iadd .i64 i 1, l') := by
  obtain ⟨j, hj, rfl, hlen⟩ := at42 hp hi
  have e : iadd .i64 (j : Int) 1 = ((j + 1 : Nat) : Int) := by rw [iadd_small (by omega) (by omega)]; omega
  have hb := hb j rfl
  rw [e]
  refine ⟨⟨by simp only; omega, by simp only; omega, ?_⟩, ?_, by simp only; omega⟩
  · rw [hl]; cases b <;> simp <;> omega
  · subst hF
    simp only [Tree.val]
    have e1 : (24 - ((j + 1 : Nat) : Int)).toNat = 24 - (j + 1) := by omega
    have e2 : (24 - (j : Int)).toNat = 24 - j := by omega
    rw [e1, e2, diff_step h g hj, hb, hl]
    cases b <;> simp

theorem cnd (h g : Nat → Int) {j : Nat} (hj : j < 24) (b : Bool) (hb : (!(ieq ((AV.agg (List.map AV.flat (List.take 2 (List.drop (0 + (j : Int).toNat * 2) (hdrC h))))).cells.getD 0 AV.unk).asInt ((AV.agg (List.map AV.flat (List.take 2 (List.drop (0 + (j : Int).toNat * 2) (hdrC g))))).cells.getD 0 AV.unk).asInt &&
    (ieq ((AV.agg (List.map AV.flat (List.take 2 (List.drop (0 + (j : Int).toNat * 2) (hdrC h))))).cells.getD 1 AV.unk).asInt ((AV.agg (List.map AV.flat (List.take 2 (List.drop (0 + (j : Int).toNat * 2) (hdrC g))))).cells.getD 1 AV.unk).asInt && true))) = !b) :
    (ieq (h (j * 2)) (g (j * 2)) && ieq (h (j * 2 + 1)) (g (j * 2 + 1))) = b := by
  rw [show (j : Int).toNat = j by omega, pair_at h j hj, pair_at g j hj] at hb
  simp only [AV.cells, List.getD_cons_zero, List.getD_cons_succ, AV.asInt, Bool.and_true] at hb
  cases hq : (ieq (h (j * 2)) (g (j * 2)) && ieq (h (j * 2 + 1)) (g (j * 2 + 1))) <;> rw [hq] at hb <;> cases b <;> simp_all

theorem has_at (h : Nat → Int) {j : Nat} (hj : j < 24) : AV.has wideTI (AV.agg (List.map AV.flat (List.take 2 (List.drop (0 + (j : Int).toNat * 2) (hdrC h))))) = true := by
  rw [show (j : Int).toNat = j by omega, pair_at h j hj]; rfl
theorem lenI_at (h : Nat → Int) {j : Nat} (hj : j < 24) : ((List.take 2 (List.drop (0 + (j : Int).toNat * 2) (hdrC h))).length == 2) = true := by
  rw [show (j : Int).toNat = j by omega]; exact len_at h hj

theorem step42 (h g : Nat → Int) (x : X2) (hp : P42 x) : Round (book.envP 42 noSpec big noLoops) (loopBody Try.f42 3) (book.clean 42 3) (book.clean 42 (3 + 500)) (st42 h g) pr42 P42 (fun x => (F42 h g x).val) (fun x => (24 - x.1).toNat) x := by
  obtain ⟨i, l⟩ := x
  have inr : ilt i 24 = true → inR i 24 = true := fun hi => by
    obtain ⟨j, hj, rfl, _⟩ := at42 hp hi
    exact inR_iff.2 ⟨by omega, by omega⟩
  have ln : ∀ k : Nat → Int, ilt i 24 = true → ((List.take 2 (List.drop (0 + i.toNat * 2) (hdrC k))).length == 2) = true := fun k hi => by
    obtain ⟨j, hj, rfl, _⟩ := at42 hp hi
    exact lenI_at k hj
  have hs : ∀ k : Nat → Int, ilt i 24 = true → AV.has wideTI (AV.agg (List.map AV.flat (List.take 2 (List.drop (0 + i.toNat * 2) (hdrC k))))) = true := fun k hi => by
    obtain ⟨j, hj, rfl, _⟩ := at42 hp hi
    exact has_at k hj
  have fin : ilt i 24 = false → (F42 h g (i, l)).val = (.exit 0, out42 l) := fun hi => by
    rw [ilt_no] at hi
    have := hp.i1
    simp only at this
    have e : (24 - i).toNat = 0 := by omega
    simp only [F42, Tree.val, e, diffF, List.append_nil]
  cases l with
  | nil =>
    exact r42a h g i _ _ _ inr (ln h) (hs h) (ln g) (hs g)
      (fun hi hb => on42 rfl hp hi false (fun j hj => by subst hj; obtain ⟨j', hj', e, _⟩ := at42 hp hi; exact cnd h g (by omega) false hb) _ rfl)
      (fun hi hb => on42 rfl hp hi true (fun j hj => by subst hj; obtain ⟨j', hj', e, _⟩ := at42 hp hi; exact cnd h g (by omega) true hb) _ rfl) fin
  | cons a l =>
    have ble : ilt i 24 = true → (a :: l).length + 1 ≤ 25 := fun hi => by
      obtain ⟨j, hj, rfl, hl⟩ := at42 hp hi
      omega
    exact r42b h g i a l _ _ _ inr (ln h) (hs h) (ln g) (hs g) (fun hi _ => by have := ble hi; rw [Nat.ble_eq]; omega) (fun hi _ => by have := ble hi; rw [Nat.ble_eq]; omega)
      (fun hi hb => on42 rfl hp hi false (fun j hj => by subst hj; obtain ⟨j', hj', e, _⟩ := at42 hp hi; exact cnd h g (by omega) false hb) _ rfl)
      (fun hi hb => on42 rfl hp hi true (fun j hj => by subst hj; obtain ⟨j', hj', e, _⟩ := at42 hp hi; exact cnd h g (by omega) true hb) _ rfl) fin
theorem step43 (h g : Nat → Int) (x : X2) (hp : P42 x) : Round (book.envP 43 noSpec big noLoops) (loopBody Try.f43 3) (book.clean 43 3) (book.clean 43 (3 + 500)) (st43 h g) pr43 P42 (fun x => (F43 h g x).val) (fun x => (24 - x.1).toNat) x := by
  obtain ⟨i, l⟩ := x
  have inr : ilt i 24 = true → inR i 24 = true := fun hi => by
    obtain ⟨j, hj, rfl, _⟩ := at42 hp hi
    exact inR_iff.2 ⟨by omega, by omega⟩
  have ln : ∀ k : Nat → Int, ilt i 24 = true → ((List.take 2 (List.drop (0 + i.toNat * 2) (hdrC k))).length == 2) = true := fun k hi => by
    obtain ⟨j, hj, rfl, _⟩ := at42 hp hi
    exact lenI_at k hj
  have hs : ∀ k : Nat → Int, ilt i 24 = true → AV.has wideTI (AV.agg (List.map AV.flat (List.take 2 (List.drop (0 + i.toNat * 2) (hdrC k))))) = true := fun k hi => by
    obtain ⟨j, hj, rfl, _⟩ := at42 hp hi
    exact has_at k hj
  have fin : ilt i 24 = false → (F43 h g (i, l)).val = (.exit 0, out43 l) := fun hi => by
    rw [ilt_no] at hi
    have := hp.i1
    simp only at this
    have e : (24 - i).toNat = 0 := by omega
    simp only [F43, Tree.val, e, diffF, List.append_nil]
  cases l with
  | nil =>
    exact r43a h g i _ _ _ inr (ln h) (hs h) (ln g) (hs g)
      (fun hi hb => on42 rfl hp hi false (fun j hj => by subst hj; obtain ⟨j', hj', e, _⟩ := at42 hp hi; exact cnd h g (by omega) false hb) _ rfl)
      (fun hi hb => on42 rfl hp hi true (fun j hj => by subst hj; obtain ⟨j', hj', e, _⟩ := at42 hp hi; exact cnd h g (by omega) true hb) _ rfl) fin
  | cons a l =>
    have ble : ilt i 24 = true → (a :: l).length + 1 ≤ 25 := fun hi => by
      obtain ⟨j, hj, rfl, hl⟩ := at42 hp hi
      omega
    exact r43b h g i a l _ _ _ inr (ln h) (hs h) (ln g) (hs g) (fun hi _ => by have := ble hi; rw [Nat.ble_eq]; omega) (fun hi _ => by have := ble hi; rw [Nat.ble_eq]; omega)
      (fun hi hb => on42 rfl hp hi false (fun j hj => by subst hj; obtain ⟨j', hj', e, _⟩ := at42 hp hi; exact cnd h g (by omega) false hb) _ rfl)
      (fun hi hb => on42 rfl hp hi true (fun j hj => by subst hj; obtain ⟨j', hj', e, _⟩ := at42 hp hi; exact cnd h g (by omega) true hb) _ rfl) fin

theorem lok42 (h g : Nat → Int) {loops} : LoopOk (book.envP 42 noSpec big loops) (loopBody Try.f42 3) (lp42 h g) :=
  Book.loop_ok (loops' := noLoops) (noInner (by kernel_rfl)) (by kernel_rfl) (fun x hx => ⟨pre42_ok hx, by have := (pre42_ok hx).i0; unfold big; omega⟩) (step42 h g)
theorem lok43 (h g : Nat → Int) {loops} : LoopOk (book.envP 43 noSpec big loops) (loopBody Try.f43 3) (lp43 h g) :=
  Book.loop_ok (loops' := noLoops) (noInner (by kernel_rfl)) (by kernel_rfl) (fun x hx => ⟨pre42_ok hx, by have := (pre42_ok hx).i0; unfold big; omega⟩) (step43 h g)

theorem cell_hdr (h : Nat → Int) {j : Nat} (hj : j < 48) : cell (hdrC h) j = h j := by
  have all : ∀ (i : Nat), i < 48 → (hdrC h)[i]? = some (.int .u64 (h i)) := by
    intro i hi
    match i, hi with
    | 0, _ => rfl
    | 1, _ => rfl
    | 2, _ => rfl
    | 3, _ => rfl
    | 4, _ => rfl
    | 5, _ => rfl
    | 6, _ => rfl
    | 7, _ => rfl
    | 8, _ => rfl
    | 9, _ => rfl
    | 10, _ => rfl
    | 11, _ => rfl
    | 12, _ => rfl
    | 13, _ => rfl
    | 14, _ => rfl
    | 15, _ => rfl
    | 16, _ => rfl
    | 17, _ => rfl
    | 18, _ => rfl
    | 19, _ => rfl
    | 20, _ => rfl
    | 21, _ => rfl
    | 22, _ => rfl
    | 23, _ => rfl
    | 24, _ => rfl
    | 25, _ => rfl
    | 26, _ => rfl
    | 27, _ => rfl
    | 28, _ => rfl
    | 29, _ => rfl
    | 30, _ => rfl
    | 31, _ => rfl
    | 32, _ => rfl
    | 33, _ => rfl
    | 34, _ => rfl
    | 35, _ => rfl
    | 36, _ => rfl
    | 37, _ => rfl
    | 38, _ => rfl
    | 39, _ => rfl
    | 40, _ => rfl
    | 41, _ => rfl
    | 42, _ => rfl
    | 43, _ => rfl
    | 44, _ => rfl
    | 45, _ => rfl
    | 46, _ => rfl
    | 47, _ => rfl
    | i + 48, h => omega
  unfold cell
  rw [List.getD_eq_getElem?_getD, all j hj]; rfl

theorem diffF_cell (h g : Nat → Int) : ∀ n, n ≤ 24 → diffF (cell (hdrC h)) (cell (hdrC g)) n = diffF h g n
  | 0, _ => rfl
  | n + 1, hn => by
    rw [diffF, diffF, diffF_cell h g n (by omega), cell_hdr h (by omega), cell_hdr h (by omega), cell_hdr g (by omega), cell_hdr g (by omega)]

theorem s42 : SumTOk Try.prog 42 (S42 true) := sum0_ok fun x hx => by
  obtain ⟨cs, ds⟩ := x
  simp only [Bool.and_eq_true] at hx
  show CallsA Try.prog 42 [.agg cs, .agg ds] [] (.sl 1 (diffC cs ds) .sh) []
  rw [isHdr_eq hx.1, isHdr_eq hx.2]
  generalize (fun j => (cs.getD j .unk).asInt) = h
  generalize (fun j => (ds.getD j .unk).asInt) = g
  unfold diffC
  rw [diffF_cell h g 24 (Nat.le_refl _)]
  have := (book_ok.run1 (k := 3) (l := lp42 h g) (by kernel_rfl) noSpec_ok (by kernel_rfl) (lok42 h g) (p42 h g ((acc42 (diffF h g 24)).ret, []) rfl)).rwk 1
  have e : ((acc42 (diffF h g 24)).ret).rwk 1 = .sl 1 (diffF h g 24) .sh := by cases diffF h g 24 <;> rfl
  rw [e] at this
  exact this
theorem s43 : SumTOk Try.prog 43 (S42 true) := sum0_ok fun x hx => by
  obtain ⟨cs, ds⟩ := x
  simp only [Bool.and_eq_true] at hx
  show CallsA Try.prog 43 [.agg cs, .agg ds] [] (.sl 1 (diffC cs ds) .sh) []
  rw [isHdr_eq hx.1, isHdr_eq hx.2]
  generalize (fun j => (cs.getD j .unk).asInt) = h
  generalize (fun j => (ds.getD j .unk).asInt) = g
  unfold diffC
  rw [diffF_cell h g 24 (Nat.le_refl _)]
  have := (book_ok.run1 (k := 3) (l := lp43 h g) (by kernel_rfl) noSpec_ok (by kernel_rfl) (lok43 h g) (p43 h g ((acc43 (diffF h g 24)).ret, []) rfl)).rwk 1
  have e : ((acc43 (diffF h g 24)).ret).rwk 1 = .sl 1 (diffF h g 24) .sh := by cases diffF h g 24 <;> rfl
  rw [e] at this
  exact this

theorem diff_ints (h g : Nat → Int) : ∀ n, intsA .i64 (diffF h g n) = true
  | 0 => rfl
  | n + 1 => by
    rw [diffF]
    cases (ieq (h ((23 - n) * 2)) (g ((23 - n) * 2)) && ieq (h ((23 - n) * 2 + 1)) (g ((23 - n) * 2 + 1)))
    · simpa [intsA, isI] using diff_ints h g n
    · exact diff_ints h g n
theorem diff_len (h g : Nat → Int) : ∀ n, (diffF h g n).length ≤ n
  | 0 => by simp [diffF]
  | n + 1 => by
    rw [diffF]
    have := diff_len h g n
    cases (ieq (h ((23 - n) * 2)) (g ((23 - n) * 2)) && ieq (h ((23 - n) * 2 + 1)) (g ((23 - n) * 2 + 1))) <;> simp <;> omega

theorem pairEq_self : ∀ cs : List AV, pairEq cs cs = true
  | [] => rfl
  | [_] => rfl
  | a :: b :: cs => by simp [pairEq, ieq, pairEq_self cs]

theorem sp5_ok : SpecTL Try.prog (sp5 true) := ⟨s33, s34, s35, s36, s37, s38, s39, s40, s41, s42, s43, s44, trivial⟩

theorem c5 (h g : Nat → Int) (f a b : Int) : CallsA Try.prog 5 [.agg (hdrC h), .agg (hdrC g), .int .i64 f, wA (a, b)] [] (.bool true) [] := by
  have q1 : (ieq (getH (hdrC h) f).fst (getH (hdrC h) f).fst && (ieq (getH (hdrC h) f).snd (getH (hdrC h) f).snd && true)) = true := by simp [ieq]
  have q2 : pairEq (lockL true (setC (hdrC h) f (a, b))) (lockL true (setC (hdrC h) f (a, b))) = true := pairEq_self _
  have q3 : (fitsC (hdrC h) == fitsC (hdrC h)) = true := by simp
  have q4 : pairEq (lockL true (clipC (hdrC h))) (lockL true (clipC (hdrC h))) = true := pairEq_self _
  have q5 : eqA (lockL true (diffC (hdrC h) (hdrC g))) (lockL true (diffC (hdrC h) (hdrC g))) = true := eqA_self _
  have q6 : lenB (diffC (hdrC h) (hdrC g)) = true := by
    have := diff_len (cell (hdrC h)) (cell (hdrC g)) 24
    unfold lenB diffC
    rw [Nat.ble_eq]; omega
  have q7 : intsA .i64 (diffC (hdrC h) (hdrC g)) = true := diff_ints _ _ _
  refine book_ok.pth (by kernel_rfl) sp5_ok (p5 true h g f a b _ q1 (set_hdr h f (a, b)) q2 q3 (clip_hdr h) q4 ?_ q5 ?_)
  · show (intsA .i64 (diffC (hdrC h) (hdrC g)) && (intsA .i64 (diffC (hdrC h) (hdrC g)) && (lenB (diffC (hdrC h) (hdrC g)) && lenB (diffC (hdrC h) (hdrC g))))) = true
    rw [q6, q7]; rfl
  · have : ∀ {x y z u v : Bool}, x = true → y = true → z = true → u = true → v = true → (bif bif bif bif bif x then y else false then z else false then u else false then v else false then true else false) = true := by
      intro x y z u v h1 h2 h3 h4 h5; subst h1 h2 h3 h4 h5; rfl
    exact congrArg (fun b => (AV.bool b, [])) (this q1 q2 q3 q4 q5)

end Go.Proofs.Ytdcijmigoefnjaa
