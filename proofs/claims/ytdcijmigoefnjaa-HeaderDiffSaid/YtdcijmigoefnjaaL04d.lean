/- Chapter 04: the call of HeaderDiff. -/
import Derived.Test.YtdcijmigoefnjaaL04b
import Derived.Test.YtdcijmigoefnjaaP04d
set_option linter.unusedVariables false
set_option linter.unusedSimpArgs false
set_option maxRecDepth 100000
set_option maxHeartbeats 0
namespace Go.Proofs.Ytdcijmigoefnjaa
open Go Go.Ev

def sameF (h g : Nat → Int) (c : Nat) : Bool := ieq (h (c * 2)) (g (c * 2)) && ieq (h (c * 2 + 1)) (g (c * 2 + 1))

theorem sameF_iff {h g : Nat → Int} {c : Nat} : sameF h g c = true ↔ h (c * 2) = g (c * 2) ∧ h (c * 2 + 1) = g (c * 2 + 1) := by
  simp [sameF, ieq]

theorem diffF_nil {h g : Nat → Int} : ∀ {n : Nat}, n ≤ 24 → diffF h g n = [] → ∀ c, 24 - n ≤ c → c < 24 → sameF h g c = true
  | 0, _, _, c, h1, h2 => by omega
  | n + 1, hn, he, c, h1, h2 => by
    have e : diffF h g (n + 1) = bif sameF h g (23 - n) then diffF h g n else .int .i64 ((23 - n : Nat) : Int) :: diffF h g n := rfl
    rw [e] at he
    cases hs : sameF h g (23 - n) <;> rw [hs] at he <;> simp only [cond_true, cond_false] at he
    · cases he
    by_cases hc : c = 23 - n
    · rw [hc]; exact hs
    · exact diffF_nil (by omega) he c (by omega) h2

theorem diffF_cons {h g : Nat → Int} : ∀ {n : Nat} {a : AV} {l : List AV}, n ≤ 24 → diffF h g n = a :: l →
    ∃ j : Nat, 24 - n ≤ j ∧ j < 24 ∧ a = .int .i64 (j : Int) ∧ l = diffF h g (24 - (j + 1)) ∧ sameF h g j = false ∧ ∀ c, 24 - n ≤ c → c < j → sameF h g c = true
  | 0, a, l, _, he => by cases he
  | n + 1, a, l, hn, he => by
    have e : diffF h g (n + 1) = bif sameF h g (23 - n) then diffF h g n else .int .i64 ((23 - n : Nat) : Int) :: diffF h g n := rfl
    rw [e] at he
    cases hs : sameF h g (23 - n) <;> rw [hs] at he <;> simp only [cond_true, cond_false] at he
    · cases he
      refine ⟨23 - n, by omega, by omega, rfl, ?_, hs, fun c h1 h2 => by omega⟩
      rw [show 24 - (23 - n + 1) = n by omega]
    · obtain ⟨j, h1, h2, h3, h4, h5, h6⟩ := diffF_cons (by omega) he
      refine ⟨j, by omega, h2, h3, h4, h5, fun c h7 h8 => ?_⟩
      by_cases hc : c = 23 - n
      · rw [hc]; exact hs
      · exact h6 c (by omega) h8

/-- g's values below a field, h's from it on -/
def mix (h g : Nat → Int) (m : Nat) : Nat → Int := fun c => bif Nat.blt (c / 2) m then g c else h c

theorem hdr_get (h : Nat → Int) {i : Nat} (hi : i < 48) : (hdrC h)[i]? = some (.int .u64 (h i)) := by
  match i, hi with
  | 0, _ => rfl
  | 1, _ => rfl
  | 2, _ => rfl
  | 3, _ => rfl
  | 4, _ => rfl
  | 5, _ => rfl
  | 6, _ => rfl
  | 7, _ => rfl
  | 8, _ => rfl
  | 9, _ => rfl
  | 10, _ => rfl
  | 11, _ => rfl
  | 12, _ => rfl
  | 13, _ => rfl
  | 14, _ => rfl
  | 15, _ => rfl
  | 16, _ => rfl
  | 17, _ => rfl
  | 18, _ => rfl
  | 19, _ => rfl
  | 20, _ => rfl
  | 21, _ => rfl
  | 22, _ => rfl
  | 23, _ => rfl
  | 24, _ => rfl
  | 25, _ => rfl
  | 26, _ => rfl
  | 27, _ => rfl
  | 28, _ => rfl
  | 29, _ => rfl
  | 30, _ => rfl
  | 31, _ => rfl
  | 32, _ => rfl
  | 33, _ => rfl
  | 34, _ => rfl
  | 35, _ => rfl
  | 36, _ => rfl
  | 37, _ => rfl
  | 38, _ => rfl
  | 39, _ => rfl
  | 40, _ => rfl
  | 41, _ => rfl
  | 42, _ => rfl
  | 43, _ => rfl
  | 44, _ => rfl
  | 45, _ => rfl
  | 46, _ => rfl
  | 47, _ => rfl
  | i + 48, h => omega

theorem hdrC_congr {h g : Nat → Int} (e : ∀ c, c < 48 → h c = g c) : hdrC h = hdrC g := by
  apply List.ext_getElem?
  intro i
  by_cases hi : i < 48
  · rw [hdr_get h hi, hdr_get g hi, e i hi]
  · rw [List.getElem?_eq_none (by show 48 ≤ i; omega), List.getElem?_eq_none (by show 48 ≤ i; omega)]

theorem getH_at (h : Nat → Int) {j : Nat} (hj : j < 24) : getH (hdrC h) (j : Int) = (h (j * 2), h (j * 2 + 1)) := by
  have : isF (j : Int) = true := isF_iff.2 ⟨by omega, by omega⟩
  unfold getH
  rw [this, show (j : Int).toNat = j by omega, cell_hdr h (by omega), cell_hdr h (by omega)]; rfl

theorem setC_fn (k : Nat → Int) (f : Int) (v : Int × Int) : setC (hdrC k) f v = hdrC fun c => bif ieq f (c / 2 : Nat) then (bif Nat.beq (c % 2) 0 then v.1 else v.2) else k c := rfl

structure P6 (h g : Nat → Int) (xs : List AV) (x : X2) : Prop where
  i0 : 0 ≤ x.1
  i1 : x.1 ≤ xs.length
  at_ : ∃ m, m ≤ 24 ∧ xs.drop x.1.toNat = diffF h g (24 - m) ∧ x.2 = hdrC (mix h g m)

theorem mix_in {h g : Nat → Int} {m c : Nat} (hc : m ≤ c / 2) : mix h g m c = h c := by
  unfold mix
  have : Nat.blt (c / 2) m = false := by cases hb : Nat.blt (c / 2) m with | false => rfl | true => rw [Nat.blt_eq] at hb; omega
  rw [this]; rfl
theorem mix_lo {h g : Nat → Int} {m c : Nat} (hc : c / 2 < m) : mix h g m c = g c := by
  unfold mix
  have : Nat.blt (c / 2) m = true := by rw [Nat.blt_eq]; exact hc
  rw [this]; rfl

theorem same_at {h g : Nat → Int} {c : Nat} (hs : sameF h g (c / 2) = true) : h c = g c := by
  rw [sameF_iff] at hs
  rcases Nat.mod_two_eq_zero_or_one c with e | e
  · have : c / 2 * 2 = c := by omega
    rw [this] at hs; exact hs.1
  · have : c / 2 * 2 + 1 = c := by omega
    rw [this] at hs; exact hs.2

theorem step6 (lk : Bool) (h g : Nat → Int) (xs : List AV) (hlen : xs.length ≤ 24) (x : X2) (hp : P6 h g xs x) :
    Round (book.envP 6 (sp6l lk) big noLoops) (loopBody Try.f6 2) (book.clean 6 2) (book.clean 6 (2 + 500)) (st6 g xs) pr6 (P6 h g xs) (fun x => (F6 g x).val) (fun x => (24 - x.1).toNat) x := by
  obtain ⟨i, cs⟩ := x
  obtain ⟨h0, h1, m, hm, hd, rfl⟩ := hp
  simp only at h0 h1 hd
  have go : ilt i xs.length = true → ∃ j : Nat, m ≤ j ∧ j < 24 ∧ xs.getD i.toNat .unk = .int .i64 (j : Int) ∧ xs.drop (i.toNat + 1) = diffF h g (24 - (j + 1)) ∧ sameF h g j = false ∧ ∀ c, m ≤ c → c < j → sameF h g c = true := by
    intro hi
    rw [ilt_iff] at hi
    have hn : i.toNat < xs.length := by omega
    rw [drop_getD (d := AV.unk) hn] at hd
    obtain ⟨j, a1, a2, a3, a4, a5, a6⟩ := diffF_cons (by omega) hd.symm
    exact ⟨j, by omega, a2, a3, a4, a5, fun c b1 b2 => a6 c (by omega) b2⟩
  refine r6 lk g (mix h g m) xs i _ _ _ (fun hi => ?_) (fun hi => ?_) (fun hi hb => ?_) (fun hi _ hb => ?_) (fun hi _ hb => ?_) (fun hi => ?_)
  · rw [ilt_iff] at hi
    exact inR_iff.2 ⟨h0, hi⟩
  · obtain ⟨j, _, _, e, _⟩ := go hi
    rw [e]; rfl
  · obtain ⟨j, _, hj, e, _⟩ := go hi
    rw [e] at hb
    have : isF (j : Int) = true := isF_iff.2 ⟨by omega, by omega⟩
    simp [AV.asInt, this] at hb
  · obtain ⟨j, hmj, hj, e, _, hs, _⟩ := go hi
    rw [e] at hb
    simp only [AV.asInt, getH_at _ hj, Bool.and_true] at hb
    rw [mix_in (by omega), mix_in (by omega)] at hb
    have : sameF h g j = true := hb
    rw [this] at hs; cases hs
  · obtain ⟨j, hmj, hj, e, hd2, hs, hc⟩ := go hi
    have hi' := hi
    rw [ilt_iff] at hi'
    show OnOk _ _ _ (i, hdrC (mix h g m)) (iadd .i64 i 1, setC (hdrC (mix h g m)) (xs.getD i.toNat .unk).asInt (getH (hdrC g) (xs.getD i.toNat .unk).asInt))
    have e1 : iadd .i64 i 1 = i + 1 := iadd_small (by omega) (by omega)
    rw [e1, e]
    refine ⟨⟨by simp only; omega, by simp only; omega, j + 1, by omega, ?_, ?_⟩, rfl, by simp only; omega⟩
    · simp only
      rw [show (i + 1).toNat = i.toNat + 1 by omega]
      exact hd2
    · simp only [AV.asInt, getH_at g hj]
      rw [setC_fn]
      refine hdrC_congr fun c hc48 => ?_
      cases hb : ieq (j : Int) ((c / 2 : Nat) : Int) with
      | true =>
        have hcj : c / 2 = j := by simp only [ieq, beq_iff_eq] at hb; omega
        rw [mix_lo (m := j + 1) (c := c) (by omega), cond_true]
        rcases Nat.mod_two_eq_zero_or_one c with q | q
        · rw [q]; show g (j * 2) = g c; rw [show j * 2 = c by omega]
        · rw [q]; show g (j * 2 + 1) = g c; rw [show j * 2 + 1 = c by omega]
      | false =>
        have hcj : c / 2 ≠ j := by simp only [ieq, beq_eq_false_iff_ne] at hb; omega
        rw [cond_false]
        by_cases hlt : c / 2 < j
        · rw [mix_lo (m := j + 1) (by omega)]
          by_cases hlm : c / 2 < m
          · rw [mix_lo hlm]
          · rw [mix_in (by omega)]
            exact same_at (hc _ (by omega) hlt)
        · rw [mix_in (m := j + 1) (by omega), mix_in (by omega)]
  · rw [ilt_no] at hi
    have e : xs.drop i.toNat = [] := List.drop_eq_nil_of_le (by omega)
    rw [e] at hd
    have hs := diffF_nil (by omega) hd.symm
    have e2 : hdrC (mix h g m) = hdrC g := hdrC_congr fun c hc => by
      by_cases hlm : c / 2 < m
      · rw [mix_lo hlm]
      · rw [mix_in (by omega)]
        exact same_at (hs _ (by omega) (by omega))
    show (Ex.exit 0, out6 g) = (Ex.exit 0, _)
    unfold r6_o2
    rw [e2]
    rfl

theorem pairEq_get : ∀ {cs ds : List AV}, cs.length = ds.length → cs.length % 2 = 0 → pairEq cs ds = true → ∀ i : Nat, (cs.getD i .unk).asInt = (ds.getD i .unk).asInt
  | [], [], _, _, _, i => rfl
  | [_], _, _, h, _, _ => by simp at h
  | a :: b :: cs, [], h, _, _, _ => by simp at h
  | a :: b :: cs, [_], h, _, _, _ => by simp at h
  | [], _ :: _, h, _, _, _ => by simp at h
  | a :: b :: cs, c :: d :: ds, hl, he, hp, i => by
    simp only [pairEq, Bool.and_eq_true, ieq, beq_iff_eq, Bool.and_true] at hp
    match i with
    | 0 => exact hp.1.1
    | 1 => exact hp.1.2
    | i + 2 =>
      have := pairEq_get (cs := cs) (ds := ds) (by simpa using hl) (by simp at he; omega) hp.2 i
      simpa using this

theorem pairEq_hdr {k h : Nat → Int} (e : pairEq (hdrC k) (hdrC h) = true) : hdrC k = hdrC h := by
  refine hdrC_congr fun c hc => ?_
  have h48 : (hdrC k).length = 48 := rfl
  have := pairEq_get (cs := hdrC k) (ds := hdrC h) rfl (by rw [h48]) e c
  rw [List.getD_eq_getElem?_getD, List.getD_eq_getElem?_getD, hdr_get k hc, hdr_get h hc] at this
  exact this

theorem lok6 (lk : Bool) (h g : Nat → Int) (xs : List AV) (hxs : xs = diffF h g 24) {loops} : LoopOk (book.envP 6 (sp6l lk) big loops) (loopBody Try.f6 2) (loopS (book.clean 6 2) pr6 (st6 g xs) (F6 g) (pre6 h g xs)) := by
  have hl : xs.length ≤ 24 := by rw [hxs]; exact diff_len h g 24
  refine Book.loop_ok (loops' := noLoops) (noInner (by kernel_rfl)) (by kernel_rfl) (fun x hx => ?_) (step6 lk h g xs hl)
  obtain ⟨i, cs⟩ := x
  simp only [pre6, Bool.and_eq_true, ieq, beq_iff_eq] at hx
  obtain ⟨rfl, h2, h3⟩ := hx
  refine ⟨⟨by simp, by simp, 0, by omega, ?_, ?_⟩, ?_⟩
  · simp [hxs]
  · have e := isHdr_eq h3
    rw [e] at h2
    simp only
    rw [e, pairEq_hdr h2]
    rfl
  · unfold big; simp

theorem sp6l_ok : SpecTL Try.prog (sp6l true) := ⟨s31, s33, s35, s42, s44, trivial⟩

theorem c6 (h g : Nat → Int) : CallsA Try.prog 6 [.agg (hdrC h), .agg (hdrC g)] [] (.bool true) [] := by
  have e : lockL true (diffC (hdrC h) (hdrC g)) = diffF h g 24 := diffF_cell h g 24 (Nat.le_refl _)
  have q : pairEq (hdrC g) (hdrC g) = true := pairEq_self _
  refine book_ok.run1 (k := 2) (by kernel_rfl) sp6l_ok (by kernel_rfl) (lok6 true h g _ e) (p6 true h g _ ?_ q ?_)
  · show (ieq 0 0 && (pairEq (hdrC h) (hdrC h) && isHdr (hdrC h))) = true
    rw [pairEq_self]; rfl
  · show (AV.bool (bif pairEq (hdrC g) (hdrC g) then true else false), ([] : List (List AV))) = (AV.bool true, [])
    rw [q]; rfl

end Go.Proofs.Ytdcijmigoefnjaa
