import Derived.Test.YtdcijmigoefnjaaD03
import Derived.Test.YtdcijmigoefnjaaL03
import Derived.Test.YtdcijmigoefnjaaP04
/- Lists: slices.Equal (printed by program). -/
set_option linter.unusedVariables false
set_option maxRecDepth 100000
set_option maxHeartbeats 0
namespace Go.Proofs.Ytdcijmigoefnjaa
open Go Go.Ev

theorem p41 (xs ys : List AV) (r : AV × List (List AV)) (k0 : (!ieq ↑xs.length ↑ys.length) = true → ((AV.bool false, [])) = r) (k1 : (!ieq ↑xs.length ↑ys.length) = false → (pre41 IntKind.i64 (0, xs, ys)) = true) (k2 : (!ieq ↑xs.length ↑ys.length) = false → (eqA xs ys) = true → ((AV.bool true, [])) = r) (k3 : (!ieq ↑xs.length ↑ys.length) = false → (eqA xs ys) = false → ((AV.bool false, [])) = r) : Goes (runP (book.envP 41 noSpec big (loopsAt [(4, lp41)])) Try.f41 [.sl 1 xs .sh, .sl 1 ys .sh] [] (.s .z (.s .z .z))) r :=
  Goes.of_eq (t' := Bool.rec (motive := fun _ => TR) (.must (st41 (0, xs, ys) = st41 (0, xs, ys)) (Bool.rec (motive := fun _ => TR) .no (Bool.rec (motive := fun _ => TR) (.ret ((AV.bool false, []))) (.ret ((AV.bool true, []))) (eqA xs ys)) (pre41 IntKind.i64 (0, xs, ys)))) (.ret ((AV.bool false, []))) (!ieq ↑xs.length ↑ys.length)) (by kernel_rfl) (.ite (fun h0_0 => Goes.leafE (k0 h0_0)) (fun h0_0 => .must rfl (.step (k1 h0_0) (.ite (fun h2_2 => Goes.leafE (k2 h0_0 h2_2)) (fun h2_2 => Goes.leafE (k3 h0_0 h2_2))))))
theorem p59 (xs ys : List AV) (r : AV × List (List AV)) (k0 : (!ieq ↑xs.length ↑ys.length) = true → ((AV.bool false, [])) = r) (k1 : (!ieq ↑xs.length ↑ys.length) = false → (pre41 zk (0, xs, ys)) = true) (k2 : (!ieq ↑xs.length ↑ys.length) = false → (eqA xs ys) = true → ((AV.bool true, [])) = r) (k3 : (!ieq ↑xs.length ↑ys.length) = false → (eqA xs ys) = false → ((AV.bool false, [])) = r) : Goes (runP (book.envP 59 noSpec big (loopsAt [(4, lp59)])) Try.f59 [.sl 1 xs .sh, .sl 1 ys .sh] [] (.s .z (.s .z .z))) r :=
  Goes.of_eq (t' := Bool.rec (motive := fun _ => TR) (.must (st41 (0, xs, ys) = st41 (0, xs, ys)) (Bool.rec (motive := fun _ => TR) .no (Bool.rec (motive := fun _ => TR) (.ret ((AV.bool false, []))) (.ret ((AV.bool true, []))) (eqA xs ys)) (pre41 zk (0, xs, ys)))) (.ret ((AV.bool false, []))) (!ieq ↑xs.length ↑ys.length)) (by kernel_rfl) (.ite (fun h0_0 => Goes.leafE (k0 h0_0)) (fun h0_0 => .must rfl (.step (k1 h0_0) (.ite (fun h2_2 => Goes.leafE (k2 h0_0 h2_2)) (fun h2_2 => Goes.leafE (k3 h0_0 h2_2))))))

end Go.Proofs.Ytdcijmigoefnjaa

/- Chapter 04: headers: contracts. -/
set_option linter.unusedVariables false
set_option linter.unusedSimpArgs false
set_option maxRecDepth 100000
set_option maxHeartbeats 0
namespace Go.Proofs.Ytdcijmigoefnjaa
open Go Go.Ev

/-! lists of numbers -/
theorem s41 : SumTOk Try.prog 41 (S41 .i64) := sumW_ok fun x h => by
  obtain ⟨xs, ys⟩ := x
  simp only [Bool.and_eq_true] at h
  obtain ⟨h1, h2, h3, h4⟩ := h
  refine book_ok.run1 (k := 4) (l := lp41) (by kernel_rfl) noSpec_ok (by kernel_rfl) lok41 (p41 xs ys _ (fun h => ?_) (fun h => ?_) (fun h h5 => ?_) (fun h h5 => ?_))
  · show _ = (AV.bool (eqA xs ys), [])
    cases he : eqA xs ys with
    | false => rfl
    | true => have := eqA_len he; simp [ieq, this] at h
  · simp only [Bool.not_eq_false', ieq, beq_iff_eq] at h
    simp only [pre41, Bool.and_eq_true, ile, decide_eq_true_eq, beq_iff_eq]
    exact ⟨by omega, by omega, by omega, h3, h1, h2⟩
  · show _ = (AV.bool (eqA xs ys), []); rw [h5]
  · show _ = (AV.bool (eqA xs ys), []); rw [h5]
theorem s59 : SumTOk Try.prog 59 (S41 .u8) := sumW_ok fun x h => by
  obtain ⟨xs, ys⟩ := x
  simp only [Bool.and_eq_true] at h
  obtain ⟨h1, h2, h3, h4⟩ := h
  refine book_ok.run1 (k := 4) (l := lp59) (by kernel_rfl) noSpec_ok (by kernel_rfl) lok59 (p59 xs ys _ (fun h => ?_) (fun h => ?_) (fun h h5 => ?_) (fun h h5 => ?_))
  · show _ = (AV.bool (eqA xs ys), [])
    cases he : eqA xs ys with
    | false => rfl
    | true => have := eqA_len he; simp [ieq, this] at h
  · simp only [Bool.not_eq_false', ieq, beq_iff_eq] at h
    simp only [pre41, Bool.and_eq_true, ile, decide_eq_true_eq, beq_iff_eq]
    exact ⟨by omega, by omega, by omega, h3, h1, h2⟩
  · show _ = (AV.bool (eqA xs ys), []); rw [h5]
  · show _ = (AV.bool (eqA xs ys), []); rw [h5]

/-! headers -/
theorem s68 : SumTOk Try.prog 68 (S68 (ibits .and .u64)) := sum0_ok fun x _ => book_ok.pth (by kernel_rfl) noSpec_ok (p68 x.1.1 x.1.2 x.2.1 x.2.2 _ rfl)
theorem s109 : SumTOk Try.prog 109 (S68 (ibits .and .u64)) := sum0_ok fun x _ => book_ok.pth (by kernel_rfl) noSpec_ok (p109 x.1.1 x.1.2 x.2.1 x.2.2 _ rfl)
theorem spR_ok : SpecTL Try.prog spR := ⟨s53, trivial⟩

theorem getH_no {cs : List AV} {f : Int} (h : isF f = false) : getH cs f = (0, 0) := by unfold getH; rw [h]; rfl

theorem get_in {f : FuncId} (h1 : ∀ h : Nat → Int, (List.range 24).map (fun (j : Nat) => book.all 100 4 f [.agg (hdrC h), .int .i64 (j : Int)] []) = (List.range 24).map (fun (j : Nat) => some (wA (getH (hdrC h) (j : Int)), [])))
    (h2 : ∀ (h : Nat → Int) n, isF n = false → CallsA Try.prog f [.agg (hdrC h), .int .i64 n] [] (wA (0, 0)) []) : SumTOk Try.prog f S33 := by
  refine sum0_ok fun x hx => ?_
  obtain ⟨cs, n⟩ := x
  have hx : isHdr cs = true := hx
  show CallsA Try.prog f [.agg cs, .int .i64 n] [] (wA (getH cs n)) []
  rw [isHdr_eq hx]
  generalize (fun j => (cs.getD j .unk).asInt) = h
  cases hn : isF n with
  | true =>
    obtain ⟨j, hj, rfl⟩ := isF_cases hn
    have := all_of_map (h1 h) j hj
    exact Book.all_ok book_ok 100 4 f _ [] _ [] this
  | false =>
    rw [getH_no hn]
    exact h2 h n hn

theorem s33 : SumTOk Try.prog 33 S33 := get_in (fun h => by kernel_rfl) fun h n hn => by
  rcases isF_not hn with g | g
  · exact book_ok.pth (by kernel_rfl) noSpec_ok (p33a h n _ (by simp [ilt]; omega) rfl)
  · exact book_ok.pth (by kernel_rfl) noSpec_ok (p33b h n _ (by simp [ilt]; omega) (by simp [ile]; omega) rfl)
theorem s34 : SumTOk Try.prog 34 S33 := get_in (fun h => by kernel_rfl) fun h n hn =>
  book_ok.pth (by kernel_rfl) spR_ok (p34a h n _ (by rw [hn]; rfl) rfl)

theorem setN_no {f : Int} {v : Int × Int} : ∀ {cs : List AV} {j : Nat}, intsA .u64 cs = true → (∀ k, k < cs.length → ieq f ((j + k) / 2 : Nat) = false) → setN f v cs j = cs
  | [], _, _, _ => rfl
  | c :: cs, j, h, hk => by
    simp only [intsA, List.all_cons, Bool.and_eq_true] at h
    have h1 := hk 0 (by simp)
    simp only [Nat.add_zero] at h1
    rw [setN, h1, cond_false, setN_no (cs := cs) h.2 (fun k hk2 => by have := hk (k + 1) (by simp; omega); rw [show j + 1 + k = j + (k + 1) by omega]; exact this)]
    cases c <;> try (cases h.1; done)
    have h2 := h.1
    simp only [isI, decide_eq_true_eq] at h2
    rw [h2]; rfl

theorem setC_no {h : Nat → Int} {f : Int} {v : Int × Int} (hf : isF f = false) : setC (hdrC h) f v = hdrC h := by
  refine setN_no rfl fun k hk => ?_
  have hk : k < 48 := hk
  exact ieq_no hf (by omega) (by omega)

theorem set_in {f : FuncId} (h1 : ∀ (h : Nat → Int) (a b : Int), (List.range 24).map (fun (j : Nat) => book.all 100 4 f [.agg (hdrC h), .int .i64 (j : Int), wA (a, b)] []) = (List.range 24).map (fun (j : Nat) => some (.agg (setC (hdrC h) (j : Int) (a, b)), [])))
    (h2 : ∀ (h : Nat → Int) n a b, isF n = false → CallsA Try.prog f [.agg (hdrC h), .int .i64 n, wA (a, b)] [] (.agg (hdrC h)) []) : SumTOk Try.prog f (S35 true) := by
  refine sum0_ok fun x hx => ?_
  obtain ⟨cs, n, a, b⟩ := x
  have hx : isHdr cs = true := hx
  show CallsA Try.prog f [.agg cs, .int .i64 n, wA (a, b)] [] (.agg (setC cs n (a, b))) []
  rw [isHdr_eq hx]
  generalize (fun j => (cs.getD j .unk).asInt) = h
  cases hn : isF n with
  | true =>
    obtain ⟨j, hj, rfl⟩ := isF_cases hn
    have := all_of_map (h1 h a b) j hj
    exact Book.all_ok book_ok 100 4 f _ [] _ [] this
  | false =>
    rw [setC_no hn]
    exact h2 h n a b hn

theorem s35 : SumTOk Try.prog 35 (S35 true) := set_in (fun h a b => by kernel_rfl) fun h n a b hn => by
  rcases isF_not hn with g | g
  · exact book_ok.pth (by kernel_rfl) noSpec_ok (p35a h n a b _ (by simp [ile]; omega) rfl)
  · exact book_ok.pth (by kernel_rfl) noSpec_ok (p35b h n a b _ (by simp [ile]; omega) (by simp [ilt]; omega) rfl)
theorem s36 : SumTOk Try.prog 36 (S35 true) := set_in (fun h a b => by kernel_rfl) fun h n a b hn =>
  book_ok.pth (by kernel_rfl) spR_ok (p36a h n a b _ hn rfl)

end Go.Proofs.Ytdcijmigoefnjaa
