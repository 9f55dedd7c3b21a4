import Derived.Test.YtdcijmigoefnjaaL46d
import Derived.Test.YtdcijmigoefnjaaL10h
/- Chapter 46: what frames tell may be laid: no program in sight. -/
set_option linter.unusedVariables false
set_option linter.unusedSimpArgs false
set_option maxRecDepth 100000
set_option maxHeartbeats 0
namespace Go.Proofs.Ytdcijmigoefnjaa
open Go Go.Ev

/-- what is told by the kind of frame -/
theorem rt_frm {b : B6} {xs : List AV} (hf : FitN (frmK b xs)) (hb : b.2.2.2.1.2 = typN xs) : Rt (frmK b xs) := by
  have e9 : frmK b xs 9 = typN xs := (low_frm (by decide)).trans hb
  have e4 : lowH (hdrC (frmK b xs)) 4 = typN xs := (low4 hf).trans e9
  have eF : four46 (hdrC (frmK b xs)) = ieq (typN xs) 2048 := by unfold four46; rw [e4]
  have eS : six46 (hdrC (frmK b xs)) = ieq (typN xs) 34525 := by unfold six46; rw [e4]
  have eN : noIp (hdrC (frmK b xs)) = (bif !ieq (typN xs) 2048 then !ieq (typN xs) 34525 else false) := by unfold noIp; rw [eF, eS]
  have eP := low9 hf
  have nm : ∀ {L : List Nat}, OnlyK (frmK b xs) L → ∀ {f : Nat}, f ∉ L → ZF (frmK b xs) f := fun h _ hn => h.zf hn
  cases c1 : ieq (typN xs) 2048 with
  | true =>
    have ek : frmK b xs = fourK b (restX xs) := by unfold frmK; rw [c1]; rfl
    have ho : OnlyK (frmK b xs) (wT true (nv (restX xs) 9 1) ++ ipT true) := by rw [ek]; exact only_four _ _
    have ep : lowH (hdrC (frmK b xs)) 9 = nv (restX xs) 9 1 := by rw [eP, ek]; exact pr_four ..
    have t := ie1 c1
    have wn : ∀ {f : Nat}, (∀ p, nv (restX xs) 9 1 = p → f ∉ wT true p) → f ∉ ipT true → ZF (frmK b xs) f := fun h1 h2 => ho.zf fun hm => by
      rcases List.mem_append.1 hm with h | h
      · exact h1 _ rfl h
      · exact h2 h
    have w0 : ∀ {f : Nat}, f < 12 ∨ 17 < f → f ∉ ipT true → ZF (frmK b xs) f := fun h1 h2 => wn (fun p _ hm => by rcases wT_mem hm with h | h | h <;> omega) h2
    have hno : noIp (hdrC (frmK b xs)) = true → False := fun e => by rw [eN, c1] at e; cases e
    refine ⟨w0 (by omega) (by decide), fun e => (hno e).elim, fun e => ?_, fun e => ⟨w0 (by omega) (by decide), w0 (by omega) (by decide)⟩, fun e => ?_, fun e => ?_, fun e => ?_, fun e => ⟨w0 (by omega) (by decide), w0 (by omega) (by decide), w0 (by omega) (by decide)⟩, fun e e2 => w0 (by omega) (by decide)⟩
    · rw [eF, c1] at e; cases e
    · rcases e with e | e
      · rw [ep] at e
        exact ⟨wn (fun p hp hm => by rcases wT_mem hm with h | h | h <;> omega) (by decide), wn (fun p hp hm => by rcases wT_mem hm with h | h | h <;> omega) (by decide)⟩
      · exact (hno e).elim
    · rcases e with e | e
      · rw [ep] at e
        exact ⟨wn (fun p hp hm => by rcases wT_mem hm with h | h | h <;> omega) (by decide), wn (fun p hp hm => by rcases wT_mem hm with h | h | h <;> omega) (by decide)⟩
      · exact (hno e).elim
    · rcases e with e | e
      · rw [ep] at e
        exact ⟨wn (fun p hp hm => by rcases wT_mem hm with h | h | h <;> omega) (by decide), wn (fun p hp hm => by rcases wT_mem hm with h | h | h <;> omega) (by decide)⟩
      · rw [eF, c1] at e; cases e
  | false =>
  cases c2 : ieq (typN xs) 34525 with
  | true =>
    have ek : frmK b xs = sixK b (restX xs) := by unfold frmK; rw [c1, c2]; rfl
    have ho : OnlyK (frmK b xs) (wT false (nv (restX xs) 6 1) ++ ipT false) := by rw [ek]; exact only_six _ _
    have ep : lowH (hdrC (frmK b xs)) 9 = nv (restX xs) 6 1 := by rw [eP, ek]; exact pr_six ..
    have t := ie1 c2
    have wn : ∀ {f : Nat}, (∀ p, nv (restX xs) 6 1 = p → f ∉ wT false p) → f ∉ ipT false → ZF (frmK b xs) f := fun h1 h2 => ho.zf fun hm => by
      rcases List.mem_append.1 hm with h | h
      · exact h1 _ rfl h
      · exact h2 h
    have w0 : ∀ {f : Nat}, f < 12 ∨ 17 < f → f ∉ ipT false → ZF (frmK b xs) f := fun h1 h2 => wn (fun p _ hm => by rcases wT_mem hm with h | h | h <;> omega) h2
    have hno : noIp (hdrC (frmK b xs)) = true → False := fun e => by rw [eN, c1, c2] at e; cases e
    refine ⟨w0 (by omega) (by decide), fun e => (hno e).elim, fun e => ⟨w0 (by omega) (by decide), w0 (by omega) (by decide)⟩, fun e => ?_, fun e => ?_, fun e => ?_, fun e => ?_, fun e => ⟨w0 (by omega) (by decide), w0 (by omega) (by decide), w0 (by omega) (by decide)⟩, fun e e2 => w0 (by omega) (by decide)⟩
    · rw [eS, c2] at e; cases e
    · rcases e with e | e
      · rw [ep] at e
        exact ⟨wn (fun p hp hm => by rcases wT_mem hm with h | h | h <;> omega) (by decide), wn (fun p hp hm => by rcases wT_mem hm with h | h | h <;> omega) (by decide)⟩
      · exact (hno e).elim
    · rcases e with e | e
      · rw [ep] at e
        exact ⟨wn (fun p hp hm => by rcases wT_mem hm with h | h | h <;> omega) (by decide), wn (fun p hp hm => by rcases wT_mem hm with h | h | h <;> omega) (by decide)⟩
      · exact (hno e).elim
    · have n16 : ∀ p, 16 ∉ wT false p := fun p hm => by rcases wT_mem hm with h | h | h <;> first | omega | exact absurd h.2.1 (by decide)
      have n17 : ∀ p, 17 ∉ wT false p := fun p hm => by rcases wT_mem hm with h | h | h <;> first | omega | exact absurd h.2.1 (by decide)
      exact ⟨wn (fun p _ => n16 p) (by decide), wn (fun p _ => n17 p) (by decide)⟩
  | false =>
  have nf := ie' c1
  have ns := ie' c2
  have go : ∀ L : List Nat, OnlyK (frmK b xs) L → (∀ i ∈ [1, 7, 8, 9, 10, 11, 12, 13, 14, 15, 16, 17, 21, 22], i ∉ L) → (typN xs ≠ 2054 → 18 ∉ L ∧ 19 ∉ L ∧ 20 ∉ L) → (typN xs ≠ 34887 → typN xs ≠ 34888 → 23 ∉ L) → Rt (frmK b xs) := fun L ho h1 h2 h3 =>
    ⟨ho.zf (h1 1 (by decide)), fun _ => ⟨ho.zf (h1 7 (by decide)), ho.zf (h1 8 (by decide)), ho.zf (h1 9 (by decide))⟩, fun _ => ⟨ho.zf (h1 10 (by decide)), ho.zf (h1 11 (by decide))⟩, fun _ => ⟨ho.zf (h1 21 (by decide)), ho.zf (h1 22 (by decide))⟩,
     fun _ => ⟨ho.zf (h1 12 (by decide)), ho.zf (h1 13 (by decide))⟩, fun _ => ⟨ho.zf (h1 14 (by decide)), ho.zf (h1 15 (by decide))⟩, fun _ => ⟨ho.zf (h1 16 (by decide)), ho.zf (h1 17 (by decide))⟩,
     fun e => by rw [e4] at e; have := h2 e; exact ⟨ho.zf this.1, ho.zf this.2.1, ho.zf this.2.2⟩, fun e e2 => by rw [e4] at e e2; exact ho.zf (h3 e e2)⟩
  cases c3 : ieq (typN xs) 2054 with
  | true =>
    have t := ie1 c3
    have ek : frmK b xs = arpK b (restX xs) := by unfold frmK; rw [c1, c2, c3]; rfl
    exact go _ (by rw [ek]; exact only_arp _ _) (by decide) (fun h => absurd t h) (fun _ _ => by decide)
  | false =>
  cases c4 : (bif ieq (typN xs) 34887 then true else ieq (typN xs) 34888) with
  | true =>
    have ek : frmK b xs = labK b (restX xs) := by unfold frmK; rw [c1, c2, c3, c4]; rfl
    refine go _ (by rw [ek]; exact only_lab _ _) (by decide) (fun _ => by decide) (fun h h2 => ?_)
    rw [ie h, ie h2] at c4; cases c4
  | false =>
    have ek : frmK b xs = baseK b := by unfold frmK; rw [c1, c2, c3, c4]; rfl
    exact go _ (by rw [ek]; exact only_base _) (by decide) (fun _ => by decide) (fun _ _ => by decide)
theorem or4096 (n : Nat) (h : n < 4096) : (n + 4096) &&& 4096 = 4096 := by
  apply Nat.eq_of_testBit_eq
  intro i
  rw [Nat.testBit_and, show (4096 : Nat) = 2 ^ 12 from rfl, Nat.testBit_two_pow]
  by_cases e : 12 = i
  · subst e
    have : (n + 2 ^ 12).testBit 12 = true := by
      rw [Nat.add_comm, Nat.testBit_two_pow_add_eq, Nat.testBit_lt_two_pow h]; rfl
    rw [this]; rfl
  · simp [e]
/-- what a frame tells may be laid -/
theorem par_right {n : Int} {xs : List AV} (h : okL xs = true) (hz : ieq (parE n xs) 0 = true) : hdrU (parC n xs) = true ∧ rightH (parC n xs) = true ∧ parK n xs 1 = n := by
  have hp := port_ok hz
  have hn := port_in hp
  have hf := fitN_fit (fit_par hp h)
  have a2 := nv2 h 14
  have e1 : parK n xs 1 = n := (low_frm (by decide)).trans rfl
  have e0 : lowH (hdrC (parK n xs)) 0 = n := (lowF_of hf (i := 0) rfl (by decide)).trans e1
  have r : Rt (parK n xs) := rt_frm hf rfl
  have e9 : parK n xs 9 = typN xs := (low_frm (by decide)).trans rfl
  have e10 : parK n xs 10 = 0 := (low_frm (by decide)).trans rfl
  have e11 : parK n xs 11 = bif tagB xs then nv xs 14 2 % 4096 + 4096 else 0 := (low_frm (by decide)).trans rfl
  have e12 : parK n xs 12 = 0 := (low_frm (by decide)).trans rfl
  have e13 : parK n xs 13 = bif tagB xs then nv xs 14 2 / 8192 else 0 := (low_frm (by decide)).trans rfl
  refine ⟨hdrU_fit hf, right_of hf (fits_par h hz) r (by rw [e0]; exact ilt_no.2 (by omega)) (by rw [e0]; exact ilt_no.2 (by omega)) ?_, e1⟩
  have g5 : ∀ i : Int, i = 5 → zeroH1 (hdrC (parK n xs)) (.int .i64 i) = zeroW (parK n xs 10, parK n xs 11) := fun i e => by
    subst e
    unfold zeroH1
    rw [show (AV.int IntKind.i64 5).asInt = 5 from rfl, getH_hdr _ rfl]; rfl
  have z5 : allZ (hdrC (parK n xs)) (nI [5]) = zeroW (parK n xs 10, parK n xs 11) := by
    show (zeroH1 (hdrC (parK n xs)) (.int .i64 5) && true) = _
    rw [g5 5 rfl, Bool.and_true]
  have z6 : allZ (hdrC (parK n xs)) (nI [6]) = zeroW (parK n xs 12, parK n xs 13) := by
    show (zeroH1 (hdrC (parK n xs)) (.int .i64 6) && true) = _
    unfold zeroH1
    rw [show (AV.int IntKind.i64 6).asInt = 6 from rfl, getH_hdr _ rfl, Bool.and_true]; rfl
  have b5 : bit12 (getH (hdrC (parK n xs)) 5) = !zeroW (ibits .and .u64 (parK n xs 10) 0, ibits .and .u64 (parK n xs 11) 4096) := by
    rw [getH_hdr _ rfl]; rfl
  have l4 : lowH (hdrC (parK n xs)) 4 = typN xs := (low4 hf).trans e9
  unfold taggedH
  rw [z5, z6, b5, l4]
  cases ht : tagB xs with
  | true =>
    rw [ht] at e11 e13
    simp only [cond_true] at e11 e13
    have hne : zeroW (parK n xs 10, parK n xs 11) = false := by
      rw [e11]
      unfold zeroW
      simp only
      rw [ie (show nv xs 14 2 % 4096 + 4096 ≠ 0 by omega), Bool.and_false]
    rw [hne]
    obtain ⟨m, hm⟩ : ∃ m : Nat, nv xs 14 2 % 4096 = m := ⟨(nv xs 14 2 % 4096).toNat, by omega⟩
    have z : ibits .and .u64 (parK n xs 11) 4096 = 4096 := by
      rw [e11, hm, ibits_eq]
      show IntKind.u64.wrap ((BitVec.ofInt 64 ((m + 4096 : Nat) : Int) &&& BitVec.ofInt 64 ((4096 : Nat) : Int)).toNat : Int) = _
      rw [BitVec.toNat_and, BitVec.ofInt_natCast, BitVec.ofInt_natCast, BitVec.toNat_ofNat, BitVec.toNat_ofNat, Nat.mod_eq_of_lt (by omega), Nat.mod_eq_of_lt (by omega), or4096 m (by omega)]
      rfl
    rw [z]
    simp only [cond_false]
    unfold zeroW
    simp only
    rw [ie (show (4096 : Int) ≠ 0 by decide), Bool.and_false]; rfl
  | false =>
    rw [ht] at e11 e13
    rw [e10, e11, e12, e13]
    have ty : typN xs = nv xs 12 2 := by unfold typN; rw [ht]; rfl
    unfold tagB at ht
    rw [← ty] at ht
    show (bif !ieq (typN xs) 33024 then !ieq (typN xs) 34984 else false) = true
    cases h1 : ieq (typN xs) 33024 <;> cases h2 : ieq (typN xs) 34984 <;> rw [h1, h2] at ht <;> first | rfl | cases ht
end Go.Proofs.Ytdcijmigoefnjaa

/- Chapter 46: what frames tell may be laid: the law's call. -/
set_option linter.unusedVariables false
set_option linter.unusedSimpArgs false
set_option maxRecDepth 100000
set_option maxHeartbeats 0
namespace Go.Proofs.Ytdcijmigoefnjaa
open Go Go.Ev

theorem lays {n : Int} {xs : List AV} (h : okL xs = true) (hz : ieq (parE n xs) 0 = true) :
    hdrU (parC n xs) = true ∧ rightH (parC n xs) = true ∧ ieq (parE n (layH (parC n xs))) 0 = true ∧ pairEq (parC n (layH (parC n xs))) (parC n xs) = true := by
  obtain ⟨hu, hr, h1⟩ := par_right h hz
  have hu' : hdrU (hdrC (parK n xs)) = true := hu
  have hr' : rightH (hdrC (parK n xs)) = true := hr
  obtain ⟨a, b⟩ := back46 hu' hr'
  rw [h1] at a b
  have a : parE n (layH (parC n xs)) = 0 := a
  have b : parC n (layH (parC n xs)) = parC n xs := b
  refine ⟨hu, hr, ?_, ?_⟩
  · rw [a]; rfl
  · rw [b]; exact pairEq_same _
theorem c24 {xs : List AV} (h : okL xs = true) (n : Int) : CallsA Try.prog 24 [.sl 1 xs .sh, .int .i64 n] [] (.bool true) [] := by
  refine book_ok.pth (by kernel_rfl) sp23_ok (p24 true xs n _ ?_ ?_ ?_ ?_ ?_ ?_ ?_ ?_ ?_ ?_ ?_ ?_ ?_ ?_ ?_ ?_ ?_ ?_ ?_ ?_ ?_ ?_ ?_ ?_ ?_ ?_ ?_ ?_)
  · intro _; rfl
  · intro _; exact h
  · intro _ _; kernel_rfl
  · intro _ _; kernel_rfl
  · intro _ _; kernel_rfl
  · intro _ hz; exact Eq.trans (by kernel_rfl) (lays h hz).1
  · intro _ _ _; kernel_rfl
  · intro _ _ _; exact Eq.trans (by kernel_rfl) (lay_ok (parC n xs))
  · intro _ _ _ _; kernel_rfl
  · intro _ _ _ _; kernel_rfl
  · intro _ _ _ _; kernel_rfl
  · intro _ _ _ _; kernel_rfl
  · intro _ _ _ _; kernel_rfl
  · intro _ _ _ _; kernel_rfl
  · intro _ _ a b c; rw [a, c]; kernel_rfl
  · intro _ hz _ _ c; exact fno c (Eq.trans (by kernel_rfl) (lays h hz).2.2.2)
  · intro _ hz _ c; exact fno c (Eq.trans (by kernel_rfl) (lays h hz).2.2.1)
  · intro _ hz _ c; exact fno c (Eq.trans (by kernel_rfl) (lays h hz).2.2.1)
  · intro _ hz _ c; exact fno c (Eq.trans (by kernel_rfl) (lays h hz).2.2.1)
  · intro _ hz c; exact fno c (Eq.trans (by kernel_rfl) (lays h hz).2.1)
  · intro _ hz c; exact fno c (Eq.trans (by kernel_rfl) (lays h hz).2.1)
  · intro _ hz c; exact fno c (Eq.trans (by kernel_rfl) (lays h hz).2.1)
  · intro _ hz c; exact fno c (Eq.trans (by kernel_rfl) (lays h hz).2.1)
  · intro _ hz c; exact fno c (Eq.trans (by kernel_rfl) (lays h hz).2.1)
  · intro _ hz c; exact fno c (Eq.trans (by kernel_rfl) (lays h hz).2.1)
  · intro _ hz c; exact fno c (Eq.trans (by kernel_rfl) (lays h hz).2.1)
  · intro _ hz c; exact fno c (Eq.trans (by kernel_rfl) (lays h hz).2.1)
  · intro _ _; rfl
theorem cCraftAll {xs : List AV} {n : Int} (hx : ∀ x ∈ xs, TyE false [.int .u8] x) (hl : xs.length ≤ maxLen) (hn : IntKind.i64.min ≤ n ∧ n ≤ IntKind.i64.max) : CallsA Try.prog 24 [.sl 1 xs .sh, .int .i64 n] [] (.bool true) [] := c24 (okL_ty hx hl) n
end Go.Proofs.Ytdcijmigoefnjaa
