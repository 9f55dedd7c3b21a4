import Derived.Test.YtdcijmigoefnjaaP46b
import Derived.Test.YtdcijmigoefnjaaL46a
import Derived.Test.YtdcijmigoefnjaaL10b
/- Chapter 46: frames that are laid: contracts. -/
set_option linter.unusedVariables false
set_option linter.unusedSimpArgs false
set_option maxRecDepth 100000
set_option maxHeartbeats 0
namespace Go.Proofs.Ytdcijmigoefnjaa
open Go Go.Ev

theorem spF_ok : SpecTL Try.prog spF := ⟨s117o, s133, s153, s72, trivial⟩
theorem noO_ok : SpecOL Try.prog [] := trivial
theorem tinyB_iff {xs : List AV} : tinyB xs = true ↔ xs.length ≤ 1000 := by unfold tinyB; rw [Nat.ble_eq]
theorem tiny_small {xs : List AV} (h : tinyB xs = true) : smallB xs = true := by
  rw [tinyB_iff] at h
  unfold smallB
  rw [Nat.ble_eq]; omega
theorem pair1_at (k : Nat → Int) (v : AV) {j : Nat} (hj : j < 24) : List.take 2 (List.drop (0 + j * 2) (hdr1 k v)) = List.take 2 (List.drop (0 + j * 2) (hdrC k)) := by
  have hl : (hdrC k).length = 48 := rfl
  unfold hdr1
  rw [List.drop_append_of_le_length (by omega), List.take_append_of_le_length (by rw [List.length_drop]; omega)]
theorem s149 : SumOOk Try.prog 149 S149 := sumO_ok (fun _ _ _ _ h => h.shO 1) fun x hx => by
  obtain ⟨⟨hs, xs⟩, i, n⟩ := x
  simp only [Bool.and_eq_true] at hx
  obtain ⟨hh, hi, hn, ht⟩ := hx
  have hb := isF_in' hi
  show CallsO Try.prog 149 [.ptr 1000 0, .int .i64 i, .int .i64 n] (shut hs xs) (.tup []) (grown hs (xs ++ fldC hs i n) [0])
  rw [isHdr_eq hh]
  generalize (fun j => (hs.getD j .unk).asInt) = k
  have e := pair_at k i.toNat (by omega)
  have e1 := pair1_at k (AV.sl 1 xs St.sh) (j := i.toNat) (by omega)
  refine book_ok.goO (by kernel_rfl) spF_ok noO_ok (p149 k xs i n _ (inR_iff.2 ⟨hb.1, hb.2⟩) ?_ ?_ ?_ ?_)
  · show ((List.take 2 (List.drop (0 + i.toNat * 2) (hdr1 k (AV.sl 1 xs St.sh)))).length == 2) = true
    rw [e1]; exact len_at k (by omega)
  · show AV.has _ (AV.agg (List.map AV.flat (List.take 2 (List.drop (0 + i.toNat * 2) (hdr1 k (AV.sl 1 xs St.sh)))))) = true
    rw [e1, e]; rfl
  · rw [show sizeOk n = true from hn, tiny_small ht]; rfl
  · rw [e1, e]
    unfold fldC
    rw [getH_hdr k hi]; rfl
theorem s152 : SumOOk Try.prog 152 S152 := sumO_ok (fun _ _ _ _ h => h.shO 1) fun x hx => by
  obtain ⟨⟨hs, xs⟩, i, n⟩ := x
  simp only [Bool.and_eq_true] at hx
  obtain ⟨hh, hn, ht⟩ := hx
  show CallsO Try.prog 152 [.ptr 1000 0, .int .i64 i, .int .i64 n] (shut hs xs) (.tup []) (grown hs (xs ++ numL i n) [0])
  rw [isHdr_eq hh]
  generalize (fun j => (hs.getD j .unk).asInt) = k
  refine book_ok.goO (by kernel_rfl) spF_ok noO_ok (p152 k xs i n _ ?_ rfl)
  rw [show numOk i n = true from hn, tiny_small ht]; rfl
theorem s151 : SumOOk Try.prog 151 S151 := sumO_ok (fun _ _ _ _ h => h) fun x hx => by
  obtain ⟨⟨hs, xs⟩, ys⟩ := x
  simp only [Bool.and_eq_true] at hx
  obtain ⟨hh, ht, hy⟩ := hx
  rw [tinyB_iff] at ht hy
  have ht : xs.length ≤ 1000 := ht
  have hy : ys.length ≤ 1000 := hy
  show CallsO Try.prog 151 [.ptr 1000 0, .sl 1 ys .sh] (grown hs xs []) (.tup []) (grown hs (xs ++ ys) [])
  rw [isHdr_eq hh]
  generalize (fun j => (hs.getD j .unk).asInt) = k
  exact book_ok.goO (by kernel_rfl) spF_ok noO_ok (p151 k xs ys _ (by rw [Nat.ble_eq]; omega) (by rw [Nat.ble_eq]; omega) rfl)
theorem s185 : SumOOk Try.prog 185 S185 := sumO_ok (fun _ _ _ _ h => h) fun x hx => by
  obtain ⟨⟨hs, xs⟩, n⟩ := x
  simp only [Bool.and_eq_true] at hx
  obtain ⟨hh, ht, h0, h1⟩ := hx
  rw [tinyB_iff] at ht
  have ht : xs.length ≤ 1000 := ht
  simp only [ile, decide_eq_true_eq] at h0 h1
  show CallsO Try.prog 185 [.ptr 1000 0, .int .i64 n] (grown hs xs []) (.tup []) (grown hs (xs ++ nul n.toNat) [])
  rw [isHdr_eq hh]
  generalize (fun j => (hs.getD j .unk).asInt) = k
  exact book_ok.goO (by kernel_rfl) spF_ok noO_ok (p185 k xs n _ (by simp [ile]; omega) (by simp [ile]; omega) (by simp [ile]; omega) (by rw [Nat.ble_eq, List.length_replicate]; omega) (by rw [Nat.ble_eq, List.length_replicate]; omega) rfl)
theorem s184 : SumOOk Try.prog 184 S184 := sumO_ok (fun _ _ _ _ h => h) fun x hx => by
  obtain ⟨hs, xs⟩ := x
  have hh : isHdr hs = true := hx
  show CallsO Try.prog 184 [.ptr 1000 0] (grown hs xs []) (.int .i64 (clsI hs)) (grown hs xs [])
  rw [isHdr_eq hh]
  generalize (fun j => (hs.getD j .unk).asInt) = k
  exact book_ok.goO (by kernel_rfl) spF_ok noO_ok (p184 k xs _ rfl)
theorem spO0_ok : SpecOL Try.prog spO0 := ⟨s149, s151, s152, s184, s185, trivial⟩
theorem s183l : SumTOk Try.prog 183 (S183l true) := sum0_ok fun x hx => by
  obtain ⟨hs, four⟩ := x
  have hh : isHdr hs = true := hx
  show CallsA Try.prog 183 [.agg hs, .bool four] [] (Tree.ite (hasIn hs four) (.leaf (.sl 1 (inL hs four) (.own []))) (.leaf (.sl 0 [] .nil))).val []
  rw [isHdr_eq hh]
  generalize (fun j => (hs.getD j .unk).asInt) = k
  refine book_ok.goW (by kernel_rfl) spF_ok spO0_ok (p183 k four _ (fun e => ?_) (fun e e1 => ?_) (fun e e1 e2 e3 => ?_) (fun e e1 e2 e3 => ?_) (fun e e1 e2 => ?_))
  · have e : ieq (lowH (hdrC k) 9) 6 = true := e
    unfold hasIn inL
    simp only [e, cond_true, Tree.val]; rfl
  · have e : ieq (lowH (hdrC k) 9) 6 = false := e
    have e1 : ieq (lowH (hdrC k) 9) 17 = true := e1
    unfold hasIn inL
    simp only [e, e1, cond_true, cond_false, Tree.val]; rfl
  · have e : ieq (lowH (hdrC k) 9) 6 = false := e
    have e1 : ieq (lowH (hdrC k) 9) 17 = false := e1
    have e2 : ieq (lowH (hdrC k) 9) 1 = true := e2
    unfold hasIn inL
    simp only [e, e1, e2, e3, cond_true, cond_false, Tree.val]; rfl
  · have e : ieq (lowH (hdrC k) 9) 6 = false := e
    have e1 : ieq (lowH (hdrC k) 9) 17 = false := e1
    have e2 : ieq (lowH (hdrC k) 9) 1 = true := e2
    unfold hasIn
    simp only [e, e1, e2, e3, cond_true, cond_false, Tree.val]
  · have e : ieq (lowH (hdrC k) 9) 6 = false := e
    have e1 : ieq (lowH (hdrC k) 9) 17 = false := e1
    have e2 : ieq (lowH (hdrC k) 9) 1 = false := e2
    unfold hasIn
    simp only [e, e1, e2, cond_true, cond_false, Tree.val]
theorem spG_ok : SpecTL Try.prog (spG true) := ⟨s183l, spF_ok⟩
theorem in_len (hs : List AV) (four : Bool) : (inL hs four).length ≤ 20 := by
  have h1 : ∀ i, (fldC hs i 2).length = 2 := fun _ => rfl
  have h2 : ∀ i, (fldC hs i 1).length = 1 := fun _ => rfl
  unfold inL nul
  cases ieq (lowH hs 9) 6 <;> cases ieq (lowH hs 9) 17 <;> cases (bif ieq (lowH hs 9) 1 then four else false) <;> simp [h1, h2]
theorem in_no {hs : List AV} {four : Bool} (h : hasIn hs four = false) : inL hs four = [] := by
  unfold hasIn at h
  unfold inL
  cases e1 : ieq (lowH hs 9) 6 <;> rw [e1] at h <;> simp only [cond_true, cond_false] at h ⊢
  · cases e2 : ieq (lowH hs 9) 17 <;> rw [e2] at h <;> simp only [cond_true, cond_false] at h ⊢
    · rw [h]; rfl
    · cases h
  · cases h
end Go.Proofs.Ytdcijmigoefnjaa
