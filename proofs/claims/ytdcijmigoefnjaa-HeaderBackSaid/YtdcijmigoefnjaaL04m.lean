/- Chapter 04: the calls of HeaderPuts and HeaderBack. -/
import Derived.Test.YtdcijmigoefnjaaPlH
import Derived.Test.YtdcijmigoefnjaaL04k
import Derived.Test.YtdcijmigoefnjaaL04c
import Derived.Test.YtdcijmigoefnjaaP04l
set_option linter.unusedVariables false
set_option linter.unusedSimpArgs false
set_option maxRecDepth 100000
set_option maxHeartbeats 0
namespace Go.Proofs.Ytdcijmigoefnjaa
open Go Go.Ev

theorem sp8_ok : SpecTL Try.prog (sp8 true) := ⟨s57, s58, s60, s61, s59, s44, trivial⟩
theorem sp9_ok : SpecTL Try.prog (sp9 true) := ⟨s39, s57, s60, s37, s59, s44, trivial⟩

theorem byteL_ints : ∀ {xs : List AV}, byteL xs → intsA .u8 xs = true
  | [], _ => rfl
  | x :: xs, h => by
    obtain ⟨z, _, rfl⟩ := h x (by simp)
    simp only [intsA, List.all_cons, isI, decide_true, Bool.true_and]
    exact byteL_ints fun y hy => h y (List.mem_cons_of_mem _ hy)
theorem putN_ints : ∀ {cs : List AV} {j : Nat}, intsA .u8 (putN cs j) = true
  | [], _ => rfl
  | [_], _ => rfl
  | a :: b :: cs, j => by
    have h1 : intsA .u8 (putL (a.asInt, b.asInt) (sizeOf (j : Int))) = true := intsA_drop rfl _
    have h2 := putN_ints (cs := cs) (j := j + 1)
    unfold intsA at h1 h2 ⊢
    show List.all (_ ++ _) _ = true
    rw [List.all_append, h1, h2]; rfl
theorem put_pre {h : Nat → Int} : (intsA .u8 (putC (hdrC h)) && (intsA .u8 (putC (hdrC h)) && (lenB (putC (hdrC h)) && lenB (putC (hdrC h))))) = true := by
  have h1 : intsA .u8 (putC (hdrC h)) = true := putN_ints
  have h2 : lenB (putC (hdrC h)) = true := by unfold lenB; rw [put_len rfl, Nat.ble_eq]; omega
  rw [h1, h2]; rfl
theorem put_pre2 {h : Nat → Int} : (intsA .u8 (putC (hdrC h)) && lenB (putC (hdrC h))) = true := by
  have h1 : intsA .u8 (putC (hdrC h)) = true := putN_ints
  have h2 : lenB (putC (hdrC h)) = true := by unfold lenB; rw [put_len rfl, Nat.ble_eq]; omega
  rw [h1, h2]; rfl

theorem viaK {α : Type} {a b c : α} (h : a = b) (k : b = c) : a = c := h.trans k

theorem c8 (h : Nat → Int) {xs : List AV} (h1 : intsA .u8 xs = true) (h2 : lenB xs = true) : CallsA Try.prog 8 [.agg (hdrC h), .sl 1 xs .sh] [] (.bool true) [] := by
  have q0 : (intsA .u8 xs && lenB xs) = true := by rw [h1, h2]; rfl
  have q1 := put_pre (h := h)
  have q2 : eqA (putC (hdrC h)) (putC (hdrC h)) = true := eqA_self _
  have q3 : pairEq (parseC xs) (parseC xs) = true := pairEq_self _
  have r1 : (AV.bool (bif bif bif eqA (putC (hdrC h)) (putC (hdrC h)) then pairEq (parseC xs) (parseC xs) else false then true else false then true else false), ([] : List (List AV))) = (AV.bool true, []) := by rw [q2, q3]; rfl
  have r2 : (AV.bool (bif bif bif eqA (putC (hdrC h)) (putC (hdrC h)) then true else false then true else false then true else false), ([] : List (List AV))) = (AV.bool true, []) := by rw [q2]; rfl
  exact book_ok.pth (by kernel_rfl) sp8_ok (p8 true h xs _ q0 (fun _ => by kernel_rfl) (fun _ => by kernel_rfl) (fun _ => viaK (by kernel_rfl) q1) (fun _ => viaK (by kernel_rfl) q2) (fun _ => by kernel_rfl) (fun _ => by kernel_rfl) (fun _ => viaK (by kernel_rfl) q3) (fun _ => by kernel_rfl) (fun _ => viaK (by kernel_rfl) r1) (fun _ => viaK (by kernel_rfl) q1) (fun _ => viaK (by kernel_rfl) q2) (fun _ => viaK (by kernel_rfl) r2))

theorem c9 (h : Nat → Int) {xs : List AV} (hx : byteL xs) (h2 : lenB xs = true) : CallsA Try.prog 9 [.agg (hdrC h), .sl 1 xs .sh] [] (.bool true) [] := by
  have h1 : intsA .u8 xs = true := byteL_ints hx
  have q0 : (intsA .u8 xs && lenB xs) = true := by rw [h1, h2]; rfl
  obtain ⟨b1, b2⟩ := back_ok h
  have q1 := put_pre2 (h := clipK h)
  have q2 : (!pairEq (parseC (putC (clipC (hdrC h)))) (clipC (hdrC h))) = false := by rw [b2, pairEq_self]; rfl
  have q3 : (!fitsC (clipC (hdrC h))) = false := by rw [fits_clip]; rfl
  have q5 : parseOk xs = true → eqA (putC (parseC xs)) xs = true := fun k => by
    rw [put_parse hx (ok_iff.1 k).1]; exact eqA_self _
  have q6 : parseOk xs = true → (intsA .u8 (putC (parseC xs)) && (intsA .u8 xs && (lenB (putC (parseC xs)) && lenB xs))) = true := fun k => by
    rw [put_parse hx (ok_iff.1 k).1, h1, h2]; rfl
  have r1 : parseOk xs = true → (AV.bool (bif bif fitsC (parseC xs) then eqA (putC (parseC xs)) xs else false then true else false), ([] : List (List AV))) = (AV.bool true, []) := fun k => by
    rw [(ok_iff.1 k).2, q5 k]; rfl
  have r2 : (AV.bool true, ([] : List (List AV))) = (AV.bool true, []) := rfl
  exact book_ok.pth (by kernel_rfl) sp9_ok (p9 true h xs _ (by kernel_rfl) (by kernel_rfl) (by kernel_rfl) (by kernel_rfl) (by kernel_rfl) (viaK (by kernel_rfl) q1) (viaK (by kernel_rfl) b1) (by kernel_rfl) (by kernel_rfl) (by kernel_rfl) (by kernel_rfl) (viaK (by kernel_rfl) q2) (by kernel_rfl) (viaK (by kernel_rfl) q3) (by kernel_rfl) q0
    (fun _ => by kernel_rfl) (fun _ => by kernel_rfl) (fun _ => by kernel_rfl) (fun _ => by kernel_rfl) (fun k => viaK (by kernel_rfl) (ok_iff.1 k).2) (fun _ => by kernel_rfl) (fun _ => by kernel_rfl) (fun k => viaK (by kernel_rfl) (q6 k)) (fun _ => by kernel_rfl) (fun k => viaK (by kernel_rfl) (q5 k)) (fun k => viaK (by kernel_rfl) (r1 k)) (fun _ => by kernel_rfl) (fun _ => r2))

theorem bytes_of {xs : List AV} (hx : ∀ x ∈ xs, TyE false [.int .u8] x) : byteL xs := fun x hm => by
  obtain ⟨l, e, n, rfl, h1, h2⟩ := (by
    obtain ⟨l, e, h⟩ := hx x hm
    cases e
    exact ⟨_, rfl, h⟩ : ∃ l, [Lf.int .u8] = [l] ∧ TyA (.int .u8) x)
  refine ⟨n.toNat, ?_, ?_⟩
  · have : n ≤ 255 := h2
    have : 0 ≤ n := h1
    omega
  · have : 0 ≤ n := h1
    rw [Int.toNat_of_nonneg this]
theorem lenB_of {xs : List AV} (hl : xs.length ≤ maxLen) : lenB xs = true := by
  unfold lenB; rw [Nat.ble_eq]; exact hl

theorem cHeaderPuts {a xs : List AV} (ha : TyL (repL 24 [.int .u64, .int .u64]) a) (hx : ∀ x ∈ xs, TyE false [.int .u8] x) (hl : xs.length ≤ maxLen) : CallsA Try.prog 8 [.agg a, .sl 1 xs .sh] [] (.bool true) [] := by
  rw [isHdr_eq (hdr_of ha)]
  exact c8 _ (byteL_ints (bytes_of hx)) (lenB_of hl)
theorem cHeaderBack {a xs : List AV} (ha : TyL (repL 24 [.int .u64, .int .u64]) a) (hx : ∀ x ∈ xs, TyE false [.int .u8] x) (hl : xs.length ≤ maxLen) : CallsA Try.prog 9 [.agg a, .sl 1 xs .sh] [] (.bool true) [] := by
  rw [isHdr_eq (hdr_of ha)]
  exact c9 _ (bytes_of hx) (lenB_of hl)

end Go.Proofs.Ytdcijmigoefnjaa
