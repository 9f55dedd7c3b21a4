import Derived.Test.YtdcijmigoefnjaaD03
import Derived.Test.YtdcijmigoefnjaaP04g
/- Numbers of 128 bits as bytes: Get keeps its contract. -/
set_option linter.unusedVariables false
set_option linter.unusedSimpArgs false
set_option maxRecDepth 100000
set_option maxHeartbeats 0
namespace Go.Proofs.Ytdcijmigoefnjaa
open Go Go.Ev

theorem get_of {f : FuncId} (h1 : ∀ xs : List AV, intsA .u8 xs = true → xs.length ≤ 9223372036854775807 → ∀ n ∈ sizeNs, n ≤ xs.length → CallsA Try.prog f [.sl 1 xs .sh, .int .i64 n] [] (.tup [wA (getHi xs n, getLo xs n), .bool true]) [])
    (h2 : ∀ xs : List AV, ∀ n ∈ sizeNs, ¬ n ≤ xs.length → CallsA Try.prog f [.sl 1 xs .sh, .int .i64 n] [] (.tup [wA (0, 0), .bool false]) []) : SumTOk Try.prog f S115 := by
  refine sumW_ok fun x hx => ?_
  obtain ⟨xs, n⟩ := x
  simp only [Bool.and_eq_true, sizeOk, List.any_eq_true, ieq, beq_iff_eq, lenB, Nat.ble_eq] at hx
  obtain ⟨⟨m, hm, rfl⟩, hi, hl⟩ := hx
  cases hc : ile n (xs.length : Int) with
  | true =>
    have := h1 xs hi hl n hm (by simpa [ile] using hc)
    simpa only [Tree.val, hc, cond_true] using this
  | false =>
    have := h2 xs n hm (by simpa [ile] using hc)
    simpa only [Tree.val, hc, cond_false] using this

theorem has_u8 {xs : List AV} {i : Nat} (h : intsA .u8 xs = true) (hi : i < xs.length) : AV.has (TI.mk (TD.int IntKind.u8) 1 1 [AV.int IntKind.u8 0]) (xs.getD i .unk) = true := by
  obtain ⟨z, hz⟩ := intsA_get h hi
  rw [hz]; rfl

theorem mnlt {a n : Int} (h : n ≤ a) (h2 : n ≤ 16) : ilt (bif ilt 16 a then 16 else a) n = false := by
  cases hq : ilt 16 a
  · rw [cond_false]; exact ilt_no.2 h
  · rw [cond_true]; exact ilt_no.2 h2
theorem mnlt' {a n : Int} (h : ¬ n ≤ a) (h2 : n ≤ 16) : ilt (bif ilt 16 a then 16 else a) n = true := by
  have : ilt 16 a = false := ilt_no.2 (by omega)
  rw [this, cond_false]
  exact ilt_iff.2 (by omega)
theorem cutL_take {v : AV} {xs : List AV} {n : Nat} : cutL (some v) xs 0 n = List.take n xs := rfl

theorem take_getD {xs : List AV} {n i : Nat} (h : i < n) : (List.take n xs).getD i .unk = xs.getD i .unk := by
  rw [List.getD_eq_getElem?_getD, List.getD_eq_getElem?_getD, List.getElem?_take, if_pos h]

theorem get116_1 (xs : List AV) (hi : intsA .u8 xs = true) (h : (1 : Int) ≤ xs.length) : CallsA Try.prog 116 [.sl 1 xs .sh, .int .i64 1] [] (.tup [wA (getHi xs 1, getLo xs 1), .bool true]) [] := by
  refine book_ok.pth (by kernel_rfl) noSpec_ok (p116_1 xs _ ?_ ?_ ?_ ?_)
  all_goals first
    | (intro h0; simp only [ilt, decide_eq_true_eq] at h0; omega)
    | (intro _; exact inR_iff.2 ⟨by omega, by omega⟩)
    | (intro _; exact has_u8 hi (by omega))
    | (intro _; kernel_rfl)
theorem get116_1n (xs : List AV) (h : ¬ (1 : Int) ≤ xs.length) : CallsA Try.prog 116 [.sl 1 xs .sh, .int .i64 1] [] (.tup [wA (0, 0), .bool false]) [] := by
  refine book_ok.pth (by kernel_rfl) noSpec_ok (p116_1 xs _ ?_ ?_ ?_ ?_)
  all_goals first
    | (intro h0; simp only [ilt, decide_eq_false_iff_not] at h0; omega)
    | (intro _; rfl)
theorem get115_1 (xs : List AV) (hi : intsA .u8 xs = true) (hl : xs.length ≤ 9223372036854775807) (h : (1 : Int) ≤ xs.length) : CallsA Try.prog 115 [.sl 1 xs .sh, .int .i64 1] [] (.tup [wA (getHi xs 1, getLo xs 1), .bool true]) [] := by
  have tl : (List.take 1 xs).length = 1 := by rw [List.length_take]; omega
  refine book_ok.pth (by kernel_rfl) noSpec_ok (p115_1 xs _ (mnlt h (by omega)) ?_ ?_ ?_ ?_ ?_ (by simp only [cutL_take, take_getD (xs := xs) (n := 1) (i := 0) (by omega)]; kernel_rfl))
  all_goals first
    | (rw [cutL_take, tl]; rfl)
    | exact inR_iff.2 ⟨by omega, by omega⟩
    | (rw [cutL_take, take_getD (by omega)]; exact has_u8 hi (by omega))
theorem get115_1n (xs : List AV) (h : ¬ (1 : Int) ≤ xs.length) : CallsA Try.prog 115 [.sl 1 xs .sh, .int .i64 1] [] (.tup [wA (0, 0), .bool false]) [] :=
  book_ok.pth (by kernel_rfl) noSpec_ok (p115_1n xs _ (mnlt' h (by omega)) rfl)
theorem get116_2 (xs : List AV) (hi : intsA .u8 xs = true) (h : (2 : Int) ≤ xs.length) : CallsA Try.prog 116 [.sl 1 xs .sh, .int .i64 2] [] (.tup [wA (getHi xs 2, getLo xs 2), .bool true]) [] := by
  refine book_ok.pth (by kernel_rfl) noSpec_ok (p116_2 xs _ ?_ ?_ ?_ ?_ ?_ ?_)
  all_goals first
    | (intro h0; simp only [ilt, decide_eq_true_eq] at h0; omega)
    | (intro _; exact inR_iff.2 ⟨by omega, by omega⟩)
    | (intro _; exact has_u8 hi (by omega))
    | (intro _; kernel_rfl)
theorem get116_2n (xs : List AV) (h : ¬ (2 : Int) ≤ xs.length) : CallsA Try.prog 116 [.sl 1 xs .sh, .int .i64 2] [] (.tup [wA (0, 0), .bool false]) [] := by
  refine book_ok.pth (by kernel_rfl) noSpec_ok (p116_2 xs _ ?_ ?_ ?_ ?_ ?_ ?_)
  all_goals first
    | (intro h0; simp only [ilt, decide_eq_false_iff_not] at h0; omega)
    | (intro _; rfl)
theorem get115_2 (xs : List AV) (hi : intsA .u8 xs = true) (hl : xs.length ≤ 9223372036854775807) (h : (2 : Int) ≤ xs.length) : CallsA Try.prog 115 [.sl 1 xs .sh, .int .i64 2] [] (.tup [wA (getHi xs 2, getLo xs 2), .bool true]) [] := by
  have tl : (List.take 2 xs).length = 2 := by rw [List.length_take]; omega
  refine book_ok.pth (by kernel_rfl) noSpec_ok (p115_2 xs _ (mnlt h (by omega)) ?_ ?_ ?_ ?_ ?_ ?_ ?_ ?_ (by simp only [cutL_take, take_getD (xs := xs) (n := 2) (i := 0) (by omega), take_getD (xs := xs) (n := 2) (i := 1) (by omega)]; kernel_rfl))
  all_goals first
    | (rw [cutL_take, tl]; rfl)
    | exact inR_iff.2 ⟨by omega, by omega⟩
    | (rw [cutL_take, take_getD (by omega)]; exact has_u8 hi (by omega))
theorem get115_2n (xs : List AV) (h : ¬ (2 : Int) ≤ xs.length) : CallsA Try.prog 115 [.sl 1 xs .sh, .int .i64 2] [] (.tup [wA (0, 0), .bool false]) [] :=
  book_ok.pth (by kernel_rfl) noSpec_ok (p115_2n xs _ (mnlt' h (by omega)) rfl)
theorem get116_3 (xs : List AV) (hi : intsA .u8 xs = true) (h : (3 : Int) ≤ xs.length) : CallsA Try.prog 116 [.sl 1 xs .sh, .int .i64 3] [] (.tup [wA (getHi xs 3, getLo xs 3), .bool true]) [] := by
  refine book_ok.pth (by kernel_rfl) noSpec_ok (p116_3 xs _ ?_ ?_ ?_ ?_ ?_ ?_ ?_ ?_)
  all_goals first
    | (intro h0; simp only [ilt, decide_eq_true_eq] at h0; omega)
    | (intro _; exact inR_iff.2 ⟨by omega, by omega⟩)
    | (intro _; exact has_u8 hi (by omega))
    | (intro _; kernel_rfl)
theorem get116_3n (xs : List AV) (h : ¬ (3 : Int) ≤ xs.length) : CallsA Try.prog 116 [.sl 1 xs .sh, .int .i64 3] [] (.tup [wA (0, 0), .bool false]) [] := by
  refine book_ok.pth (by kernel_rfl) noSpec_ok (p116_3 xs _ ?_ ?_ ?_ ?_ ?_ ?_ ?_ ?_)
  all_goals first
    | (intro h0; simp only [ilt, decide_eq_false_iff_not] at h0; omega)
    | (intro _; rfl)
theorem get115_3 (xs : List AV) (hi : intsA .u8 xs = true) (hl : xs.length ≤ 9223372036854775807) (h : (3 : Int) ≤ xs.length) : CallsA Try.prog 115 [.sl 1 xs .sh, .int .i64 3] [] (.tup [wA (getHi xs 3, getLo xs 3), .bool true]) [] := by
  have tl : (List.take 3 xs).length = 3 := by rw [List.length_take]; omega
  refine book_ok.pth (by kernel_rfl) noSpec_ok (p115_3 xs _ (mnlt h (by omega)) ?_ ?_ ?_ ?_ ?_ ?_ ?_ ?_ ?_ ?_ ?_ (by simp only [cutL_take, take_getD (xs := xs) (n := 3) (i := 0) (by omega), take_getD (xs := xs) (n := 3) (i := 1) (by omega), take_getD (xs := xs) (n := 3) (i := 2) (by omega)]; kernel_rfl))
  all_goals first
    | (rw [cutL_take, tl]; rfl)
    | exact inR_iff.2 ⟨by omega, by omega⟩
    | (rw [cutL_take, take_getD (by omega)]; exact has_u8 hi (by omega))
theorem get115_3n (xs : List AV) (h : ¬ (3 : Int) ≤ xs.length) : CallsA Try.prog 115 [.sl 1 xs .sh, .int .i64 3] [] (.tup [wA (0, 0), .bool false]) [] :=
  book_ok.pth (by kernel_rfl) noSpec_ok (p115_3n xs _ (mnlt' h (by omega)) rfl)
theorem get116_4 (xs : List AV) (hi : intsA .u8 xs = true) (h : (4 : Int) ≤ xs.length) : CallsA Try.prog 116 [.sl 1 xs .sh, .int .i64 4] [] (.tup [wA (getHi xs 4, getLo xs 4), .bool true]) [] := by
  refine book_ok.pth (by kernel_rfl) noSpec_ok (p116_4 xs _ ?_ ?_ ?_ ?_ ?_ ?_ ?_ ?_ ?_ ?_)
  all_goals first
    | (intro h0; simp only [ilt, decide_eq_true_eq] at h0; omega)
    | (intro _; exact inR_iff.2 ⟨by omega, by omega⟩)
    | (intro _; exact has_u8 hi (by omega))
    | (intro _; kernel_rfl)
theorem get116_4n (xs : List AV) (h : ¬ (4 : Int) ≤ xs.length) : CallsA Try.prog 116 [.sl 1 xs .sh, .int .i64 4] [] (.tup [wA (0, 0), .bool false]) [] := by
  refine book_ok.pth (by kernel_rfl) noSpec_ok (p116_4 xs _ ?_ ?_ ?_ ?_ ?_ ?_ ?_ ?_ ?_ ?_)
  all_goals first
    | (intro h0; simp only [ilt, decide_eq_false_iff_not] at h0; omega)
    | (intro _; rfl)
theorem get115_4 (xs : List AV) (hi : intsA .u8 xs = true) (hl : xs.length ≤ 9223372036854775807) (h : (4 : Int) ≤ xs.length) : CallsA Try.prog 115 [.sl 1 xs .sh, .int .i64 4] [] (.tup [wA (getHi xs 4, getLo xs 4), .bool true]) [] := by
  have tl : (List.take 4 xs).length = 4 := by rw [List.length_take]; omega
  refine book_ok.pth (by kernel_rfl) noSpec_ok (p115_4 xs _ (mnlt h (by omega)) ?_ ?_ ?_ ?_ ?_ ?_ ?_ ?_ ?_ ?_ ?_ ?_ ?_ ?_ (by simp only [cutL_take, take_getD (xs := xs) (n := 4) (i := 0) (by omega), take_getD (xs := xs) (n := 4) (i := 1) (by omega), take_getD (xs := xs) (n := 4) (i := 2) (by omega), take_getD (xs := xs) (n := 4) (i := 3) (by omega)]; kernel_rfl))
  all_goals first
    | (rw [cutL_take, tl]; rfl)
    | exact inR_iff.2 ⟨by omega, by omega⟩
    | (rw [cutL_take, take_getD (by omega)]; exact has_u8 hi (by omega))
theorem get115_4n (xs : List AV) (h : ¬ (4 : Int) ≤ xs.length) : CallsA Try.prog 115 [.sl 1 xs .sh, .int .i64 4] [] (.tup [wA (0, 0), .bool false]) [] :=
  book_ok.pth (by kernel_rfl) noSpec_ok (p115_4n xs _ (mnlt' h (by omega)) rfl)
theorem get116_6 (xs : List AV) (hi : intsA .u8 xs = true) (h : (6 : Int) ≤ xs.length) : CallsA Try.prog 116 [.sl 1 xs .sh, .int .i64 6] [] (.tup [wA (getHi xs 6, getLo xs 6), .bool true]) [] := by
  refine book_ok.pth (by kernel_rfl) noSpec_ok (p116_6 xs _ ?_ ?_ ?_ ?_ ?_ ?_ ?_ ?_ ?_ ?_ ?_ ?_ ?_ ?_)
  all_goals first
    | (intro h0; simp only [ilt, decide_eq_true_eq] at h0; omega)
    | (intro _; exact inR_iff.2 ⟨by omega, by omega⟩)
    | (intro _; exact has_u8 hi (by omega))
    | (intro _; kernel_rfl)
theorem get116_6n (xs : List AV) (h : ¬ (6 : Int) ≤ xs.length) : CallsA Try.prog 116 [.sl 1 xs .sh, .int .i64 6] [] (.tup [wA (0, 0), .bool false]) [] := by
  refine book_ok.pth (by kernel_rfl) noSpec_ok (p116_6 xs _ ?_ ?_ ?_ ?_ ?_ ?_ ?_ ?_ ?_ ?_ ?_ ?_ ?_ ?_)
  all_goals first
    | (intro h0; simp only [ilt, decide_eq_false_iff_not] at h0; omega)
    | (intro _; rfl)
theorem get115_6 (xs : List AV) (hi : intsA .u8 xs = true) (hl : xs.length ≤ 9223372036854775807) (h : (6 : Int) ≤ xs.length) : CallsA Try.prog 115 [.sl 1 xs .sh, .int .i64 6] [] (.tup [wA (getHi xs 6, getLo xs 6), .bool true]) [] := by
  have tl : (List.take 6 xs).length = 6 := by rw [List.length_take]; omega
  refine book_ok.pth (by kernel_rfl) noSpec_ok (p115_6 xs _ (mnlt h (by omega)) ?_ ?_ ?_ ?_ ?_ ?_ ?_ ?_ ?_ ?_ ?_ ?_ ?_ ?_ ?_ ?_ ?_ ?_ ?_ ?_ (by simp only [cutL_take, take_getD (xs := xs) (n := 6) (i := 0) (by omega), take_getD (xs := xs) (n := 6) (i := 1) (by omega), take_getD (xs := xs) (n := 6) (i := 2) (by omega), take_getD (xs := xs) (n := 6) (i := 3) (by omega), take_getD (xs := xs) (n := 6) (i := 4) (by omega), take_getD (xs := xs) (n := 6) (i := 5) (by omega)]; kernel_rfl))
  all_goals first
    | (rw [cutL_take, tl]; rfl)
    | exact inR_iff.2 ⟨by omega, by omega⟩
    | (rw [cutL_take, take_getD (by omega)]; exact has_u8 hi (by omega))
theorem get115_6n (xs : List AV) (h : ¬ (6 : Int) ≤ xs.length) : CallsA Try.prog 115 [.sl 1 xs .sh, .int .i64 6] [] (.tup [wA (0, 0), .bool false]) [] :=
  book_ok.pth (by kernel_rfl) noSpec_ok (p115_6n xs _ (mnlt' h (by omega)) rfl)
theorem get116_8 (xs : List AV) (hi : intsA .u8 xs = true) (h : (8 : Int) ≤ xs.length) : CallsA Try.prog 116 [.sl 1 xs .sh, .int .i64 8] [] (.tup [wA (getHi xs 8, getLo xs 8), .bool true]) [] := by
  refine book_ok.pth (by kernel_rfl) noSpec_ok (p116_8 xs _ ?_ ?_ ?_ ?_ ?_ ?_ ?_ ?_ ?_ ?_ ?_ ?_ ?_ ?_ ?_ ?_ ?_ ?_)
  all_goals first
    | (intro h0; simp only [ilt, decide_eq_true_eq] at h0; omega)
    | (intro _; exact inR_iff.2 ⟨by omega, by omega⟩)
    | (intro _; exact has_u8 hi (by omega))
    | (intro _; kernel_rfl)
theorem get116_8n (xs : List AV) (h : ¬ (8 : Int) ≤ xs.length) : CallsA Try.prog 116 [.sl 1 xs .sh, .int .i64 8] [] (.tup [wA (0, 0), .bool false]) [] := by
  refine book_ok.pth (by kernel_rfl) noSpec_ok (p116_8 xs _ ?_ ?_ ?_ ?_ ?_ ?_ ?_ ?_ ?_ ?_ ?_ ?_ ?_ ?_ ?_ ?_ ?_ ?_)
  all_goals first
    | (intro h0; simp only [ilt, decide_eq_false_iff_not] at h0; omega)
    | (intro _; rfl)
theorem get115_8 (xs : List AV) (hi : intsA .u8 xs = true) (hl : xs.length ≤ 9223372036854775807) (h : (8 : Int) ≤ xs.length) : CallsA Try.prog 115 [.sl 1 xs .sh, .int .i64 8] [] (.tup [wA (getHi xs 8, getLo xs 8), .bool true]) [] := by
  have tl : (List.take 8 xs).length = 8 := by rw [List.length_take]; omega
  refine book_ok.pth (by kernel_rfl) noSpec_ok (p115_8 xs _ (mnlt h (by omega)) ?_ ?_ ?_ ?_ ?_ ?_ ?_ ?_ ?_ ?_ ?_ ?_ ?_ ?_ ?_ ?_ ?_ ?_ ?_ ?_ ?_ ?_ ?_ ?_ ?_ ?_ (by simp only [cutL_take, take_getD (xs := xs) (n := 8) (i := 0) (by omega), take_getD (xs := xs) (n := 8) (i := 1) (by omega), take_getD (xs := xs) (n := 8) (i := 2) (by omega), take_getD (xs := xs) (n := 8) (i := 3) (by omega), take_getD (xs := xs) (n := 8) (i := 4) (by omega), take_getD (xs := xs) (n := 8) (i := 5) (by omega), take_getD (xs := xs) (n := 8) (i := 6) (by omega), take_getD (xs := xs) (n := 8) (i := 7) (by omega)]; kernel_rfl))
  all_goals first
    | (rw [cutL_take, tl]; rfl)
    | exact inR_iff.2 ⟨by omega, by omega⟩
    | (rw [cutL_take, take_getD (by omega)]; exact has_u8 hi (by omega))
theorem get115_8n (xs : List AV) (h : ¬ (8 : Int) ≤ xs.length) : CallsA Try.prog 115 [.sl 1 xs .sh, .int .i64 8] [] (.tup [wA (0, 0), .bool false]) [] :=
  book_ok.pth (by kernel_rfl) noSpec_ok (p115_8n xs _ (mnlt' h (by omega)) rfl)
theorem get116_16 (xs : List AV) (hi : intsA .u8 xs = true) (h : (16 : Int) ≤ xs.length) : CallsA Try.prog 116 [.sl 1 xs .sh, .int .i64 16] [] (.tup [wA (getHi xs 16, getLo xs 16), .bool true]) [] := by
  refine book_ok.pth (by kernel_rfl) noSpec_ok (p116_16 xs _ ?_ ?_ ?_ ?_ ?_ ?_ ?_ ?_ ?_ ?_ ?_ ?_ ?_ ?_ ?_ ?_ ?_ ?_ ?_ ?_ ?_ ?_ ?_ ?_ ?_ ?_ ?_ ?_ ?_ ?_ ?_ ?_ ?_ ?_)
  all_goals first
    | (intro h0; simp only [ilt, decide_eq_true_eq] at h0; omega)
    | (intro _; exact inR_iff.2 ⟨by omega, by omega⟩)
    | (intro _; exact has_u8 hi (by omega))
    | (intro _; kernel_rfl)
theorem get116_16n (xs : List AV) (h : ¬ (16 : Int) ≤ xs.length) : CallsA Try.prog 116 [.sl 1 xs .sh, .int .i64 16] [] (.tup [wA (0, 0), .bool false]) [] := by
  refine book_ok.pth (by kernel_rfl) noSpec_ok (p116_16 xs _ ?_ ?_ ?_ ?_ ?_ ?_ ?_ ?_ ?_ ?_ ?_ ?_ ?_ ?_ ?_ ?_ ?_ ?_ ?_ ?_ ?_ ?_ ?_ ?_ ?_ ?_ ?_ ?_ ?_ ?_ ?_ ?_ ?_ ?_)
  all_goals first
    | (intro h0; simp only [ilt, decide_eq_false_iff_not] at h0; omega)
    | (intro _; rfl)
theorem get115_16 (xs : List AV) (hi : intsA .u8 xs = true) (hl : xs.length ≤ 9223372036854775807) (h : (16 : Int) ≤ xs.length) : CallsA Try.prog 115 [.sl 1 xs .sh, .int .i64 16] [] (.tup [wA (getHi xs 16, getLo xs 16), .bool true]) [] := by
  have tl : (List.take 16 xs).length = 16 := by rw [List.length_take]; omega
  refine book_ok.pth (by kernel_rfl) noSpec_ok (p115_16 xs _ (mnlt h (by omega)) ?_ ?_ ?_ ?_ ?_ ?_ ?_ ?_ ?_ ?_ ?_ ?_ ?_ ?_ ?_ ?_ ?_ ?_ ?_ ?_ ?_ ?_ ?_ ?_ ?_ ?_ ?_ ?_ ?_ ?_ ?_ ?_ ?_ ?_ ?_ ?_ ?_ ?_ ?_ ?_ ?_ ?_ ?_ ?_ ?_ ?_ ?_ ?_ ?_ ?_ (by simp only [cutL_take, take_getD (xs := xs) (n := 16) (i := 0) (by omega), take_getD (xs := xs) (n := 16) (i := 1) (by omega), take_getD (xs := xs) (n := 16) (i := 2) (by omega), take_getD (xs := xs) (n := 16) (i := 3) (by omega), take_getD (xs := xs) (n := 16) (i := 4) (by omega), take_getD (xs := xs) (n := 16) (i := 5) (by omega), take_getD (xs := xs) (n := 16) (i := 6) (by omega), take_getD (xs := xs) (n := 16) (i := 7) (by omega), take_getD (xs := xs) (n := 16) (i := 8) (by omega), take_getD (xs := xs) (n := 16) (i := 9) (by omega), take_getD (xs := xs) (n := 16) (i := 10) (by omega), take_getD (xs := xs) (n := 16) (i := 11) (by omega), take_getD (xs := xs) (n := 16) (i := 12) (by omega), take_getD (xs := xs) (n := 16) (i := 13) (by omega), take_getD (xs := xs) (n := 16) (i := 14) (by omega), take_getD (xs := xs) (n := 16) (i := 15) (by omega)]; kernel_rfl))
  all_goals first
    | (rw [cutL_take, tl]; rfl)
    | exact inR_iff.2 ⟨by omega, by omega⟩
    | (rw [cutL_take, take_getD (by omega)]; exact has_u8 hi (by omega))
theorem get115_16n (xs : List AV) (h : ¬ (16 : Int) ≤ xs.length) : CallsA Try.prog 115 [.sl 1 xs .sh, .int .i64 16] [] (.tup [wA (0, 0), .bool false]) [] :=
  book_ok.pth (by kernel_rfl) noSpec_ok (p115_16n xs _ (mnlt' h (by omega)) rfl)
theorem s115 : SumTOk Try.prog 115 S115 := get_of (fun xs hi hl n hn h => by
  simp only [sizeNs, List.mem_cons, List.not_mem_nil, or_false] at hn
  rcases hn with rfl | rfl | rfl | rfl | rfl | rfl | rfl
  · exact get115_1 xs hi hl h
  · exact get115_2 xs hi hl h
  · exact get115_3 xs hi hl h
  · exact get115_4 xs hi hl h
  · exact get115_6 xs hi hl h
  · exact get115_8 xs hi hl h
  · exact get115_16 xs hi hl h) (fun xs n hn h => by
  simp only [sizeNs, List.mem_cons, List.not_mem_nil, or_false] at hn
  rcases hn with rfl | rfl | rfl | rfl | rfl | rfl | rfl
  · exact get115_1n xs h
  · exact get115_2n xs h
  · exact get115_3n xs h
  · exact get115_4n xs h
  · exact get115_6n xs h
  · exact get115_8n xs h
  · exact get115_16n xs h)
theorem s116 : SumTOk Try.prog 116 S115 := get_of (fun xs hi hl n hn h => by
  simp only [sizeNs, List.mem_cons, List.not_mem_nil, or_false] at hn
  rcases hn with rfl | rfl | rfl | rfl | rfl | rfl | rfl
  · exact get116_1 xs hi h
  · exact get116_2 xs hi h
  · exact get116_3 xs hi h
  · exact get116_4 xs hi h
  · exact get116_6 xs hi h
  · exact get116_8 xs hi h
  · exact get116_16 xs hi h) (fun xs n hn h => by
  simp only [sizeNs, List.mem_cons, List.not_mem_nil, or_false] at hn
  rcases hn with rfl | rfl | rfl | rfl | rfl | rfl | rfl
  · exact get116_1n xs h
  · exact get116_2n xs h
  · exact get116_3n xs h
  · exact get116_4n xs h
  · exact get116_6n xs h
  · exact get116_8n xs h
  · exact get116_16n xs h)

end Go.Proofs.Ytdcijmigoefnjaa
