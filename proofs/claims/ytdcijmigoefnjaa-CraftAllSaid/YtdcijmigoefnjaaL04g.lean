import Derived.Test.YtdcijmigoefnjaaD03
import Derived.Test.YtdcijmigoefnjaaP04g
import Derived.Test.YtdcijmigoefnjaaL04b
import Derived.Test.YtdcijmigoefnjaaP03
import Derived.Test.YtdcijmigoefnjaaEv3
/- Numbers of 128 bits as bytes: Get keeps its contract. -/
set_option linter.unusedVariables false
set_option linter.unusedSimpArgs false
set_option maxRecDepth 100000
set_option maxHeartbeats 0
namespace Go.Proofs.Ytdcijmigoefnjaa
open Go Go.Ev

theorem get_of {f : FuncId} (h1 : ∀ xs : List AV, intsA .u8 xs = true → xs.length ≤ 9223372036854775807 → ∀ n ∈ sizeNs, n ≤ xs.length → CallsA Try.prog f [.sl 1 xs .sh, .int .i64 n] [] (.tup [wA (getHi xs n, getLo xs n), .bool true]) [])
    (h2 : ∀ xs : List AV, ∀ n ∈ sizeNs, ¬ n ≤ xs.length → CallsA Try.prog f [.sl 1 xs .sh, .int .i64 n] [] (.tup [wA (0, 0), .bool false]) []) : SumTOk Try.prog f S115 := by
  refine sumW_ok fun x hx => ?_
  obtain ⟨xs, n⟩ := x
  simp only [Bool.and_eq_true, sizeOk, List.any_eq_true, ieq, beq_iff_eq, lenB, Nat.ble_eq] at hx
  obtain ⟨⟨m, hm, rfl⟩, hi, hl⟩ := hx
  cases hc : ile n (xs.length : Int) with
  | true =>
    have := h1 xs hi hl n hm (by simpa [ile] using hc)
    simpa only [Tree.val, hc, cond_true] using this
  | false =>
    have := h2 xs n hm (by simpa [ile] using hc)
    simpa only [Tree.val, hc, cond_false] using this

theorem has_u8 {xs : List AV} {i : Nat} (h : intsA .u8 xs = true) (hi : i < xs.length) : AV.has (TI.mk (TD.int IntKind.u8) 1 1 [AV.int IntKind.u8 0]) (xs.getD i .unk) = true := by
  obtain ⟨z, hz⟩ := intsA_get h hi
  rw [hz]; rfl

theorem mnlt {a n : Int} (h : n ≤ a) (h2 : n ≤ 16) : ilt (bif ilt 16 a then 16 else a) n = false := by
  cases hq : ilt 16 a
  · rw [cond_false]; exact ilt_no.2 h
  · rw [cond_true]; exact ilt_no.2 h2
theorem mnlt' {a n : Int} (h : ¬ n ≤ a) (h2 : n ≤ 16) : ilt (bif ilt 16 a then 16 else a) n = true := by
  have : ilt 16 a = false := ilt_no.2 (by omega)
  rw [this, cond_false]
  exact ilt_iff.2 (by omega)
theorem cutL_take {v : AV} {xs : List AV} {n : Nat} : cutL (some v) xs 0 n = List.take n xs := rfl

theorem take_getD {xs : List AV} {n i : Nat} (h : i < n) : (List.take n xs).getD i .unk = xs.getD i .unk := by
  rw [List.getD_eq_getElem?_getD, List.getD_eq_getElem?_getD, List.getElem?_take, if_pos h]

theorem get115_1 (xs : List AV) (hi : intsA .u8 xs = true) (hl : xs.length ≤ 9223372036854775807) (h : (1 : Int) ≤ xs.length) : CallsA Try.prog 115 [.sl 1 xs .sh, .int .i64 1] [] (.tup [wA (getHi xs 1, getLo xs 1), .bool true]) [] := by
  have tl : (List.take 1 xs).length = 1 := by rw [List.length_take]; omega
  refine book_ok.pth (by kernel_rfl) noSpec_ok (p115_1 xs _ (mnlt h (by omega)) ?_ ?_ ?_ ?_ ?_ (by simp only [cutL_take, take_getD (xs := xs) (n := 1) (i := 0) (by omega)]; kernel_rfl))
  all_goals first
    | (rw [cutL_take, tl]; rfl)
    | exact inR_iff.2 ⟨by omega, by omega⟩
    | (rw [cutL_take, take_getD (by omega)]; exact has_u8 hi (by omega))
theorem get115_1n (xs : List AV) (h : ¬ (1 : Int) ≤ xs.length) : CallsA Try.prog 115 [.sl 1 xs .sh, .int .i64 1] [] (.tup [wA (0, 0), .bool false]) [] :=
  book_ok.pth (by kernel_rfl) noSpec_ok (p115_1n xs _ (mnlt' h (by omega)) rfl)
theorem get115_2 (xs : List AV) (hi : intsA .u8 xs = true) (hl : xs.length ≤ 9223372036854775807) (h : (2 : Int) ≤ xs.length) : CallsA Try.prog 115 [.sl 1 xs .sh, .int .i64 2] [] (.tup [wA (getHi xs 2, getLo xs 2), .bool true]) [] := by
  have tl : (List.take 2 xs).length = 2 := by rw [List.length_take]; omega
  refine book_ok.pth (by kernel_rfl) noSpec_ok (p115_2 xs _ (mnlt h (by omega)) ?_ ?_ ?_ ?_ ?_ ?_ ?_ ?_ (by simp only [cutL_take, take_getD (xs := xs) (n := 2) (i := 0) (by omega), take_getD (xs := xs) (n := 2) (i := 1) (by omega)]; kernel_rfl))
  all_goals first
    | (rw [cutL_take, tl]; rfl)
    | exact inR_iff.2 ⟨by omega, by omega⟩
    | (rw [cutL_take, take_getD (by omega)]; exact has_u8 hi (by omega))
theorem get115_2n (xs : List AV) (h : ¬ (2 : Int) ≤ xs.length) : CallsA Try.prog 115 [.sl 1 xs .sh, .int .i64 2] [] (.tup [wA (0, 0), .bool false]) [] :=
  book_ok.pth (by kernel_rfl) noSpec_ok (p115_2n xs _ (mnlt' h (by omega)) rfl)
theorem get115_3 (xs : List AV) (hi : intsA .u8 xs = true) (hl : xs.length ≤ 9223372036854775807) (h : (3 : Int) ≤ xs.length) : CallsA Try.prog 115 [.sl 1 xs .sh, .int .i64 3] [] (.tup [wA (getHi xs 3, getLo xs 3), .bool true]) [] := by
  have tl : (List.take 3 xs).length = 3 := by rw [List.length_take]; omega
  refine book_ok.pth (by kernel_rfl) noSpec_ok (p115_3 xs _ (mnlt h (by omega)) ?_ ?_ ?_ ?_ ?_ ?_ ?_ ?_ ?_ ?_ ?_ (by simp only [cutL_take, take_getD (xs := xs) (n := 3) (i := 0) (by omega), take_getD (xs := xs) (n := 3) (i := 1) (by omega), take_getD (xs := xs) (n := 3) (i := 2) (by omega)]; kernel_rfl))
  all_goals first
    | (rw [cutL_take, tl]; rfl)
    | exact inR_iff.2 ⟨by omega, by omega⟩
    | (rw [cutL_take, take_getD (by omega)]; exact has_u8 hi (by omega))
theorem get115_3n (xs : List AV) (h : ¬ (3 : Int) ≤ xs.length) : CallsA Try.prog 115 [.sl 1 xs .sh, .int .i64 3] [] (.tup [wA (0, 0), .bool false]) [] :=
  book_ok.pth (by kernel_rfl) noSpec_ok (p115_3n xs _ (mnlt' h (by omega)) rfl)
theorem get115_4 (xs : List AV) (hi : intsA .u8 xs = true) (hl : xs.length ≤ 9223372036854775807) (h : (4 : Int) ≤ xs.length) : CallsA Try.prog 115 [.sl 1 xs .sh, .int .i64 4] [] (.tup [wA (getHi xs 4, getLo xs 4), .bool true]) [] := by
  have tl : (List.take 4 xs).length = 4 := by rw [List.length_take]; omega
  refine book_ok.pth (by kernel_rfl) noSpec_ok (p115_4 xs _ (mnlt h (by omega)) ?_ ?_ ?_ ?_ ?_ ?_ ?_ ?_ ?_ ?_ ?_ ?_ ?_ ?_ (by simp only [cutL_take, take_getD (xs := xs) (n := 4) (i := 0) (by omega), take_getD (xs := xs) (n := 4) (i := 1) (by omega), take_getD (xs := xs) (n := 4) (i := 2) (by omega), take_getD (xs := xs) (n := 4) (i := 3) (by omega)]; kernel_rfl))
  all_goals first
    | (rw [cutL_take, tl]; rfl)
    | exact inR_iff.2 ⟨by omega, by omega⟩
    | (rw [cutL_take, take_getD (by omega)]; exact has_u8 hi (by omega))
theorem get115_4n (xs : List AV) (h : ¬ (4 : Int) ≤ xs.length) : CallsA Try.prog 115 [.sl 1 xs .sh, .int .i64 4] [] (.tup [wA (0, 0), .bool false]) [] :=
  book_ok.pth (by kernel_rfl) noSpec_ok (p115_4n xs _ (mnlt' h (by omega)) rfl)
theorem get115_6 (xs : List AV) (hi : intsA .u8 xs = true) (hl : xs.length ≤ 9223372036854775807) (h : (6 : Int) ≤ xs.length) : CallsA Try.prog 115 [.sl 1 xs .sh, .int .i64 6] [] (.tup [wA (getHi xs 6, getLo xs 6), .bool true]) [] := by
  have tl : (List.take 6 xs).length = 6 := by rw [List.length_take]; omega
  refine book_ok.pth (by kernel_rfl) noSpec_ok (p115_6 xs _ (mnlt h (by omega)) ?_ ?_ ?_ ?_ ?_ ?_ ?_ ?_ ?_ ?_ ?_ ?_ ?_ ?_ ?_ ?_ ?_ ?_ ?_ ?_ (by simp only [cutL_take, take_getD (xs := xs) (n := 6) (i := 0) (by omega), take_getD (xs := xs) (n := 6) (i := 1) (by omega), take_getD (xs := xs) (n := 6) (i := 2) (by omega), take_getD (xs := xs) (n := 6) (i := 3) (by omega), take_getD (xs := xs) (n := 6) (i := 4) (by omega), take_getD (xs := xs) (n := 6) (i := 5) (by omega)]; kernel_rfl))
  all_goals first
    | (rw [cutL_take, tl]; rfl)
    | exact inR_iff.2 ⟨by omega, by omega⟩
    | (rw [cutL_take, take_getD (by omega)]; exact has_u8 hi (by omega))
theorem get115_6n (xs : List AV) (h : ¬ (6 : Int) ≤ xs.length) : CallsA Try.prog 115 [.sl 1 xs .sh, .int .i64 6] [] (.tup [wA (0, 0), .bool false]) [] :=
  book_ok.pth (by kernel_rfl) noSpec_ok (p115_6n xs _ (mnlt' h (by omega)) rfl)
theorem get115_8 (xs : List AV) (hi : intsA .u8 xs = true) (hl : xs.length ≤ 9223372036854775807) (h : (8 : Int) ≤ xs.length) : CallsA Try.prog 115 [.sl 1 xs .sh, .int .i64 8] [] (.tup [wA (getHi xs 8, getLo xs 8), .bool true]) [] := by
  have tl : (List.take 8 xs).length = 8 := by rw [List.length_take]; omega
  refine book_ok.pth (by kernel_rfl) noSpec_ok (p115_8 xs _ (mnlt h (by omega)) ?_ ?_ ?_ ?_ ?_ ?_ ?_ ?_ ?_ ?_ ?_ ?_ ?_ ?_ ?_ ?_ ?_ ?_ ?_ ?_ ?_ ?_ ?_ ?_ ?_ ?_ (by simp only [cutL_take, take_getD (xs := xs) (n := 8) (i := 0) (by omega), take_getD (xs := xs) (n := 8) (i := 1) (by omega), take_getD (xs := xs) (n := 8) (i := 2) (by omega), take_getD (xs := xs) (n := 8) (i := 3) (by omega), take_getD (xs := xs) (n := 8) (i := 4) (by omega), take_getD (xs := xs) (n := 8) (i := 5) (by omega), take_getD (xs := xs) (n := 8) (i := 6) (by omega), take_getD (xs := xs) (n := 8) (i := 7) (by omega)]; kernel_rfl))
  all_goals first
    | (rw [cutL_take, tl]; rfl)
    | exact inR_iff.2 ⟨by omega, by omega⟩
    | (rw [cutL_take, take_getD (by omega)]; exact has_u8 hi (by omega))
theorem get115_8n (xs : List AV) (h : ¬ (8 : Int) ≤ xs.length) : CallsA Try.prog 115 [.sl 1 xs .sh, .int .i64 8] [] (.tup [wA (0, 0), .bool false]) [] :=
  book_ok.pth (by kernel_rfl) noSpec_ok (p115_8n xs _ (mnlt' h (by omega)) rfl)
theorem get115_16 (xs : List AV) (hi : intsA .u8 xs = true) (hl : xs.length ≤ 9223372036854775807) (h : (16 : Int) ≤ xs.length) : CallsA Try.prog 115 [.sl 1 xs .sh, .int .i64 16] [] (.tup [wA (getHi xs 16, getLo xs 16), .bool true]) [] := by
  have tl : (List.take 16 xs).length = 16 := by rw [List.length_take]; omega
  refine book_ok.pth (by kernel_rfl) noSpec_ok (p115_16 xs _ (mnlt h (by omega)) ?_ ?_ ?_ ?_ ?_ ?_ ?_ ?_ ?_ ?_ ?_ ?_ ?_ ?_ ?_ ?_ ?_ ?_ ?_ ?_ ?_ ?_ ?_ ?_ ?_ ?_ ?_ ?_ ?_ ?_ ?_ ?_ ?_ ?_ ?_ ?_ ?_ ?_ ?_ ?_ ?_ ?_ ?_ ?_ ?_ ?_ ?_ ?_ ?_ ?_ (by simp only [cutL_take, take_getD (xs := xs) (n := 16) (i := 0) (by omega), take_getD (xs := xs) (n := 16) (i := 1) (by omega), take_getD (xs := xs) (n := 16) (i := 2) (by omega), take_getD (xs := xs) (n := 16) (i := 3) (by omega), take_getD (xs := xs) (n := 16) (i := 4) (by omega), take_getD (xs := xs) (n := 16) (i := 5) (by omega), take_getD (xs := xs) (n := 16) (i := 6) (by omega), take_getD (xs := xs) (n := 16) (i := 7) (by omega), take_getD (xs := xs) (n := 16) (i := 8) (by omega), take_getD (xs := xs) (n := 16) (i := 9) (by omega), take_getD (xs := xs) (n := 16) (i := 10) (by omega), take_getD (xs := xs) (n := 16) (i := 11) (by omega), take_getD (xs := xs) (n := 16) (i := 12) (by omega), take_getD (xs := xs) (n := 16) (i := 13) (by omega), take_getD (xs := xs) (n := 16) (i := 14) (by omega), take_getD (xs := xs) (n := 16) (i := 15) (by omega)]; kernel_rfl))
  all_goals first
    | (rw [cutL_take, tl]; rfl)
    | exact inR_iff.2 ⟨by omega, by omega⟩
    | (rw [cutL_take, take_getD (by omega)]; exact has_u8 hi (by omega))
theorem get115_16n (xs : List AV) (h : ¬ (16 : Int) ≤ xs.length) : CallsA Try.prog 115 [.sl 1 xs .sh, .int .i64 16] [] (.tup [wA (0, 0), .bool false]) [] :=
  book_ok.pth (by kernel_rfl) noSpec_ok (p115_16n xs _ (mnlt' h (by omega)) rfl)
theorem s115 : SumTOk Try.prog 115 S115 := get_of (fun xs hi hl n hn h => by
  simp only [sizeNs, List.mem_cons, List.not_mem_nil, or_false] at hn
  rcases hn with rfl | rfl | rfl | rfl | rfl | rfl | rfl
  · exact get115_1 xs hi hl h
  · exact get115_2 xs hi hl h
  · exact get115_3 xs hi hl h
  · exact get115_4 xs hi hl h
  · exact get115_6 xs hi hl h
  · exact get115_8 xs hi hl h
  · exact get115_16 xs hi hl h) (fun xs n hn h => by
  simp only [sizeNs, List.mem_cons, List.not_mem_nil, or_false] at hn
  rcases hn with rfl | rfl | rfl | rfl | rfl | rfl | rfl
  · exact get115_1n xs h
  · exact get115_2n xs h
  · exact get115_3n xs h
  · exact get115_4n xs h
  · exact get115_6n xs h
  · exact get115_8n xs h
  · exact get115_16n xs h)
end Go.Proofs.Ytdcijmigoefnjaa

/- Bytes and numbers: what chapters share. -/
set_option linter.unusedVariables false
set_option linter.unusedSimpArgs false
set_option maxRecDepth 100000
set_option maxHeartbeats 0
namespace Go.Proofs.Ytdcijmigoefnjaa
open Go Go.Ev
theorem ile_iff' {a b : Int} : ile a b = true ↔ a ≤ b := by simp [ile]
theorem inU_iff {n : Int} : inU n = true ↔ 0 ≤ n ∧ n < 18446744073709551616 := by simp [inU, ile, ilt]
theorem inU_wrap (n : Int) : inU (IntKind.u64.wrap n) = true := by
  rw [IntKind.wrap_u64, inU_iff]; omega
theorem inU_bits (op : BinOp) (a b : Int) : inU (ibits op .u64 a b) = true := by
  rw [ibits_eq]
  cases op <;> exact inU_wrap _
theorem num_cases {P : Int → Prop} (h1 : P 1) (h2 : P 2) (h4 : P 4) {s : Int} (h : (numNs.any fun m => ieq s m) = true) : P s := by
  simp only [numNs, List.any_cons, List.any_nil, Bool.or_false, Bool.or_eq_true, ieq, beq_iff_eq] at h
  rcases h with rfl | rfl | rfl <;> assumption
theorem isB_iff {v : AV} : isB v = true ↔ isByte v := by
  constructor
  · intro h
    cases v <;> try (cases h; done)
    rename_i k n
    cases k <;> try (cases h; done)
    simp only [isB, inR_iff] at h
    exact ⟨n.toNat, by omega, by rw [Int.toNat_of_nonneg h.1]⟩
  · rintro ⟨z, hz, rfl⟩
    simp only [isB, inR_iff]; omega
theorem bytB_iff {xs : List AV} : bytB xs = true ↔ byteL xs := by
  unfold bytB byteL
  rw [List.all_eq_true]
  exact ⟨fun h x hx => isB_iff.1 (h x hx), fun h x hx => isB_iff.2 (h x hx)⟩
theorem byteL_int : ∀ {xs : List AV}, byteL xs → intsA .u8 xs = true
  | [], _ => rfl
  | x :: xs, h => by
    obtain ⟨z, _, rfl⟩ := h x (by simp)
    simp only [intsA, List.all_cons, isI, decide_true, Bool.true_and]
    exact byteL_int fun y hy => h y (List.mem_cons_of_mem _ hy)
theorem byteL_get {xs : List AV} (h : byteL xs) {i : Nat} (hi : i < xs.length) : ∃ z : Nat, z < 256 ∧ xs.getD i .unk = .int .u8 (z : Int) := by
  rw [List.getD_eq_getElem?_getD, List.getElem?_eq_getElem hi]
  exact h _ (List.getElem_mem hi)
theorem wrapI {z : Nat} (h : z < 256) : IntKind.i64.wrap (z : Int) = (z : Int) := by rw [IntKind.wrap_i64]; omega
theorem rem2 (z : Nat) : irem (z : Int) 2 = (z : Int) % 2 := by
  unfold irem; rw [Int.tmod_eq_emod_of_nonneg (by omega)]
theorem s115t {f : FuncId} (h : SumTOk Try.prog f S115) : SumTOk Try.prog f S115t := by
  refine sumW_ok fun x hx => ?_
  obtain ⟨xs, n⟩ := x
  simp only [Bool.and_eq_true] at hx
  obtain ⟨h1, h2, h3, h4⟩ := hx
  have e : ile n (xs.length : Int) = true := h4
  have this : CallsA Try.prog f [.sl 1 xs .sh, .int .i64 n] [] (bif ile n (xs.length : Int) then .tup [wA (getHi xs n, getLo xs n), .bool true] else .tup [wA (0, 0), .bool false]) [] := by
    have t := h [.sl 1 xs .sh, .int .i64 n] [] _ (show ((S115 [.sl 1 xs .sh, .int .i64 n] []).Ret _) from ⟨rfl, by simp only [Bool.and_eq_true]; exact ⟨h1, h2, h3⟩, rfl⟩)
    rw [treeMap_val] at t
    exact t
  rw [e] at this
  exact this
end Go.Proofs.Ytdcijmigoefnjaa

/- Numbers of 128 bits as bytes (printed by program). -/
set_option linter.unusedVariables false
set_option maxRecDepth 100000
set_option maxHeartbeats 0
namespace Go.Proofs.Ytdcijmigoefnjaa
open Go Go.Ev

theorem p117_1 (xs : List AV) (a b : Int) (r : AV × List (List AV)) (k0 : (((0 + xs.length) * 1).ble 140737488355328) = true) (k1 : ((0 + xs.length).ble 140737488355328) = true) (k2 : (xs.isEmpty) = true → ((AV.sl 1 [zB (zk.wrap (ishr zK b 0))] (St.own []), [])) = r) (k3 : (xs.isEmpty) = false → (((xs.length + 1) * 1).ble 140737488355328) = true) (k4 : (xs.isEmpty) = false → ((xs.length + 1).ble 140737488355328) = true) (k5 : (xs.isEmpty) = false → ((AV.sl 1 (xs ++ [zB (zk.wrap (ishr zK b 0))]) (St.own []), [])) = r) : Goes (runP (book.envP 117 noSpec big noLoops) Try.f117 [.sl 1 xs .sh, wA (a, b), .int .i64 1] [] (.t (.t (.t (.t (.t (.t (.t (.t (.f (.s (.f .z) .z))))))))))) r :=
  Goes.of_eq (t' := bN (bN (bT (bN (bN (.ret ((AV.sl 1 (xs ++ [zB (zk.wrap (ishr zK b 0))]) (St.own []), []))) ((xs.length + 1).ble 140737488355328)) (((xs.length + 1) * 1).ble 140737488355328)) (.ret ((AV.sl 1 [zB (zk.wrap (ishr zK b 0))] (St.own []), []))) (xs.isEmpty)) ((0 + xs.length).ble 140737488355328)) (((0 + xs.length) * 1).ble 140737488355328)) (by kernel_rfl) (.step (k0) (.step (k1) (.ite (fun h2_2 => Goes.leafE (k2 h2_2)) (fun h2_2 => .step (k3 h2_2) (.step (k4 h2_2) (Goes.leafE (k5 h2_2)))))))
abbrev z04f0_0 (b : Int) := [zB (zk.wrap (ishr zK b 8)), zB (zk.wrap (ishr zK b 0))]
theorem p117_2 (xs : List AV) (a b : Int) (r : AV × List (List AV)) (k0 : (((0 + xs.length) * 1).ble 140737488355328) = true) (k1 : ((0 + xs.length).ble 140737488355328) = true) (k2 : (xs.isEmpty) = true → ((AV.sl 1 [zB (zk.wrap (ishr zK b 8)), zB (zk.wrap (ishr zK b 0))] (St.own []), [])) = r) (k3 : (xs.isEmpty) = false → (((xs.length + 2) * 1).ble 140737488355328) = true) (k4 : (xs.isEmpty) = false → ((xs.length + 2).ble 140737488355328) = true) (k5 : (xs.isEmpty) = false → ((AV.sl 1 (xs ++ [zB (zk.wrap (ishr zK b 8)), zB (zk.wrap (ishr zK b 0))]) (St.own []), [])) = r) : Goes (runP (book.envP 117 noSpec big noLoops) Try.f117 [.sl 1 xs .sh, wA (a, b), .int .i64 2] [] (.t (.t (.t (.t (.t (.t (.t (.t (.f (.s (.f .z) .z))))))))))) r :=
  Goes.of_eq (t' := bN (bN (bT (bN (bN (.ret ((AV.sl 1 (xs ++ (z04f0_0 b)) (St.own []), []))) ((xs.length + 2).ble 140737488355328)) (((xs.length + 2) * 1).ble 140737488355328)) (.ret ((AV.sl 1 (z04f0_0 b) (St.own []), []))) (xs.isEmpty)) ((0 + xs.length).ble 140737488355328)) (((0 + xs.length) * 1).ble 140737488355328)) (by kernel_rfl) (.step (k0) (.step (k1) (.ite (fun h2_2 => Goes.leafE (k2 h2_2)) (fun h2_2 => .step (k3 h2_2) (.step (k4 h2_2) (Goes.leafE (k5 h2_2)))))))
abbrev z04f1_0 (b : Int) := [zB (zk.wrap (ishr zK b 16)), zB (zk.wrap (ishr zK b 8)), zB (zk.wrap (ishr zK b 0))]
theorem p117_3 (xs : List AV) (a b : Int) (r : AV × List (List AV)) (k0 : (((0 + xs.length) * 1).ble 140737488355328) = true) (k1 : ((0 + xs.length).ble 140737488355328) = true) (k2 : (xs.isEmpty) = true → ((AV.sl 1 [zB (zk.wrap (ishr zK b 16)), zB (zk.wrap (ishr zK b 8)), zB (zk.wrap (ishr zK b 0))] (St.own []), [])) = r) (k3 : (xs.isEmpty) = false → (((xs.length + 3) * 1).ble 140737488355328) = true) (k4 : (xs.isEmpty) = false → ((xs.length + 3).ble 140737488355328) = true) (k5 : (xs.isEmpty) = false → ((AV.sl 1 (xs ++ [zB (zk.wrap (ishr zK b 16)), zB (zk.wrap (ishr zK b 8)), zB (zk.wrap (ishr zK b 0))]) (St.own []), [])) = r) : Goes (runP (book.envP 117 noSpec big noLoops) Try.f117 [.sl 1 xs .sh, wA (a, b), .int .i64 3] [] (.t (.t (.t (.t (.t (.t (.t (.t (.f (.s (.f .z) .z))))))))))) r :=
  Goes.of_eq (t' := bN (bN (bT (bN (bN (.ret ((AV.sl 1 (xs ++ (z04f1_0 b)) (St.own []), []))) ((xs.length + 3).ble 140737488355328)) (((xs.length + 3) * 1).ble 140737488355328)) (.ret ((AV.sl 1 (z04f1_0 b) (St.own []), []))) (xs.isEmpty)) ((0 + xs.length).ble 140737488355328)) (((0 + xs.length) * 1).ble 140737488355328)) (by kernel_rfl) (.step (k0) (.step (k1) (.ite (fun h2_2 => Goes.leafE (k2 h2_2)) (fun h2_2 => .step (k3 h2_2) (.step (k4 h2_2) (Goes.leafE (k5 h2_2)))))))
abbrev z04f2_0 (b : Int) := [zB (zk.wrap (ishr zK b 24)), zB (zk.wrap (ishr zK b 16)), zB (zk.wrap (ishr zK b 8)), zB (zk.wrap (ishr zK b 0))]
theorem p117_4 (xs : List AV) (a b : Int) (r : AV × List (List AV)) (k0 : (((0 + xs.length) * 1).ble 140737488355328) = true) (k1 : ((0 + xs.length).ble 140737488355328) = true) (k2 : (xs.isEmpty) = true → ((AV.sl 1 [zB (zk.wrap (ishr zK b 24)), zB (zk.wrap (ishr zK b 16)), zB (zk.wrap (ishr zK b 8)), zB (zk.wrap (ishr zK b 0))] (St.own []), [])) = r) (k3 : (xs.isEmpty) = false → (((xs.length + 4) * 1).ble 140737488355328) = true) (k4 : (xs.isEmpty) = false → ((xs.length + 4).ble 140737488355328) = true) (k5 : (xs.isEmpty) = false → ((AV.sl 1 (xs ++ [zB (zk.wrap (ishr zK b 24)), zB (zk.wrap (ishr zK b 16)), zB (zk.wrap (ishr zK b 8)), zB (zk.wrap (ishr zK b 0))]) (St.own []), [])) = r) : Goes (runP (book.envP 117 noSpec big noLoops) Try.f117 [.sl 1 xs .sh, wA (a, b), .int .i64 4] [] (.t (.t (.t (.t (.t (.t (.t (.t (.f (.s (.f .z) .z))))))))))) r :=
  Goes.of_eq (t' := bN (bN (bT (bN (bN (.ret ((AV.sl 1 (xs ++ (z04f2_0 b)) (St.own []), []))) ((xs.length + 4).ble 140737488355328)) (((xs.length + 4) * 1).ble 140737488355328)) (.ret ((AV.sl 1 (z04f2_0 b) (St.own []), []))) (xs.isEmpty)) ((0 + xs.length).ble 140737488355328)) (((0 + xs.length) * 1).ble 140737488355328)) (by kernel_rfl) (.step (k0) (.step (k1) (.ite (fun h2_2 => Goes.leafE (k2 h2_2)) (fun h2_2 => .step (k3 h2_2) (.step (k4 h2_2) (Goes.leafE (k5 h2_2)))))))
abbrev z04f3_0 (b : Int) := [zB (zk.wrap (ishr zK b 40)), zB (zk.wrap (ishr zK b 32)), zB (zk.wrap (ishr zK b 24)), zB (zk.wrap (ishr zK b 16)), zB (zk.wrap (ishr zK b 8)), zB (zk.wrap (ishr zK b 0))]
theorem p117_6 (xs : List AV) (a b : Int) (r : AV × List (List AV)) (k0 : (((0 + xs.length) * 1).ble 140737488355328) = true) (k1 : ((0 + xs.length).ble 140737488355328) = true) (k2 : (xs.isEmpty) = true → ((AV.sl 1 [zB (zk.wrap (ishr zK b 40)), zB (zk.wrap (ishr zK b 32)), zB (zk.wrap (ishr zK b 24)), zB (zk.wrap (ishr zK b 16)), zB (zk.wrap (ishr zK b 8)), zB (zk.wrap (ishr zK b 0))] (St.own []), [])) = r) (k3 : (xs.isEmpty) = false → (((xs.length + 6) * 1).ble 140737488355328) = true) (k4 : (xs.isEmpty) = false → ((xs.length + 6).ble 140737488355328) = true) (k5 : (xs.isEmpty) = false → ((AV.sl 1 (xs ++ [zB (zk.wrap (ishr zK b 40)), zB (zk.wrap (ishr zK b 32)), zB (zk.wrap (ishr zK b 24)), zB (zk.wrap (ishr zK b 16)), zB (zk.wrap (ishr zK b 8)), zB (zk.wrap (ishr zK b 0))]) (St.own []), [])) = r) : Goes (runP (book.envP 117 noSpec big noLoops) Try.f117 [.sl 1 xs .sh, wA (a, b), .int .i64 6] [] (.t (.t (.t (.t (.t (.t (.t (.t (.f (.s (.f .z) .z))))))))))) r :=
  Goes.of_eq (t' := bN (bN (bT (bN (bN (.ret ((AV.sl 1 (xs ++ (z04f3_0 b)) (St.own []), []))) ((xs.length + 6).ble 140737488355328)) (((xs.length + 6) * 1).ble 140737488355328)) (.ret ((AV.sl 1 (z04f3_0 b) (St.own []), []))) (xs.isEmpty)) ((0 + xs.length).ble 140737488355328)) (((0 + xs.length) * 1).ble 140737488355328)) (by kernel_rfl) (.step (k0) (.step (k1) (.ite (fun h2_2 => Goes.leafE (k2 h2_2)) (fun h2_2 => .step (k3 h2_2) (.step (k4 h2_2) (Goes.leafE (k5 h2_2)))))))
abbrev z04f4_0 (b : Int) := [zB (zk.wrap (ishr zK b 56)), zB (zk.wrap (ishr zK b 48)), zB (zk.wrap (ishr zK b 40)), zB (zk.wrap (ishr zK b 32)), zB (zk.wrap (ishr zK b 24)), zB (zk.wrap (ishr zK b 16)), zB (zk.wrap (ishr zK b 8)), zB (zk.wrap (ishr zK b 0))]
theorem p117_8 (xs : List AV) (a b : Int) (r : AV × List (List AV)) (k0 : (((0 + xs.length) * 1).ble 140737488355328) = true) (k1 : ((0 + xs.length).ble 140737488355328) = true) (k2 : (xs.isEmpty) = true → ((AV.sl 1 [zB (zk.wrap (ishr zK b 56)), zB (zk.wrap (ishr zK b 48)), zB (zk.wrap (ishr zK b 40)), zB (zk.wrap (ishr zK b 32)), zB (zk.wrap (ishr zK b 24)), zB (zk.wrap (ishr zK b 16)), zB (zk.wrap (ishr zK b 8)), zB (zk.wrap (ishr zK b 0))] (St.own []), [])) = r) (k3 : (xs.isEmpty) = false → (((xs.length + 8) * 1).ble 140737488355328) = true) (k4 : (xs.isEmpty) = false → ((xs.length + 8).ble 140737488355328) = true) (k5 : (xs.isEmpty) = false → ((AV.sl 1 (xs ++ [zB (zk.wrap (ishr zK b 56)), zB (zk.wrap (ishr zK b 48)), zB (zk.wrap (ishr zK b 40)), zB (zk.wrap (ishr zK b 32)), zB (zk.wrap (ishr zK b 24)), zB (zk.wrap (ishr zK b 16)), zB (zk.wrap (ishr zK b 8)), zB (zk.wrap (ishr zK b 0))]) (St.own []), [])) = r) : Goes (runP (book.envP 117 noSpec big noLoops) Try.f117 [.sl 1 xs .sh, wA (a, b), .int .i64 8] [] (.t (.t (.t (.t (.t (.t (.t (.t (.f (.s (.f .z) .z))))))))))) r :=
  Goes.of_eq (t' := bN (bN (bT (bN (bN (.ret ((AV.sl 1 (xs ++ (z04f4_0 b)) (St.own []), []))) ((xs.length + 8).ble 140737488355328)) (((xs.length + 8) * 1).ble 140737488355328)) (.ret ((AV.sl 1 (z04f4_0 b) (St.own []), []))) (xs.isEmpty)) ((0 + xs.length).ble 140737488355328)) (((0 + xs.length) * 1).ble 140737488355328)) (by kernel_rfl) (.step (k0) (.step (k1) (.ite (fun h2_2 => Goes.leafE (k2 h2_2)) (fun h2_2 => .step (k3 h2_2) (.step (k4 h2_2) (Goes.leafE (k5 h2_2)))))))
abbrev z04f5_0 (a : Int) (b : Int) := [zB (zk.wrap (ishr zK a 56)), zB (zk.wrap (ishr zK a 48)), zB (zk.wrap (ishr zK a 40)), zB (zk.wrap (ishr zK a 32)), zB (zk.wrap (ishr zK a 24)), zB (zk.wrap (ishr zK a 16)), zB (zk.wrap (ishr zK a 8)), zB (zk.wrap (ishr zK a 0)), zB (zk.wrap (ishr zK b 56)), zB (zk.wrap (ishr zK b 48)), zB (zk.wrap (ishr zK b 40)), zB (zk.wrap (ishr zK b 32)), zB (zk.wrap (ishr zK b 24)), zB (zk.wrap (ishr zK b 16)), zB (zk.wrap (ishr zK b 8)), zB (zk.wrap (ishr zK b 0))]
theorem p117_16 (xs : List AV) (a b : Int) (r : AV × List (List AV)) (k0 : (((0 + xs.length) * 1).ble 140737488355328) = true) (k1 : ((0 + xs.length).ble 140737488355328) = true) (k2 : (xs.isEmpty) = true → ((AV.sl 1 [zB (zk.wrap (ishr zK a 56)), zB (zk.wrap (ishr zK a 48)), zB (zk.wrap (ishr zK a 40)), zB (zk.wrap (ishr zK a 32)), zB (zk.wrap (ishr zK a 24)), zB (zk.wrap (ishr zK a 16)), zB (zk.wrap (ishr zK a 8)), zB (zk.wrap (ishr zK a 0)), zB (zk.wrap (ishr zK b 56)), zB (zk.wrap (ishr zK b 48)), zB (zk.wrap (ishr zK b 40)), zB (zk.wrap (ishr zK b 32)), zB (zk.wrap (ishr zK b 24)), zB (zk.wrap (ishr zK b 16)), zB (zk.wrap (ishr zK b 8)), zB (zk.wrap (ishr zK b 0))] (St.own []), [])) = r) (k3 : (xs.isEmpty) = false → (((xs.length + 16) * 1).ble 140737488355328) = true) (k4 : (xs.isEmpty) = false → ((xs.length + 16).ble 140737488355328) = true) (k5 : (xs.isEmpty) = false → ((AV.sl 1 (xs ++ [zB (zk.wrap (ishr zK a 56)), zB (zk.wrap (ishr zK a 48)), zB (zk.wrap (ishr zK a 40)), zB (zk.wrap (ishr zK a 32)), zB (zk.wrap (ishr zK a 24)), zB (zk.wrap (ishr zK a 16)), zB (zk.wrap (ishr zK a 8)), zB (zk.wrap (ishr zK a 0)), zB (zk.wrap (ishr zK b 56)), zB (zk.wrap (ishr zK b 48)), zB (zk.wrap (ishr zK b 40)), zB (zk.wrap (ishr zK b 32)), zB (zk.wrap (ishr zK b 24)), zB (zk.wrap (ishr zK b 16)), zB (zk.wrap (ishr zK b 8)), zB (zk.wrap (ishr zK b 0))]) (St.own []), [])) = r) : Goes (runP (book.envP 117 noSpec big noLoops) Try.f117 [.sl 1 xs .sh, wA (a, b), .int .i64 16] [] (.t (.t (.t (.t (.t (.t (.t (.t (.f (.s (.f .z) .z))))))))))) r :=
  Goes.of_eq (t' := bN (bN (bT (bN (bN (.ret ((AV.sl 1 (xs ++ (z04f5_0 a b)) (St.own []), []))) ((xs.length + 16).ble 140737488355328)) (((xs.length + 16) * 1).ble 140737488355328)) (.ret ((AV.sl 1 (z04f5_0 a b) (St.own []), []))) (xs.isEmpty)) ((0 + xs.length).ble 140737488355328)) (((0 + xs.length) * 1).ble 140737488355328)) (by kernel_rfl) (.step (k0) (.step (k1) (.ite (fun h2_2 => Goes.leafE (k2 h2_2)) (fun h2_2 => .step (k3 h2_2) (.step (k4 h2_2) (Goes.leafE (k5 h2_2)))))))
end Go.Proofs.Ytdcijmigoefnjaa

/- Numbers of 128 bits as bytes: Put keeps its contract. -/
set_option linter.unusedVariables false
set_option linter.unusedSimpArgs false
set_option maxRecDepth 100000
set_option maxHeartbeats 0
namespace Go.Proofs.Ytdcijmigoefnjaa
open Go Go.Ev

theorem nil_of {xs : List AV} (h : xs.isEmpty = true) : xs = [] := by simpa using h

theorem bleB {a : Nat} (h : a ≤ 140737488355328) : Nat.ble a 140737488355328 = true := by rw [Nat.ble_eq]; exact h

theorem put117_1 (xs : List AV) (a b : Int) (hl : xs.length ≤ 70368744177664) : CallsA Try.prog 117 [.sl 1 xs .sh, wA (a, b), .int .i64 1] [] (.sl 1 (xs ++ putL (a, b) 1) (.own [])) [] := by
  refine book_ok.pth (by kernel_rfl) noSpec_ok (p117_1 xs a b _ ?_ ?_ ?_ ?_ ?_ ?_)
  all_goals ((repeat intro); first
    | (refine bleB ?_; (try simp only [List.length_append, List.length_cons, List.length_nil]); omega)
    | (have e := nil_of ‹_›; subst e; rfl)
    | (simp only [List.append_assoc]; rfl)
    | rfl)
theorem put117_2 (xs : List AV) (a b : Int) (hl : xs.length ≤ 70368744177664) : CallsA Try.prog 117 [.sl 1 xs .sh, wA (a, b), .int .i64 2] [] (.sl 1 (xs ++ putL (a, b) 2) (.own [])) [] := by
  refine book_ok.pth (by kernel_rfl) noSpec_ok (p117_2 xs a b _ ?_ ?_ ?_ ?_ ?_ ?_)
  all_goals ((repeat intro); first
    | (refine bleB ?_; (try simp only [List.length_append, List.length_cons, List.length_nil]); omega)
    | (have e := nil_of ‹_›; subst e; rfl)
    | (simp only [List.append_assoc]; rfl)
    | rfl)
theorem put117_3 (xs : List AV) (a b : Int) (hl : xs.length ≤ 70368744177664) : CallsA Try.prog 117 [.sl 1 xs .sh, wA (a, b), .int .i64 3] [] (.sl 1 (xs ++ putL (a, b) 3) (.own [])) [] := by
  refine book_ok.pth (by kernel_rfl) noSpec_ok (p117_3 xs a b _ ?_ ?_ ?_ ?_ ?_ ?_)
  all_goals ((repeat intro); first
    | (refine bleB ?_; (try simp only [List.length_append, List.length_cons, List.length_nil]); omega)
    | (have e := nil_of ‹_›; subst e; rfl)
    | (simp only [List.append_assoc]; rfl)
    | rfl)
theorem put117_4 (xs : List AV) (a b : Int) (hl : xs.length ≤ 70368744177664) : CallsA Try.prog 117 [.sl 1 xs .sh, wA (a, b), .int .i64 4] [] (.sl 1 (xs ++ putL (a, b) 4) (.own [])) [] := by
  refine book_ok.pth (by kernel_rfl) noSpec_ok (p117_4 xs a b _ ?_ ?_ ?_ ?_ ?_ ?_)
  all_goals ((repeat intro); first
    | (refine bleB ?_; (try simp only [List.length_append, List.length_cons, List.length_nil]); omega)
    | (have e := nil_of ‹_›; subst e; rfl)
    | (simp only [List.append_assoc]; rfl)
    | rfl)
theorem put117_6 (xs : List AV) (a b : Int) (hl : xs.length ≤ 70368744177664) : CallsA Try.prog 117 [.sl 1 xs .sh, wA (a, b), .int .i64 6] [] (.sl 1 (xs ++ putL (a, b) 6) (.own [])) [] := by
  refine book_ok.pth (by kernel_rfl) noSpec_ok (p117_6 xs a b _ ?_ ?_ ?_ ?_ ?_ ?_)
  all_goals ((repeat intro); first
    | (refine bleB ?_; (try simp only [List.length_append, List.length_cons, List.length_nil]); omega)
    | (have e := nil_of ‹_›; subst e; rfl)
    | (simp only [List.append_assoc]; rfl)
    | rfl)
theorem put117_8 (xs : List AV) (a b : Int) (hl : xs.length ≤ 70368744177664) : CallsA Try.prog 117 [.sl 1 xs .sh, wA (a, b), .int .i64 8] [] (.sl 1 (xs ++ putL (a, b) 8) (.own [])) [] := by
  refine book_ok.pth (by kernel_rfl) noSpec_ok (p117_8 xs a b _ ?_ ?_ ?_ ?_ ?_ ?_)
  all_goals ((repeat intro); first
    | (refine bleB ?_; (try simp only [List.length_append, List.length_cons, List.length_nil]); omega)
    | (have e := nil_of ‹_›; subst e; rfl)
    | (simp only [List.append_assoc]; rfl)
    | rfl)
theorem put117_16 (xs : List AV) (a b : Int) (hl : xs.length ≤ 70368744177664) : CallsA Try.prog 117 [.sl 1 xs .sh, wA (a, b), .int .i64 16] [] (.sl 1 (xs ++ putL (a, b) 16) (.own [])) [] := by
  refine book_ok.pth (by kernel_rfl) noSpec_ok (p117_16 xs a b _ ?_ ?_ ?_ ?_ ?_ ?_)
  all_goals ((repeat intro); first
    | (refine bleB ?_; (try simp only [List.length_append, List.length_cons, List.length_nil]); omega)
    | (have e := nil_of ‹_›; subst e; rfl)
    | (simp only [List.append_assoc]; rfl)
    | rfl)
theorem put117 (xs : List AV) (a b : Int) (hl : xs.length ≤ 70368744177664) (n : Int) (hn : n ∈ sizeNs) : CallsA Try.prog 117 [.sl 1 xs .sh, wA (a, b), .int .i64 n] [] (.sl 1 (xs ++ putL (a, b) n) (.own [])) [] := by
  simp only [sizeNs, List.mem_cons, List.not_mem_nil, or_false] at hn
  rcases hn with rfl | rfl | rfl | rfl | rfl | rfl | rfl
  · exact put117_1 xs a b hl
  · exact put117_2 xs a b hl
  · exact put117_3 xs a b hl
  · exact put117_4 xs a b hl
  · exact put117_6 xs a b hl
  · exact put117_8 xs a b hl
  · exact put117_16 xs a b hl
end Go.Proofs.Ytdcijmigoefnjaa

/- Chapter 10: what a part is, and whether it may be: contracts. -/
set_option linter.unusedVariables false
set_option linter.unusedSimpArgs false
set_option maxRecDepth 100000
set_option maxHeartbeats 0
namespace Go.Proofs.Ytdcijmigoefnjaa
open Go Go.Ev

theorem zero_or {a b : Int} (h : inW (a, b) = true) : ieq (ibits .or .u64 a b) 0 = zeroW (a, b) := by
  simp only [inW, Bool.and_eq_true, inU_iff] at h
  obtain ⟨⟨a0, a1⟩, b0, b1⟩ := h
  obtain ⟨m, rfl⟩ : ∃ m : Nat, a = m := ⟨a.toNat, by omega⟩
  obtain ⟨n, rfl⟩ : ∃ n : Nat, b = n := ⟨b.toNat, by omega⟩
  have hm : m < 2 ^ 64 := by omega
  have hn : n < 2 ^ 64 := by omega
  rw [ibits_or m n hm hn (Nat.or_lt_two_pow hm hn)]
  have e : (m ||| n = 0) ↔ (m = 0 ∧ n = 0) := Nat.or_eq_zero_iff
  simp only [zeroW, ieq]
  cases h1 : ((m : Int) == 0) <;> cases h2 : ((n : Int) == 0) <;> simp_all <;> omega

theorem s125 : SumTOk Try.prog 125 S125u := sum0_ok fun x h => book_ok.pth (by kernel_rfl) noSpec_ok (p125 x.1 x.2 _ (by
  have h : inW (x.1, x.2) = true := h
  rw [zero_or h]; rfl))
theorem numOk_size {n s : Int} (h : numOk n s = true) : (numNs.any fun m => ieq s m) = true := by
  simp only [numOk, Bool.and_eq_true, Bool.or_eq_true] at h
  simp only [numNs, List.any_cons, List.any_nil, Bool.or_false, Bool.or_eq_true]
  rcases h.2 with h | h | h
  · exact .inl h.1
  · exact .inr (.inl h.1)
  · exact .inr (.inr h.1)
theorem sp176_ok : SpecTL Try.prog sp176 := ⟨Sum.T_ok (Book.all_ok book_ok 100 3 193), trivial⟩
theorem shr_zero {n : Int} (h : 0 ≤ n) (k : Nat) (hk : k ≤ 64) : ieq (ishr .i64 n (k : Int)) 0 = ilt n ((2 ^ k : Nat) : Int) := by
  have e : ishr .i64 n (k : Int) = n / ((2 ^ k : Nat) : Int) := by
    unfold ishr
    have e : min ((k : Int).toNat) IntKind.i64.bits = k := by simp [IntKind.bits]; omega
    rw [e, Int.fdiv_eq_ediv_of_nonneg _ (by exact_mod_cast Nat.zero_le _)]
    congr 1
  obtain ⟨m, rfl⟩ : ∃ m : Nat, n = m := ⟨n.toNat, by omega⟩
  have e2 : ((m : Int) / ((2 ^ k : Nat) : Int)) = ((m / 2 ^ k : Nat) : Int) := rfl
  have hp := Nat.two_pow_pos k
  rw [e, e2]
  by_cases hl : m < 2 ^ k
  · rw [Nat.div_eq_of_lt hl]
    have : ((m : Int) < ((2 ^ k : Nat) : Int)) := by exact_mod_cast hl
    simp only [ieq, ilt, this, decide_true]; rfl
  · have h1 : 0 < m / 2 ^ k := Nat.div_pos (by omega) hp
    have h2 : ¬ ((m : Int) < ((2 ^ k : Nat) : Int)) := by intro h; exact hl (by exact_mod_cast h)
    have h3 : ¬ (((m / 2 ^ k : Nat) : Int) = 0) := by omega
    simp only [ieq, ilt, h2, decide_false, beq_eq_false_iff_ne]; exact h3
theorem ile_lt {a b c : Int} (h : c = b + 1) : ile a b = ilt a c := by
  unfold ile ilt; rw [h]; exact decide_eq_decide.2 (by omega)
theorem s176 : SumTOk Try.prog 176 S176 := sum0_ok fun x hx => by
  obtain ⟨n, s⟩ := x
  show CallsA Try.prog 176 [.int .i64 n, .int .i64 s] [] (.bool (numOk n s)) []
  have e1 := fun h : ile 0 n = true => shr_zero (ile_iff'.1 h) 8 (by omega)
  have e2 := fun h : ile 0 n = true => shr_zero (ile_iff'.1 h) 16 (by omega)
  have e4 := fun h : ile 0 n = true => shr_zero (ile_iff'.1 h) 32 (by omega)
  refine num_cases (P := fun s => CallsA Try.prog 176 [.int .i64 n, .int .i64 s] [] (.bool (numOk n s)) []) ?_ ?_ ?_ hx
  · refine book_ok.pth (by kernel_rfl) sp176_ok (p176_1 n _ (fun h => ?_) (fun h => ?_))
    · refine congrArg (fun b => (AV.bool b, ([] : List (List AV)))) ?_
      show (bif ile 0 n then ieq (ishr .i64 n ((8 : Nat) : Int)) 0 else false) = _
      rw [e1 h, h]; unfold numOk; rw [h]; simp [ieq]
    · refine congrArg (fun b => (AV.bool b, ([] : List (List AV)))) ?_
      unfold numOk; rw [h]; rfl
  · refine book_ok.pth (by kernel_rfl) sp176_ok (p176_2 n _ (fun h => ?_) (fun h => ?_))
    · refine congrArg (fun b => (AV.bool b, ([] : List (List AV)))) ?_
      show (bif ile 0 n then ieq (ishr .i64 n ((16 : Nat) : Int)) 0 else false) = _
      rw [e2 h, h]; unfold numOk; rw [h]; simp [ieq]
    · refine congrArg (fun b => (AV.bool b, ([] : List (List AV)))) ?_
      unfold numOk; rw [h]; rfl
  · refine book_ok.pth (by kernel_rfl) sp176_ok (p176_4 n _ (fun h => ?_) (fun h => ?_))
    · refine congrArg (fun b => (AV.bool b, ([] : List (List AV)))) ?_
      show (bif ile 0 n then ieq (ishr .i64 n ((32 : Nat) : Int)) 0 else false) = _
      rw [e4 h, h]; unfold numOk; rw [h]; simp [ieq]
    · refine congrArg (fun b => (AV.bool b, ([] : List (List AV)))) ?_
      unfold numOk; rw [h]; rfl
theorem s177 : SumTOk Try.prog 177 S176 := sum0_ok fun x hx => by
  obtain ⟨n, s⟩ := x
  show CallsA Try.prog 177 [.int .i64 n, .int .i64 s] [] (.bool (numOk n s)) []
  refine num_cases (P := fun s => CallsA Try.prog 177 [.int .i64 n, .int .i64 s] [] (.bool (numOk n s)) []) ?_ ?_ ?_ hx
  · refine book_ok.pth (by kernel_rfl) sp176_ok (p177_1 n _ (fun h => ?_) (fun h => ?_))
    · refine congrArg (fun b => (AV.bool b, ([] : List (List AV)))) ?_
      rw [ile_lt (a := n) (b := 255) (c := 256) (by omega), h]; unfold numOk; rw [h]; simp [ieq]
    · refine congrArg (fun b => (AV.bool b, ([] : List (List AV)))) ?_
      unfold numOk; rw [h]; rfl
  · refine book_ok.pth (by kernel_rfl) sp176_ok (p177_2 n _ (fun h => ?_) (fun h => ?_))
    · refine congrArg (fun b => (AV.bool b, ([] : List (List AV)))) ?_
      rw [ile_lt (a := n) (b := 65535) (c := 65536) (by omega), h]; unfold numOk; rw [h]; simp [ieq]
    · refine congrArg (fun b => (AV.bool b, ([] : List (List AV)))) ?_
      unfold numOk; rw [h]; rfl
  · refine book_ok.pth (by kernel_rfl) sp176_ok (p177_4 n _ (fun h => ?_) (fun h => ?_))
    · refine congrArg (fun b => (AV.bool b, ([] : List (List AV)))) ?_
      rw [ile_lt (a := n) (b := 4294967295) (c := 4294967296) (by omega), h]; unfold numOk; rw [h]; simp [ieq]
    · refine congrArg (fun b => (AV.bool b, ([] : List (List AV)))) ?_
      unfold numOk; rw [h]; rfl
theorem spN_ok : SpecTL Try.prog spN := ⟨s176, s177, trivial⟩

theorem bleB' {a : Nat} (h : a ≤ 140737488355328) : Nat.ble a 140737488355328 = true := by rw [Nat.ble_eq]; exact h
theorem num_of {f : FuncId} (h : ∀ (xs : List AV) (n s : Int), xs.length ≤ 70368744177664 → numOk n s = true → (numNs.any fun m => ieq s m) = true → CallsA Try.prog f [.sl 1 xs .sh, .int .i64 n, .int .i64 s] [] (.sl 1 (xs ++ numL n s) (.own [])) []) : SumTOk Try.prog f S133 := by
  refine sumW_ok fun x hx => ?_
  obtain ⟨xs, n, s⟩ := x
  simp only [Bool.and_eq_true, smallB, Nat.ble_eq] at hx
  exact h xs n s hx.2 hx.1 (numOk_size hx.1)
theorem s133 : SumTOk Try.prog 133 S133 := num_of fun xs n s hl hn hs => by
  have tk : List.take ((xs.length : Int).toNat - 0) xs = xs := by rw [Int.toNat_natCast, Nat.sub_zero, List.take_length]
  have i1 : inR (xs.length : Int) (xs.length + 1) = true := inR_iff.2 ⟨by omega, by omega⟩
  have i2 : inR (xs.length : Int) ((xs.length : Int).toNat + 1) = true := inR_iff.2 ⟨by omega, by omega⟩
  have i3 : (true && (xs.length : Int).toNat == (xs.length : Int).toNat) = true := by simp
  revert hn
  refine num_cases (P := fun s => numOk n s = true → CallsA Try.prog 133 [.sl 1 xs .sh, .int .i64 n, .int .i64 s] [] (.sl 1 (xs ++ numL n s) (.own [])) []) (fun hn => ?_) (fun hn => ?_) (fun hn => ?_) hs
  · exact book_ok.pth (by kernel_rfl) spN_ok (p133_1 xs n _ (by rw [hn]; rfl) i1 i2 i3 (bleB' (by rw [tk]; omega)) (bleB' (by rw [tk]; omega)) (by rw [tk]; rfl))
  · exact book_ok.pth (by kernel_rfl) spN_ok (p133_2 xs n _ (by rw [hn]; rfl) i1 i2 i3 (bleB' (by rw [tk]; omega)) (bleB' (by rw [tk]; omega)) (by rw [tk]; rfl))
  · exact book_ok.pth (by kernel_rfl) spN_ok (p133_4 xs n _ (by rw [hn]; rfl) i1 i2 i3 (bleB' (by rw [tk]; omega)) (bleB' (by rw [tk]; omega)) (by rw [tk]; rfl))
end Go.Proofs.Ytdcijmigoefnjaa

/- Chapter 11: matches, as functions. -/
set_option linter.unusedVariables false
set_option maxRecDepth 100000
namespace Go.Proofs.Ytdcijmigoefnjaa
open Go Go.Ev

def ox (v : AV) : XO := oxOf v.cells
end Go.Proofs.Ytdcijmigoefnjaa

/- Chapter 11: what a part gives: contracts. -/
set_option linter.unusedVariables false
set_option linter.unusedSimpArgs false
set_option maxRecDepth 100000
set_option maxHeartbeats 0
namespace Go.Proofs.Ytdcijmigoefnjaa
open Go Go.Ev

theorem lenB_iff {xs : List AV} : lenB xs = true ↔ xs.length ≤ 9223372036854775807 := by unfold lenB; rw [Nat.ble_eq]
theorem getD_mem {xs : List AV} {i : Nat} (h : i < xs.length) : xs.getD i .unk ∈ xs := by
  rw [List.getD_eq_getElem?_getD, List.getElem?_eq_getElem h]; exact List.getElem_mem h
end Go.Proofs.Ytdcijmigoefnjaa
