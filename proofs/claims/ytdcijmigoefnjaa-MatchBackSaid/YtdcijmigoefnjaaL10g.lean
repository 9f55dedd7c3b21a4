import Derived.Test.YtdcijmigoefnjaaD03
import Derived.Test.YtdcijmigoefnjaaPlB
import Derived.Test.YtdcijmigoefnjaaL04g
import Derived.Test.YtdcijmigoefnjaaL03
/- Bytes and numbers: what chapters share. -/
set_option linter.unusedVariables false
set_option linter.unusedSimpArgs false
set_option maxRecDepth 100000
set_option maxHeartbeats 0
namespace Go.Proofs.Ytdcijmigoefnjaa
open Go Go.Ev
theorem ile_iff' {a b : Int} : ile a b = true ↔ a ≤ b := by simp [ile]
theorem inU_iff {n : Int} : inU n = true ↔ 0 ≤ n ∧ n < 18446744073709551616 := by simp [inU, ile, ilt]
theorem inU_wrap (n : Int) : inU (IntKind.u64.wrap n) = true := by
  rw [IntKind.wrap_u64, inU_iff]; omega
theorem inU_bits (op : BinOp) (a b : Int) : inU (ibits op .u64 a b) = true := by
  rw [ibits_eq]
  cases op <;> exact inU_wrap _
theorem num_cases {P : Int → Prop} (h1 : P 1) (h2 : P 2) (h4 : P 4) {s : Int} (h : (numNs.any fun m => ieq s m) = true) : P s := by
  simp only [numNs, List.any_cons, List.any_nil, Bool.or_false, Bool.or_eq_true, ieq, beq_iff_eq] at h
  rcases h with rfl | rfl | rfl <;> assumption
theorem isB_iff {v : AV} : isB v = true ↔ isByte v := by
  constructor
  · intro h
    cases v <;> try (cases h; done)
    rename_i k n
    cases k <;> try (cases h; done)
    simp only [isB, inR_iff] at h
    exact ⟨n.toNat, by omega, by rw [Int.toNat_of_nonneg h.1]⟩
  · rintro ⟨z, hz, rfl⟩
    simp only [isB, inR_iff]; omega
theorem bytB_iff {xs : List AV} : bytB xs = true ↔ byteL xs := by
  unfold bytB byteL
  rw [List.all_eq_true]
  exact ⟨fun h x hx => isB_iff.1 (h x hx), fun h x hx => isB_iff.2 (h x hx)⟩
theorem byteL_int : ∀ {xs : List AV}, byteL xs → intsA .u8 xs = true
  | [], _ => rfl
  | x :: xs, h => by
    obtain ⟨z, _, rfl⟩ := h x (by simp)
    simp only [intsA, List.all_cons, isI, decide_true, Bool.true_and]
    exact byteL_int fun y hy => h y (List.mem_cons_of_mem _ hy)
theorem byteL_get {xs : List AV} (h : byteL xs) {i : Nat} (hi : i < xs.length) : ∃ z : Nat, z < 256 ∧ xs.getD i .unk = .int .u8 (z : Int) := by
  rw [List.getD_eq_getElem?_getD, List.getElem?_eq_getElem hi]
  exact h _ (List.getElem_mem hi)
theorem wrapI {z : Nat} (h : z < 256) : IntKind.i64.wrap (z : Int) = (z : Int) := by rw [IntKind.wrap_i64]; omega
theorem addI {z : Nat} (h : z < 256) : iadd .i64 4 (z : Int) = 4 + (z : Int) := iadd_small (by omega) (by omega)
theorem shr1 {z : Nat} (h : z < 256) : ishr .u8 (z : Int) 1 = (z : Int) / 2 := by
  unfold ishr; rw [Int.fdiv_eq_ediv_of_nonneg _ (by decide)]; simp [IntKind.bits]
theorem and1 {z : Nat} (h : z < 256) : ibits .and .u8 (z : Int) 1 = (z : Int) % 2 := by
  have : ∀ i : Fin 256, ibits .and .u8 (i.val : Int) 1 = (i.val : Int) % 2 := by decide +kernel
  exact this ⟨z, h⟩
theorem half {z : Nat} (h : z < 256) : IntKind.i64.wrap ((z : Int) / 2) = (z : Int) / 2 := by rw [IntKind.wrap_i64]; omega
theorem inW_get (xs : List AV) (n : Int) : inW (getHi xs n, getLo xs n) = true := by
  unfold getHi getLo inW
  cases n.toNat with
  | zero => rfl
  | succ n => simp only [getW]; rw [inU_bits, inU_bits]; rfl
theorem intsA_drop' {k : IntKind} {xs : List AV} (h : intsA k xs = true) (n : Nat) : intsA k (xs.drop n) = true := by
  unfold intsA at h ⊢
  rw [List.all_eq_true] at h ⊢
  exact fun x hx => h x (List.mem_of_mem_drop hx)
theorem lenB_drop' {xs : List AV} (h : lenB xs = true) (n : Nat) : lenB (xs.drop n) = true := by
  unfold lenB at h ⊢
  rw [Nat.ble_eq] at h ⊢
  rw [List.length_drop]; omega
theorem s115t {f : FuncId} (h : SumTOk Try.prog f S115) : SumTOk Try.prog f S115t := by
  refine sumW_ok fun x hx => ?_
  obtain ⟨xs, n⟩ := x
  simp only [Bool.and_eq_true] at hx
  obtain ⟨h1, h2, h3, h4⟩ := hx
  have e : ile n (xs.length : Int) = true := h4
  have this : CallsA Try.prog f [.sl 1 xs .sh, .int .i64 n] [] (bif ile n (xs.length : Int) then .tup [wA (getHi xs n, getLo xs n), .bool true] else .tup [wA (0, 0), .bool false]) [] := by
    have t := h [.sl 1 xs .sh, .int .i64 n] [] _ (show ((S115 [.sl 1 xs .sh, .int .i64 n] []).Ret _) from ⟨rfl, by simp only [Bool.and_eq_true]; exact ⟨h1, h2, h3⟩, rfl⟩)
    rw [treeMap_val] at t
    exact t
  rw [e] at this
  exact this
end Go.Proofs.Ytdcijmigoefnjaa

/- Chapter 04: the lowest bits. -/
set_option linter.unusedVariables false
set_option maxRecDepth 100000
set_option maxHeartbeats 0
namespace Go.Proofs.Ytdcijmigoefnjaa
open Go Go.Ev

theorem low108 : lowNs.map (fun n => book.all 1000 6 108 [.int .i64 n] []) = lowNs.map (fun n => some (wA (lowW n), [])) := by kernel_rfl
theorem low110_2 : book.all 1000 6 110 [.int .i64 2] [] = some (wA (lowW 2), []) := by kernel_rfl
theorem low110_3 : book.all 1000 6 110 [.int .i64 3] [] = some (wA (lowW 3), []) := by kernel_rfl
theorem low110_6 : book.all 1000 6 110 [.int .i64 6] [] = some (wA (lowW 6), []) := by kernel_rfl
theorem low110_8 : book.all 1000 6 110 [.int .i64 8] [] = some (wA (lowW 8), []) := by kernel_rfl
theorem low110_13 : book.all 1000 6 110 [.int .i64 13] [] = some (wA (lowW 13), []) := by kernel_rfl
theorem low110_16 : book.all 1000 6 110 [.int .i64 16] [] = some (wA (lowW 16), []) := by kernel_rfl
theorem low110_20 : book.all 1000 6 110 [.int .i64 20] [] = some (wA (lowW 20), []) := by kernel_rfl
theorem low110_32 : book.all 1000 6 110 [.int .i64 32] [] = some (wA (lowW 32), []) := by kernel_rfl
theorem low110_48 : book.all 1000 6 110 [.int .i64 48] [] = some (wA (lowW 48), []) := by kernel_rfl
theorem low110_64 : book.all 1000 6 110 [.int .i64 64] [] = some (wA (lowW 64), []) := by kernel_rfl
theorem low110_128 : book.all 1000 6 110 [.int .i64 128] [] = some (wA (lowW 128), []) := by kernel_rfl

theorem low_of {f : FuncId} (h : ∀ n ∈ lowNs, CallsA Try.prog f [.int .i64 n] [] (wA (lowW n)) []) : SumTOk Try.prog f S108 := by
  intro a p t ht
  unfold S108 at ht
  split at ht
  · obtain ⟨h1, h2⟩ := ht
    cases h2
    simp only [Bool.and_eq_true, decide_eq_true_eq, lowOk, List.any_eq_true, ieq, beq_iff_eq] at h1
    obtain ⟨rfl, m, hm, rfl⟩ := h1
    exact h _ hm
  · exact ht.elim

theorem s108 : SumTOk Try.prog 108 S108 := low_of fun n hn => Book.all_ok book_ok 1000 6 108 _ [] _ [] (List.map_inj_left.1 low108 n hn)
theorem s110 : SumTOk Try.prog 110 S108 := low_of fun n hn => by
  simp only [lowNs, List.mem_cons, List.not_mem_nil, or_false] at hn
  rcases hn with rfl | rfl | rfl | rfl | rfl | rfl | rfl | rfl | rfl | rfl | rfl
  · exact Book.all_ok book_ok 1000 6 110 _ [] _ [] low110_2
  · exact Book.all_ok book_ok 1000 6 110 _ [] _ [] low110_3
  · exact Book.all_ok book_ok 1000 6 110 _ [] _ [] low110_6
  · exact Book.all_ok book_ok 1000 6 110 _ [] _ [] low110_8
  · exact Book.all_ok book_ok 1000 6 110 _ [] _ [] low110_13
  · exact Book.all_ok book_ok 1000 6 110 _ [] _ [] low110_16
  · exact Book.all_ok book_ok 1000 6 110 _ [] _ [] low110_20
  · exact Book.all_ok book_ok 1000 6 110 _ [] _ [] low110_32
  · exact Book.all_ok book_ok 1000 6 110 _ [] _ [] low110_48
  · exact Book.all_ok book_ok 1000 6 110 _ [] _ [] low110_64
  · exact Book.all_ok book_ok 1000 6 110 _ [] _ [] low110_128

end Go.Proofs.Ytdcijmigoefnjaa

/- Lists: slices.Equal (printed by program). -/
set_option linter.unusedVariables false
set_option maxRecDepth 100000
set_option maxHeartbeats 0
namespace Go.Proofs.Ytdcijmigoefnjaa
open Go Go.Ev

theorem p59 (xs ys : List AV) (r : AV × List (List AV)) (k0 : (!ieq ↑xs.length ↑ys.length) = true → ((AV.bool false, [])) = r) (k1 : (!ieq ↑xs.length ↑ys.length) = false → (pre41 zk (0, xs, ys)) = true) (k2 : (!ieq ↑xs.length ↑ys.length) = false → (eqA xs ys) = true → ((AV.bool true, [])) = r) (k3 : (!ieq ↑xs.length ↑ys.length) = false → (eqA xs ys) = false → ((AV.bool false, [])) = r) : Goes (runP (book.envP 59 noSpec big (loopsAt [(4, lp59)])) Try.f59 [.sl 1 xs .sh, .sl 1 ys .sh] [] (.s .z (.s .z .z))) r :=
  Goes.of_eq (t' := Bool.rec (motive := fun _ => TR) (.must (st41 (0, xs, ys) = st41 (0, xs, ys)) (Bool.rec (motive := fun _ => TR) .no (Bool.rec (motive := fun _ => TR) (.ret ((AV.bool false, []))) (.ret ((AV.bool true, []))) (eqA xs ys)) (pre41 zk (0, xs, ys)))) (.ret ((AV.bool false, []))) (!ieq ↑xs.length ↑ys.length)) (by kernel_rfl) (.ite (fun h0_0 => Goes.leafE (k0 h0_0)) (fun h0_0 => .must rfl (.step (k1 h0_0) (.ite (fun h2_2 => Goes.leafE (k2 h0_0 h2_2)) (fun h2_2 => Goes.leafE (k3 h0_0 h2_2))))))

end Go.Proofs.Ytdcijmigoefnjaa

/- Chapter 04: headers: contracts. -/
set_option linter.unusedVariables false
set_option linter.unusedSimpArgs false
set_option maxRecDepth 100000
set_option maxHeartbeats 0
namespace Go.Proofs.Ytdcijmigoefnjaa
open Go Go.Ev

theorem s59 : SumTOk Try.prog 59 (S41 .u8) := sumW_ok fun x h => by
  obtain ⟨xs, ys⟩ := x
  simp only [Bool.and_eq_true] at h
  obtain ⟨h1, h2, h3, h4⟩ := h
  refine book_ok.run1 (k := 4) (l := lp59) (by kernel_rfl) noSpec_ok (by kernel_rfl) lok59 (p59 xs ys _ (fun h => ?_) (fun h => ?_) (fun h h5 => ?_) (fun h h5 => ?_))
  · show _ = (AV.bool (eqA xs ys), [])
    cases he : eqA xs ys with
    | false => rfl
    | true => have := eqA_len he; simp [ieq, this] at h
  · simp only [Bool.not_eq_false', ieq, beq_iff_eq] at h
    simp only [pre41, Bool.and_eq_true, ile, decide_eq_true_eq, beq_iff_eq]
    exact ⟨by omega, by omega, by omega, h3, h1, h2⟩
  · show _ = (AV.bool (eqA xs ys), []); rw [h5]
  · show _ = (AV.bool (eqA xs ys), []); rw [h5]

end Go.Proofs.Ytdcijmigoefnjaa
