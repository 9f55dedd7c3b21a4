import Derived.Test.YtdcijmigoefnjaaD03
import Derived.Test.YtdcijmigoefnjaaPlB
/- Bytes and numbers: what chapters share. -/
set_option linter.unusedVariables false
set_option linter.unusedSimpArgs false
set_option maxRecDepth 100000
set_option maxHeartbeats 0
namespace Go.Proofs.Ytdcijmigoefnjaa
open Go Go.Ev
theorem ile_iff' {a b : Int} : ile a b = true ↔ a ≤ b := by simp [ile]
theorem inU_iff {n : Int} : inU n = true ↔ 0 ≤ n ∧ n < 18446744073709551616 := by simp [inU, ile, ilt]
theorem inU_wrap (n : Int) : inU (IntKind.u64.wrap n) = true := by
  rw [IntKind.wrap_u64, inU_iff]; omega
theorem inU_bits (op : BinOp) (a b : Int) : inU (ibits op .u64 a b) = true := by
  rw [ibits_eq]
  cases op <;> exact inU_wrap _
theorem num_cases {P : Int → Prop} (h1 : P 1) (h2 : P 2) (h4 : P 4) {s : Int} (h : (numNs.any fun m => ieq s m) = true) : P s := by
  simp only [numNs, List.any_cons, List.any_nil, Bool.or_false, Bool.or_eq_true, ieq, beq_iff_eq] at h
  rcases h with rfl | rfl | rfl <;> assumption
theorem byteL_int : ∀ {xs : List AV}, byteL xs → intsA .u8 xs = true
  | [], _ => rfl
  | x :: xs, h => by
    obtain ⟨z, _, rfl⟩ := h x (by simp)
    simp only [intsA, List.all_cons, isI, decide_true, Bool.true_and]
    exact byteL_int fun y hy => h y (List.mem_cons_of_mem _ hy)
end Go.Proofs.Ytdcijmigoefnjaa

/- Chapter 04: the lowest bits. -/
set_option linter.unusedVariables false
set_option maxRecDepth 100000
set_option maxHeartbeats 0
namespace Go.Proofs.Ytdcijmigoefnjaa
open Go Go.Ev

theorem low108 : lowNs.map (fun n => book.all 1000 6 108 [.int .i64 n] []) = lowNs.map (fun n => some (wA (lowW n), [])) := by kernel_rfl
theorem low110_2 : book.all 1000 6 110 [.int .i64 2] [] = some (wA (lowW 2), []) := by kernel_rfl
theorem low110_3 : book.all 1000 6 110 [.int .i64 3] [] = some (wA (lowW 3), []) := by kernel_rfl
theorem low110_6 : book.all 1000 6 110 [.int .i64 6] [] = some (wA (lowW 6), []) := by kernel_rfl
theorem low110_8 : book.all 1000 6 110 [.int .i64 8] [] = some (wA (lowW 8), []) := by kernel_rfl
theorem low110_13 : book.all 1000 6 110 [.int .i64 13] [] = some (wA (lowW 13), []) := by kernel_rfl
theorem low110_16 : book.all 1000 6 110 [.int .i64 16] [] = some (wA (lowW 16), []) := by kernel_rfl
theorem low110_20 : book.all 1000 6 110 [.int .i64 20] [] = some (wA (lowW 20), []) := by kernel_rfl
theorem low110_32 : book.all 1000 6 110 [.int .i64 32] [] = some (wA (lowW 32), []) := by kernel_rfl
theorem low110_48 : book.all 1000 6 110 [.int .i64 48] [] = some (wA (lowW 48), []) := by kernel_rfl
theorem low110_64 : book.all 1000 6 110 [.int .i64 64] [] = some (wA (lowW 64), []) := by kernel_rfl
theorem low110_128 : book.all 1000 6 110 [.int .i64 128] [] = some (wA (lowW 128), []) := by kernel_rfl

theorem low_of {f : FuncId} (h : ∀ n ∈ lowNs, CallsA Try.prog f [.int .i64 n] [] (wA (lowW n)) []) : SumTOk Try.prog f S108 := by
  intro a p t ht
  unfold S108 at ht
  split at ht
  · obtain ⟨h1, h2⟩ := ht
    cases h2
    simp only [Bool.and_eq_true, decide_eq_true_eq, lowOk, List.any_eq_true, ieq, beq_iff_eq] at h1
    obtain ⟨rfl, m, hm, rfl⟩ := h1
    exact h _ hm
  · exact ht.elim

theorem s108 : SumTOk Try.prog 108 S108 := low_of fun n hn => Book.all_ok book_ok 1000 6 108 _ [] _ [] (List.map_inj_left.1 low108 n hn)
theorem s110 : SumTOk Try.prog 110 S108 := low_of fun n hn => by
  simp only [lowNs, List.mem_cons, List.not_mem_nil, or_false] at hn
  rcases hn with rfl | rfl | rfl | rfl | rfl | rfl | rfl | rfl | rfl | rfl | rfl
  · exact Book.all_ok book_ok 1000 6 110 _ [] _ [] low110_2
  · exact Book.all_ok book_ok 1000 6 110 _ [] _ [] low110_3
  · exact Book.all_ok book_ok 1000 6 110 _ [] _ [] low110_6
  · exact Book.all_ok book_ok 1000 6 110 _ [] _ [] low110_8
  · exact Book.all_ok book_ok 1000 6 110 _ [] _ [] low110_13
  · exact Book.all_ok book_ok 1000 6 110 _ [] _ [] low110_16
  · exact Book.all_ok book_ok 1000 6 110 _ [] _ [] low110_20
  · exact Book.all_ok book_ok 1000 6 110 _ [] _ [] low110_32
  · exact Book.all_ok book_ok 1000 6 110 _ [] _ [] low110_48
  · exact Book.all_ok book_ok 1000 6 110 _ [] _ [] low110_64
  · exact Book.all_ok book_ok 1000 6 110 _ [] _ [] low110_128

end Go.Proofs.Ytdcijmigoefnjaa
