/- Chapter 03: the call of FieldTells. -/
import Derived.Test.YtdcijmigoefnjaaL03b
import Derived.Test.YtdcijmigoefnjaaP03c
set_option linter.unusedVariables false
set_option linter.unusedSimpArgs false
set_option maxRecDepth 100000
set_option maxHeartbeats 0
namespace Go.Proofs.Ytdcijmigoefnjaa
open Go Go.Ev

theorem sp7_ok : SpecTL Try.prog sp7 := ⟨s26, s45, s27, s46, s32, s47, s48, s49, s50, s51, s28, s52, s31, s53, s30, s55, Sum.T_ok (Book.all_ok book_ok 100 12 54), s29, trivial⟩

theorem spNil_ok {f : FuncId} {g : Int → AV} (h : SumTOk Try.prog f (sumOf (gI .i64 g))) (hg : ∀ n, isF n = false → g n = .sl 0 [] .nil) : SumTOk Try.prog f spNil := by
  intro a p t ht
  unfold spNil at ht
  split at ht
  · rename_i n
    obtain ⟨h1, h2⟩ := ht
    cases h2
    have hn : isF n = false := by simpa using h1
    have := h [.int .i64 n] [] (.leaf (g n, [])) rfl
    rw [hg n hn] at this
    exact this
  · exact ht.elim

theorem sp7x_ok : SpecTL Try.prog sp7x := ⟨s26, s45, s27, s46, s32, s47, s48, s49, s50, s51, s28, s52, s31, s53, spNil_ok s30 (fun n h => by rw [needOf_no h]; rfl), spNil_ok s55 (fun n h => by rw [needOf_no h]; rfl),
  Sum.T_ok (Book.all_ok book_ok 100 12 54), s29, trivial⟩

theorem ieq_self (n : Int) : ieq n n = true := by simp [ieq]

theorem c7 (f n : Int) : CallsA Try.prog 7 [.int .i64 f, .int .i64 n] [] (.bool true) [] := by
  have a := ieq_self (ixOf n).1
  have b : ((ixOf n).2 == (ixOf n).2) = true := by simp
  cases h : isF f with
  | false =>
    refine book_ok.pth (by kernel_rfl) sp7x_ok (p7_x f n _ a b (ieq_self _) (ieq_self _) (ieq_self _) (by simp) (by simp) (by simp) ?_ ?_)
    all_goals (try simp [h, ieq_self])
  | true =>
    obtain ⟨j, hj, rfl⟩ := isF_cases h
    match j, hj with
    | 0, _ => exact book_ok.pth (by kernel_rfl) sp7_ok (p7_0 n _ a b (by simp [ieq_self]))
    | 1, _ => exact book_ok.pth (by kernel_rfl) sp7_ok (p7_1 n _ a b (by simp [ieq_self]))
    | 2, _ => exact book_ok.pth (by kernel_rfl) sp7_ok (p7_2 n _ a b (by simp [ieq_self]))
    | 3, _ => exact book_ok.pth (by kernel_rfl) sp7_ok (p7_3 n _ a b (by simp [ieq_self]))
    | 4, _ => exact book_ok.pth (by kernel_rfl) sp7_ok (p7_4 n _ a b (by simp [ieq_self]))
    | 5, _ => exact book_ok.pth (by kernel_rfl) sp7_ok (p7_5 n _ a b (by simp [ieq_self]))
    | 6, _ => exact book_ok.pth (by kernel_rfl) sp7_ok (p7_6 n _ a b (by simp [ieq_self]))
    | 7, _ => exact book_ok.pth (by kernel_rfl) sp7_ok (p7_7 n _ a b (by simp [ieq_self]))
    | 8, _ => exact book_ok.pth (by kernel_rfl) sp7_ok (p7_8 n _ a b (by simp [ieq_self]))
    | 9, _ => exact book_ok.pth (by kernel_rfl) sp7_ok (p7_9 n _ a b (by simp [ieq_self]))
    | 10, _ => exact book_ok.pth (by kernel_rfl) sp7_ok (p7_10 n _ a b (by simp [ieq_self]))
    | 11, _ => exact book_ok.pth (by kernel_rfl) sp7_ok (p7_11 n _ a b (by simp [ieq_self]))
    | 12, _ => exact book_ok.pth (by kernel_rfl) sp7_ok (p7_12 n _ a b (by simp [ieq_self]))
    | 13, _ => exact book_ok.pth (by kernel_rfl) sp7_ok (p7_13 n _ a b (by simp [ieq_self]))
    | 14, _ => exact book_ok.pth (by kernel_rfl) sp7_ok (p7_14 n _ a b (by simp [ieq_self]))
    | 15, _ => exact book_ok.pth (by kernel_rfl) sp7_ok (p7_15 n _ a b (by simp [ieq_self]))
    | 16, _ => exact book_ok.pth (by kernel_rfl) sp7_ok (p7_16 n _ a b (by simp [ieq_self]))
    | 17, _ => exact book_ok.pth (by kernel_rfl) sp7_ok (p7_17 n _ a b (by simp [ieq_self]))
    | 18, _ => exact book_ok.pth (by kernel_rfl) sp7_ok (p7_18 n _ a b (by simp [ieq_self]))
    | 19, _ => exact book_ok.pth (by kernel_rfl) sp7_ok (p7_19 n _ a b (by simp [ieq_self]))
    | 20, _ => exact book_ok.pth (by kernel_rfl) sp7_ok (p7_20 n _ a b (by simp [ieq_self]))
    | 21, _ => exact book_ok.pth (by kernel_rfl) sp7_ok (p7_21 n _ a b (by simp [ieq_self]))
    | 22, _ => exact book_ok.pth (by kernel_rfl) sp7_ok (p7_22 n _ a b (by simp [ieq_self]))
    | 23, _ => exact book_ok.pth (by kernel_rfl) sp7_ok (p7_23 n _ a b (by simp [ieq_self]))
    | j + 24, h => exact absurd h (by omega)

theorem cFieldBack {x y : Int} (hx : IntKind.u8.min ≤ x ∧ x ≤ IntKind.u8.max) (hy : IntKind.u8.min ≤ y ∧ y ≤ IntKind.u8.max) : CallsA Try.prog 3 [.int .u8 x, .int .u8 y] [] (.bool true) [] := by
  have e1 : IntKind.u8.min = 0 := by decide
  have e2 : IntKind.u8.max = 255 := by decide
  exact c3 (by omega) (by omega) (by omega) (by omega)
theorem cFieldNeeds {x : Int} (hx : IntKind.u8.min ≤ x ∧ x ≤ IntKind.u8.max) : CallsA Try.prog 4 [.int .u8 x] [] (.bool true) [] := by
  have e1 : IntKind.u8.min = 0 := by decide
  have e2 : IntKind.u8.max = 255 := by decide
  exact c4 (by omega) (by omega)
theorem cFieldTells {x y : Int} (hx : IntKind.i64.min ≤ x ∧ x ≤ IntKind.i64.max) (hy : IntKind.i64.min ≤ y ∧ y ≤ IntKind.i64.max) : CallsA Try.prog 7 [.int .i64 x, .int .i64 y] [] (.bool true) [] := c7 x y

end Go.Proofs.Ytdcijmigoefnjaa
