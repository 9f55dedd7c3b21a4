/- Numbers of 128 bits as bytes: Put keeps its contract. -/
import Derived.Test.YtdcijmigoefnjaaD04g
import Derived.Test.YtdcijmigoefnjaaP04f
set_option linter.unusedVariables false
set_option linter.unusedSimpArgs false
set_option maxRecDepth 100000
set_option maxHeartbeats 0
namespace Go.Proofs.Ytdcijmigoefnjaa
open Go Go.Ev

theorem put_of {f : FuncId} (h : ∀ (xs : List AV) (a b : Int), xs.length ≤ 70368744177664 → ∀ n ∈ sizeNs, CallsA Try.prog f [.sl 1 xs .sh, wA (a, b), .int .i64 n] [] (.sl 1 (xs ++ putL (a, b) n) (.own [])) []) : SumTOk Try.prog f S117 := by
  refine sumW_ok fun x hx => ?_
  obtain ⟨xs, ⟨a, b⟩, n⟩ := x
  simp only [Bool.and_eq_true, sizeOk, List.any_eq_true, ieq, beq_iff_eq, smallB, Nat.ble_eq] at hx
  obtain ⟨⟨m, hm, rfl⟩, hl⟩ := hx
  exact (h xs a b hl n hm).rwk 1

theorem nil_of {xs : List AV} (h : xs.isEmpty = true) : xs = [] := by simpa using h

theorem bleB {a : Nat} (h : a ≤ 140737488355328) : Nat.ble a 140737488355328 = true := by rw [Nat.ble_eq]; exact h

theorem sp164_ok : SpecTL Try.prog [(164, (book.all 100 3 164).T)] := ⟨Sum.T_ok (Book.all_ok book_ok 100 3 164), trivial⟩
theorem put117_1 (xs : List AV) (a b : Int) (hl : xs.length ≤ 70368744177664) : CallsA Try.prog 117 [.sl 1 xs .sh, wA (a, b), .int .i64 1] [] (.sl 1 (xs ++ putL (a, b) 1) (.own [])) [] := by
  refine book_ok.pth (by kernel_rfl) noSpec_ok (p117_1 xs a b _ ?_ ?_ ?_ ?_ ?_ ?_)
  all_goals (intros; first
    | (refine bleB ?_; (try simp only [List.length_append, List.length_cons, List.length_nil]); omega)
    | (have e := nil_of ‹_›; subst e; rfl)
    | (simp only [List.append_assoc]; rfl)
    | rfl)
theorem put117_2 (xs : List AV) (a b : Int) (hl : xs.length ≤ 70368744177664) : CallsA Try.prog 117 [.sl 1 xs .sh, wA (a, b), .int .i64 2] [] (.sl 1 (xs ++ putL (a, b) 2) (.own [])) [] := by
  refine book_ok.pth (by kernel_rfl) noSpec_ok (p117_2 xs a b _ ?_ ?_ ?_ ?_ ?_ ?_)
  all_goals (intros; first
    | (refine bleB ?_; (try simp only [List.length_append, List.length_cons, List.length_nil]); omega)
    | (have e := nil_of ‹_›; subst e; rfl)
    | (simp only [List.append_assoc]; rfl)
    | rfl)
theorem put117_3 (xs : List AV) (a b : Int) (hl : xs.length ≤ 70368744177664) : CallsA Try.prog 117 [.sl 1 xs .sh, wA (a, b), .int .i64 3] [] (.sl 1 (xs ++ putL (a, b) 3) (.own [])) [] := by
  refine book_ok.pth (by kernel_rfl) noSpec_ok (p117_3 xs a b _ ?_ ?_ ?_ ?_ ?_ ?_)
  all_goals (intros; first
    | (refine bleB ?_; (try simp only [List.length_append, List.length_cons, List.length_nil]); omega)
    | (have e := nil_of ‹_›; subst e; rfl)
    | (simp only [List.append_assoc]; rfl)
    | rfl)
theorem put117_4 (xs : List AV) (a b : Int) (hl : xs.length ≤ 70368744177664) : CallsA Try.prog 117 [.sl 1 xs .sh, wA (a, b), .int .i64 4] [] (.sl 1 (xs ++ putL (a, b) 4) (.own [])) [] := by
  refine book_ok.pth (by kernel_rfl) noSpec_ok (p117_4 xs a b _ ?_ ?_ ?_ ?_ ?_ ?_)
  all_goals (intros; first
    | (refine bleB ?_; (try simp only [List.length_append, List.length_cons, List.length_nil]); omega)
    | (have e := nil_of ‹_›; subst e; rfl)
    | (simp only [List.append_assoc]; rfl)
    | rfl)
theorem put117_6 (xs : List AV) (a b : Int) (hl : xs.length ≤ 70368744177664) : CallsA Try.prog 117 [.sl 1 xs .sh, wA (a, b), .int .i64 6] [] (.sl 1 (xs ++ putL (a, b) 6) (.own [])) [] := by
  refine book_ok.pth (by kernel_rfl) noSpec_ok (p117_6 xs a b _ ?_ ?_ ?_ ?_ ?_ ?_)
  all_goals (intros; first
    | (refine bleB ?_; (try simp only [List.length_append, List.length_cons, List.length_nil]); omega)
    | (have e := nil_of ‹_›; subst e; rfl)
    | (simp only [List.append_assoc]; rfl)
    | rfl)
theorem put117_8 (xs : List AV) (a b : Int) (hl : xs.length ≤ 70368744177664) : CallsA Try.prog 117 [.sl 1 xs .sh, wA (a, b), .int .i64 8] [] (.sl 1 (xs ++ putL (a, b) 8) (.own [])) [] := by
  refine book_ok.pth (by kernel_rfl) noSpec_ok (p117_8 xs a b _ ?_ ?_ ?_ ?_ ?_ ?_)
  all_goals (intros; first
    | (refine bleB ?_; (try simp only [List.length_append, List.length_cons, List.length_nil]); omega)
    | (have e := nil_of ‹_›; subst e; rfl)
    | (simp only [List.append_assoc]; rfl)
    | rfl)
theorem put117_16 (xs : List AV) (a b : Int) (hl : xs.length ≤ 70368744177664) : CallsA Try.prog 117 [.sl 1 xs .sh, wA (a, b), .int .i64 16] [] (.sl 1 (xs ++ putL (a, b) 16) (.own [])) [] := by
  refine book_ok.pth (by kernel_rfl) noSpec_ok (p117_16 xs a b _ ?_ ?_ ?_ ?_ ?_ ?_)
  all_goals (intros; first
    | (refine bleB ?_; (try simp only [List.length_append, List.length_cons, List.length_nil]); omega)
    | (have e := nil_of ‹_›; subst e; rfl)
    | (simp only [List.append_assoc]; rfl)
    | rfl)
theorem put117 (xs : List AV) (a b : Int) (hl : xs.length ≤ 70368744177664) (n : Int) (hn : n ∈ sizeNs) : CallsA Try.prog 117 [.sl 1 xs .sh, wA (a, b), .int .i64 n] [] (.sl 1 (xs ++ putL (a, b) n) (.own [])) [] := by
  simp only [sizeNs, List.mem_cons, List.not_mem_nil, or_false] at hn
  rcases hn with rfl | rfl | rfl | rfl | rfl | rfl | rfl
  · exact put117_1 xs a b hl
  · exact put117_2 xs a b hl
  · exact put117_3 xs a b hl
  · exact put117_4 xs a b hl
  · exact put117_6 xs a b hl
  · exact put117_8 xs a b hl
  · exact put117_16 xs a b hl
theorem s117 : SumTOk Try.prog 117 S117 := put_of fun xs a b hl n hn => put117 xs a b hl n hn
theorem put118_1 (xs : List AV) (a b : Int) (hl : xs.length ≤ 70368744177664) : CallsA Try.prog 118 [.sl 1 xs .sh, wA (a, b), .int .i64 1] [] (.sl 1 (xs ++ putL (a, b) 1) (.own [])) [] := by
  refine book_ok.pth (by kernel_rfl) sp164_ok (p118_1 xs a b _ ?_ ?_ ?_ ?_ ?_ ?_)
  all_goals (intros; first
    | (refine bleB ?_; (try simp only [List.length_append, List.length_cons, List.length_nil]); omega)
    | (have e := nil_of ‹_›; subst e; rfl)
    | (simp only [List.append_assoc]; rfl)
    | rfl)
theorem put118_2 (xs : List AV) (a b : Int) (hl : xs.length ≤ 70368744177664) : CallsA Try.prog 118 [.sl 1 xs .sh, wA (a, b), .int .i64 2] [] (.sl 1 (xs ++ putL (a, b) 2) (.own [])) [] := by
  refine book_ok.pth (by kernel_rfl) sp164_ok (p118_2 xs a b _ ?_ ?_ ?_ ?_ ?_ ?_ ?_ ?_)
  all_goals (intros; first
    | (refine bleB ?_; (try simp only [List.length_append, List.length_cons, List.length_nil]); omega)
    | (have e := nil_of ‹_›; subst e; rfl)
    | (simp only [List.append_assoc]; rfl)
    | rfl)
theorem put118_3 (xs : List AV) (a b : Int) (hl : xs.length ≤ 70368744177664) : CallsA Try.prog 118 [.sl 1 xs .sh, wA (a, b), .int .i64 3] [] (.sl 1 (xs ++ putL (a, b) 3) (.own [])) [] := by
  refine book_ok.pth (by kernel_rfl) sp164_ok (p118_3 xs a b _ ?_ ?_ ?_ ?_ ?_ ?_ ?_ ?_ ?_ ?_)
  all_goals (intros; first
    | (refine bleB ?_; (try simp only [List.length_append, List.length_cons, List.length_nil]); omega)
    | (have e := nil_of ‹_›; subst e; rfl)
    | (simp only [List.append_assoc]; rfl)
    | rfl)
theorem put118_4 (xs : List AV) (a b : Int) (hl : xs.length ≤ 70368744177664) : CallsA Try.prog 118 [.sl 1 xs .sh, wA (a, b), .int .i64 4] [] (.sl 1 (xs ++ putL (a, b) 4) (.own [])) [] := by
  refine book_ok.pth (by kernel_rfl) sp164_ok (p118_4 xs a b _ ?_ ?_ ?_ ?_ ?_ ?_ ?_ ?_ ?_ ?_ ?_ ?_)
  all_goals (intros; first
    | (refine bleB ?_; (try simp only [List.length_append, List.length_cons, List.length_nil]); omega)
    | (have e := nil_of ‹_›; subst e; rfl)
    | (simp only [List.append_assoc]; rfl)
    | rfl)
theorem put118_6 (xs : List AV) (a b : Int) (hl : xs.length ≤ 70368744177664) : CallsA Try.prog 118 [.sl 1 xs .sh, wA (a, b), .int .i64 6] [] (.sl 1 (xs ++ putL (a, b) 6) (.own [])) [] := by
  refine book_ok.pth (by kernel_rfl) sp164_ok (p118_6 xs a b _ ?_ ?_ ?_ ?_ ?_ ?_ ?_ ?_ ?_ ?_ ?_ ?_ ?_ ?_ ?_ ?_)
  all_goals (intros; first
    | (refine bleB ?_; (try simp only [List.length_append, List.length_cons, List.length_nil]); omega)
    | (have e := nil_of ‹_›; subst e; rfl)
    | (simp only [List.append_assoc]; rfl)
    | rfl)
theorem put118_8 (xs : List AV) (a b : Int) (hl : xs.length ≤ 70368744177664) : CallsA Try.prog 118 [.sl 1 xs .sh, wA (a, b), .int .i64 8] [] (.sl 1 (xs ++ putL (a, b) 8) (.own [])) [] := by
  refine book_ok.pth (by kernel_rfl) sp164_ok (p118_8 xs a b _ ?_ ?_ ?_ ?_ ?_ ?_ ?_ ?_ ?_ ?_ ?_ ?_ ?_ ?_ ?_ ?_ ?_ ?_ ?_ ?_)
  all_goals (intros; first
    | (refine bleB ?_; (try simp only [List.length_append, List.length_cons, List.length_nil]); omega)
    | (have e := nil_of ‹_›; subst e; rfl)
    | (simp only [List.append_assoc]; rfl)
    | rfl)
theorem put118_16 (xs : List AV) (a b : Int) (hl : xs.length ≤ 70368744177664) : CallsA Try.prog 118 [.sl 1 xs .sh, wA (a, b), .int .i64 16] [] (.sl 1 (xs ++ putL (a, b) 16) (.own [])) [] := by
  refine book_ok.pth (by kernel_rfl) sp164_ok (p118_16 xs a b _ ?_ ?_ ?_ ?_ ?_ ?_ ?_ ?_ ?_ ?_ ?_ ?_ ?_ ?_ ?_ ?_ ?_ ?_ ?_ ?_ ?_ ?_ ?_ ?_ ?_ ?_ ?_ ?_ ?_ ?_ ?_ ?_ ?_ ?_ ?_ ?_)
  all_goals (intros; first
    | (refine bleB ?_; (try simp only [List.length_append, List.length_cons, List.length_nil]); omega)
    | (have e := nil_of ‹_›; subst e; rfl)
    | (simp only [List.append_assoc]; rfl)
    | rfl)
theorem put118 (xs : List AV) (a b : Int) (hl : xs.length ≤ 70368744177664) (n : Int) (hn : n ∈ sizeNs) : CallsA Try.prog 118 [.sl 1 xs .sh, wA (a, b), .int .i64 n] [] (.sl 1 (xs ++ putL (a, b) n) (.own [])) [] := by
  simp only [sizeNs, List.mem_cons, List.not_mem_nil, or_false] at hn
  rcases hn with rfl | rfl | rfl | rfl | rfl | rfl | rfl
  · exact put118_1 xs a b hl
  · exact put118_2 xs a b hl
  · exact put118_3 xs a b hl
  · exact put118_4 xs a b hl
  · exact put118_6 xs a b hl
  · exact put118_8 xs a b hl
  · exact put118_16 xs a b hl
theorem s118 : SumTOk Try.prog 118 S117 := put_of fun xs a b hl n hn => put118 xs a b hl n hn

end Go.Proofs.Ytdcijmigoefnjaa
