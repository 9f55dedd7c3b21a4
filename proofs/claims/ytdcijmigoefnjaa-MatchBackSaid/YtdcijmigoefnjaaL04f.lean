import Derived.Test.YtdcijmigoefnjaaD03
import Derived.Test.YtdcijmigoefnjaaP04f
import Derived.Test.YtdcijmigoefnjaaP10a
import Derived.Test.YtdcijmigoefnjaaPlB
import Derived.Test.YtdcijmigoefnjaaL10g
/- Numbers of 128 bits as bytes: Put keeps its contract. -/
set_option linter.unusedVariables false
set_option linter.unusedSimpArgs false
set_option maxRecDepth 100000
set_option maxHeartbeats 0
namespace Go.Proofs.Ytdcijmigoefnjaa
open Go Go.Ev

theorem nil_of {xs : List AV} (h : xs.isEmpty = true) : xs = [] := by simpa using h

theorem bleB {a : Nat} (h : a ≤ 140737488355328) : Nat.ble a 140737488355328 = true := by rw [Nat.ble_eq]; exact h

theorem sp164_ok : SpecTL Try.prog [(164, (book.all 100 3 164).T)] := ⟨Sum.T_ok (Book.all_ok book_ok 100 3 164), trivial⟩
theorem put117_1 (xs : List AV) (a b : Int) (hl : xs.length ≤ 70368744177664) : CallsA Try.prog 117 [.sl 1 xs .sh, wA (a, b), .int .i64 1] [] (.sl 1 (xs ++ putL (a, b) 1) (.own [])) [] := by
  refine book_ok.pth (by kernel_rfl) noSpec_ok (p117_1 xs a b _ ?_ ?_ ?_ ?_ ?_ ?_)
  all_goals (intros; first
    | (refine bleB ?_; (try simp only [List.length_append, List.length_cons, List.length_nil]); omega)
    | (have e := nil_of ‹_›; subst e; rfl)
    | (simp only [List.append_assoc]; rfl)
    | rfl)
theorem put117_2 (xs : List AV) (a b : Int) (hl : xs.length ≤ 70368744177664) : CallsA Try.prog 117 [.sl 1 xs .sh, wA (a, b), .int .i64 2] [] (.sl 1 (xs ++ putL (a, b) 2) (.own [])) [] := by
  refine book_ok.pth (by kernel_rfl) noSpec_ok (p117_2 xs a b _ ?_ ?_ ?_ ?_ ?_ ?_)
  all_goals (intros; first
    | (refine bleB ?_; (try simp only [List.length_append, List.length_cons, List.length_nil]); omega)
    | (have e := nil_of ‹_›; subst e; rfl)
    | (simp only [List.append_assoc]; rfl)
    | rfl)
theorem put117_3 (xs : List AV) (a b : Int) (hl : xs.length ≤ 70368744177664) : CallsA Try.prog 117 [.sl 1 xs .sh, wA (a, b), .int .i64 3] [] (.sl 1 (xs ++ putL (a, b) 3) (.own [])) [] := by
  refine book_ok.pth (by kernel_rfl) noSpec_ok (p117_3 xs a b _ ?_ ?_ ?_ ?_ ?_ ?_)
  all_goals (intros; first
    | (refine bleB ?_; (try simp only [List.length_append, List.length_cons, List.length_nil]); omega)
    | (have e := nil_of ‹_›; subst e; rfl)
    | (simp only [List.append_assoc]; rfl)
    | rfl)
theorem put117_4 (xs : List AV) (a b : Int) (hl : xs.length ≤ 70368744177664) : CallsA Try.prog 117 [.sl 1 xs .sh, wA (a, b), .int .i64 4] [] (.sl 1 (xs ++ putL (a, b) 4) (.own [])) [] := by
  refine book_ok.pth (by kernel_rfl) noSpec_ok (p117_4 xs a b _ ?_ ?_ ?_ ?_ ?_ ?_)
  all_goals (intros; first
    | (refine bleB ?_; (try simp only [List.length_append, List.length_cons, List.length_nil]); omega)
    | (have e := nil_of ‹_›; subst e; rfl)
    | (simp only [List.append_assoc]; rfl)
    | rfl)
theorem put117_6 (xs : List AV) (a b : Int) (hl : xs.length ≤ 70368744177664) : CallsA Try.prog 117 [.sl 1 xs .sh, wA (a, b), .int .i64 6] [] (.sl 1 (xs ++ putL (a, b) 6) (.own [])) [] := by
  refine book_ok.pth (by kernel_rfl) noSpec_ok (p117_6 xs a b _ ?_ ?_ ?_ ?_ ?_ ?_)
  all_goals (intros; first
    | (refine bleB ?_; (try simp only [List.length_append, List.length_cons, List.length_nil]); omega)
    | (have e := nil_of ‹_›; subst e; rfl)
    | (simp only [List.append_assoc]; rfl)
    | rfl)
theorem put117_8 (xs : List AV) (a b : Int) (hl : xs.length ≤ 70368744177664) : CallsA Try.prog 117 [.sl 1 xs .sh, wA (a, b), .int .i64 8] [] (.sl 1 (xs ++ putL (a, b) 8) (.own [])) [] := by
  refine book_ok.pth (by kernel_rfl) noSpec_ok (p117_8 xs a b _ ?_ ?_ ?_ ?_ ?_ ?_)
  all_goals (intros; first
    | (refine bleB ?_; (try simp only [List.length_append, List.length_cons, List.length_nil]); omega)
    | (have e := nil_of ‹_›; subst e; rfl)
    | (simp only [List.append_assoc]; rfl)
    | rfl)
theorem put117_16 (xs : List AV) (a b : Int) (hl : xs.length ≤ 70368744177664) : CallsA Try.prog 117 [.sl 1 xs .sh, wA (a, b), .int .i64 16] [] (.sl 1 (xs ++ putL (a, b) 16) (.own [])) [] := by
  refine book_ok.pth (by kernel_rfl) noSpec_ok (p117_16 xs a b _ ?_ ?_ ?_ ?_ ?_ ?_)
  all_goals (intros; first
    | (refine bleB ?_; (try simp only [List.length_append, List.length_cons, List.length_nil]); omega)
    | (have e := nil_of ‹_›; subst e; rfl)
    | (simp only [List.append_assoc]; rfl)
    | rfl)
theorem put117 (xs : List AV) (a b : Int) (hl : xs.length ≤ 70368744177664) (n : Int) (hn : n ∈ sizeNs) : CallsA Try.prog 117 [.sl 1 xs .sh, wA (a, b), .int .i64 n] [] (.sl 1 (xs ++ putL (a, b) n) (.own [])) [] := by
  simp only [sizeNs, List.mem_cons, List.not_mem_nil, or_false] at hn
  rcases hn with rfl | rfl | rfl | rfl | rfl | rfl | rfl
  · exact put117_1 xs a b hl
  · exact put117_2 xs a b hl
  · exact put117_3 xs a b hl
  · exact put117_4 xs a b hl
  · exact put117_6 xs a b hl
  · exact put117_8 xs a b hl
  · exact put117_16 xs a b hl
theorem put118_1 (xs : List AV) (a b : Int) (hl : xs.length ≤ 70368744177664) : CallsA Try.prog 118 [.sl 1 xs .sh, wA (a, b), .int .i64 1] [] (.sl 1 (xs ++ putL (a, b) 1) (.own [])) [] := by
  refine book_ok.pth (by kernel_rfl) sp164_ok (p118_1 xs a b _ ?_ ?_ ?_ ?_ ?_ ?_)
  all_goals (intros; first
    | (refine bleB ?_; (try simp only [List.length_append, List.length_cons, List.length_nil]); omega)
    | (have e := nil_of ‹_›; subst e; rfl)
    | (simp only [List.append_assoc]; rfl)
    | rfl)
theorem put118_2 (xs : List AV) (a b : Int) (hl : xs.length ≤ 70368744177664) : CallsA Try.prog 118 [.sl 1 xs .sh, wA (a, b), .int .i64 2] [] (.sl 1 (xs ++ putL (a, b) 2) (.own [])) [] := by
  refine book_ok.pth (by kernel_rfl) sp164_ok (p118_2 xs a b _ ?_ ?_ ?_ ?_ ?_ ?_ ?_ ?_)
  all_goals (intros; first
    | (refine bleB ?_; (try simp only [List.length_append, List.length_cons, List.length_nil]); omega)
    | (have e := nil_of ‹_›; subst e; rfl)
    | (simp only [List.append_assoc]; rfl)
    | rfl)
theorem put118_3 (xs : List AV) (a b : Int) (hl : xs.length ≤ 70368744177664) : CallsA Try.prog 118 [.sl 1 xs .sh, wA (a, b), .int .i64 3] [] (.sl 1 (xs ++ putL (a, b) 3) (.own [])) [] := by
  refine book_ok.pth (by kernel_rfl) sp164_ok (p118_3 xs a b _ ?_ ?_ ?_ ?_ ?_ ?_ ?_ ?_ ?_ ?_)
  all_goals (intros; first
    | (refine bleB ?_; (try simp only [List.length_append, List.length_cons, List.length_nil]); omega)
    | (have e := nil_of ‹_›; subst e; rfl)
    | (simp only [List.append_assoc]; rfl)
    | rfl)
theorem put118_4 (xs : List AV) (a b : Int) (hl : xs.length ≤ 70368744177664) : CallsA Try.prog 118 [.sl 1 xs .sh, wA (a, b), .int .i64 4] [] (.sl 1 (xs ++ putL (a, b) 4) (.own [])) [] := by
  refine book_ok.pth (by kernel_rfl) sp164_ok (p118_4 xs a b _ ?_ ?_ ?_ ?_ ?_ ?_ ?_ ?_ ?_ ?_ ?_ ?_)
  all_goals (intros; first
    | (refine bleB ?_; (try simp only [List.length_append, List.length_cons, List.length_nil]); omega)
    | (have e := nil_of ‹_›; subst e; rfl)
    | (simp only [List.append_assoc]; rfl)
    | rfl)
theorem put118_6 (xs : List AV) (a b : Int) (hl : xs.length ≤ 70368744177664) : CallsA Try.prog 118 [.sl 1 xs .sh, wA (a, b), .int .i64 6] [] (.sl 1 (xs ++ putL (a, b) 6) (.own [])) [] := by
  refine book_ok.pth (by kernel_rfl) sp164_ok (p118_6 xs a b _ ?_ ?_ ?_ ?_ ?_ ?_ ?_ ?_ ?_ ?_ ?_ ?_ ?_ ?_ ?_ ?_)
  all_goals (intros; first
    | (refine bleB ?_; (try simp only [List.length_append, List.length_cons, List.length_nil]); omega)
    | (have e := nil_of ‹_›; subst e; rfl)
    | (simp only [List.append_assoc]; rfl)
    | rfl)
theorem put118_8 (xs : List AV) (a b : Int) (hl : xs.length ≤ 70368744177664) : CallsA Try.prog 118 [.sl 1 xs .sh, wA (a, b), .int .i64 8] [] (.sl 1 (xs ++ putL (a, b) 8) (.own [])) [] := by
  refine book_ok.pth (by kernel_rfl) sp164_ok (p118_8 xs a b _ ?_ ?_ ?_ ?_ ?_ ?_ ?_ ?_ ?_ ?_ ?_ ?_ ?_ ?_ ?_ ?_ ?_ ?_ ?_ ?_)
  all_goals (intros; first
    | (refine bleB ?_; (try simp only [List.length_append, List.length_cons, List.length_nil]); omega)
    | (have e := nil_of ‹_›; subst e; rfl)
    | (simp only [List.append_assoc]; rfl)
    | rfl)
theorem put118_16 (xs : List AV) (a b : Int) (hl : xs.length ≤ 70368744177664) : CallsA Try.prog 118 [.sl 1 xs .sh, wA (a, b), .int .i64 16] [] (.sl 1 (xs ++ putL (a, b) 16) (.own [])) [] := by
  refine book_ok.pth (by kernel_rfl) sp164_ok (p118_16 xs a b _ ?_ ?_ ?_ ?_ ?_ ?_ ?_ ?_ ?_ ?_ ?_ ?_ ?_ ?_ ?_ ?_ ?_ ?_ ?_ ?_ ?_ ?_ ?_ ?_ ?_ ?_ ?_ ?_ ?_ ?_ ?_ ?_ ?_ ?_ ?_ ?_)
  all_goals (intros; first
    | (refine bleB ?_; (try simp only [List.length_append, List.length_cons, List.length_nil]); omega)
    | (have e := nil_of ‹_›; subst e; rfl)
    | (simp only [List.append_assoc]; rfl)
    | rfl)
theorem put118 (xs : List AV) (a b : Int) (hl : xs.length ≤ 70368744177664) (n : Int) (hn : n ∈ sizeNs) : CallsA Try.prog 118 [.sl 1 xs .sh, wA (a, b), .int .i64 n] [] (.sl 1 (xs ++ putL (a, b) n) (.own [])) [] := by
  simp only [sizeNs, List.mem_cons, List.not_mem_nil, or_false] at hn
  rcases hn with rfl | rfl | rfl | rfl | rfl | rfl | rfl
  · exact put118_1 xs a b hl
  · exact put118_2 xs a b hl
  · exact put118_3 xs a b hl
  · exact put118_4 xs a b hl
  · exact put118_6 xs a b hl
  · exact put118_8 xs a b hl
  · exact put118_16 xs a b hl
end Go.Proofs.Ytdcijmigoefnjaa

/- Chapter 10: what a part is, and whether it may be: contracts. -/
set_option linter.unusedVariables false
set_option linter.unusedSimpArgs false
set_option maxRecDepth 100000
set_option maxHeartbeats 0
namespace Go.Proofs.Ytdcijmigoefnjaa
open Go Go.Ev

theorem inW_less (a b : Int × Int) : inW (lessW a b) = true := by
  unfold inW lessW; rw [inU_bits, inU_bits]; rfl
theorem low_all : ((List.range 24).all fun j => lowOk (bitsOf (j : Int)) && sizeOk (sizeOf (j : Int))) = true := by kernel_rfl
theorem lowOk_f {f : Int} (h : isF f = true) : lowOk (bitsOf f) = true := by
  obtain ⟨j, hj, rfl⟩ := isF_cases h
  have := List.all_eq_true.1 low_all j (List.mem_range.2 hj)
  rw [Bool.and_eq_true] at this; exact this.1
theorem sizeOk_f {f : Int} (h : isF f = true) : sizeOk (sizeOf f) = true := by
  obtain ⟨j, hj, rfl⟩ := isF_cases h
  have := List.all_eq_true.1 low_all j (List.mem_range.2 hj)
  rw [Bool.and_eq_true] at this; exact this.2
theorem zero_or {a b : Int} (h : inW (a, b) = true) : ieq (ibits .or .u64 a b) 0 = zeroW (a, b) := by
  simp only [inW, Bool.and_eq_true, inU_iff] at h
  obtain ⟨⟨a0, a1⟩, b0, b1⟩ := h
  obtain ⟨m, rfl⟩ : ∃ m : Nat, a = m := ⟨a.toNat, by omega⟩
  obtain ⟨n, rfl⟩ : ∃ n : Nat, b = n := ⟨b.toNat, by omega⟩
  have hm : m < 2 ^ 64 := by omega
  have hn : n < 2 ^ 64 := by omega
  rw [ibits_or m n hm hn (Nat.or_lt_two_pow hm hn)]
  have e : (m ||| n = 0) ↔ (m = 0 ∧ n = 0) := Nat.or_eq_zero_iff
  simp only [zeroW, ieq]
  cases h1 : ((m : Int) == 0) <;> cases h2 : ((n : Int) == 0) <;> simp_all <;> omega

theorem s67 : SumTOk Try.prog 67 (S68 (ibits .andNot .u64)) := sum0_ok fun x _ => book_ok.pth (by kernel_rfl) noSpec_ok (p67 x.1.1 x.1.2 x.2.1 x.2.2 _ rfl)
theorem s124 : SumTOk Try.prog 124 (S68 (ibits .andNot .u64)) := sum0_ok fun x _ => book_ok.pth (by kernel_rfl) noSpec_ok (p124 x.1.1 x.1.2 x.2.1 x.2.2 _ rfl)
theorem s125 : SumTOk Try.prog 125 S125u := sum0_ok fun x h => book_ok.pth (by kernel_rfl) noSpec_ok (p125 x.1 x.2 _ (by
  have h : inW (x.1, x.2) = true := h
  rw [zero_or h]; rfl))
theorem s123 : SumTOk Try.prog 123 S125u := sum0_ok fun x h => book_ok.pth (by kernel_rfl) noSpec_ok (p123 x.1 x.2 _
  (fun h => by show _ = (AV.bool (zeroW x), []); unfold zeroW; rw [h]; rfl) (fun h => by show _ = (AV.bool (zeroW x), []); unfold zeroW; rw [h]; rfl))
theorem spW_ok : SpecTL Try.prog spW := ⟨s67, s124, s125, s123, s108, s110, s31, s53, s32, s47, s48, s49, s50, s51, s27, s46, s26, s45, trivial⟩

theorem s165 : SumTOk Try.prog 165 S165 := sumS_ok fun x h => by
  obtain ⟨⟨a, b⟩, x⟩ := x
  simp only [Bool.and_eq_true] at h
  refine book_ok.pth (by kernel_rfl) spW_ok (p165 a b x _ (by rw [lowOk_f h.1]; rfl) (inW_less (a, b) (lowW (bitsOf x.1))) rfl)
theorem sp121_ok : SpecTL Try.prog sp121 := ⟨s165, spW_ok⟩
theorem s121 : SumTOk Try.prog 121 S121 := sum0_ok fun x h => by
  obtain ⟨f, m, ⟨a, b⟩, c, d⟩ := x
  simp only [Bool.and_eq_true, inO] at h
  obtain ⟨h1, h2, h3⟩ := h
  have e1 : (isF f && inW (a, b)) = true := by rw [h1, h2]; rfl
  have e2 : (isF f && inW (c, d)) = true := by rw [h1, h3]; rfl
  have e3 : inW (ibits .andNot .u64 a c, ibits .andNot .u64 b d) = true := inW_less (a, b) (c, d)
  refine book_ok.pth (by kernel_rfl) sp121_ok (p121 f a b c d m _ e1 ?_ ?_ (fun _ _ => e2) ?_ (fun _ _ _ => h3) ?_ (fun _ _ _ _ => e3) ?_ ?_)
  all_goals (intros; show (AV.int _ _, _) = (AV.int _ (formO (f, m, (a, b), (c, d))), _); simp_all [formO, lessW])
theorem sp65_ok : SpecTL Try.prog sp65 := ⟨s121, spW_ok⟩
theorem i00 : ieq 0 0 = true := rfl
theorem i70 : ieq 7 0 = false := rfl
theorem i80 : ieq 8 0 = false := rfl
theorem i50 : ieq 5 0 = false := rfl
theorem s65 : SumTOk Try.prog 65 S65 := sum0_ok fun x h => by
  obtain ⟨f, m, ⟨a, b⟩, c, d⟩ := x
  have h0 : inO (f, m, (a, b), (c, d)) = true := h
  have h2 : inW (c, d) = true := by simp only [inO, Bool.and_eq_true] at h0; exact h0.2
  refine book_ok.pth (by kernel_rfl) sp65_ok (p65 f a b c d m _ ?_ ?_ ?_ ?_ (fun _ _ => h2) ?_ ?_ ?_)
  all_goals intros
  all_goals first
    | (rw [h0]; simp_all)
    | (show (AV.bool _, _) = (AV.bool (rightO (f, m, (a, b), (c, d))), _); simp_all [rightO])
theorem s76 : SumTOk Try.prog 76 S65 := sum0_ok fun x h => by
  obtain ⟨f, m, ⟨a, b⟩, c, d⟩ := x
  have h0 : inO (f, m, (a, b), (c, d)) = true := h
  simp only [inO, Bool.and_eq_true] at h0
  obtain ⟨h1, h2⟩ := h0
  have e1 := inW_less (a, b) (allW f)
  have e2 := inW_less (c, d) (allW f)
  have e3 := inW_less (a, b) (c, d)
  refine book_ok.pth (by kernel_rfl) sp65_ok (p76 f a b c d m _ ?_ ?_ ?_ ?_ ?_ ?_ ?_ ?_ ?_ ?_ ?_ ?_ ?_)
  all_goals intros
  all_goals first
    | exact e1
    | exact e2
    | exact e3
    | exact h2
    | (rw [lowOk_f (by simp_all)]; rfl)
    | (show (AV.bool _, _) = (AV.bool (rightO (f, m, (a, b), (c, d))), _); (cases hz : zeroW (ibits .andNot .u64 a c, ibits .andNot .u64 b d)) <;> simp_all [rightO, formO, beyond, lessW, allW, lowW, i00, i70, i80, i50])

theorem numOk_size {n s : Int} (h : numOk n s = true) : (numNs.any fun m => ieq s m) = true := by
  simp only [numOk, Bool.and_eq_true, Bool.or_eq_true] at h
  simp only [numNs, List.any_cons, List.any_nil, Bool.or_false, Bool.or_eq_true]
  rcases h.2 with h | h | h
  · exact .inl h.1
  · exact .inr (.inl h.1)
  · exact .inr (.inr h.1)
theorem sp176_ok : SpecTL Try.prog sp176 := ⟨Sum.T_ok (Book.all_ok book_ok 100 3 193), trivial⟩
theorem shr_zero {n : Int} (h : 0 ≤ n) (k : Nat) (hk : k ≤ 64) : ieq (ishr .i64 n (k : Int)) 0 = ilt n ((2 ^ k : Nat) : Int) := by
  have e : ishr .i64 n (k : Int) = n / ((2 ^ k : Nat) : Int) := by
    unfold ishr
    have e : min ((k : Int).toNat) IntKind.i64.bits = k := by simp [IntKind.bits]; omega
    rw [e, Int.fdiv_eq_ediv_of_nonneg _ (by exact_mod_cast Nat.zero_le _)]
    congr 1
  obtain ⟨m, rfl⟩ : ∃ m : Nat, n = m := ⟨n.toNat, by omega⟩
  have e2 : ((m : Int) / ((2 ^ k : Nat) : Int)) = ((m / 2 ^ k : Nat) : Int) := rfl
  have hp := Nat.two_pow_pos k
  rw [e, e2]
  by_cases hl : m < 2 ^ k
  · rw [Nat.div_eq_of_lt hl]
    have : ((m : Int) < ((2 ^ k : Nat) : Int)) := by exact_mod_cast hl
    simp only [ieq, ilt, this, decide_true]; rfl
  · have h1 : 0 < m / 2 ^ k := Nat.div_pos (by omega) hp
    have h2 : ¬ ((m : Int) < ((2 ^ k : Nat) : Int)) := by intro h; exact hl (by exact_mod_cast h)
    have h3 : ¬ (((m / 2 ^ k : Nat) : Int) = 0) := by omega
    simp only [ieq, ilt, h2, decide_false, beq_eq_false_iff_ne]; exact h3
theorem ile_lt {a b c : Int} (h : c = b + 1) : ile a b = ilt a c := by
  unfold ile ilt; rw [h]; exact decide_eq_decide.2 (by omega)
theorem s176 : SumTOk Try.prog 176 S176 := sum0_ok fun x hx => by
  obtain ⟨n, s⟩ := x
  show CallsA Try.prog 176 [.int .i64 n, .int .i64 s] [] (.bool (numOk n s)) []
  have e1 := fun h : ile 0 n = true => shr_zero (ile_iff'.1 h) 8 (by omega)
  have e2 := fun h : ile 0 n = true => shr_zero (ile_iff'.1 h) 16 (by omega)
  have e4 := fun h : ile 0 n = true => shr_zero (ile_iff'.1 h) 32 (by omega)
  refine num_cases (P := fun s => CallsA Try.prog 176 [.int .i64 n, .int .i64 s] [] (.bool (numOk n s)) []) ?_ ?_ ?_ hx
  · refine book_ok.pth (by kernel_rfl) sp176_ok (p176_1 n _ (fun h => ?_) (fun h => ?_))
    · refine congrArg (fun b => (AV.bool b, ([] : List (List AV)))) ?_
      show (bif ile 0 n then ieq (ishr .i64 n ((8 : Nat) : Int)) 0 else false) = _
      rw [e1 h, h]; unfold numOk; rw [h]; simp [ieq]
    · refine congrArg (fun b => (AV.bool b, ([] : List (List AV)))) ?_
      unfold numOk; rw [h]; rfl
  · refine book_ok.pth (by kernel_rfl) sp176_ok (p176_2 n _ (fun h => ?_) (fun h => ?_))
    · refine congrArg (fun b => (AV.bool b, ([] : List (List AV)))) ?_
      show (bif ile 0 n then ieq (ishr .i64 n ((16 : Nat) : Int)) 0 else false) = _
      rw [e2 h, h]; unfold numOk; rw [h]; simp [ieq]
    · refine congrArg (fun b => (AV.bool b, ([] : List (List AV)))) ?_
      unfold numOk; rw [h]; rfl
  · refine book_ok.pth (by kernel_rfl) sp176_ok (p176_4 n _ (fun h => ?_) (fun h => ?_))
    · refine congrArg (fun b => (AV.bool b, ([] : List (List AV)))) ?_
      show (bif ile 0 n then ieq (ishr .i64 n ((32 : Nat) : Int)) 0 else false) = _
      rw [e4 h, h]; unfold numOk; rw [h]; simp [ieq]
    · refine congrArg (fun b => (AV.bool b, ([] : List (List AV)))) ?_
      unfold numOk; rw [h]; rfl
theorem s177 : SumTOk Try.prog 177 S176 := sum0_ok fun x hx => by
  obtain ⟨n, s⟩ := x
  show CallsA Try.prog 177 [.int .i64 n, .int .i64 s] [] (.bool (numOk n s)) []
  refine num_cases (P := fun s => CallsA Try.prog 177 [.int .i64 n, .int .i64 s] [] (.bool (numOk n s)) []) ?_ ?_ ?_ hx
  · refine book_ok.pth (by kernel_rfl) sp176_ok (p177_1 n _ (fun h => ?_) (fun h => ?_))
    · refine congrArg (fun b => (AV.bool b, ([] : List (List AV)))) ?_
      rw [ile_lt (a := n) (b := 255) (c := 256) (by omega), h]; unfold numOk; rw [h]; simp [ieq]
    · refine congrArg (fun b => (AV.bool b, ([] : List (List AV)))) ?_
      unfold numOk; rw [h]; rfl
  · refine book_ok.pth (by kernel_rfl) sp176_ok (p177_2 n _ (fun h => ?_) (fun h => ?_))
    · refine congrArg (fun b => (AV.bool b, ([] : List (List AV)))) ?_
      rw [ile_lt (a := n) (b := 65535) (c := 65536) (by omega), h]; unfold numOk; rw [h]; simp [ieq]
    · refine congrArg (fun b => (AV.bool b, ([] : List (List AV)))) ?_
      unfold numOk; rw [h]; rfl
  · refine book_ok.pth (by kernel_rfl) sp176_ok (p177_4 n _ (fun h => ?_) (fun h => ?_))
    · refine congrArg (fun b => (AV.bool b, ([] : List (List AV)))) ?_
      rw [ile_lt (a := n) (b := 4294967295) (c := 4294967296) (by omega), h]; unfold numOk; rw [h]; simp [ieq]
    · refine congrArg (fun b => (AV.bool b, ([] : List (List AV)))) ?_
      unfold numOk; rw [h]; rfl
theorem spN_ok : SpecTL Try.prog spN := ⟨s176, s177, trivial⟩

theorem bleB' {a : Nat} (h : a ≤ 140737488355328) : Nat.ble a 140737488355328 = true := by rw [Nat.ble_eq]; exact h
theorem num_of {f : FuncId} (h : ∀ (xs : List AV) (n s : Int), xs.length ≤ 70368744177664 → numOk n s = true → (numNs.any fun m => ieq s m) = true → CallsA Try.prog f [.sl 1 xs .sh, .int .i64 n, .int .i64 s] [] (.sl 1 (xs ++ numL n s) (.own [])) []) : SumTOk Try.prog f S133 := by
  refine sumW_ok fun x hx => ?_
  obtain ⟨xs, n, s⟩ := x
  simp only [Bool.and_eq_true, smallB, Nat.ble_eq] at hx
  exact h xs n s hx.2 hx.1 (numOk_size hx.1)
theorem s133 : SumTOk Try.prog 133 S133 := num_of fun xs n s hl hn hs => by
  have tk : List.take ((xs.length : Int).toNat - 0) xs = xs := by rw [Int.toNat_natCast, Nat.sub_zero, List.take_length]
  have i1 : inR (xs.length : Int) (xs.length + 1) = true := inR_iff.2 ⟨by omega, by omega⟩
  have i2 : inR (xs.length : Int) ((xs.length : Int).toNat + 1) = true := inR_iff.2 ⟨by omega, by omega⟩
  have i3 : (true && (xs.length : Int).toNat == (xs.length : Int).toNat) = true := by simp
  revert hn
  refine num_cases (P := fun s => numOk n s = true → CallsA Try.prog 133 [.sl 1 xs .sh, .int .i64 n, .int .i64 s] [] (.sl 1 (xs ++ numL n s) (.own [])) []) (fun hn => ?_) (fun hn => ?_) (fun hn => ?_) hs
  · exact book_ok.pth (by kernel_rfl) spN_ok (p133_1 xs n _ (by rw [hn]; rfl) i1 i2 i3 (bleB' (by rw [tk]; omega)) (bleB' (by rw [tk]; omega)) (by rw [tk]; rfl))
  · exact book_ok.pth (by kernel_rfl) spN_ok (p133_2 xs n _ (by rw [hn]; rfl) i1 i2 i3 (bleB' (by rw [tk]; omega)) (bleB' (by rw [tk]; omega)) (by rw [tk]; rfl))
  · exact book_ok.pth (by kernel_rfl) spN_ok (p133_4 xs n _ (by rw [hn]; rfl) i1 i2 i3 (bleB' (by rw [tk]; omega)) (bleB' (by rw [tk]; omega)) (by rw [tk]; rfl))
theorem s134 : SumTOk Try.prog 134 S133 := num_of fun xs n s hl hn hs => by
  revert hn
  refine num_cases (P := fun s => numOk n s = true → CallsA Try.prog 134 [.sl 1 xs .sh, .int .i64 n, .int .i64 s] [] (.sl 1 (xs ++ numL n s) (.own [])) []) (fun hn => ?_) (fun hn => ?_) (fun hn => ?_) hs
  · refine book_ok.pth (by kernel_rfl) spN_ok (p134_1 xs n _ ?_ ?_ ?_ ?_ ?_ ?_ ?_ ?_)
    all_goals (intros; first
      | (exfalso; rename_i h; rw [hn] at h; cases h; done)
      | (refine bleB' ?_; (try simp only [List.length_append, List.length_cons, List.length_nil]); omega)
      | (have e := nil_of ‹_›; subst e; rfl)
      | (simp only [List.append_assoc]; rfl)
      | rfl)
  · refine book_ok.pth (by kernel_rfl) spN_ok (p134_2 xs n _ ?_ ?_ ?_ ?_ ?_ ?_ ?_ ?_ ?_ ?_)
    all_goals (intros; first
      | (exfalso; rename_i h; rw [hn] at h; cases h; done)
      | (refine bleB' ?_; (try simp only [List.length_append, List.length_cons, List.length_nil]); omega)
      | (have e := nil_of ‹_›; subst e; rfl)
      | (simp only [List.append_assoc]; rfl)
      | rfl)
  · refine book_ok.pth (by kernel_rfl) spN_ok (p134_4 xs n _ ?_ ?_ ?_ ?_ ?_ ?_ ?_ ?_ ?_ ?_ ?_ ?_ ?_ ?_)
    all_goals (intros; first
      | (exfalso; rename_i h; rw [hn] at h; cases h; done)
      | (refine bleB' ?_; (try simp only [List.length_append, List.length_cons, List.length_nil]); omega)
      | (have e := nil_of ‹_›; subst e; rfl)
      | (simp only [List.append_assoc]; rfl)
      | rfl)

end Go.Proofs.Ytdcijmigoefnjaa
