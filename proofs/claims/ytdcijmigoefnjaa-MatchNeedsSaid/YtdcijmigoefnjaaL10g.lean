import Derived.Test.YtdcijmigoefnjaaD03
import Derived.Test.YtdcijmigoefnjaaP10a
import Derived.Test.YtdcijmigoefnjaaL04g
import Derived.Test.YtdcijmigoefnjaaL03
/- Bytes and numbers: what chapters share. -/
set_option linter.unusedVariables false
set_option linter.unusedSimpArgs false
set_option maxRecDepth 100000
set_option maxHeartbeats 0
namespace Go.Proofs.Ytdcijmigoefnjaa
open Go Go.Ev
theorem inU_iff {n : Int} : inU n = true ↔ 0 ≤ n ∧ n < 18446744073709551616 := by simp [inU, ile, ilt]
theorem inU_wrap (n : Int) : inU (IntKind.u64.wrap n) = true := by
  rw [IntKind.wrap_u64, inU_iff]; omega
theorem inU_bits (op : BinOp) (a b : Int) : inU (ibits op .u64 a b) = true := by
  rw [ibits_eq]
  cases op <;> exact inU_wrap _
theorem isB_iff {v : AV} : isB v = true ↔ isByte v := by
  constructor
  · intro h
    cases v <;> try (cases h; done)
    rename_i k n
    cases k <;> try (cases h; done)
    simp only [isB, inR_iff] at h
    exact ⟨n.toNat, by omega, by rw [Int.toNat_of_nonneg h.1]⟩
  · rintro ⟨z, hz, rfl⟩
    simp only [isB, inR_iff]; omega
theorem bytB_iff {xs : List AV} : bytB xs = true ↔ byteL xs := by
  unfold bytB byteL
  rw [List.all_eq_true]
  exact ⟨fun h x hx => isB_iff.1 (h x hx), fun h x hx => isB_iff.2 (h x hx)⟩
theorem byteL_get {xs : List AV} (h : byteL xs) {i : Nat} (hi : i < xs.length) : ∃ z : Nat, z < 256 ∧ xs.getD i .unk = .int .u8 (z : Int) := by
  rw [List.getD_eq_getElem?_getD, List.getElem?_eq_getElem hi]
  exact h _ (List.getElem_mem hi)
theorem wrapI {z : Nat} (h : z < 256) : IntKind.i64.wrap (z : Int) = (z : Int) := by rw [IntKind.wrap_i64]; omega
theorem addI {z : Nat} (h : z < 256) : iadd .i64 4 (z : Int) = 4 + (z : Int) := iadd_small (by omega) (by omega)
theorem shr1 {z : Nat} (h : z < 256) : ishr .u8 (z : Int) 1 = (z : Int) / 2 := by
  unfold ishr; rw [Int.fdiv_eq_ediv_of_nonneg _ (by decide)]; simp [IntKind.bits]
theorem and1 {z : Nat} (h : z < 256) : ibits .and .u8 (z : Int) 1 = (z : Int) % 2 := by
  have : ∀ i : Fin 256, ibits .and .u8 (i.val : Int) 1 = (i.val : Int) % 2 := by decide +kernel
  exact this ⟨z, h⟩
theorem half {z : Nat} (h : z < 256) : IntKind.i64.wrap ((z : Int) / 2) = (z : Int) / 2 := by rw [IntKind.wrap_i64]; omega
theorem s115t {f : FuncId} (h : SumTOk Try.prog f S115) : SumTOk Try.prog f S115t := by
  refine sumW_ok fun x hx => ?_
  obtain ⟨xs, n⟩ := x
  simp only [Bool.and_eq_true] at hx
  obtain ⟨h1, h2, h3, h4⟩ := hx
  have e : ile n (xs.length : Int) = true := h4
  have this : CallsA Try.prog f [.sl 1 xs .sh, .int .i64 n] [] (bif ile n (xs.length : Int) then .tup [wA (getHi xs n, getLo xs n), .bool true] else .tup [wA (0, 0), .bool false]) [] := by
    have t := h [.sl 1 xs .sh, .int .i64 n] [] _ (show ((S115 [.sl 1 xs .sh, .int .i64 n] []).Ret _) from ⟨rfl, by simp only [Bool.and_eq_true]; exact ⟨h1, h2, h3⟩, rfl⟩)
    rw [treeMap_val] at t
    exact t
  rw [e] at this
  exact this
end Go.Proofs.Ytdcijmigoefnjaa

/- Chapter 04: the lowest bits. -/
set_option linter.unusedVariables false
set_option maxRecDepth 100000
set_option maxHeartbeats 0
namespace Go.Proofs.Ytdcijmigoefnjaa
open Go Go.Ev

theorem low108 : lowNs.map (fun n => book.all 1000 6 108 [.int .i64 n] []) = lowNs.map (fun n => some (wA (lowW n), [])) := by kernel_rfl
theorem low110_2 : book.all 1000 6 110 [.int .i64 2] [] = some (wA (lowW 2), []) := by kernel_rfl
theorem low110_3 : book.all 1000 6 110 [.int .i64 3] [] = some (wA (lowW 3), []) := by kernel_rfl
theorem low110_6 : book.all 1000 6 110 [.int .i64 6] [] = some (wA (lowW 6), []) := by kernel_rfl
theorem low110_8 : book.all 1000 6 110 [.int .i64 8] [] = some (wA (lowW 8), []) := by kernel_rfl
theorem low110_13 : book.all 1000 6 110 [.int .i64 13] [] = some (wA (lowW 13), []) := by kernel_rfl
theorem low110_16 : book.all 1000 6 110 [.int .i64 16] [] = some (wA (lowW 16), []) := by kernel_rfl
theorem low110_20 : book.all 1000 6 110 [.int .i64 20] [] = some (wA (lowW 20), []) := by kernel_rfl
theorem low110_32 : book.all 1000 6 110 [.int .i64 32] [] = some (wA (lowW 32), []) := by kernel_rfl
theorem low110_48 : book.all 1000 6 110 [.int .i64 48] [] = some (wA (lowW 48), []) := by kernel_rfl
theorem low110_64 : book.all 1000 6 110 [.int .i64 64] [] = some (wA (lowW 64), []) := by kernel_rfl
theorem low110_128 : book.all 1000 6 110 [.int .i64 128] [] = some (wA (lowW 128), []) := by kernel_rfl

theorem low_of {f : FuncId} (h : ∀ n ∈ lowNs, CallsA Try.prog f [.int .i64 n] [] (wA (lowW n)) []) : SumTOk Try.prog f S108 := by
  intro a p t ht
  unfold S108 at ht
  split at ht
  · obtain ⟨h1, h2⟩ := ht
    cases h2
    simp only [Bool.and_eq_true, decide_eq_true_eq, lowOk, List.any_eq_true, ieq, beq_iff_eq] at h1
    obtain ⟨rfl, m, hm, rfl⟩ := h1
    exact h _ hm
  · exact ht.elim

theorem s108 : SumTOk Try.prog 108 S108 := low_of fun n hn => Book.all_ok book_ok 1000 6 108 _ [] _ [] (List.map_inj_left.1 low108 n hn)
theorem s110 : SumTOk Try.prog 110 S108 := low_of fun n hn => by
  simp only [lowNs, List.mem_cons, List.not_mem_nil, or_false] at hn
  rcases hn with rfl | rfl | rfl | rfl | rfl | rfl | rfl | rfl | rfl | rfl | rfl
  · exact Book.all_ok book_ok 1000 6 110 _ [] _ [] low110_2
  · exact Book.all_ok book_ok 1000 6 110 _ [] _ [] low110_3
  · exact Book.all_ok book_ok 1000 6 110 _ [] _ [] low110_6
  · exact Book.all_ok book_ok 1000 6 110 _ [] _ [] low110_8
  · exact Book.all_ok book_ok 1000 6 110 _ [] _ [] low110_13
  · exact Book.all_ok book_ok 1000 6 110 _ [] _ [] low110_16
  · exact Book.all_ok book_ok 1000 6 110 _ [] _ [] low110_20
  · exact Book.all_ok book_ok 1000 6 110 _ [] _ [] low110_32
  · exact Book.all_ok book_ok 1000 6 110 _ [] _ [] low110_48
  · exact Book.all_ok book_ok 1000 6 110 _ [] _ [] low110_64
  · exact Book.all_ok book_ok 1000 6 110 _ [] _ [] low110_128

end Go.Proofs.Ytdcijmigoefnjaa

/- Chapter 04: what its functions do (printed by program). -/
set_option linter.unusedVariables false
set_option maxRecDepth 100000
set_option maxHeartbeats 0
namespace Go.Proofs.Ytdcijmigoefnjaa
open Go Go.Ev

theorem p68 (a b c d : Int) (r : AV × List (List AV)) (k0 : ((AV.agg [zU (ibits BinOp.and zK a c), zU (ibits BinOp.and zK b d)], [])) = r) : Goes (runP (book.envP 68 noSpec 100 noLoops) Try.f68 [wA (a, b), wA (c, d)] [] .z) r :=
  Goes.of_eq (t' := .ret ((AV.agg [zU (ibits BinOp.and zK a c), zU (ibits BinOp.and zK b d)], []))) (by kernel_rfl) (Goes.leafE (k0))
end Go.Proofs.Ytdcijmigoefnjaa

/- Chapter 04: headers: contracts. -/
set_option linter.unusedVariables false
set_option linter.unusedSimpArgs false
set_option maxRecDepth 100000
set_option maxHeartbeats 0
namespace Go.Proofs.Ytdcijmigoefnjaa
open Go Go.Ev

/-! headers -/
theorem s68 : SumTOk Try.prog 68 (S68 (ibits .and .u64)) := sum0_ok fun x _ => book_ok.pth (by kernel_rfl) noSpec_ok (p68 x.1.1 x.1.2 x.2.1 x.2.2 _ rfl)
end Go.Proofs.Ytdcijmigoefnjaa

/- Chapter 10: what a part is, and whether it may be: contracts. -/
set_option linter.unusedVariables false
set_option linter.unusedSimpArgs false
set_option maxRecDepth 100000
set_option maxHeartbeats 0
namespace Go.Proofs.Ytdcijmigoefnjaa
open Go Go.Ev

theorem inW_less (a b : Int × Int) : inW (lessW a b) = true := by
  unfold inW lessW; rw [inU_bits, inU_bits]; rfl
theorem low_all : ((List.range 24).all fun j => lowOk (bitsOf (j : Int)) && sizeOk (sizeOf (j : Int))) = true := by kernel_rfl
theorem lowOk_f {f : Int} (h : isF f = true) : lowOk (bitsOf f) = true := by
  obtain ⟨j, hj, rfl⟩ := isF_cases h
  have := List.all_eq_true.1 low_all j (List.mem_range.2 hj)
  rw [Bool.and_eq_true] at this; exact this.1
theorem zero_or {a b : Int} (h : inW (a, b) = true) : ieq (ibits .or .u64 a b) 0 = zeroW (a, b) := by
  simp only [inW, Bool.and_eq_true, inU_iff] at h
  obtain ⟨⟨a0, a1⟩, b0, b1⟩ := h
  obtain ⟨m, rfl⟩ : ∃ m : Nat, a = m := ⟨a.toNat, by omega⟩
  obtain ⟨n, rfl⟩ : ∃ n : Nat, b = n := ⟨b.toNat, by omega⟩
  have hm : m < 2 ^ 64 := by omega
  have hn : n < 2 ^ 64 := by omega
  rw [ibits_or m n hm hn (Nat.or_lt_two_pow hm hn)]
  have e : (m ||| n = 0) ↔ (m = 0 ∧ n = 0) := Nat.or_eq_zero_iff
  simp only [zeroW, ieq]
  cases h1 : ((m : Int) == 0) <;> cases h2 : ((n : Int) == 0) <;> simp_all <;> omega

theorem s67 : SumTOk Try.prog 67 (S68 (ibits .andNot .u64)) := sum0_ok fun x _ => book_ok.pth (by kernel_rfl) noSpec_ok (p67 x.1.1 x.1.2 x.2.1 x.2.2 _ rfl)
theorem s124 : SumTOk Try.prog 124 (S68 (ibits .andNot .u64)) := sum0_ok fun x _ => book_ok.pth (by kernel_rfl) noSpec_ok (p124 x.1.1 x.1.2 x.2.1 x.2.2 _ rfl)
theorem s125 : SumTOk Try.prog 125 S125u := sum0_ok fun x h => book_ok.pth (by kernel_rfl) noSpec_ok (p125 x.1 x.2 _ (by
  have h : inW (x.1, x.2) = true := h
  rw [zero_or h]; rfl))
theorem s123 : SumTOk Try.prog 123 S125u := sum0_ok fun x h => book_ok.pth (by kernel_rfl) noSpec_ok (p123 x.1 x.2 _
  (fun h => by show _ = (AV.bool (zeroW x), []); unfold zeroW; rw [h]; rfl) (fun h => by show _ = (AV.bool (zeroW x), []); unfold zeroW; rw [h]; rfl))
theorem spW_ok : SpecTL Try.prog spW := ⟨s67, s124, s125, s123, s108, s110, s31, s53, s32, s47, s48, s49, s50, s51, s27, s46, s26, s45, trivial⟩

theorem s165 : SumTOk Try.prog 165 S165 := sumS_ok fun x h => by
  obtain ⟨⟨a, b⟩, x⟩ := x
  simp only [Bool.and_eq_true] at h
  refine book_ok.pth (by kernel_rfl) spW_ok (p165 a b x _ (by rw [lowOk_f h.1]; rfl) (inW_less (a, b) (lowW (bitsOf x.1))) rfl)
theorem sp121_ok : SpecTL Try.prog sp121 := ⟨s165, spW_ok⟩
theorem s121 : SumTOk Try.prog 121 S121 := sum0_ok fun x h => by
  obtain ⟨f, m, ⟨a, b⟩, c, d⟩ := x
  simp only [Bool.and_eq_true, inO] at h
  obtain ⟨h1, h2, h3⟩ := h
  have e1 : (isF f && inW (a, b)) = true := by rw [h1, h2]; rfl
  have e2 : (isF f && inW (c, d)) = true := by rw [h1, h3]; rfl
  have e3 : inW (ibits .andNot .u64 a c, ibits .andNot .u64 b d) = true := inW_less (a, b) (c, d)
  refine book_ok.pth (by kernel_rfl) sp121_ok (p121 f a b c d m _ e1 ?_ ?_ (fun _ _ => e2) ?_ (fun _ _ _ => h3) ?_ (fun _ _ _ _ => e3) ?_ ?_)
  all_goals (intros; show (AV.int _ _, _) = (AV.int _ (formO (f, m, (a, b), (c, d))), _); simp_all [formO, lessW])
theorem sp65_ok : SpecTL Try.prog sp65 := ⟨s121, spW_ok⟩
theorem i00 : ieq 0 0 = true := rfl
theorem i80 : ieq 8 0 = false := rfl
theorem s65 : SumTOk Try.prog 65 S65 := sum0_ok fun x h => by
  obtain ⟨f, m, ⟨a, b⟩, c, d⟩ := x
  have h0 : inO (f, m, (a, b), (c, d)) = true := h
  have h2 : inW (c, d) = true := by simp only [inO, Bool.and_eq_true] at h0; exact h0.2
  refine book_ok.pth (by kernel_rfl) sp65_ok (p65 f a b c d m _ ?_ ?_ ?_ ?_ (fun _ _ => h2) ?_ ?_ ?_)
  all_goals intros
  all_goals first
    | (rw [h0]; simp_all)
    | (show (AV.bool _, _) = (AV.bool (rightO (f, m, (a, b), (c, d))), _); simp_all [rightO])
end Go.Proofs.Ytdcijmigoefnjaa
