/- Bytes and numbers: what chapters share. -/
import Derived.Test.YtdcijmigoefnjaaD10b
import Derived.Test.YtdcijmigoefnjaaPlB
import Derived.Test.YtdcijmigoefnjaaL04g
set_option linter.unusedVariables false
set_option linter.unusedSimpArgs false
set_option maxRecDepth 100000
set_option maxHeartbeats 0
namespace Go.Proofs.Ytdcijmigoefnjaa
open Go Go.Ev
theorem ile_iff' {a b : Int} : ile a b = true ↔ a ≤ b := by simp [ile]
theorem inU_iff {n : Int} : inU n = true ↔ 0 ≤ n ∧ n < 18446744073709551616 := by simp [inU, ile, ilt]
theorem inU_wrap (n : Int) : inU (IntKind.u64.wrap n) = true := by
  rw [IntKind.wrap_u64, inU_iff]; omega
theorem inU_bits (op : BinOp) (a b : Int) : inU (ibits op .u64 a b) = true := by
  rw [ibits_eq]
  cases op <;> exact inU_wrap _
theorem num_cases {P : Int → Prop} (h1 : P 1) (h2 : P 2) (h4 : P 4) {s : Int} (h : (numNs.any fun m => ieq s m) = true) : P s := by
  simp only [numNs, List.any_cons, List.any_nil, Bool.or_false, Bool.or_eq_true, ieq, beq_iff_eq] at h
  rcases h with rfl | rfl | rfl <;> assumption
theorem isB_iff {v : AV} : isB v = true ↔ isByte v := by
  constructor
  · intro h
    cases v <;> try (cases h; done)
    rename_i k n
    cases k <;> try (cases h; done)
    simp only [isB, inR_iff] at h
    exact ⟨n.toNat, by omega, by rw [Int.toNat_of_nonneg h.1]⟩
  · rintro ⟨z, hz, rfl⟩
    simp only [isB, inR_iff]; omega
theorem bytB_iff {xs : List AV} : bytB xs = true ↔ byteL xs := by
  unfold bytB byteL
  rw [List.all_eq_true]
  exact ⟨fun h x hx => isB_iff.1 (h x hx), fun h x hx => isB_iff.2 (h x hx)⟩
theorem byteL_int : ∀ {xs : List AV}, byteL xs → intsA .u8 xs = true
  | [], _ => rfl
  | x :: xs, h => by
    obtain ⟨z, _, rfl⟩ := h x (by simp)
    simp only [intsA, List.all_cons, isI, decide_true, Bool.true_and]
    exact byteL_int fun y hy => h y (List.mem_cons_of_mem _ hy)
theorem byteL_get {xs : List AV} (h : byteL xs) {i : Nat} (hi : i < xs.length) : ∃ z : Nat, z < 256 ∧ xs.getD i .unk = .int .u8 (z : Int) := by
  rw [List.getD_eq_getElem?_getD, List.getElem?_eq_getElem hi]
  exact h _ (List.getElem_mem hi)
theorem wrapI {z : Nat} (h : z < 256) : IntKind.i64.wrap (z : Int) = (z : Int) := by rw [IntKind.wrap_i64]; omega
theorem addI {z : Nat} (h : z < 256) : iadd .i64 4 (z : Int) = 4 + (z : Int) := iadd_small (by omega) (by omega)
theorem shr1 {z : Nat} (h : z < 256) : ishr .u8 (z : Int) 1 = (z : Int) / 2 := by
  unfold ishr; rw [Int.fdiv_eq_ediv_of_nonneg _ (by decide)]; simp [IntKind.bits]
theorem and1 {z : Nat} (h : z < 256) : ibits .and .u8 (z : Int) 1 = (z : Int) % 2 := by
  have : ∀ i : Fin 256, ibits .and .u8 (i.val : Int) 1 = (i.val : Int) % 2 := by decide +kernel
  exact this ⟨z, h⟩
theorem half {z : Nat} (h : z < 256) : IntKind.i64.wrap ((z : Int) / 2) = (z : Int) / 2 := by rw [IntKind.wrap_i64]; omega
theorem inW_get (xs : List AV) (n : Int) : inW (getHi xs n, getLo xs n) = true := by
  unfold getHi getLo inW
  cases n.toNat with
  | zero => rfl
  | succ n => simp only [getW]; rw [inU_bits, inU_bits]; rfl
theorem intsA_drop' {k : IntKind} {xs : List AV} (h : intsA k xs = true) (n : Nat) : intsA k (xs.drop n) = true := by
  unfold intsA at h ⊢
  rw [List.all_eq_true] at h ⊢
  exact fun x hx => h x (List.mem_of_mem_drop hx)
theorem lenB_drop' {xs : List AV} (h : lenB xs = true) (n : Nat) : lenB (xs.drop n) = true := by
  unfold lenB at h ⊢
  rw [Nat.ble_eq] at h ⊢
  rw [List.length_drop]; omega
theorem quo2 {z : Nat} (h : z < 256) : iquo .u8 (z : Int) 2 = (z : Int) / 2 := by
  unfold iquo; rw [Int.tdiv_eq_ediv_of_nonneg (by omega), IntKind.wrap_u8]; omega
theorem rem2 (z : Nat) : irem (z : Int) 2 = (z : Int) % 2 := by
  unfold irem; rw [Int.tmod_eq_emod_of_nonneg (by omega)]
theorem s115t {f : FuncId} (h : SumTOk Try.prog f S115) : SumTOk Try.prog f S115t := by
  refine sumW_ok fun x hx => ?_
  obtain ⟨xs, n⟩ := x
  simp only [Bool.and_eq_true] at hx
  obtain ⟨h1, h2, h3, h4⟩ := hx
  have e : ile n (xs.length : Int) = true := h4
  have this : CallsA Try.prog f [.sl 1 xs .sh, .int .i64 n] [] (bif ile n (xs.length : Int) then .tup [wA (getHi xs n, getLo xs n), .bool true] else .tup [wA (0, 0), .bool false]) [] := by
    have t := h [.sl 1 xs .sh, .int .i64 n] [] _ (show ((S115 [.sl 1 xs .sh, .int .i64 n] []).Ret _) from ⟨rfl, by simp only [Bool.and_eq_true]; exact ⟨h1, h2, h3⟩, rfl⟩)
    rw [treeMap_val] at t
    exact t
  rw [e] at this
  exact this
end Go.Proofs.Ytdcijmigoefnjaa
