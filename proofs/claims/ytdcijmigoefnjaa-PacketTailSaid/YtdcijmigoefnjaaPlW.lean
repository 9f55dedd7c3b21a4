/- Chapter 45: numbers at a place in bytes, plain laws. -/
import Derived.Test.YtdcijmigoefnjaaL45b
import Derived.Test.YtdcijmigoefnjaaD45c
set_option linter.unusedVariables false
set_option linter.unusedSimpArgs false
namespace Go.Proofs.Ytdcijmigoefnjaa
open Go Go.Ev

theorem andM {n : Int} {m : Nat} (hm : m ≤ 62) (h0 : 0 ≤ n) (h1 : n ≤ 4611686018427387904) : ibits .and .i64 n ((2 ^ m - 1 : Nat) : Int) = n % ((2 ^ m : Nat) : Int) := by
  obtain ⟨k, rfl⟩ : ∃ k : Nat, n = k := ⟨n.toNat, by omega⟩
  have hk : k < 2 ^ 64 := by omega
  have hp : 2 ^ m ≤ 2 ^ 62 := Nat.pow_le_pow_right (by decide) hm
  have hp0 := Nat.two_pow_pos m
  rw [ibits_eq]
  show IntKind.i64.wrap _ = _
  have e : (BitVec.ofInt IntKind.i64.bits (k : Int) &&& BitVec.ofInt IntKind.i64.bits ((2 ^ m - 1 : Nat) : Int)).toNat = k % 2 ^ m := by
    show (BitVec.ofInt 64 (k : Int) &&& BitVec.ofInt 64 ((2 ^ m - 1 : Nat) : Int)).toNat = _
    rw [BitVec.toNat_and, BitVec.ofInt_natCast, BitVec.ofInt_natCast, BitVec.toNat_ofNat, BitVec.toNat_ofNat, Nat.mod_eq_of_lt hk, Nat.mod_eq_of_lt (by omega)]
    exact Nat.and_two_pow_sub_one_eq_mod k m
  have hl := Nat.mod_lt k hp0
  have e3 : ((k : Int) % ((2 ^ m : Nat) : Int)) = ((k % 2 ^ m : Nat) : Int) := rfl
  rw [e, IntKind.wrap_i64, e3]
  omega
theorem shrM {n : Int} (k : Nat) (hk : k ≤ 63) : ishr .i64 n (k : Int) = n / ((2 ^ k : Nat) : Int) := by
  unfold ishr
  have e : min ((k : Int).toNat) IntKind.i64.bits = k := by simp [IntKind.bits]; omega
  rw [e, Int.fdiv_eq_ediv_of_nonneg _ (by exact_mod_cast Nat.zero_le _)]
  congr 1
theorem shl2 {n : Int} (h0 : 0 ≤ n) (h1 : n < 65536) : ishl .i64 n 2 = n * 4 := by
  obtain ⟨k, rfl⟩ : ∃ k : Nat, n = k := ⟨n.toNat, by omega⟩
  unfold ishl
  simp [IntKind.bits, IntKind.wrap_i64]
  omega
theorem wrapU {n : Int} (h0 : 0 ≤ n) (h1 : n < 4611686018427387904) : IntKind.u64.wrap n = n := by rw [IntKind.wrap_u64]; omega
theorem wrapS {n : Int} (h0 : 0 ≤ n) (h1 : n < 4611686018427387904) : IntKind.i64.wrap n = n := by rw [IntKind.wrap_i64]; omega
theorem quoU {n m : Int} (h0 : 0 ≤ n) (h1 : n < 4611686018427387904) (hm : 1 ≤ m) : iquo .u64 n m = n / m := by
  unfold iquo; rw [Int.tdiv_eq_ediv_of_nonneg h0]
  have h2 : n / m ≤ n := Int.ediv_le_self _ h0
  have h3 : 0 ≤ n / m := Int.ediv_nonneg h0 (by omega)
  exact wrapU h3 (by omega)
theorem quoB {n m : Int} (h0 : 0 ≤ n) (h1 : n < 256) (hm : 1 ≤ m) : iquo .u8 n m = n / m := by
  unfold iquo; rw [Int.tdiv_eq_ediv_of_nonneg h0, IntKind.wrap_u8]
  have h2 : n / m ≤ n := Int.ediv_le_self _ h0
  have h3 : 0 ≤ n / m := Int.ediv_nonneg h0 (by omega)
  omega
theorem remM {n m : Int} (h0 : 0 ≤ n) : irem n m = n % m := by unfold irem; rw [Int.tmod_eq_emod_of_nonneg h0]

theorem nv1 {xs : List AV} (h : okL xs = true) (o : Nat) : 0 ≤ nv xs o 1 ∧ nv xs o 1 < 256 := nv_lt h o 1
theorem nv2 {xs : List AV} (h : okL xs = true) (o : Nat) : 0 ≤ nv xs o 2 ∧ nv xs o 2 < 65536 := nv_lt h o 2
theorem nv4 {xs : List AV} (h : okL xs = true) (o : Nat) : 0 ≤ nv xs o 4 ∧ nv xs o 4 < 4294967296 := nv_lt h o 4
theorem nvT {xs : List AV} {L o n : Nat} (hl : o + n ≤ L) : nv (xs.take L) o n = nv xs o n := by
  unfold nv; rw [List.drop_take, List.take_take, Nat.min_eq_left (by omega)]
theorem wvHT {xs : List AV} {L o n : Nat} (hl : o + n ≤ L) : wvH ((xs.take L).drop o) n = wvH (xs.drop o) n := by
  unfold wvH; rw [List.drop_take, List.take_take, Nat.min_eq_left (by omega)]
theorem wvLT {xs : List AV} {L o n : Nat} (hl : o + n ≤ L) : wvL ((xs.take L).drop o) n = wvL (xs.drop o) n := by
  unfold wvL; rw [List.drop_take, List.take_take, Nat.min_eq_left (by omega)]
theorem getN {xs : List AV} (h : okL xs = true) {o : Nat} (ho : o < xs.length) : (xs.getD o .unk).asInt = nv xs o 1 := by
  obtain ⟨z, hz, e1, e2⟩ := drop_byte (okL_iff.1 h).1 ho
  rw [e2]; unfold nv; rw [e1]; simp [valB, AV.asInt]
theorem hasN {xs : List AV} (h : okL xs = true) {o : Nat} (ho : o < xs.length) : AV.has (TI.mk (TD.int IntKind.u8) 1 1 [AV.int IntKind.u8 0]) (xs.getD o AV.unk) = true := by
  obtain ⟨z, hz, e1, e2⟩ := drop_byte (okL_iff.1 h).1 ho
  rw [e2]; rfl

theorem need_pre2 {xs : List AV} (h : okL xs = true) {m : Int} (hm : m ≤ xs.length) : (okL xs && (true && ile m (xs.length : Int))) = true := by
  rw [h, ile_iff'.2 hm]; rfl
theorem need_pre3 {xs : List AV} (h : okL xs = true) {m : Int} (hm : m ≤ xs.length) : (okL xs && (true && (true && ile m (xs.length : Int)))) = true := by
  rw [h, ile_iff'.2 hm]; rfl

/-- what the reference answers -/
def GR (e : Int) (K : Nat → Int) (x : AV × List (List AV)) : Prop := x = ((outR e K).val, [])
theorem gr_ok {K : Nat → Int} {cs : List AV} (h : cs = hdrC K) : GR 0 K (.tup [.agg cs, .int .i64 0], []) := by subst h; rfl
theorem gr_no {e : Int} {K : Nat → Int} (he : e ≠ 0) : GR e K (.tup [.agg (hdrC fun _ => 0), .int .i64 e], []) := by
  unfold GR outR
  have : ieq e 0 = false := by simp [ieq, he]
  rw [this]; rfl
theorem gr_calls {f : FuncId} {args : List AV} {passed : List (List AV)} {e : Int} {K : Nat → Int} (h : ∃ r p, GR e K (r, p) ∧ CallsA Try.prog f args passed r p) : CallsA Try.prog f args passed (outR e K).val [] := by
  obtain ⟨r, p, h1, hc⟩ := h
  cases h1; exact hc
end Go.Proofs.Ytdcijmigoefnjaa
