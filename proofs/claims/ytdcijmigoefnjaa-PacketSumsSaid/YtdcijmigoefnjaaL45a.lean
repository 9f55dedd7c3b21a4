/- Chapter 45: numbers of bytes: contracts. -/
import Derived.Test.YtdcijmigoefnjaaP45a
import Derived.Test.YtdcijmigoefnjaaL10g
set_option linter.unusedVariables false
set_option linter.unusedSimpArgs false
set_option maxRecDepth 100000
set_option maxHeartbeats 0
namespace Go.Proofs.Ytdcijmigoefnjaa
open Go Go.Ev

theorem okL_iff {xs : List AV} : okL xs = true ↔ byteL xs ∧ xs.length ≤ 9223372036854775807 := by
  unfold okL; rw [Bool.and_eq_true, bytB_iff]; unfold lenB; rw [Nat.ble_eq]
theorem spNG_ok : SpecTL Try.prog spNG := ⟨Sum.T_ok (Book.all_ok book_ok 100 3 193), trivial⟩
theorem drop_byte {xs : List AV} (hb : byteL xs) {o : Nat} (h : o < xs.length) : ∃ z : Nat, z < 256 ∧ xs.drop o = .int .u8 (z : Int) :: xs.drop (o + 1) ∧ xs.getD o .unk = .int .u8 (z : Int) := by
  obtain ⟨z, hz, e⟩ := byteL_get hb h
  refine ⟨z, hz, ?_, e⟩
  rw [drop_getD (d := AV.unk) h, e]
theorem or8 (a b : Nat) (ha : a < 36028797018963968) (hb : b < 256) : ibits .or .i64 (ishl .i64 (a : Int) 8) (IntKind.i64.wrap (b : Int)) = ((a * 256 + b : Nat) : Int) := by
  have e1 : ishl .i64 (a : Int) 8 = ((a * 256 : Nat) : Int) := by
    unfold ishl
    rw [IntKind.wrap_i64]
    simp [IntKind.bits]; omega
  have e2 : IntKind.i64.wrap (b : Int) = (b : Int) := by rw [IntKind.wrap_i64]; omega
  have e4 : (a * 256) ||| b = a * 256 + b := or_add _ _ hb
  rw [e1, e2, ibits_eq]
  show IntKind.i64.wrap _ = _
  have e : (BitVec.ofInt IntKind.i64.bits ((a * 256 : Nat) : Int) ||| BitVec.ofInt IntKind.i64.bits (b : Int)).toNat = (a * 256) ||| b := by
    show (BitVec.ofInt 64 ((a * 256 : Nat) : Int) ||| BitVec.ofInt 64 (b : Int)).toNat = _
    rw [BitVec.toNat_or, BitVec.ofInt_natCast, BitVec.ofInt_natCast, BitVec.toNat_ofNat, BitVec.toNat_ofNat, Nat.mod_eq_of_lt (by omega), Nat.mod_eq_of_lt (by omega)]
  rw [e, e4, IntKind.wrap_i64]; omega
theorem add8 (a b : Nat) (ha : a < 36028797018963968) (hb : b < 256) : iadd .i64 (imul .i64 (a : Int) 256) (IntKind.i64.wrap (b : Int)) = ((a * 256 + b : Nat) : Int) := by
  have e1 : imul .i64 (a : Int) 256 = ((a * 256 : Nat) : Int) := by unfold imul; rw [IntKind.wrap_i64]; omega
  have e2 : IntKind.i64.wrap (b : Int) = (b : Int) := by rw [IntKind.wrap_i64]; omega
  rw [e1, e2, iadd_small (by omega) (by omega)]; omega

theorem num_fam {P : Int → Prop} (h1 : P 1) (h2 : P 2) (h4 : P 4) {s : Int} (h : (numNs.any fun m => ieq s m) = true) : P s := num_cases h1 h2 h4 h

theorem s178 : SumTOk Try.prog 178 S178 := sumW_ok fun x hx => by
  obtain ⟨xs, at_, n⟩ := x
  simp only [Bool.and_eq_true, okL_iff, ile_iff'] at hx
  obtain ⟨⟨hb, hl⟩, hn, h0, h1⟩ := hx
  obtain ⟨o, rfl⟩ : ∃ o : Nat, at_ = o := ⟨at_.toNat, by omega⟩
  have ia1 : (o : Int) + 1 ≤ xs.length → iadd .i64 (o : Int) 1 = ((o + 1 : Nat) : Int) := fun h => by rw [iadd_small (by omega) (by omega)]; omega
  have ia2 : (o : Int) + 2 ≤ xs.length → iadd .i64 (o : Int) 2 = ((o + 2 : Nat) : Int) := fun h => by rw [iadd_small (by omega) (by omega)]; omega
  have ia3 : (o : Int) + 3 ≤ xs.length → iadd .i64 (o : Int) 3 = ((o + 3 : Nat) : Int) := fun h => by rw [iadd_small (by omega) (by omega)]; omega
  have ia4 : (o : Int) + 4 ≤ xs.length → iadd .i64 (o : Int) 4 = ((o + 4 : Nat) : Int) := fun h => by rw [iadd_small (by omega) (by omega)]; omega
  have isb : isub .i64 (xs.length : Int) (o : Int) = (xs.length : Int) - o ∨ (xs.length : Int) < o := by
    by_cases h : (xs.length : Int) < o
    · exact .inr h
    · left; unfold isub; rw [IntKind.wrap_i64]; omega
  revert h1
  refine num_cases (P := fun n => (o : Int) + n ≤ xs.length → CallsA Try.prog 178 [.sl 1 xs .sh, .int .i64 (o : Int), .int .i64 n] [] (.tup [.int .i64 (nv xs (o : Int).toNat n.toNat), .int .i64 0]) []) (fun h1 => ?_) (fun h1 => ?_) (fun h1 => ?_) hn
  · obtain ⟨z0, a0, b0, _⟩ := drop_byte hb (o := o) (by omega)
    have e : List.take ((iadd .i64 (o : Int) 1).toNat - (o : Int).toNat) (List.drop (o : Int).toNat xs) = [.int .u8 (z0 : Int)] := by
      rw [ia1 h1, Int.toNat_natCast, Int.toNat_natCast, show o + 1 - o = 1 by omega, b0]; rfl
    have v : nv xs (o : Int).toNat (1 : Int).toNat = (z0 : Int) := by unfold nv; rw [Int.toNat_natCast, b0]; simp [valB, AV.asInt]
    refine book_ok.pth (by kernel_rfl) spNG_ok (p178_1 xs o _ ?_ ?_ ?_ ?_ ?_ ?_ ?_ ?_ ?_)
    · rw [ilt_no]; omega
    · rcases isb with h | h <;> rw [ilt_no] <;> omega
    · rw [ia1 h1]; exact inR_iff.2 ⟨by omega, by omega⟩
    · rw [ia1 h1]; exact inR_iff.2 ⟨by omega, by omega⟩
    all_goals rw [e]
    · rfl
    · rfl
    · rfl
    · rfl
    · have := or8 0 z0 (by omega) a0
      rw [v]
      show (AV.tup [.int .i64 (ibits .or .i64 (ishl .i64 ((0 : Nat) : Int) 8) (IntKind.i64.wrap (z0 : Int))), .int .i64 0], _) = _
      rw [this]; simp
  · obtain ⟨z0, a0, b0, _⟩ := drop_byte hb (o := o) (by omega)
    obtain ⟨z1, a1, b1, _⟩ := drop_byte hb (o := o + 1) (by omega)
    have e : List.take ((iadd .i64 (o : Int) 2).toNat - (o : Int).toNat) (List.drop (o : Int).toNat xs) = [.int .u8 (z0 : Int), .int .u8 (z1 : Int)] := by
      rw [ia2 h1, Int.toNat_natCast, Int.toNat_natCast, show o + 2 - o = 2 by omega, b0, b1]; rfl
    have v : nv xs (o : Int).toNat (2 : Int).toNat = ((z0 * 256 + z1 : Nat) : Int) := by unfold nv; rw [Int.toNat_natCast, b0, b1]; simp [valB, AV.asInt]
    refine book_ok.pth (by kernel_rfl) spNG_ok (p178_2 xs o _ ?_ ?_ ?_ ?_ ?_ ?_ ?_ ?_ ?_ ?_ ?_ ?_)
    · rw [ilt_no]; omega
    · rcases isb with h | h <;> rw [ilt_no] <;> omega
    · rw [ia2 h1]; exact inR_iff.2 ⟨by omega, by omega⟩
    · rw [ia2 h1]; exact inR_iff.2 ⟨by omega, by omega⟩
    all_goals rw [e]
    iterate 7 rfl
    · have q0 := or8 0 z0 (by omega) a0
      have q1 := or8 z0 z1 (by omega) a1
      rw [v]
      show (AV.tup [.int .i64 (ibits .or .i64 (ishl .i64 (ibits .or .i64 (ishl .i64 ((0 : Nat) : Int) 8) (IntKind.i64.wrap (z0 : Int))) 8) (IntKind.i64.wrap (z1 : Int))), .int .i64 0], _) = _
      rw [q0, Nat.zero_mul, Nat.zero_add, q1]
  · obtain ⟨z0, a0, b0, _⟩ := drop_byte hb (o := o) (by omega)
    obtain ⟨z1, a1, b1, _⟩ := drop_byte hb (o := o + 1) (by omega)
    obtain ⟨z2, a2, b2, _⟩ := drop_byte hb (o := o + 1 + 1) (by omega)
    obtain ⟨z3, a3, b3, _⟩ := drop_byte hb (o := o + 1 + 1 + 1) (by omega)
    have e : List.take ((iadd .i64 (o : Int) 4).toNat - (o : Int).toNat) (List.drop (o : Int).toNat xs) = [.int .u8 (z0 : Int), .int .u8 (z1 : Int), .int .u8 (z2 : Int), .int .u8 (z3 : Int)] := by
      rw [ia4 h1, Int.toNat_natCast, Int.toNat_natCast, show o + 4 - o = 4 by omega, b0, b1, b2, b3]; rfl
    have v : nv xs (o : Int).toNat (4 : Int).toNat = ((((z0 * 256 + z1) * 256 + z2) * 256 + z3 : Nat) : Int) := by unfold nv; rw [Int.toNat_natCast, b0, b1, b2, b3]; simp [valB, AV.asInt]
    refine book_ok.pth (by kernel_rfl) spNG_ok (p178_4 xs o _ ?_ ?_ ?_ ?_ ?_ ?_ ?_ ?_ ?_ ?_ ?_ ?_ ?_ ?_ ?_ ?_ ?_ ?_)
    · rw [ilt_no]; omega
    · rcases isb with h | h <;> rw [ilt_no] <;> omega
    · rw [ia4 h1]; exact inR_iff.2 ⟨by omega, by omega⟩
    · rw [ia4 h1]; exact inR_iff.2 ⟨by omega, by omega⟩
    all_goals rw [e]
    iterate 13 rfl
    · have q0 := or8 0 z0 (by omega) a0
      have q1 := or8 z0 z1 (by omega) a1
      have q2 := or8 (z0 * 256 + z1) z2 (by omega) a2
      have q3 := or8 ((z0 * 256 + z1) * 256 + z2) z3 (by omega) a3
      rw [v]
      show (AV.tup [.int .i64 (ibits .or .i64 (ishl .i64 (ibits .or .i64 (ishl .i64 (ibits .or .i64 (ishl .i64 (ibits .or .i64 (ishl .i64 ((0 : Nat) : Int) 8) (IntKind.i64.wrap (z0 : Int))) 8) (IntKind.i64.wrap (z1 : Int))) 8) (IntKind.i64.wrap (z2 : Int))) 8) (IntKind.i64.wrap (z3 : Int))), .int .i64 0], _) = _
      rw [q0, Nat.zero_mul, Nat.zero_add, q1, q2, q3]

theorem s174 : SumTOk Try.prog 174 S178 := sumW_ok fun x hx => by
  obtain ⟨xs, at_, n⟩ := x
  simp only [Bool.and_eq_true, okL_iff, ile_iff'] at hx
  obtain ⟨⟨hb, hl⟩, hn, h0, h1⟩ := hx
  obtain ⟨o, rfl⟩ : ∃ o : Nat, at_ = o := ⟨at_.toNat, by omega⟩
  have ia1 : (o : Int) + 1 ≤ xs.length → iadd .i64 (o : Int) 1 = ((o + 1 : Nat) : Int) := fun h => by rw [iadd_small (by omega) (by omega)]; omega
  have ia2 : (o : Int) + 2 ≤ xs.length → iadd .i64 (o : Int) 2 = ((o + 2 : Nat) : Int) := fun h => by rw [iadd_small (by omega) (by omega)]; omega
  have ia3 : (o : Int) + 3 ≤ xs.length → iadd .i64 (o : Int) 3 = ((o + 3 : Nat) : Int) := fun h => by rw [iadd_small (by omega) (by omega)]; omega
  have ia4 : (o : Int) + 4 ≤ xs.length → iadd .i64 (o : Int) 4 = ((o + 4 : Nat) : Int) := fun h => by rw [iadd_small (by omega) (by omega)]; omega
  have i0 : (o : Int) ≤ xs.length → iadd .i64 (o : Int) 0 = ((o : Nat) : Int) := fun h => by rw [iadd_small (by omega) (by omega)]; omega
  have isb : isub .i64 (xs.length : Int) (o : Int) = (xs.length : Int) - o ∨ (xs.length : Int) < o := by
    by_cases h : (xs.length : Int) < o
    · exact .inr h
    · left; unfold isub; rw [IntKind.wrap_i64]; omega
  have z8 : ∀ z : Nat, z < 256 → iadd .i64 0 (IntKind.i64.wrap (z : Int)) = (z : Int) := fun z h => by rw [wrapI h, iadd_small (by omega) (by omega)]; omega
  revert h1
  refine num_cases (P := fun n => (o : Int) + n ≤ xs.length → CallsA Try.prog 174 [.sl 1 xs .sh, .int .i64 (o : Int), .int .i64 n] [] (.tup [.int .i64 (nv xs (o : Int).toNat n.toNat), .int .i64 0]) []) (fun h1 => ?_) (fun h1 => ?_) (fun h1 => ?_) hn
  · obtain ⟨z0, a0, b0, g0⟩ := drop_byte hb (o := o) (by omega)
    have v : nv xs (o : Int).toNat (1 : Int).toNat = (z0 : Int) := by unfold nv; rw [Int.toNat_natCast, b0]; simp [valB, AV.asInt]
    have j0 := i0 (by omega)
    refine book_ok.pth (by kernel_rfl) spNG_ok (p174_1 xs o _ ?_ ?_ ?_ ?_ ?_ ?_)
    · rw [ilt_no]; omega
    · rw [ilt_no]; omega
    · rcases isb with h | h <;> rw [ilt_no] <;> omega
    · rw [j0]; exact inR_iff.2 ⟨by omega, by omega⟩
    · rw [j0, Int.toNat_natCast, g0]; rfl
    · rw [j0, v, Int.toNat_natCast, g0]; simp only [AV.asInt]; rw [z8 _ a0]
  · obtain ⟨z0, a0, b0, g0⟩ := drop_byte hb (o := o) (by omega)
    obtain ⟨z1, a1, b1, g1⟩ := drop_byte hb (o := o + 1) (by omega)
    have v : nv xs (o : Int).toNat (2 : Int).toNat = ((z0 * 256 + z1 : Nat) : Int) := by unfold nv; rw [Int.toNat_natCast, b0, b1]; simp [valB, AV.asInt]
    have j0 := i0 (by omega)
    have j1 := ia1 (by omega)
    refine book_ok.pth (by kernel_rfl) spNG_ok (p174_2 xs o _ ?_ ?_ ?_ ?_ ?_ ?_ ?_ ?_)
    · rw [ilt_no]; omega
    · rw [ilt_no]; omega
    · rcases isb with h | h <;> rw [ilt_no] <;> omega
    · rw [j0]; exact inR_iff.2 ⟨by omega, by omega⟩
    · rw [j0, Int.toNat_natCast, g0]; rfl
    · rw [j1]; exact inR_iff.2 ⟨by omega, by omega⟩
    · rw [j1, Int.toNat_natCast, g1]; rfl
    · rw [j0, j1, v, Int.toNat_natCast, Int.toNat_natCast, g0, g1]; simp only [AV.asInt]; rw [z8 _ a0, add8 _ _ (by omega) a1]
  · obtain ⟨z0, a0, b0, g0⟩ := drop_byte hb (o := o) (by omega)
    obtain ⟨z1, a1, b1, g1⟩ := drop_byte hb (o := o + 1) (by omega)
    obtain ⟨z2, a2, b2, g2⟩ := drop_byte hb (o := o + 2) (by omega)
    obtain ⟨z3, a3, b3, g3⟩ := drop_byte hb (o := o + 3) (by omega)
    have v : nv xs (o : Int).toNat (4 : Int).toNat = ((((z0 * 256 + z1) * 256 + z2) * 256 + z3 : Nat) : Int) := by
      unfold nv; rw [Int.toNat_natCast, b0, b1, show o + 1 + 1 = o + 2 by omega, b2, show o + 2 + 1 = o + 3 by omega, b3]; simp [valB, AV.asInt]
    have j0 := i0 (by omega)
    have j1 := ia1 (by omega)
    have j2 := ia2 (by omega)
    have j3 := ia3 (by omega)
    refine book_ok.pth (by kernel_rfl) spNG_ok (p174_4 xs o _ ?_ ?_ ?_ ?_ ?_ ?_ ?_ ?_ ?_ ?_ ?_ ?_)
    · rw [ilt_no]; omega
    · rw [ilt_no]; omega
    · rcases isb with h | h <;> rw [ilt_no] <;> omega
    · rw [j0]; exact inR_iff.2 ⟨by omega, by omega⟩
    · rw [j0, Int.toNat_natCast, g0]; rfl
    · rw [j1]; exact inR_iff.2 ⟨by omega, by omega⟩
    · rw [j1, Int.toNat_natCast, g1]; rfl
    · rw [j2]; exact inR_iff.2 ⟨by omega, by omega⟩
    · rw [j2, Int.toNat_natCast, g2]; rfl
    · rw [j3]; exact inR_iff.2 ⟨by omega, by omega⟩
    · rw [j3, Int.toNat_natCast, g3]; rfl
    · rw [j0, j1, j2, j3, v, Int.toNat_natCast, Int.toNat_natCast, Int.toNat_natCast, Int.toNat_natCast, g0, g1, g2, g3]; simp only [AV.asInt]
      rw [z8 _ a0, add8 _ _ (by omega) a1, add8 _ _ (by omega) a2, add8 _ _ (by omega) a3]

theorem s115v {f : FuncId} (h : SumTOk Try.prog f S115) : SumTOk Try.prog f S115v := by
  refine sumW_ok fun x hx => ?_
  obtain ⟨xs, n⟩ := x
  simp only [Bool.and_eq_true, okL_iff] at hx
  obtain ⟨⟨hb, hl⟩, hn, hle⟩ := hx
  have h4 : lenB xs = true := by unfold lenB; rw [Nat.ble_eq]; exact hl
  have := (s115t h) [.sl 1 xs .sh, .int .i64 n] [] _ (show ((S115t [.sl 1 xs .sh, .int .i64 n] []).Ret _) from ⟨rfl, by simp only [Bool.and_eq_true]; exact ⟨hn, byteL_int hb, h4, hle⟩, rfl⟩)
  rw [treeMap_val] at this
  have t : CallsA Try.prog f [.sl 1 xs .sh, .int .i64 n] [] (.tup [wA (getHi xs n, getLo xs n), .bool true]) [] := this
  have e : (getHi xs n, getLo xs n) = wv xs n.toNat := by
    rw [ile_iff'] at hle
    have hz : 0 ≤ n ∧ n ≤ 16 := by
      simp only [sizeOk, sizeNs, List.any_cons, List.any_nil, Bool.or_false, Bool.or_eq_true, ieq, beq_iff_eq] at hn
      omega
    obtain ⟨hi, lo, e1, e2, e3⟩ := getW_eq xs hb n.toNat (by omega) (by omega)
    unfold getHi getLo wv wvH wvL
    rw [e1, ← e3]
    apply Prod.ext <;> simp only <;> congr 1 <;> omega
  rw [e] at t
  exact t

end Go.Proofs.Ytdcijmigoefnjaa
