/- Headers as bytes, and back: plain laws. -/
import Derived.Test.YtdcijmigoefnjaaPlB
import Derived.Test.YtdcijmigoefnjaaL04i
set_option linter.unusedVariables false
set_option linter.unusedSimpArgs false
set_option maxRecDepth 100000
namespace Go.Proofs.Ytdcijmigoefnjaa
open Go Go.Ev

def szN (j : Nat) : Nat := (sizeOf (j : Int)).toNat
theorem sz_all : ((List.range 24).all fun j => ieq (sizeOf (j : Int)) (szN j : Nat) && (Nat.ble (szN j) 16 && Nat.blt ((maskTab.getD (j * 2) 0).toNat * 18446744073709551616 + (maskTab.getD (j * 2 + 1) 0).toNat) (256 ^ szN j))) = true := by kernel_rfl
theorem sz_at {j : Nat} (hj : j < 24) : sizeOf (j : Int) = (szN j : Nat) ∧ szN j ≤ 16 ∧ (maskTab.getD (j * 2) 0).toNat * 18446744073709551616 + (maskTab.getD (j * 2 + 1) 0).toNat < 256 ^ szN j := by
  have := List.all_eq_true.1 sz_all j (List.mem_range.2 hj)
  simp only [Bool.and_eq_true, ieq, beq_iff_eq, Nat.ble_eq, Nat.blt_eq] at this
  exact ⟨this.1, this.2.1, this.2.2⟩
theorem off_step (j : Nat) : offOf (j + 1) = offOf j + szN j := rfl
theorem all16_len (v : Int × Int) : (all16 v).length = 16 := rfl
theorem putL_len (v : Int × Int) {n : Nat} (h : n ≤ 16) : (putL v (n : Int)).length = n := by
  unfold putL
  rw [List.length_drop, all16_len, Int.toNat_natCast]; omega
theorem two_cells {cs : List AV} (hl : cs.length = 48) {j : Nat} (hj : j < 24) : cs.drop (j * 2) = cs.getD (j * 2) .unk :: cs.getD (j * 2 + 1) .unk :: cs.drop ((j + 1) * 2) := by
  rw [drop_getD (d := AV.unk) (by omega), drop_getD (d := AV.unk) (show j * 2 + 1 < cs.length by omega)]
  rw [show j * 2 + 1 + 1 = (j + 1) * 2 by omega]
theorem put_drop {cs : List AV} (hl : cs.length = 48) : ∀ j, j ≤ 24 → (putC cs).drop (offOf j) = putN (cs.drop (j * 2)) j
  | 0, _ => rfl
  | j + 1, hj => by
    obtain ⟨e1, e2, _⟩ := sz_at (show j < 24 by omega)
    rw [off_step, ← List.drop_drop, put_drop hl j (by omega), two_cells hl (by omega)]
    show List.drop (szN j) (putL _ (sizeOf (j : Int)) ++ _) = _
    rw [e1, List.drop_left' (putL_len _ e2)]
theorem put_len {cs : List AV} (hl : cs.length = 48) : (putC cs).length = 95 := by
  have go : ∀ m j, m + j = 24 → (putN (cs.drop (j * 2)) j).length + offOf j = 95 := by
    intro m
    induction m with
    | zero =>
      intro j hj
      have : j = 24 := by omega
      subst this
      rw [List.drop_eq_nil_of_le (by omega), off24]; rfl
    | succ m ih =>
      intro j hj
      obtain ⟨e1, e2, _⟩ := sz_at (show j < 24 by omega)
      rw [two_cells hl (by omega)]
      show (putL _ (sizeOf (j : Int)) ++ putN _ (j + 1)).length + _ = _
      have := ih (j + 1) (by omega)
      rw [off_step] at this
      rw [e1, List.length_append, putL_len _ e2]; omega
  exact go 24 0 rfl
theorem putL_byte (hi lo : Nat) (h : lo < 2 ^ 64) {n : Nat} (hn : n ≤ 16) : byteL (putL ((hi : Int), (lo : Int)) (n : Int)) := by
  rw [putL_eq _ _ h hn]; exact bytesBE_ok _ _

/-- cells that are numbers within a field's bytes -/
def CellsIn (k : Nat → Int) : Prop := ∀ j, j < 24 → ∃ hi lo : Nat, k (j * 2) = hi ∧ k (j * 2 + 1) = lo ∧ lo < 2 ^ 64 ∧ hi * 2 ^ 64 + lo < 256 ^ szN j
theorem hdr_cells (k : Nat → Int) {j : Nat} (hj : j < 24) : (hdrC k).getD (j * 2) .unk = .int .u64 (k (j * 2)) ∧ (hdrC k).getD (j * 2 + 1) .unk = .int .u64 (k (j * 2 + 1)) := by
  rw [List.getD_eq_getElem?_getD, List.getD_eq_getElem?_getD, hdr_get k (by omega), hdr_get k (by omega)]; exact ⟨rfl, rfl⟩
theorem putN_at (k : Nat → Int) {j : Nat} (hj : j < 24) : putN ((hdrC k).drop (j * 2)) j = putL (k (j * 2), k (j * 2 + 1)) (sizeOf (j : Int)) ++ putN ((hdrC k).drop ((j + 1) * 2)) (j + 1) := by
  obtain ⟨e1, e2⟩ := hdr_cells k hj
  rw [two_cells rfl hj, e1, e2]; rfl
theorem putN_byte {k : Nat → Int} (hk : CellsIn k) : ∀ m j, m + j = 24 → byteL (putN ((hdrC k).drop (j * 2)) j) := by
  intro m
  induction m with
  | zero =>
    intro j hj
    have : j = 24 := by omega
    subst this
    intro x hx; cases hx
  | succ m ih =>
    intro j hj x hx
    obtain ⟨hi, lo, e1, e2, h1, h2⟩ := hk j (by omega)
    obtain ⟨e3, e4, _⟩ := sz_at (show j < 24 by omega)
    rw [putN_at k (by omega), e1, e2, e3] at hx
    exact (List.mem_append.1 hx).elim (putL_byte hi lo h1 e4 x) (ih (j + 1) (by omega) x)
theorem put_byte {k : Nat → Int} (hk : CellsIn k) : byteL (putC (hdrC k)) := putN_byte hk 24 0 rfl
theorem pc_even (xs : List AV) {j : Nat} (hj : j < 24) : pc xs 24 (j * 2) = getHi (xs.drop (offOf j)) (sizeOf (j : Int)) := by
  unfold pc
  have e1 : Nat.blt (j * 2 / 2) 24 = true := by rw [Nat.blt_eq]; omega
  have e2 : Nat.beq (j * 2 % 2) 0 = true := by rw [Nat.beq_eq]; omega
  rw [e1, e2, show j * 2 / 2 = j by omega]; rfl
theorem pc_odd (xs : List AV) {j : Nat} (hj : j < 24) : pc xs 24 (j * 2 + 1) = getLo (xs.drop (offOf j)) (sizeOf (j : Int)) := by
  unfold pc
  have e1 : Nat.blt ((j * 2 + 1) / 2) 24 = true := by rw [Nat.blt_eq]; omega
  have e2 : Nat.beq ((j * 2 + 1) % 2) 0 = false := by cases h : Nat.beq ((j * 2 + 1) % 2) 0 with | false => rfl | true => rw [Nat.beq_eq] at h; omega
  rw [e1, e2, show (j * 2 + 1) / 2 = j by omega]; rfl
theorem hdr_ext {k h : Nat → Int} (e : ∀ j, j < 24 → k (j * 2) = h (j * 2) ∧ k (j * 2 + 1) = h (j * 2 + 1)) : hdrC k = hdrC h := hdrC_congr fun c hc => by
  have := e (c / 2) (by omega)
  rcases Nat.mod_two_eq_zero_or_one c with q | q
  · have e : c / 2 * 2 = c := by omega
    rw [e] at this; exact this.1
  · have e : c / 2 * 2 + 1 = c := by omega
    rw [e] at this; exact this.2
/-- a header is read from its bytes -/
theorem parse_put {k : Nat → Int} (hk : CellsIn k) : parseC (putC (hdrC k)) = hdrC k := by
  refine hdr_ext fun j hj => ?_
  obtain ⟨hi, lo, e1, e2, h1, h2⟩ := hk j hj
  obtain ⟨e3, e4, _⟩ := sz_at hj
  have := get_put (rest := putN ((hdrC k).drop ((j + 1) * 2)) (j + 1)) h1 e4 h2 (putN_byte hk (23 - j) (j + 1) (by omega))
  rw [pc_even _ hj, pc_odd _ hj, put_drop rfl j (by omega), putN_at k hj, e3, e1, e2]
  exact this
/-- what is read has just these bytes -/
theorem put_parse {xs : List AV} (hx : byteL xs) (hl : xs.length = 95) : putC (parseC xs) = xs := by
  have go : ∀ m j, m + j = 24 → putN ((hdrC (pc xs 24)).drop (j * 2)) j = xs.drop (offOf j) := by
    intro m
    induction m with
    | zero =>
      intro j hj
      have : j = 24 := by omega
      subst this
      rw [off24, List.drop_eq_nil_of_le (by omega : xs.length ≤ 95)]; rfl
    | succ m ih =>
      intro j hj
      obtain ⟨e3, e4, _⟩ := sz_at (show j < 24 by omega)
      have hm := off_mono (show j + 1 ≤ 24 by omega)
      rw [off24, off_step] at hm
      rw [putN_at _ (by omega), ih (j + 1) (by omega), pc_even _ (by omega), pc_odd _ (by omega), e3, put_get (fun x h => hx x (List.mem_of_mem_drop h)) (by rw [List.length_drop]; omega) e4, off_step, ← List.drop_drop, List.take_append_drop]
  exact go 24 0 rfl

theorem and_nat (c : Int) (m : Nat) (hm : m < 2 ^ 64) : ∃ z : Nat, ibits .and .u64 c (m : Int) = z ∧ z ≤ m ∧ ibits .and .u64 (z : Int) (m : Int) = z := by
  have gen : ∀ c : Int, ibits .and .u64 c (m : Int) = (((BitVec.ofInt 64 c).toNat &&& m : Nat) : Int) := by
    intro c
    rw [ibits_eq]
    show IntKind.u64.wrap _ = _
    rw [IntKind.wrap_u64]
    have e : (BitVec.ofInt IntKind.u64.bits c &&& BitVec.ofInt IntKind.u64.bits (m : Int)).toNat = (BitVec.ofInt 64 c).toNat &&& m := by
      show (BitVec.ofInt 64 c &&& BitVec.ofInt 64 (m : Int)).toNat = _
      rw [BitVec.toNat_and, BitVec.ofInt_natCast, BitVec.toNat_ofNat, Nat.mod_eq_of_lt hm]
    rw [e]
    have : (BitVec.ofInt 64 c).toNat &&& m ≤ m := Nat.and_le_right
    omega
  refine ⟨(BitVec.ofInt 64 c).toNat &&& m, gen c, Nat.and_le_right, ?_⟩
  rw [gen, BitVec.ofInt_natCast, BitVec.toNat_ofNat, Nat.mod_eq_of_lt (Nat.lt_of_le_of_lt Nat.and_le_right hm), Nat.and_assoc, Nat.and_self]

theorem mask_all : ((List.range 48).all fun c => ile 0 (maskTab.getD c 0) && ilt (maskTab.getD c 0) 18446744073709551616) = true := by kernel_rfl
theorem mask_at {c : Nat} (hc : c < 48) : ∃ m : Nat, maskTab.getD c 0 = m ∧ m < 2 ^ 64 := by
  have := List.all_eq_true.1 mask_all c (List.mem_range.2 hc)
  simp only [Bool.and_eq_true, ile_iff, ilt_iff] at this
  exact ⟨(maskTab.getD c 0).toNat, by omega, by omega⟩
/-- a header's cells without bits beyond -/
def clipK (h : Nat → Int) (c : Nat) : Int := ibits .and .u64 (h c) (maskTab.getD c 0)
theorem clip_fn (h : Nat → Int) : clipC (hdrC h) = hdrC (clipK h) := rfl
theorem clip_in (h : Nat → Int) : CellsIn (clipK h) := by
  intro j hj
  obtain ⟨m1, q1, q2⟩ := mask_at (show j * 2 < 48 by omega)
  obtain ⟨m2, q3, q4⟩ := mask_at (show j * 2 + 1 < 48 by omega)
  obtain ⟨z1, a1, a2, _⟩ := and_nat (h (j * 2)) m1 q2
  obtain ⟨z2, b1, b2, _⟩ := and_nat (h (j * 2 + 1)) m2 q4
  obtain ⟨_, _, hs⟩ := sz_at hj
  rw [q1, q3, Int.toNat_natCast, Int.toNat_natCast] at hs
  refine ⟨z1, z2, by unfold clipK; rw [q1]; exact a1, by unfold clipK; rw [q3]; exact b1, by omega, ?_⟩
  refine Nat.lt_of_le_of_lt ?_ hs
  omega
theorem clip_twice (h : Nat → Int) : hdrC (clipK (clipK h)) = hdrC (clipK h) := hdrC_congr fun c hc => by
  obtain ⟨m, q1, q2⟩ := mask_at hc
  obtain ⟨z, a1, _, a3⟩ := and_nat (h c) m q2
  unfold clipK
  rw [q1, a1, a3]
theorem fits_clip (h : Nat → Int) : fitsC (clipC (hdrC h)) = true := by
  unfold fitsC
  rw [clip_fn, clip_fn, clip_twice]
  exact pairEq_self _
theorem back_ok (h : Nat → Int) : parseOk (putC (clipC (hdrC h))) = true ∧ parseC (putC (clipC (hdrC h))) = clipC (hdrC h) := by
  have e : parseC (putC (clipC (hdrC h))) = clipC (hdrC h) := by rw [clip_fn]; exact parse_put (clip_in h)
  refine ⟨?_, e⟩
  unfold parseOk
  rw [e, fits_clip, put_len (by rw [clip_fn]; rfl)]; rfl

end Go.Proofs.Ytdcijmigoefnjaa
