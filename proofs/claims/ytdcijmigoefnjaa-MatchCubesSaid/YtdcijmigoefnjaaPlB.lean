/- Numbers of 128 bits as bytes, and back: plain laws. -/
import Derived.Test.YtdcijmigoefnjaaD04g
set_option linter.unusedVariables false
set_option maxRecDepth 100000
namespace Go.Proofs.Ytdcijmigoefnjaa
open Go Go.Ev

/-! numbers as bytes -/
theorem snocInd {α : Type} {p : List α → Prop} (h0 : p []) (h1 : ∀ xs x, p xs → p (xs ++ [x])) (l : List α) : p l := by
  have : ∀ r : List α, p r.reverse := by
    intro r
    induction r with
    | nil => exact h0
    | cons x r ih => rw [List.reverse_cons]; exact h1 _ _ ih
  have h := this l.reverse
  rwa [List.reverse_reverse] at h
def bytesBE (m : Nat) : Nat → List AV
  | 0 => []
  | n + 1 => bytesBE (m / 256) n ++ [.int .u8 ((m % 256 : Nat) : Int)]
def valB (xs : List AV) : Nat := xs.foldl (fun a x => a * 256 + x.asInt.toNat) 0
/-- is it a byte -/
def isByte (x : AV) : Prop := ∃ z : Nat, z < 256 ∧ x = .int .u8 (z : Int)
def byteL (xs : List AV) : Prop := ∀ x ∈ xs, isByte x

theorem bytesBE_len (n : Nat) : ∀ m, (bytesBE m n).length = n := by
  induction n with
  | zero => intro m; rfl
  | succ n ih => intro m; simp [bytesBE, ih]
theorem bytesBE_ok (n : Nat) : ∀ m, byteL (bytesBE m n) := by
  induction n with
  | zero => intro m x hx; cases hx
  | succ n ih =>
    intro m x hx
    rcases List.mem_append.1 hx with h | h
    · exact ih _ x h
    · simp only [List.mem_singleton] at h
      exact ⟨m % 256, Nat.mod_lt _ (by decide), h⟩
theorem valB_snoc (xs : List AV) (x : AV) : valB (xs ++ [x]) = valB xs * 256 + x.asInt.toNat := by
  unfold valB; rw [List.foldl_append]; rfl
theorem val_bytes (n : Nat) : ∀ m, valB (bytesBE m n) = m % 256 ^ n := by
  induction n with
  | zero => intro m; simp [bytesBE, valB, Nat.mod_one]
  | succ n ih =>
    intro m
    rw [bytesBE, valB_snoc, ih, Nat.pow_succ]
    simp only [AV.asInt, Int.toNat_natCast]
    rw [Nat.mul_comm (256 ^ n) 256, Nat.mod_mul, Nat.mul_comm, Nat.add_comm]
theorem valB_lt (xs : List AV) : byteL xs → valB xs < 256 ^ xs.length := by
  refine snocInd (p := fun xs => byteL xs → valB xs < 256 ^ xs.length) (fun _ => by simp [valB]) (fun xs x ih h => ?_) xs
  have h1 := ih (fun y hy => h y (List.mem_append_left _ hy))
  obtain ⟨z, hz, rfl⟩ := h x (by simp)
  rw [valB_snoc]
  simp only [AV.asInt, Int.toNat_natCast, List.length_append, List.length_cons, List.length_nil, Nat.zero_add, Nat.pow_succ]
  omega
theorem bytes_val (xs : List AV) : byteL xs → bytesBE (valB xs) xs.length = xs := by
  refine snocInd (p := fun xs => byteL xs → bytesBE (valB xs) xs.length = xs) (fun _ => rfl) (fun xs x ih h => ?_) xs
  have h1 := ih (fun y hy => h y (List.mem_append_left _ hy))
  obtain ⟨z, hz, rfl⟩ := h x (by simp)
  rw [valB_snoc]
  simp only [AV.asInt, Int.toNat_natCast, List.length_append, List.length_cons, List.length_nil, Nat.zero_add, bytesBE]
  rw [show (valB xs * 256 + z) / 256 = valB xs by omega, show (valB xs * 256 + z) % 256 = z by omega, h1]
theorem bytesBE_drop (k n : Nat) : ∀ m, (bytesBE m (k + n)).drop k = bytesBE m n := by
  induction n with
  | zero => intro m; rw [Nat.add_zero, List.drop_eq_nil_of_le (by rw [bytesBE_len]; omega)]; rfl
  | succ n ih =>
    intro m
    rw [← Nat.add_assoc, bytesBE, List.drop_append, ih, bytesBE_len, show k - (k + n) = 0 by omega]; rfl

theorem shr_byte (m s : Nat) (hs : s ≤ 64) : byteAt (m : Int) (s : Int) = .int .u8 ((m / 2 ^ s % 256 : Nat) : Int) := by
  unfold byteAt ishr
  rw [IntKind.wrap_u8]
  have e : min ((s : Int).toNat) IntKind.u64.bits = s := by simp [IntKind.bits]; omega
  rw [e, Int.fdiv_eq_ediv_of_nonneg _ (by exact_mod_cast Nat.zero_le _)]
  congr 1

theorem div_pow_add {a b : Nat} (m : Nat) : m / 2 ^ a / 2 ^ b = m / 2 ^ (a + b) := by rw [Nat.div_div_eq_div_mul, Nat.pow_add]
theorem bytesBE_get : ∀ n m, bytesBE m n = (List.range n).map fun i => AV.int .u8 ((m / 256 ^ (n - 1 - i) % 256 : Nat) : Int)
  | 0, m => rfl
  | n + 1, m => by
    rw [bytesBE, bytesBE_get n, List.range_succ, List.map_append, List.map_singleton]
    congr 1
    · refine List.map_congr_left fun i hi => ?_
      have hi := List.mem_range.1 hi
      rw [show n + 1 - 1 - i = (n - 1 - i) + 1 by omega, Nat.div_div_eq_div_mul, Nat.pow_succ, Nat.mul_comm 256]
    · simp
theorem bHi (hi lo s : Nat) (h : lo < 2 ^ 64) : (hi * 2 ^ 64 + lo) / 2 ^ (64 + s) = hi / 2 ^ s := by
  rw [Nat.pow_add, ← Nat.div_div_eq_div_mul, show (hi * 2 ^ 64 + lo) / 2 ^ 64 = hi by omega]
theorem bLo (hi lo s : Nat) (hs : s ≤ 56) : (hi * 2 ^ 64 + lo) / 2 ^ s % 256 = lo / 2 ^ s % 256 := by
  have e : hi * 2 ^ 64 = 2 ^ s * (hi * 2 ^ (56 - s) * 256) := by
    have : 2 ^ 64 = 2 ^ s * 2 ^ (56 - s) * 256 := by
      rw [← Nat.pow_add, show s + (56 - s) = 56 by omega]
    rw [this, Nat.mul_assoc, Nat.mul_left_comm, Nat.mul_assoc hi]
  rw [e, Nat.mul_add_div (Nat.two_pow_pos s), Nat.add_comm, Nat.add_mul_mod_self_right]
theorem gHi (hi lo s k : Nat) (t : Int) (h : lo < 2 ^ 64) (ht : t = (s : Int)) (hs : s ≤ 64) (hk : 256 ^ k = 2 ^ (64 + s)) : byteAt (hi : Int) t = .int .u8 (((hi * 2 ^ 64 + lo) / 256 ^ k % 256 : Nat) : Int) := by
  rw [ht, shr_byte _ _ hs, hk, bHi _ _ _ h]
theorem gLo (hi lo s k : Nat) (t : Int) (ht : t = (s : Int)) (hs : s ≤ 56) (hk : 256 ^ k = 2 ^ s) : byteAt (lo : Int) t = .int .u8 (((hi * 2 ^ 64 + lo) / 256 ^ k % 256 : Nat) : Int) := by
  rw [ht, shr_byte _ _ (by omega), hk, bLo _ _ _ hs]
theorem all16_eq (hi lo : Nat) (h : lo < 2 ^ 64) : all16 ((hi : Int), (lo : Int)) = bytesBE (hi * 2 ^ 64 + lo) 16 := by
  rw [bytesBE_get]
  unfold all16
  simp only [List.range, List.range.loop, List.map_cons, List.map_nil, List.cons.injEq, and_true]
  exact ⟨gHi _ _ 56 15 _ h rfl (by omega) (by decide), gHi _ _ 48 14 _ h rfl (by omega) (by decide), gHi _ _ 40 13 _ h rfl (by omega) (by decide), gHi _ _ 32 12 _ h rfl (by omega) (by decide), gHi _ _ 24 11 _ h rfl (by omega) (by decide), gHi _ _ 16 10 _ h rfl (by omega) (by decide), gHi _ _ 8 9 _ h rfl (by omega) (by decide), gHi _ _ 0 8 _ h rfl (by omega) (by decide), gLo _ _ 56 7 _ rfl (by omega) (by decide), gLo _ _ 48 6 _ rfl (by omega) (by decide), gLo _ _ 40 5 _ rfl (by omega) (by decide), gLo _ _ 32 4 _ rfl (by omega) (by decide), gLo _ _ 24 3 _ rfl (by omega) (by decide), gLo _ _ 16 2 _ rfl (by omega) (by decide), gLo _ _ 8 1 _ rfl (by omega) (by decide), gLo _ _ 0 0 _ rfl (by omega) (by decide)⟩
/-- a number's bytes -/
theorem putL_eq (hi lo : Nat) (h : lo < 2 ^ 64) {n : Nat} (hn : n ≤ 16) : putL ((hi : Int), (lo : Int)) (n : Int) = bytesBE (hi * 2 ^ 64 + lo) n := by
  unfold putL
  rw [all16_eq _ _ h, Int.toNat_natCast]
  have := bytesBE_drop (16 - n) n (hi * 2 ^ 64 + lo)
  rwa [show 16 - n + n = 16 by omega] at this
theorem or_add (a b : Nat) (hb : b < 256) : (a * 256) ||| b = a * 256 + b := by
  have := Nat.two_pow_add_eq_or_of_lt (i := 8) hb a
  rw [Nat.mul_comm]; exact this.symm
theorem ibits_or (a b : Nat) (ha : a < 2 ^ 64) (hb : b < 2 ^ 64) (hc : a ||| b < 2 ^ 64) : ibits .or .u64 (a : Int) (b : Int) = ((a ||| b : Nat) : Int) := by
  rw [ibits_eq]
  show IntKind.u64.wrap _ = _
  rw [IntKind.wrap_u64]
  have e : (BitVec.ofInt IntKind.u64.bits (a : Int) ||| BitVec.ofInt IntKind.u64.bits (b : Int)).toNat = a ||| b := by
    show (BitVec.ofInt 64 (a : Int) ||| BitVec.ofInt 64 (b : Int)).toNat = a ||| b
    rw [BitVec.toNat_or, BitVec.ofInt_natCast, BitVec.ofInt_natCast, BitVec.toNat_ofNat, BitVec.toNat_ofNat, Nat.mod_eq_of_lt ha, Nat.mod_eq_of_lt hb]
  rw [e]
  omega
theorem step_hi (hi lo : Nat) (h1 : hi < 2 ^ 64) (h2 : lo < 2 ^ 64) : ibits .or .u64 (ishl .u64 (hi : Int) 8) (ishr .u64 (lo : Int) 56) = (((hi * 256) % 2 ^ 64 + lo / 2 ^ 56 : Nat) : Int) := by
  have e1 : ishl .u64 (hi : Int) 8 = (((hi * 256) % 2 ^ 64 : Nat) : Int) := by
    unfold ishl; rw [IntKind.wrap_u64]; simp [IntKind.bits]
  have e2 : ishr .u64 (lo : Int) 56 = ((lo / 2 ^ 56 : Nat) : Int) := by
    unfold ishr; rw [Int.fdiv_eq_ediv_of_nonneg _ (by decide)]; simp [IntKind.bits]
  have e3 : hi * 256 % 2 ^ 64 = (hi % 2 ^ 56) * 256 := by omega
  have e4 : (hi * 256 % 2 ^ 64) ||| (lo / 2 ^ 56) = hi * 256 % 2 ^ 64 + lo / 2 ^ 56 := by rw [e3]; exact or_add _ _ (by omega)
  rw [e1, e2, ibits_or _ _ (by omega) (by omega) (by rw [e4]; omega), e4]
theorem step_lo (lo b : Nat) (h2 : lo < 2 ^ 64) (hb : b < 256) : ibits .or .u64 (ishl .u64 (lo : Int) 8) (IntKind.u64.wrap (b : Int)) = (((lo * 256) % 2 ^ 64 + b : Nat) : Int) := by
  have e1 : ishl .u64 (lo : Int) 8 = (((lo * 256) % 2 ^ 64 : Nat) : Int) := by
    unfold ishl; rw [IntKind.wrap_u64]; simp [IntKind.bits]
  have e2 : IntKind.u64.wrap (b : Int) = (b : Int) := by rw [IntKind.wrap_u64]; omega
  have e3 : lo * 256 % 2 ^ 64 = (lo % 2 ^ 56) * 256 := by omega
  have e4 : (lo * 256 % 2 ^ 64) ||| b = lo * 256 % 2 ^ 64 + b := by rw [e3]; exact or_add _ _ (by omega)
  rw [e1, e2, ibits_or _ _ (by omega) (by omega) (by rw [e4]; omega), e4]
theorem stepV (hi lo b : Nat) (h : hi < 72057594037927936) : (hi * 256 % 18446744073709551616 + lo / 72057594037927936) * 18446744073709551616 + (lo * 256 % 18446744073709551616 + b) = (hi * 18446744073709551616 + lo) * 256 + b := by
  rw [Nat.mod_eq_of_lt (show hi * 256 < 18446744073709551616 by omega)]
  have : lo * 256 = lo / 72057594037927936 * 18446744073709551616 + lo * 256 % 18446744073709551616 := by omega
  rw [Nat.add_mul, Nat.add_mul]
  omega
theorem getW_eq (xs : List AV) (hx : byteL xs) : ∀ n, n ≤ xs.length → n ≤ 16 → ∃ hi lo : Nat, getW xs n = ((hi : Int), (lo : Int)) ∧ lo < 2 ^ 64 ∧ hi * 2 ^ 64 + lo = valB (xs.take n)
  | 0, _, _ => ⟨0, 0, rfl, by decide, by simp [valB]⟩
  | n + 1, hn, h16 => by
    obtain ⟨hi, lo, h1, h2, h3⟩ := getW_eq xs hx n (by omega) (by omega)
    have ht : xs.take (n + 1) = xs.take n ++ [xs.getD n .unk] := by
      rw [List.take_add_one, List.getD_eq_getElem?_getD, List.getElem?_eq_getElem (by omega)]; rfl
    obtain ⟨b, hb, hbx⟩ := hx (xs.getD n .unk) (by rw [List.getD_eq_getElem?_getD, List.getElem?_eq_getElem (by omega)]; exact List.getElem_mem _)
    have hlt := valB_lt (xs.take n) (fun x hx' => hx x (List.mem_of_mem_take hx'))
    rw [← h3, List.length_take, Nat.min_eq_left (by omega)] at hlt
    have h15 : 256 ^ n ≤ 256 ^ 15 := Nat.pow_le_pow_right (by decide) (by omega)
    have hh : hi < 72057594037927936 := by
      have h5 : hi * 2 ^ 64 < 72057594037927936 * 2 ^ 64 := Nat.lt_of_le_of_lt (Nat.le_add_right _ lo) (Nat.lt_of_lt_of_le hlt h15)
      exact Nat.lt_of_mul_lt_mul_right h5
    have hv : valB (xs.take (n + 1)) = (hi * 2 ^ 64 + lo) * 256 + b := by rw [ht, valB_snoc, hbx, h3]; simp [AV.asInt]
    refine ⟨hi * 256 % 2 ^ 64 + lo / 2 ^ 56, lo * 256 % 2 ^ 64 + b, ?_, ?_, ?_⟩
    · simp only [getW, h1, hbx, AV.asInt, step_hi hi lo (by omega) h2, step_lo lo b h2 hb]
    · have : lo * 256 % 2 ^ 64 = (lo % 2 ^ 56) * 256 := by omega
      omega
    · rw [hv]; exact stepV hi lo b hh
theorem get_put {hi lo n : Nat} {rest : List AV} (hl : lo < 2 ^ 64) (hn : n ≤ 16) (hv : hi * 2 ^ 64 + lo < 256 ^ n) (hr : byteL rest) :
    getHi (putL ((hi : Int), (lo : Int)) (n : Int) ++ rest) (n : Int) = hi ∧ getLo (putL ((hi : Int), (lo : Int)) (n : Int) ++ rest) (n : Int) = lo := by
  rw [putL_eq _ _ hl hn]
  have hb : byteL (bytesBE (hi * 2 ^ 64 + lo) n ++ rest) := fun x hx => (List.mem_append.1 hx).elim (bytesBE_ok _ _ x) (hr x)
  obtain ⟨hi', lo', h1, h2, h3⟩ := getW_eq _ hb n (by rw [List.length_append, bytesBE_len]; omega) hn
  rw [List.take_left' (bytesBE_len _ _), val_bytes, Nat.mod_eq_of_lt hv] at h3
  unfold getHi getLo
  rw [Int.toNat_natCast, h1]
  constructor <;> simp only <;> omega
theorem put_get {xs : List AV} {n : Nat} (hx : byteL xs) (hn : n ≤ xs.length) (h16 : n ≤ 16) : putL (getHi xs (n : Int), getLo xs (n : Int)) (n : Int) = xs.take n := by
  obtain ⟨hi, lo, h1, h2, h3⟩ := getW_eq _ hx n hn h16
  unfold getHi getLo
  rw [Int.toNat_natCast, h1, putL_eq _ _ h2 h16, h3]
  have := bytes_val (xs.take n) (fun x hx' => hx x (List.mem_of_mem_take hx'))
  rwa [List.length_take, Nat.min_eq_left hn] at this
theorem get_range {xs : List AV} {n : Nat} (hx : byteL xs) (hn : n ≤ xs.length) (h16 : n ≤ 16) : ∃ hi lo : Nat, getHi xs (n : Int) = hi ∧ getLo xs (n : Int) = lo ∧ lo < 2 ^ 64 ∧ hi * 2 ^ 64 + lo < 256 ^ n := by
  obtain ⟨hi, lo, h1, h2, h3⟩ := getW_eq _ hx n hn h16
  unfold getHi getLo
  rw [Int.toNat_natCast, h1]
  refine ⟨hi, lo, rfl, rfl, h2, ?_⟩
  rw [h3]
  have := valB_lt (xs.take n) (fun x hx' => hx x (List.mem_of_mem_take hx'))
  rwa [List.length_take, Nat.min_eq_left hn] at this

end Go.Proofs.Ytdcijmigoefnjaa
