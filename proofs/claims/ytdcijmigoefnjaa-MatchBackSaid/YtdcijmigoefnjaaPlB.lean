import Derived.Test.YtdcijmigoefnjaaD03
import Derived.Test.YtdcijmigoefnjaaEv3
/- Numbers of 128 bits as bytes, and back: plain laws. -/
set_option linter.unusedVariables false
set_option maxRecDepth 100000
namespace Go.Proofs.Ytdcijmigoefnjaa
open Go Go.Ev

/-! numbers as bytes -/
theorem snocInd {α : Type} {p : List α → Prop} (h0 : p []) (h1 : ∀ xs x, p xs → p (xs ++ [x])) (l : List α) : p l := by
  have : ∀ r : List α, p r.reverse := by
    intro r
    induction r with
    | nil => exact h0
    | cons x r ih => rw [List.reverse_cons]; exact h1 _ _ ih
  have h := this l.reverse
  rwa [List.reverse_reverse] at h
def bytesBE (m : Nat) : Nat → List AV
  | 0 => []
  | n + 1 => bytesBE (m / 256) n ++ [.int .u8 ((m % 256 : Nat) : Int)]
def valB (xs : List AV) : Nat := xs.foldl (fun a x => a * 256 + x.asInt.toNat) 0
/-- is it a byte -/
def isByte (x : AV) : Prop := ∃ z : Nat, z < 256 ∧ x = .int .u8 (z : Int)
def byteL (xs : List AV) : Prop := ∀ x ∈ xs, isByte x

theorem bytesBE_len (n : Nat) : ∀ m, (bytesBE m n).length = n := by
  induction n with
  | zero => intro m; rfl
  | succ n ih => intro m; simp [bytesBE, ih]
theorem bytesBE_ok (n : Nat) : ∀ m, byteL (bytesBE m n) := by
  induction n with
  | zero => intro m x hx; cases hx
  | succ n ih =>
    intro m x hx
    rcases List.mem_append.1 hx with h | h
    · exact ih _ x h
    · simp only [List.mem_singleton] at h
      exact ⟨m % 256, Nat.mod_lt _ (by decide), h⟩
theorem valB_snoc (xs : List AV) (x : AV) : valB (xs ++ [x]) = valB xs * 256 + x.asInt.toNat := by
  unfold valB; rw [List.foldl_append]; rfl
theorem val_bytes (n : Nat) : ∀ m, valB (bytesBE m n) = m % 256 ^ n := by
  induction n with
  | zero => intro m; simp [bytesBE, valB, Nat.mod_one]
  | succ n ih =>
    intro m
    rw [bytesBE, valB_snoc, ih, Nat.pow_succ]
    simp only [AV.asInt, Int.toNat_natCast]
    rw [Nat.mul_comm (256 ^ n) 256, Nat.mod_mul, Nat.mul_comm, Nat.add_comm]
theorem valB_lt (xs : List AV) : byteL xs → valB xs < 256 ^ xs.length := by
  refine snocInd (p := fun xs => byteL xs → valB xs < 256 ^ xs.length) (fun _ => by simp [valB]) (fun xs x ih h => ?_) xs
  have h1 := ih (fun y hy => h y (List.mem_append_left _ hy))
  obtain ⟨z, hz, rfl⟩ := h x (by simp)
  rw [valB_snoc]
  simp only [AV.asInt, Int.toNat_natCast, List.length_append, List.length_cons, List.length_nil, Nat.zero_add, Nat.pow_succ]
  omega
theorem bytes_val (xs : List AV) : byteL xs → bytesBE (valB xs) xs.length = xs := by
  refine snocInd (p := fun xs => byteL xs → bytesBE (valB xs) xs.length = xs) (fun _ => rfl) (fun xs x ih h => ?_) xs
  have h1 := ih (fun y hy => h y (List.mem_append_left _ hy))
  obtain ⟨z, hz, rfl⟩ := h x (by simp)
  rw [valB_snoc]
  simp only [AV.asInt, Int.toNat_natCast, List.length_append, List.length_cons, List.length_nil, Nat.zero_add, bytesBE]
  rw [show (valB xs * 256 + z) / 256 = valB xs by omega, show (valB xs * 256 + z) % 256 = z by omega, h1]
theorem bytesBE_drop (k n : Nat) : ∀ m, (bytesBE m (k + n)).drop k = bytesBE m n := by
  induction n with
  | zero => intro m; rw [Nat.add_zero, List.drop_eq_nil_of_le (by rw [bytesBE_len]; omega)]; rfl
  | succ n ih =>
    intro m
    rw [← Nat.add_assoc, bytesBE, List.drop_append, ih, bytesBE_len, show k - (k + n) = 0 by omega]; rfl

theorem shr_byte (m s : Nat) (hs : s ≤ 64) : byteAt (m : Int) (s : Int) = .int .u8 ((m / 2 ^ s % 256 : Nat) : Int) := by
  unfold byteAt ishr
  rw [IntKind.wrap_u8]
  have e : min ((s : Int).toNat) IntKind.u64.bits = s := by simp [IntKind.bits]; omega
  rw [e, Int.fdiv_eq_ediv_of_nonneg _ (by exact_mod_cast Nat.zero_le _)]
  congr 1

theorem bytesBE_get : ∀ n m, bytesBE m n = (List.range n).map fun i => AV.int .u8 ((m / 256 ^ (n - 1 - i) % 256 : Nat) : Int)
  | 0, m => rfl
  | n + 1, m => by
    rw [bytesBE, bytesBE_get n, List.range_succ, List.map_append, List.map_singleton]
    congr 1
    · refine List.map_congr_left fun i hi => ?_
      have hi := List.mem_range.1 hi
      rw [show n + 1 - 1 - i = (n - 1 - i) + 1 by omega, Nat.div_div_eq_div_mul, Nat.pow_succ, Nat.mul_comm 256]
    · simp
theorem bHi (hi lo s : Nat) (h : lo < 2 ^ 64) : (hi * 2 ^ 64 + lo) / 2 ^ (64 + s) = hi / 2 ^ s := by
  rw [Nat.pow_add, ← Nat.div_div_eq_div_mul, show (hi * 2 ^ 64 + lo) / 2 ^ 64 = hi by omega]
theorem bLo (hi lo s : Nat) (hs : s ≤ 56) : (hi * 2 ^ 64 + lo) / 2 ^ s % 256 = lo / 2 ^ s % 256 := by
  have e : hi * 2 ^ 64 = 2 ^ s * (hi * 2 ^ (56 - s) * 256) := by
    have : 2 ^ 64 = 2 ^ s * 2 ^ (56 - s) * 256 := by
      rw [← Nat.pow_add, show s + (56 - s) = 56 by omega]
    rw [this, Nat.mul_assoc, Nat.mul_left_comm, Nat.mul_assoc hi]
  rw [e, Nat.mul_add_div (Nat.two_pow_pos s), Nat.add_comm, Nat.add_mul_mod_self_right]
theorem gHi (hi lo s k : Nat) (t : Int) (h : lo < 2 ^ 64) (ht : t = (s : Int)) (hs : s ≤ 64) (hk : 256 ^ k = 2 ^ (64 + s)) : byteAt (hi : Int) t = .int .u8 (((hi * 2 ^ 64 + lo) / 256 ^ k % 256 : Nat) : Int) := by
  rw [ht, shr_byte _ _ hs, hk, bHi _ _ _ h]
theorem gLo (hi lo s k : Nat) (t : Int) (ht : t = (s : Int)) (hs : s ≤ 56) (hk : 256 ^ k = 2 ^ s) : byteAt (lo : Int) t = .int .u8 (((hi * 2 ^ 64 + lo) / 256 ^ k % 256 : Nat) : Int) := by
  rw [ht, shr_byte _ _ (by omega), hk, bLo _ _ _ hs]
theorem all16_eq (hi lo : Nat) (h : lo < 2 ^ 64) : all16 ((hi : Int), (lo : Int)) = bytesBE (hi * 2 ^ 64 + lo) 16 := by
  rw [bytesBE_get]
  unfold all16
  simp only [List.range, List.range.loop, List.map_cons, List.map_nil, List.cons.injEq, and_true]
  exact ⟨gHi _ _ 56 15 _ h rfl (by omega) (by decide), gHi _ _ 48 14 _ h rfl (by omega) (by decide), gHi _ _ 40 13 _ h rfl (by omega) (by decide), gHi _ _ 32 12 _ h rfl (by omega) (by decide), gHi _ _ 24 11 _ h rfl (by omega) (by decide), gHi _ _ 16 10 _ h rfl (by omega) (by decide), gHi _ _ 8 9 _ h rfl (by omega) (by decide), gHi _ _ 0 8 _ h rfl (by omega) (by decide), gLo _ _ 56 7 _ rfl (by omega) (by decide), gLo _ _ 48 6 _ rfl (by omega) (by decide), gLo _ _ 40 5 _ rfl (by omega) (by decide), gLo _ _ 32 4 _ rfl (by omega) (by decide), gLo _ _ 24 3 _ rfl (by omega) (by decide), gLo _ _ 16 2 _ rfl (by omega) (by decide), gLo _ _ 8 1 _ rfl (by omega) (by decide), gLo _ _ 0 0 _ rfl (by omega) (by decide)⟩
/-- a number's bytes -/
theorem putL_eq (hi lo : Nat) (h : lo < 2 ^ 64) {n : Nat} (hn : n ≤ 16) : putL ((hi : Int), (lo : Int)) (n : Int) = bytesBE (hi * 2 ^ 64 + lo) n := by
  unfold putL
  rw [all16_eq _ _ h, Int.toNat_natCast]
  have := bytesBE_drop (16 - n) n (hi * 2 ^ 64 + lo)
  rwa [show 16 - n + n = 16 by omega] at this
theorem or_add (a b : Nat) (hb : b < 256) : (a * 256) ||| b = a * 256 + b := by
  have := Nat.two_pow_add_eq_or_of_lt (i := 8) hb a
  rw [Nat.mul_comm]; exact this.symm
theorem ibits_or (a b : Nat) (ha : a < 2 ^ 64) (hb : b < 2 ^ 64) (hc : a ||| b < 2 ^ 64) : ibits .or .u64 (a : Int) (b : Int) = ((a ||| b : Nat) : Int) := by
  rw [ibits_eq]
  show IntKind.u64.wrap _ = _
  rw [IntKind.wrap_u64]
  have e : (BitVec.ofInt IntKind.u64.bits (a : Int) ||| BitVec.ofInt IntKind.u64.bits (b : Int)).toNat = a ||| b := by
    show (BitVec.ofInt 64 (a : Int) ||| BitVec.ofInt 64 (b : Int)).toNat = a ||| b
    rw [BitVec.toNat_or, BitVec.ofInt_natCast, BitVec.ofInt_natCast, BitVec.toNat_ofNat, BitVec.toNat_ofNat, Nat.mod_eq_of_lt ha, Nat.mod_eq_of_lt hb]
  rw [e]
  omega
theorem step_hi (hi lo : Nat) (h1 : hi < 2 ^ 64) (h2 : lo < 2 ^ 64) : ibits .or .u64 (ishl .u64 (hi : Int) 8) (ishr .u64 (lo : Int) 56) = (((hi * 256) % 2 ^ 64 + lo / 2 ^ 56 : Nat) : Int) := by
  have e1 : ishl .u64 (hi : Int) 8 = (((hi * 256) % 2 ^ 64 : Nat) : Int) := by
    unfold ishl; rw [IntKind.wrap_u64]; simp [IntKind.bits]
  have e2 : ishr .u64 (lo : Int) 56 = ((lo / 2 ^ 56 : Nat) : Int) := by
    unfold ishr; rw [Int.fdiv_eq_ediv_of_nonneg _ (by decide)]; simp [IntKind.bits]
  have e3 : hi * 256 % 2 ^ 64 = (hi % 2 ^ 56) * 256 := by omega
  have e4 : (hi * 256 % 2 ^ 64) ||| (lo / 2 ^ 56) = hi * 256 % 2 ^ 64 + lo / 2 ^ 56 := by rw [e3]; exact or_add _ _ (by omega)
  rw [e1, e2, ibits_or _ _ (by omega) (by omega) (by rw [e4]; omega), e4]
theorem step_lo (lo b : Nat) (h2 : lo < 2 ^ 64) (hb : b < 256) : ibits .or .u64 (ishl .u64 (lo : Int) 8) (IntKind.u64.wrap (b : Int)) = (((lo * 256) % 2 ^ 64 + b : Nat) : Int) := by
  have e1 : ishl .u64 (lo : Int) 8 = (((lo * 256) % 2 ^ 64 : Nat) : Int) := by
    unfold ishl; rw [IntKind.wrap_u64]; simp [IntKind.bits]
  have e2 : IntKind.u64.wrap (b : Int) = (b : Int) := by rw [IntKind.wrap_u64]; omega
  have e3 : lo * 256 % 2 ^ 64 = (lo % 2 ^ 56) * 256 := by omega
  have e4 : (lo * 256 % 2 ^ 64) ||| b = lo * 256 % 2 ^ 64 + b := by rw [e3]; exact or_add _ _ (by omega)
  rw [e1, e2, ibits_or _ _ (by omega) (by omega) (by rw [e4]; omega), e4]
theorem stepV (hi lo b : Nat) (h : hi < 72057594037927936) : (hi * 256 % 18446744073709551616 + lo / 72057594037927936) * 18446744073709551616 + (lo * 256 % 18446744073709551616 + b) = (hi * 18446744073709551616 + lo) * 256 + b := by
  rw [Nat.mod_eq_of_lt (show hi * 256 < 18446744073709551616 by omega)]
  have : lo * 256 = lo / 72057594037927936 * 18446744073709551616 + lo * 256 % 18446744073709551616 := by omega
  rw [Nat.add_mul, Nat.add_mul]
  omega
theorem getW_eq (xs : List AV) (hx : byteL xs) : ∀ n, n ≤ xs.length → n ≤ 16 → ∃ hi lo : Nat, getW xs n = ((hi : Int), (lo : Int)) ∧ lo < 2 ^ 64 ∧ hi * 2 ^ 64 + lo = valB (xs.take n)
  | 0, _, _ => ⟨0, 0, rfl, by decide, by simp [valB]⟩
  | n + 1, hn, h16 => by
    obtain ⟨hi, lo, h1, h2, h3⟩ := getW_eq xs hx n (by omega) (by omega)
    have ht : xs.take (n + 1) = xs.take n ++ [xs.getD n .unk] := by
      rw [List.take_add_one, List.getD_eq_getElem?_getD, List.getElem?_eq_getElem (by omega)]; rfl
    obtain ⟨b, hb, hbx⟩ := hx (xs.getD n .unk) (by rw [List.getD_eq_getElem?_getD, List.getElem?_eq_getElem (by omega)]; exact List.getElem_mem _)
    have hlt := valB_lt (xs.take n) (fun x hx' => hx x (List.mem_of_mem_take hx'))
    rw [← h3, List.length_take, Nat.min_eq_left (by omega)] at hlt
    have h15 : 256 ^ n ≤ 256 ^ 15 := Nat.pow_le_pow_right (by decide) (by omega)
    have hh : hi < 72057594037927936 := by
      have h5 : hi * 2 ^ 64 < 72057594037927936 * 2 ^ 64 := Nat.lt_of_le_of_lt (Nat.le_add_right _ lo) (Nat.lt_of_lt_of_le hlt h15)
      exact Nat.lt_of_mul_lt_mul_right h5
    have hv : valB (xs.take (n + 1)) = (hi * 2 ^ 64 + lo) * 256 + b := by rw [ht, valB_snoc, hbx, h3]; simp [AV.asInt]
    refine ⟨hi * 256 % 2 ^ 64 + lo / 2 ^ 56, lo * 256 % 2 ^ 64 + b, ?_, ?_, ?_⟩
    · simp only [getW, h1, hbx, AV.asInt, step_hi hi lo (by omega) h2, step_lo lo b h2 hb]
    · have : lo * 256 % 2 ^ 64 = (lo % 2 ^ 56) * 256 := by omega
      omega
    · rw [hv]; exact stepV hi lo b hh
theorem get_put {hi lo n : Nat} {rest : List AV} (hl : lo < 2 ^ 64) (hn : n ≤ 16) (hv : hi * 2 ^ 64 + lo < 256 ^ n) (hr : byteL rest) :
    getHi (putL ((hi : Int), (lo : Int)) (n : Int) ++ rest) (n : Int) = hi ∧ getLo (putL ((hi : Int), (lo : Int)) (n : Int) ++ rest) (n : Int) = lo := by
  rw [putL_eq _ _ hl hn]
  have hb : byteL (bytesBE (hi * 2 ^ 64 + lo) n ++ rest) := fun x hx => (List.mem_append.1 hx).elim (bytesBE_ok _ _ x) (hr x)
  obtain ⟨hi', lo', h1, h2, h3⟩ := getW_eq _ hb n (by rw [List.length_append, bytesBE_len]; omega) hn
  rw [List.take_left' (bytesBE_len _ _), val_bytes, Nat.mod_eq_of_lt hv] at h3
  unfold getHi getLo
  rw [Int.toNat_natCast, h1]
  constructor <;> simp only <;> omega
theorem put_get {xs : List AV} {n : Nat} (hx : byteL xs) (hn : n ≤ xs.length) (h16 : n ≤ 16) : putL (getHi xs (n : Int), getLo xs (n : Int)) (n : Int) = xs.take n := by
  obtain ⟨hi, lo, h1, h2, h3⟩ := getW_eq _ hx n hn h16
  unfold getHi getLo
  rw [Int.toNat_natCast, h1, putL_eq _ _ h2 h16, h3]
  have := bytes_val (xs.take n) (fun x hx' => hx x (List.mem_of_mem_take hx'))
  rwa [List.length_take, Nat.min_eq_left hn] at this
end Go.Proofs.Ytdcijmigoefnjaa

/- Chapter 45: frames, as functions. -/
set_option linter.unusedVariables false
set_option maxRecDepth 100000
namespace Go.Proofs.Ytdcijmigoefnjaa
open Go Go.Ev

/-- a number of bytes at a place -/
def nv (xs : List AV) (o n : Nat) : Int := (valB ((xs.drop o).take n) : Nat)
def okL (xs : List AV) : Bool := bytB xs && lenB xs
noncomputable def spNG : List (FuncId × SumT) := [(193, (book.all 100 3 193).T)]

end Go.Proofs.Ytdcijmigoefnjaa

/- Chapter 11: a match as bytes, and back, as functions. -/
set_option linter.unusedVariables false
set_option maxRecDepth 100000
namespace Go.Proofs.Ytdcijmigoefnjaa
open Go Go.Ev

/-- a length rounded up to a multiple of 8 -/
def padI (n : Int) : Int := (n + 7) / 8 * 8
def S140 : SumT := sum0 (σ := Int) (fun a => (arg a 0).asInt) (fun n => [.int .i64 n]) (fun n => ile 0 n && ile n 1000000) (fun n => .leaf (.int .i64 (padI n)))
def encsL (xs : List AV) : List AV := xs.flatMap fun v => encL (ox v)
/-- the bytes of those before the first wrong one -/
def encsG (xs : List AV) : List AV := encsL (xs.takeWhile fun v => rightO (ox v))
/-- is there nothing right from here on -/
def flgB (xs : List AV) (j : Nat) : Bool := bif Nat.ble xs.length j then true else !rightO (ox (xs.getD j .unk))
def rightsB (xs : List AV) : Bool := xs.all fun v => rightO (ox v)
def shortX (xs : List AV) : Bool := Nat.ble xs.length 1000000

/-- an own list's tag: the first round's, or a later one's -/
def flTag (a b : Nat) (fl : Bool) : Tag := bif fl then [a, 1] else [b, 1]
def tagIs (k : Tag) : AV → Bool
  | .sl _ _ (.own k') => k' == k
  | _ => false
abbrev A89 := Bool × List AV
def st89 (x : Int × A89 × List AV) : AS := stA 49 [(4, .sl 1 x.2.1.2 (.own (flTag 13 30 x.2.1.1))), (14, .sl 6 x.2.2 .sh), (15, .int .i64 x.2.2.length), (16, .int .i64 x.1)] []
def pr89 (s : AS) : Int × A89 × List AV := ((s.at 16).asInt, (tagIs [13, 1] (s.at 4), (s.at 4).elems), (s.at 14).elems)
def sp89 (lk : Bool) : List (FuncId × SumT) := [(91, S91), (133, S133), (74, S74l lk), (140, S140)]
/-- parts' bytes behind some -/
def encNx (lk : Bool) (cs : List AV) (v : AV) : List AV := cs ++ lockL lk (encL (ox v))
def L89 (lk : Bool) : GL (List AV) A89 := ⟨fun r => r.length, fun r j _ => !rightO (ox (r.getD j .unk)), fun r j a => (false, encNx lk a.2 (r.getD j .unk)), fun r j _ => !rightsB (r.drop j), fun _ _ _ => 0,
  fun r j a => (a.1 && flgB r j, lockL lk (a.2 ++ encsG (r.drop j))), fun _ _ a => (.ret, stA 49 [(2, .sl 0 [] .nil), (3, .int .i64 1), (4, .sl 1 a.2 (.own (flTag 13 30 a.1)))] []), fun _ a => (.exit 0, stA 49 [(4, .sl 1 a.2 (.own (flTag 13 30 a.1)))] []),
  fun r => okX r && shortX r, fun _ j a => Nat.ble a.2.length (36 * j + 4)⟩
noncomputable def lp89 (lk : Bool) : AS → T (Tree (Ex × AS)) := loopS (book.clean 89 5) pr89 st89 (L89 lk).tr2 (L89 lk).pre
/-- may a match be laid -/
def okEnc (xs : List AV) : Bool := ieq (chk11 xs) 0 && (rightsB xs && Nat.ble (encsL xs).length 1000)
/-- a match's bytes -/
def enc11 (xs : List AV) : List AV :=
  .int .u8 0 :: .int .u8 1 :: nbyte ((4 + (encsL xs).length : Nat) : Int) 8 :: nbyte ((4 + (encsL xs).length : Nat) : Int) 0 :: (encsL xs ++ List.replicate ((padI ((4 + (encsL xs).length : Nat) : Int)).toNat - (4 + (encsL xs).length)) (.int .u8 0))
def encT11 (lk : Bool) (xs : List AV) : Tree AV := .ite (okEnc xs) (.leaf (.tup [.sl 1 (lockL lk (enc11 xs)) .sh, .int .i64 0])) (.leaf (.tup [.sl 0 [] .nil, .int .i64 1]))
def S89 (lk : Bool) : SumT := sumW (σ := List AV) [6] (fun a => (arg a 0).elems) (fun x => [.sl 6 x .sh]) (fun x => okX x && shortX x) (fun x => encT11 lk x)
end Go.Proofs.Ytdcijmigoefnjaa

/- Chapter 11: a match as bytes: the reference. -/
set_option linter.unusedVariables false
set_option maxRecDepth 100000
namespace Go.Proofs.Ytdcijmigoefnjaa
open Go Go.Ev

def pre90b (x : A89) : Bool := Nat.ble x.2.length 1000000
end Go.Proofs.Ytdcijmigoefnjaa

/- Chapter 11: a match out of bytes, as functions. -/
set_option linter.unusedVariables false
set_option maxRecDepth 100000
namespace Go.Proofs.Ytdcijmigoefnjaa
open Go Go.Ev

/-- two bytes as a number; too few, and it says so -/
def S178h : SumT := sumW (σ := List AV × Int) [1] (fun a => ((arg a 0).elems, (arg a 1).asInt)) (fun x => [.sl 1 x.1 .sh, .int .i64 x.2, .int .i64 2]) (fun x => okL x.1 && (ile 0 x.2 && ile x.2 1000))
  (fun x => .ite (ile (x.2 + 2) x.1.length) (.leaf (.tup [.int .i64 (nv x.1 x.2.toNat 2), .int .i64 0])) (.leaf (.tup [.int .i64 0, .int .i64 3])))
def sp138h : List (FuncId × SumT) := [(178, S178h), (140, S140), (142, S142)]
/-- what is wrong with a match's head; -1: nothing -/
def hdC (xs : List AV) : Int := bif ilt (xs.length : Int) 4 then 1 else bif ilt (nv xs 2 2) 4 then 1 else bif ilt (xs.length : Int) (padI (nv xs 2 2)) then 1 else bif !ieq (nv xs 0 2) 1 then 0 else bif ilt 1004 (nv xs 2 2) then 1 else -1
def S138 : SumT := sumW (σ := List AV) [1] (fun a => (arg a 0).elems) (fun x => [.sl 1 x .sh]) (fun x => okL x) (fun x => .ite (ieq (hdC x) (-1)) (.leaf (.tup [.int .i64 (nv x 2 2), .agg noF])) (.leaf (.tup [.int .i64 0, .agg (baF (hdC x))])))
/-- is there a byte that is not nought -/
def nzB (xs : List AV) : Bool := xs.any fun v => !ieq v.asInt 0
def S139 : SumT := sumW (σ := List AV) [1] (fun a => (arg a 0).elems) (fun x => [.sl 1 x .sh, .fn 141 []]) (fun x => okL x) (fun x => .leaf (.bool (nzB x)))
/-- parts out of bytes, up to the first wrong one; what is wrong there, or 0 -/
def decAll : Nat → List AV → List AV × Int
  | 0, _ => ([], 0)
  | n + 1, ys => bif ys.isEmpty then ([], 0) else bif ieq (decCode ys) 0 then (oxA (decX ys) :: (decAll n (ys.drop (4 + byN ys 3).toNat)).1, (decAll n (ys.drop (4 + byN ys 3).toNat)).2) else ([], decCode ys)
def decL (ys : List AV) : List AV := (decAll ys.length ys).1
def decC (ys : List AV) : Int := (decAll ys.length ys).2
def sp86 (lk : Bool) : List (FuncId × SumT) := [(138, S138), (62, S62l lk), (91, S91), (140, S140), (139, S139), (142, S142)]
abbrev D86 := (Bool × List AV) × List AV × List AV × Int
def ac86 (a : Bool × List AV) : AV := bif a.1 then .sl 0 [] .nil else .sl 6 a.2 (.own [39, 1])
def st86 (x : D86) : AS := stA 59 [(0, .sl 1 x.2.2.1 .sh), (4, .ptr 4 0), (5, .int .i64 x.2.2.2), (7, ac86 x.1), (8, .sl 1 x.2.1 .sh)] [(4, noF)]
def isNilS : AV → Bool
  | .sl _ _ .nil => true
  | _ => false
def pr86 (s : AS) : D86 := ((isNilS (s.at 7), (s.at 7).elems), (s.at 8).elems, (s.at 0).elems, (s.at 5).asInt)
def out86 (a : Bool × List AV) (xs : List AV) (n c : Int) : Ex × AS := (.ret, stA 59 [(0, .sl 1 xs .sh), (2, .sl 0 [] .nil), (3, .int .i64 0), (4, .ptr 4 0), (5, .int .i64 n), (7, ac86 a)] [(4, baF c)])
def fin86 (a : Bool × List AV) (xs : List AV) (n : Int) : Ex × AS := (.exit 0, stA 59 [(0, .sl 1 xs .sh), (4, .ptr 4 0), (5, .int .i64 n), (7, ac86 a)] [(4, noF)])
def ac2 (lk : Bool) (x : D86) : List AV := lockL lk (x.1.2 ++ decL x.2.1)
def fl2 (x : D86) : Bool := x.1.1 && (decL x.2.1).isEmpty
def tr86 (lk : Bool) (x : D86) : Tree (Ex × AS) :=
  .ite (ieq (decC x.2.1) 0) (.ite (fl2 x) (.leaf (fin86 (true, []) x.2.2.1 x.2.2.2)) (.leaf (fin86 (false, ac2 lk x) x.2.2.1 x.2.2.2)))
    (.ite (fl2 x) (.leaf (out86 (true, []) x.2.2.1 x.2.2.2 (decC x.2.1))) (.leaf (out86 (false, ac2 lk x) x.2.2.1 x.2.2.2 (decC x.2.1))))
def pre86 (x : D86) : Bool := bytB x.2.1 && (Nat.ble (x.1.2.length + x.2.1.length) 1000 && (bif x.1.1 then x.1.2.isEmpty else true))
noncomputable def lp86 (lk : Bool) : AS → T (Tree (Ex × AS)) := loopS (book.clean 86 6) pr86 st86 (tr86 lk) pre86
end Go.Proofs.Ytdcijmigoefnjaa

/- Chapter 11: is there a byte that is not nought. -/
set_option linter.unusedVariables false
set_option maxRecDepth 100000
namespace Go.Proofs.Ytdcijmigoefnjaa
open Go Go.Ev

def nz (v : AV) : Bool := !ieq v.asInt 0
def st179 (x : Int × List AV) : AS := stA 19 [(0, .sl 1 x.2 .sh), (1, .fn 141 []), (7, .int .i64 x.2.length), (8, .int .i64 x.1)] []
def pr179 (s : AS) : Int × List AV := ((s.at 8).asInt, (s.at 0).elems)
def ixN (xs : List AV) (j : Nat) : Nat := firstI (fun k => nz (xs.getD k .unk)) (xs.length - j) j
def L179 : FL (List AV) := ⟨fun r => r.length, fun r j => nz (r.getD j .unk), fun r j => nzB (r.drop j), fun r j => ixN r j, fun _ k => (.ret, stA 19 [(4, .int .i64 k)] []), fun _ => (.exit 0, stA 19 [] []), fun r => okL r⟩
noncomputable def lp179 : AS → T (Tree (Ex × AS)) := loopS (book.clean 179 2) pr179 st179 L179.tr L179.pre
def S141z : SumT := sum0 (σ := Int) (fun a => (arg a 0).asInt) (fun n => [.int .u8 n]) (fun _ => true) (fun n => .leaf (.bool (!ieq n 0)))
def sp179 : List (FuncId × SumT) := [(141, S141z)]
def S179 : SumT := sumW (σ := List AV) [1] (fun a => (arg a 0).elems) (fun x => [.sl 1 x .sh, .fn 141 []]) (fun x => okL x) (fun x => .ite (nzB x) (.leaf (.int .i64 (ixN x 0))) (.leaf (.int .i64 (-1))))
def sp139 : List (FuncId × SumT) := [(179, S179)]
/-- a match's parts, as bytes -/
def bdL (xs : List AV) : List AV := List.take ((nv xs 2 2).toNat - 4) (List.drop 4 xs)
/-- what fills it up -/
def pdL (xs : List AV) : List AV := List.take ((padI (nv xs 2 2)).toNat - (nv xs 2 2).toNat) (List.drop (nv xs 2 2).toNat xs)
def okD (xs : List AV) : Bool := ieq (hdC xs) (-1) && (ieq (decC (bdL xs)) 0 && (ieq (chk11 (decL (bdL xs))) 0 && !nzB (pdL xs)))
def cdD (xs : List AV) : Int := bif !ieq (hdC xs) (-1) then hdC xs else bif !ieq (decC (bdL xs)) 0 then decC (bdL xs) else bif !ieq (chk11 (decL (bdL xs))) 0 then chk11 (decL (bdL xs)) else 1
def decT11 (e : AV) (lk : Bool) (xs : List AV) : Tree AV := .ite (okD xs) (.ite (decL (bdL xs)).isEmpty (.leaf (.tup [e, .int .i64 (padI (nv xs 2 2)), .agg noF])) (.leaf (.tup [.sl 6 (lockL lk (decL (bdL xs))) .sh, .int .i64 (padI (nv xs 2 2)), .agg noF])))
  (.leaf (.tup [.sl 0 [] .nil, .int .i64 0, .agg (baF (cdD xs))]))
def S86 (e : AV) (lk : Bool) : SumT := sumW (σ := List AV) [1] (fun a => (arg a 0).elems) (fun x => [.sl 1 x .sh]) (fun x => okL x) (fun x => decT11 e lk x)
end Go.Proofs.Ytdcijmigoefnjaa

/- Chapter 11: a match out of bytes: the reference. -/
set_option linter.unusedVariables false
set_option maxRecDepth 100000
namespace Go.Proofs.Ytdcijmigoefnjaa
open Go Go.Ev

abbrev D87 := (Bool × List AV) × Int × List AV × Int × Int
abbrev E87 := Int × List AV × Int × (Bool × List AV)
def sp22 (lk : Bool) : List (FuncId × SumT) := [(89, S89 lk), (80, S80), (86, S86 (.sl 0 [] .nil) lk), (93, S93), (59, S41 .u8), (81, sumOf (g0 (.bool true)))]
end Go.Proofs.Ytdcijmigoefnjaa
