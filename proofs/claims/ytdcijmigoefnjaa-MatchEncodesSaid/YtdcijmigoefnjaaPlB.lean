import Derived.Test.YtdcijmigoefnjaaD03
import Derived.Test.YtdcijmigoefnjaaEv3
/- Numbers of 128 bits as bytes, and back: plain laws. -/
set_option linter.unusedVariables false
set_option maxRecDepth 100000
namespace Go.Proofs.Ytdcijmigoefnjaa
open Go Go.Ev

def bytesBE (m : Nat) : Nat → List AV
  | 0 => []
  | n + 1 => bytesBE (m / 256) n ++ [.int .u8 ((m % 256 : Nat) : Int)]
/-- is it a byte -/
def isByte (x : AV) : Prop := ∃ z : Nat, z < 256 ∧ x = .int .u8 (z : Int)
def byteL (xs : List AV) : Prop := ∀ x ∈ xs, isByte x

theorem bytesBE_len (n : Nat) : ∀ m, (bytesBE m n).length = n := by
  induction n with
  | zero => intro m; rfl
  | succ n ih => intro m; simp [bytesBE, ih]
theorem bytesBE_ok (n : Nat) : ∀ m, byteL (bytesBE m n) := by
  induction n with
  | zero => intro m x hx; cases hx
  | succ n ih =>
    intro m x hx
    rcases List.mem_append.1 hx with h | h
    · exact ih _ x h
    · simp only [List.mem_singleton] at h
      exact ⟨m % 256, Nat.mod_lt _ (by decide), h⟩
theorem bytesBE_drop (k n : Nat) : ∀ m, (bytesBE m (k + n)).drop k = bytesBE m n := by
  induction n with
  | zero => intro m; rw [Nat.add_zero, List.drop_eq_nil_of_le (by rw [bytesBE_len]; omega)]; rfl
  | succ n ih =>
    intro m
    rw [← Nat.add_assoc, bytesBE, List.drop_append, ih, bytesBE_len, show k - (k + n) = 0 by omega]; rfl

theorem shr_byte (m s : Nat) (hs : s ≤ 64) : byteAt (m : Int) (s : Int) = .int .u8 ((m / 2 ^ s % 256 : Nat) : Int) := by
  unfold byteAt ishr
  rw [IntKind.wrap_u8]
  have e : min ((s : Int).toNat) IntKind.u64.bits = s := by simp [IntKind.bits]; omega
  rw [e, Int.fdiv_eq_ediv_of_nonneg _ (by exact_mod_cast Nat.zero_le _)]
  congr 1

theorem bytesBE_get : ∀ n m, bytesBE m n = (List.range n).map fun i => AV.int .u8 ((m / 256 ^ (n - 1 - i) % 256 : Nat) : Int)
  | 0, m => rfl
  | n + 1, m => by
    rw [bytesBE, bytesBE_get n, List.range_succ, List.map_append, List.map_singleton]
    congr 1
    · refine List.map_congr_left fun i hi => ?_
      have hi := List.mem_range.1 hi
      rw [show n + 1 - 1 - i = (n - 1 - i) + 1 by omega, Nat.div_div_eq_div_mul, Nat.pow_succ, Nat.mul_comm 256]
    · simp
theorem bHi (hi lo s : Nat) (h : lo < 2 ^ 64) : (hi * 2 ^ 64 + lo) / 2 ^ (64 + s) = hi / 2 ^ s := by
  rw [Nat.pow_add, ← Nat.div_div_eq_div_mul, show (hi * 2 ^ 64 + lo) / 2 ^ 64 = hi by omega]
theorem bLo (hi lo s : Nat) (hs : s ≤ 56) : (hi * 2 ^ 64 + lo) / 2 ^ s % 256 = lo / 2 ^ s % 256 := by
  have e : hi * 2 ^ 64 = 2 ^ s * (hi * 2 ^ (56 - s) * 256) := by
    have : 2 ^ 64 = 2 ^ s * 2 ^ (56 - s) * 256 := by
      rw [← Nat.pow_add, show s + (56 - s) = 56 by omega]
    rw [this, Nat.mul_assoc, Nat.mul_left_comm, Nat.mul_assoc hi]
  rw [e, Nat.mul_add_div (Nat.two_pow_pos s), Nat.add_comm, Nat.add_mul_mod_self_right]
theorem gHi (hi lo s k : Nat) (t : Int) (h : lo < 2 ^ 64) (ht : t = (s : Int)) (hs : s ≤ 64) (hk : 256 ^ k = 2 ^ (64 + s)) : byteAt (hi : Int) t = .int .u8 (((hi * 2 ^ 64 + lo) / 256 ^ k % 256 : Nat) : Int) := by
  rw [ht, shr_byte _ _ hs, hk, bHi _ _ _ h]
theorem gLo (hi lo s k : Nat) (t : Int) (ht : t = (s : Int)) (hs : s ≤ 56) (hk : 256 ^ k = 2 ^ s) : byteAt (lo : Int) t = .int .u8 (((hi * 2 ^ 64 + lo) / 256 ^ k % 256 : Nat) : Int) := by
  rw [ht, shr_byte _ _ (by omega), hk, bLo _ _ _ hs]
theorem all16_eq (hi lo : Nat) (h : lo < 2 ^ 64) : all16 ((hi : Int), (lo : Int)) = bytesBE (hi * 2 ^ 64 + lo) 16 := by
  rw [bytesBE_get]
  unfold all16
  simp only [List.range, List.range.loop, List.map_cons, List.map_nil, List.cons.injEq, and_true]
  exact ⟨gHi _ _ 56 15 _ h rfl (by omega) (by decide), gHi _ _ 48 14 _ h rfl (by omega) (by decide), gHi _ _ 40 13 _ h rfl (by omega) (by decide), gHi _ _ 32 12 _ h rfl (by omega) (by decide), gHi _ _ 24 11 _ h rfl (by omega) (by decide), gHi _ _ 16 10 _ h rfl (by omega) (by decide), gHi _ _ 8 9 _ h rfl (by omega) (by decide), gHi _ _ 0 8 _ h rfl (by omega) (by decide), gLo _ _ 56 7 _ rfl (by omega) (by decide), gLo _ _ 48 6 _ rfl (by omega) (by decide), gLo _ _ 40 5 _ rfl (by omega) (by decide), gLo _ _ 32 4 _ rfl (by omega) (by decide), gLo _ _ 24 3 _ rfl (by omega) (by decide), gLo _ _ 16 2 _ rfl (by omega) (by decide), gLo _ _ 8 1 _ rfl (by omega) (by decide), gLo _ _ 0 0 _ rfl (by omega) (by decide)⟩
/-- a number's bytes -/
theorem putL_eq (hi lo : Nat) (h : lo < 2 ^ 64) {n : Nat} (hn : n ≤ 16) : putL ((hi : Int), (lo : Int)) (n : Int) = bytesBE (hi * 2 ^ 64 + lo) n := by
  unfold putL
  rw [all16_eq _ _ h, Int.toNat_natCast]
  have := bytesBE_drop (16 - n) n (hi * 2 ^ 64 + lo)
  rwa [show 16 - n + n = 16 by omega] at this
theorem ibits_or (a b : Nat) (ha : a < 2 ^ 64) (hb : b < 2 ^ 64) (hc : a ||| b < 2 ^ 64) : ibits .or .u64 (a : Int) (b : Int) = ((a ||| b : Nat) : Int) := by
  rw [ibits_eq]
  show IntKind.u64.wrap _ = _
  rw [IntKind.wrap_u64]
  have e : (BitVec.ofInt IntKind.u64.bits (a : Int) ||| BitVec.ofInt IntKind.u64.bits (b : Int)).toNat = a ||| b := by
    show (BitVec.ofInt 64 (a : Int) ||| BitVec.ofInt 64 (b : Int)).toNat = a ||| b
    rw [BitVec.toNat_or, BitVec.ofInt_natCast, BitVec.ofInt_natCast, BitVec.toNat_ofNat, BitVec.toNat_ofNat, Nat.mod_eq_of_lt ha, Nat.mod_eq_of_lt hb]
  rw [e]
  omega
end Go.Proofs.Ytdcijmigoefnjaa

/- Chapter 11: a match as bytes, and back, as functions. -/
set_option linter.unusedVariables false
set_option maxRecDepth 100000
namespace Go.Proofs.Ytdcijmigoefnjaa
open Go Go.Ev

/-- a length rounded up to a multiple of 8 -/
def padI (n : Int) : Int := (n + 7) / 8 * 8
def S140 : SumT := sum0 (σ := Int) (fun a => (arg a 0).asInt) (fun n => [.int .i64 n]) (fun n => ile 0 n && ile n 1000000) (fun n => .leaf (.int .i64 (padI n)))
def encsL (xs : List AV) : List AV := xs.flatMap fun v => encL (ox v)
/-- the bytes of those before the first wrong one -/
def encsG (xs : List AV) : List AV := encsL (xs.takeWhile fun v => rightO (ox v))
/-- is there nothing right from here on -/
def flgB (xs : List AV) (j : Nat) : Bool := bif Nat.ble xs.length j then true else !rightO (ox (xs.getD j .unk))
def rightsB (xs : List AV) : Bool := xs.all fun v => rightO (ox v)
def shortX (xs : List AV) : Bool := Nat.ble xs.length 1000000

/-- an own list's tag: the first round's, or a later one's -/
def flTag (a b : Nat) (fl : Bool) : Tag := bif fl then [a, 1] else [b, 1]
def tagIs (k : Tag) : AV → Bool
  | .sl _ _ (.own k') => k' == k
  | _ => false
abbrev A89 := Bool × List AV
def st89 (x : Int × A89 × List AV) : AS := stA 49 [(4, .sl 1 x.2.1.2 (.own (flTag 13 30 x.2.1.1))), (14, .sl 6 x.2.2 .sh), (15, .int .i64 x.2.2.length), (16, .int .i64 x.1)] []
def pr89 (s : AS) : Int × A89 × List AV := ((s.at 16).asInt, (tagIs [13, 1] (s.at 4), (s.at 4).elems), (s.at 14).elems)
def sp89 (lk : Bool) : List (FuncId × SumT) := [(91, S91), (133, S133), (74, S74l lk), (140, S140)]
/-- parts' bytes behind some -/
def encNx (lk : Bool) (cs : List AV) (v : AV) : List AV := cs ++ lockL lk (encL (ox v))
def L89 (lk : Bool) : GL (List AV) A89 := ⟨fun r => r.length, fun r j _ => !rightO (ox (r.getD j .unk)), fun r j a => (false, encNx lk a.2 (r.getD j .unk)), fun r j _ => !rightsB (r.drop j), fun _ _ _ => 0,
  fun r j a => (a.1 && flgB r j, lockL lk (a.2 ++ encsG (r.drop j))), fun _ _ a => (.ret, stA 49 [(2, .sl 0 [] .nil), (3, .int .i64 1), (4, .sl 1 a.2 (.own (flTag 13 30 a.1)))] []), fun _ a => (.exit 0, stA 49 [(4, .sl 1 a.2 (.own (flTag 13 30 a.1)))] []),
  fun r => okX r && shortX r, fun _ j a => Nat.ble a.2.length (36 * j + 4)⟩
noncomputable def lp89 (lk : Bool) : AS → T (Tree (Ex × AS)) := loopS (book.clean 89 5) pr89 st89 (L89 lk).tr2 (L89 lk).pre
/-- may a match be laid -/
def okEnc (xs : List AV) : Bool := ieq (chk11 xs) 0 && (rightsB xs && Nat.ble (encsL xs).length 1000)
/-- a match's bytes -/
def enc11 (xs : List AV) : List AV :=
  .int .u8 0 :: .int .u8 1 :: nbyte ((4 + (encsL xs).length : Nat) : Int) 8 :: nbyte ((4 + (encsL xs).length : Nat) : Int) 0 :: (encsL xs ++ List.replicate ((padI ((4 + (encsL xs).length : Nat) : Int)).toNat - (4 + (encsL xs).length)) (.int .u8 0))
def encT11 (lk : Bool) (xs : List AV) : Tree AV := .ite (okEnc xs) (.leaf (.tup [.sl 1 (lockL lk (enc11 xs)) .sh, .int .i64 0])) (.leaf (.tup [.sl 0 [] .nil, .int .i64 1]))
def S89 (lk : Bool) : SumT := sumW (σ := List AV) [6] (fun a => (arg a 0).elems) (fun x => [.sl 6 x .sh]) (fun x => okX x && shortX x) (fun x => encT11 lk x)
end Go.Proofs.Ytdcijmigoefnjaa

/- Chapter 11: a match as bytes: the reference. -/
set_option linter.unusedVariables false
set_option maxRecDepth 100000
namespace Go.Proofs.Ytdcijmigoefnjaa
open Go Go.Ev

def sp90 (lk : Bool) : List (FuncId × SumT) := [(92, S91), (134, S133), (75, S74l lk)]
def st90 (x : Int × A89 × List AV) : AS := stA 50 [(0, .sl 6 x.2.2 .sh), (4, .sl 1 x.2.1.2 (bif x.2.1.1 then .full else .own [31, 1])), (5, .int .i64 x.1)] []
def isFull : AV → Bool
  | .sl _ _ .full => true
  | _ => false
def pr90 (s : AS) : Int × A89 × List AV := ((s.at 5).asInt, (isFull (s.at 4), (s.at 4).elems), (s.at 0).elems)
def tg90 (b : Bool) : St := bif b then .full else .own [31, 1]
def L90 (lk : Bool) : GL (List AV) A89 := ⟨fun r => r.length, fun r j _ => !rightO (ox (r.getD j .unk)), fun r j a => (false, encNx lk a.2 (r.getD j .unk)), fun r j _ => !rightsB (r.drop j), fun _ _ _ => 0,
  fun r j a => (a.1 && flgB r j, lockL lk (a.2 ++ encsG (r.drop j))), fun r _ a => (.ret, stA 50 [(2, .sl 0 [] .nil), (3, .int .i64 1), (4, .sl 1 a.2 (tg90 a.1))] []), fun _ a => (.exit 0, stA 50 [(4, .sl 1 a.2 (tg90 a.1))] []),
  fun r => okX r && shortX r, fun _ j a => Nat.ble a.2.length (36 * j) && (bif a.1 then a.2.isEmpty else true)⟩
noncomputable def lp90 (lk : Bool) : AS → T (Tree (Ex × AS)) := loopS (book.clean 90 5) pr90 st90 (L90 lk).tr2 (L90 lk).pre
def st90b (x : A89) : AS := stA 50 [(8, .sl 1 x.2 (.own (flTag 41 48 x.1)))] []
def pr90b (s : AS) : A89 := (tagIs [41, 1] (s.at 8), (s.at 8).elems)
/-- the noughts up to a multiple of 8 -/
def padL (cs : List AV) : List AV := List.replicate ((padI (cs.length : Int)).toNat - cs.length) (.int .u8 0)
def tr90b (lk : Bool) (x : A89) : Tree (Ex × AS) := .ite (x.1 && ieq (irem (x.2.length : Int) 8) 0) (.leaf (.exit 2, st90b (true, x.2))) (.leaf (.exit 2, st90b (false, lockL lk (x.2 ++ padL x.2))))
def pre90b (x : A89) : Bool := Nat.ble x.2.length 1000000
noncomputable def lp90b (lk : Bool) : AS → T (Tree (Ex × AS)) := loopS (book.clean 90 14) pr90b st90b (tr90b lk) pre90b
end Go.Proofs.Ytdcijmigoefnjaa

/- Chapter 11: the laws on a match's bytes: what they lean on. -/
set_option linter.unusedVariables false
set_option maxRecDepth 100000
namespace Go.Proofs.Ytdcijmigoefnjaa
open Go Go.Ev

def sp20 (lk : Bool) : List (FuncId × SumT) := [(89, S89 lk), (90, S89 lk), (59, S41 .u8), (91, S91), (92, S91), (93, S93), (88, S93), (81, sumOf (g0 (.bool true)))]
end Go.Proofs.Ytdcijmigoefnjaa
