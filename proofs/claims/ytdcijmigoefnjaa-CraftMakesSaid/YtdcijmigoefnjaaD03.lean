import Derived.Test.YtdcijmigoefnjaaBk2
import Derived.Test.YtdcijmigoefnjaaEv3
set_option linter.unusedVariables false
set_option maxRecDepth 100000
namespace Go.Proofs.Ytdcijmigoefnjaa
open Go Go.Ev
abbrev FRow := List UInt8 × Int × Int × Bool
def rowTab : List FRow :=
 [([105,110,95,112,111,114,116],0,32,false),([109,101,116,97,100,97,116,97],2,64,true),([101,116,104,95,100,115,116],3,48,true),
  ([101,116,104,95,115,114,99],4,48,true),([101,116,104,95,116,121,112,101],5,16,false),([118,108,97,110,95,118,105,100],6,13,true),
  ([118,108,97,110,95,112,99,112],7,3,false),([105,112,95,100,115,99,112],8,6,false),([105,112,95,101,99,110],9,2,false),
  ([105,112,95,112,114,111,116,111],10,8,false),([105,112,118,52,95,115,114,99],11,32,true),([105,112,118,52,95,100,115,116],12,32,true),
  ([116,99,112,95,115,114,99],13,16,false),([116,99,112,95,100,115,116],14,16,false),([117,100,112,95,115,114,99],15,16,false),
  ([117,100,112,95,100,115,116],16,16,false),([105,99,109,112,118,52,95,116,121,112,101],19,8,false),([105,99,109,112,118,52,95,99,111,100,101],20,8,false),
  ([97,114,112,95,111,112],21,16,false),([97,114,112,95,115,112,97],22,32,true),([97,114,112,95,116,112,97],23,32,true),
  ([105,112,118,54,95,115,114,99],26,128,true),([105,112,118,54,95,100,115,116],27,128,true),([109,112,108,115,95,108,97,98,101,108],34,20,false)]
def noRow : FRow := ([],-1,0,false)
def rowOf (f : Int) : FRow := bif ile 0 f && ilt f 24 then rowTab.getD f.toNat noRow else noRow
def rowAV (r : FRow) : List AV := [.str r.1,.int .i64 r.2.1,.int .i64 r.2.2.1,.bool r.2.2.2]
def rowsA : AV := .agg (rowTab.flatMap rowAV)
def isF (n : Int) : Bool := bif ile 0 n then ilt n 24 else false
def idOf (n : Int) : Int := (rowOf n).2.1
def nmOf (n : Int) : List UInt8 := (rowOf n).1
def bitsOf (n : Int) : Int := (rowOf n).2.2.1
def sizeOf (n : Int) : Int := ishr .i64 (iadd .i64 (bitsOf n) 7) 3
def masksOf (n : Int) : Bool := (rowOf n).2.2.2
def ixOf (n : Int) : Int × Bool :=
 bif ieq 0 n then (0,true) else
 bif ieq 2 n then (1,true) else
 bif ieq 3 n then (2,true) else
 bif ieq 4 n then (3,true) else
 bif ieq 5 n then (4,true) else
 bif ieq 6 n then (5,true) else
 bif ieq 7 n then (6,true) else
 bif ieq 8 n then (7,true) else
 bif ieq 9 n then (8,true) else
 bif ieq 10 n then (9,true) else
 bif ieq 11 n then (10,true) else
 bif ieq 12 n then (11,true) else
 bif ieq 13 n then (12,true) else
 bif ieq 14 n then (13,true) else
 bif ieq 15 n then (14,true) else
 bif ieq 16 n then (15,true) else
 bif ieq 19 n then (16,true) else
 bif ieq 20 n then (17,true) else
 bif ieq 21 n then (18,true) else
 bif ieq 22 n then (19,true) else
 bif ieq 23 n then (20,true) else
 bif ieq 26 n then (21,true) else
 bif ieq 27 n then (22,true) else
 bif ieq 34 n then (23,true) else
 (0,false)
def upOf (n : Int) : FRow := bif ile 12 n then rowOf n else noRow
def tupR (r : FRow) : AV := .tup (rowAV r)
def G31 := gI .i64 fun n => .bool (isF n)
def G105 := gI .i64 fun n => .agg (rowAV (rowOf n))
def G27 := gI .i64 fun n => .int .i64 (idOf n)
def G28 := gI .i64 fun n => .str (nmOf n)
def G32 := gI .i64 fun n => .int .i64 (bitsOf n)
def G26 := gI .i64 fun n => .tup [.int .i64 (ixOf n).1,.bool (ixOf n).2]
def G163 := gI .i64 fun n => tupR (upOf n)
def G111 := gI .i64 fun n => tupR (rowOf n)
def sp105 : List (FuncId × SumT) := [(104,sumOf (g0 rowsA)),(31,sumOf G31)]
def spAt : List (FuncId × SumT) := [(105,sumOf G105)]
def sp163 : List (FuncId × SumT) := [(163,sumOf G163)]
def sp111 : List (FuncId × SumT) := [(111,sumOf G111)]
def sp3 : List (FuncId × SumT) := [(26,sumOf G26),(27,sumOf G27),(28,sumOf G28),(29,sumOf (g0 (.bool true)))]
end Go.Proofs.Ytdcijmigoefnjaa
set_option linter.unusedVariables false
namespace Go.Proofs.Ytdcijmigoefnjaa
open Go Go.Ev
abbrev X3 := Int × List AV × List AV
end Go.Proofs.Ytdcijmigoefnjaa
set_option linter.unusedVariables false
set_option linter.unusedSimpArgs false
set_option maxRecDepth 100000
namespace Go.Proofs.Ytdcijmigoefnjaa
open Go Go.Ev
def lenB (xs : List AV) : Bool := Nat.ble xs.length 9223372036854775807
theorem drop_getD {α : Type} {xs : List α} {n : Nat} {d : α} (h : n < xs.length) : xs.drop n = xs.getD n d :: xs.drop (n + 1) := by
 rw [List.drop_eq_getElem_cons h,List.getD_eq_getElem?_getD,List.getElem?_eq_getElem h]
 rfl
theorem intsA_get {k : IntKind} {xs : List AV} {n : Nat} (h : intsA k xs = true) (hn : n < xs.length) : ∃ z,xs.getD n .unk = .int k z := by
 unfold intsA at h
 rw [List.all_eq_true] at h
 have := h (xs.getD n .unk) (by rw [List.getD_eq_getElem?_getD,List.getElem?_eq_getElem hn]; exact List.getElem_mem hn)
 revert this
 generalize xs.getD n .unk = v
 intro this
 cases v <;> try (cases this; done)
 simp only [isI,decide_eq_true_eq] at this
 exact ⟨_,by rw [this]⟩
theorem ilt_iff {a b : Int} : ilt a b = true ↔ a < b := by simp [ilt]
theorem ilt_no {a b : Int} : ilt a b = false ↔ b ≤ a := by simp [ilt]
theorem inR_iff {i : Int} {n : Nat} : inR i n = true ↔ 0 ≤ i ∧ i < n := by simp [inR]
theorem iadd_small {a b : Int} (h0 : -9223372036854775808 ≤ a + b) (h1 : a + b < 9223372036854775808) : iadd .i64 a b = a + b := by
 unfold iadd; rw [IntKind.wrap_i64]; omega
structure P41 (k : IntKind) (x : X3) : Prop where
 i0 : 0 ≤ x.1
 i1 : x.1 ≤ x.2.1.length
 len : x.2.1.length = x.2.2.length
 big : x.2.1.length ≤ 9223372036854775807
 xs : intsA k x.2.1 = true
 ys : intsA k x.2.2 = true
end Go.Proofs.Ytdcijmigoefnjaa
set_option linter.unusedVariables false
set_option maxRecDepth 100000
namespace Go.Proofs.Ytdcijmigoefnjaa
open Go Go.Ev
def wA (v : Int × Int) : AV := .agg [.int .u64 v.1,.int .u64 v.2]
def wideOf (a : AV) : Int × Int := ((a.cells.getD 0 .unk).asInt,(a.cells.getD 1 .unk).asInt)
def cell (cs : List AV) (j : Nat) : Int := (cs.getD j .unk).asInt
def arg (a : List AV) (i : Nat) : AV := a.getD i .unk
def getH (cs : List AV) (f : Int) : Int × Int := bif isF f then (cell cs (f.toNat * 2),cell cs (f.toNat * 2 + 1)) else (0,0)
def maskTab : List Int := [0,4294967295,0,18446744073709551615,0,281474976710655,0,281474976710655,0,65535,0,8191,0,7,0,63,0,3,0,255,0,4294967295,0,4294967295,0,65535,0,65535,0,65535,0,65535,0,255,0,255,0,65535,0,4294967295,0,4294967295,18446744073709551615,18446744073709551615,18446744073709551615,18446744073709551615,0,1048575]
def clipN : List AV → Nat → List AV
 | [],_ => []
 | c :: cs,j => .int .u64 (ibits .and .u64 c.asInt (maskTab.getD j 0)) :: clipN cs (j + 1)
def clipC (cs : List AV) : List AV := clipN cs 0
def fitsC (cs : List AV) : Bool := pairEq cs (clipC cs)
def S39 (lk : Bool) : SumT := sum0 (σ := List AV) (fun a => (arg a 0).cells) (fun x => [.agg x]) (fun x => isHdr x) (fun x => .leaf (.agg (lockL lk (clipC x))))
def S37 : SumT := sum0 (σ := List AV) (fun a => (arg a 0).cells) (fun x => [.agg x]) (fun x => isHdr x) (fun x => .leaf (.bool (fitsC x)))
def S68 (g : Int → Int → Int) : SumT := sum0 (σ := (Int × Int) × Int × Int) (fun a => (wideOf (arg a 0),wideOf (arg a 1))) (fun x => [wA x.1,wA x.2]) (fun _ => true) (fun x => .leaf (wA (g x.1.1 x.2.1,g x.1.2 x.2.2)))
def lowc (n : Int) : Int := bif ile 64 n then 18446744073709551615 else bif ile n 0 then 0 else 2 ^ (n.toNat) - 1
def lowW (n : Int) : Int × Int := (lowc (n - 64),lowc n)
def lowNs : List Int := [2,3,6,8,13,16,20,32,48,64,128]
def lowOk (n : Int) : Bool := lowNs.any fun m => ieq n m
def S108 : SumT := fun a p => match a,p with
 | [.int k n],[] => .need (decide (k = .i64) && lowOk n) (.ret (.leaf (wA (lowW n),[])))
 | _,_ => .no
def sp39 : List (FuncId × SumT) := [(68,S68 (ibits .and .u64)),(109,S68 (ibits .and .u64)),(32,sumOf G32),(47,sumOf G32),(108,S108),(110,S108)]
def sp37 (lk : Bool) : List (FuncId × SumT) := [(39,S39 lk),(40,S39 lk)]
abbrev X2 := Int × List AV
end Go.Proofs.Ytdcijmigoefnjaa
set_option linter.unusedVariables false
set_option maxRecDepth 100000
namespace Go.Proofs.Ytdcijmigoefnjaa
open Go Go.Ev
def byteAt (v : Int) (s : Int) : AV := .int .u8 (IntKind.u8.wrap (ishr .u64 v s))
def all16 (v : Int × Int) : List AV := [byteAt v.1 56,byteAt v.1 48,byteAt v.1 40,byteAt v.1 32,byteAt v.1 24,byteAt v.1 16,byteAt v.1 8,byteAt v.1 0,byteAt v.2 56,byteAt v.2 48,byteAt v.2 40,byteAt v.2 32,byteAt v.2 24,byteAt v.2 16,byteAt v.2 8,byteAt v.2 0]
def putL (v : Int × Int) (n : Int) : List AV := (all16 v).drop (16 - n.toNat)
end Go.Proofs.Ytdcijmigoefnjaa
set_option linter.unusedVariables false
set_option maxRecDepth 100000
namespace Go.Proofs.Ytdcijmigoefnjaa
open Go Go.Ev
def sizeNs : List Int := [1,2,3,4,6,8,16]
def sizeOk (n : Int) : Bool := sizeNs.any fun m => ieq n m
def smallB (xs : List AV) : Bool := Nat.ble xs.length 70368744177664
def getW (xs : List AV) : Nat → Int × Int
 | 0 => (0,0)
 | n + 1 => (ibits .or .u64 (ishl .u64 (getW xs n).1 8) (ishr .u64 (getW xs n).2 56),ibits .or .u64 (ishl .u64 (getW xs n).2 8) (IntKind.u64.wrap (xs.getD n .unk).asInt))
def getHi (xs : List AV) (n : Int) : Int := (getW xs n.toNat).1
def getLo (xs : List AV) (n : Int) : Int := (getW xs n.toNat).2
abbrev XP := List AV × (Int × Int) × Int
def S115 : SumT := sumW (σ := List AV × Int) [1] (fun a => ((arg a 0).elems,(arg a 1).asInt)) (fun x => [.sl 1 x.1 .sh,.int .i64 x.2]) (fun x => sizeOk x.2 && (intsA .u8 x.1 && lenB x.1))
 (fun x => .ite (ile x.2 x.1.length) (.leaf (.tup [wA (getHi x.1 x.2,getLo x.1 x.2),.bool true])) (.leaf (.tup [wA (0,0),.bool false])))
def offOf : Nat → Nat
 | 0 => 0
 | j + 1 => offOf j + (sizeOf j).toNat
def pc (xs : List AV) (m : Nat) (c : Nat) : Int :=
 bif Nat.blt (c / 2) m then (bif Nat.beq (c % 2) 0 then getHi (xs.drop (offOf (c / 2))) (sizeOf (c / 2 : Nat)) else getLo (xs.drop (offOf (c / 2))) (sizeOf (c / 2 : Nat))) else 0
def zeroH : List AV := List.replicate 48 (.int .u64 0)
end Go.Proofs.Ytdcijmigoefnjaa
set_option linter.unusedVariables false
set_option maxRecDepth 100000
namespace Go.Proofs.Ytdcijmigoefnjaa
open Go Go.Ev
def inU (n : Int) : Bool := ile 0 n && ilt n 18446744073709551616
def inW (v : Int × Int) : Bool := inU v.1 && inU v.2
def zeroW (v : Int × Int) : Bool := ieq v.1 0 && ieq v.2 0
def S125u : SumT := sum0 (σ := Int × Int) (fun a => wideOf (arg a 0)) (fun x => [wA x]) (fun x => inW x) (fun x => .leaf (.bool (zeroW x)))
abbrev XO := Int × Bool × (Int × Int) × (Int × Int)
def oxOf (cs : List AV) : XO := ((cs.getD 0 .unk).asInt,(cs.getD 1 .unk).asBool,((cs.getD 2 .unk).asInt,(cs.getD 3 .unk).asInt),((cs.getD 4 .unk).asInt,(cs.getD 5 .unk).asInt))
def numNs : List Int := [1,2,4]
def numOk (n size : Int) : Bool := ile 0 n && ((ieq size 1 && ilt n 256) || ((ieq size 2 && ilt n 65536) || (ieq size 4 && ilt n 4294967296)))
def nbyte (n s : Int) : AV := .int .u8 (IntKind.u8.wrap (ishr .i64 n s))
def numL (n size : Int) : List AV := [nbyte n 24,nbyte n 16,nbyte n 8,nbyte n 0].drop (4 - size.toNat)
def S133 : SumT := sumW (σ := List AV × Int × Int) [1] (fun a => ((arg a 0).elems,(arg a 1).asInt,(arg a 2).asInt)) (fun x => [.sl 1 x.1 .sh,.int .i64 x.2.1,.int .i64 x.2.2]) (fun x => numOk x.2.1 x.2.2 && smallB x.1) (fun x => .leaf (.sl 1 (x.1 ++ numL x.2.1 x.2.2) (.own [])))
def S117o : SumT := sumW (σ := XP) [1] (fun a => ((arg a 0).elems,wideOf (arg a 1),(arg a 2).asInt)) (fun x => [.sl 1 x.1 .sh,wA x.2.1,.int .i64 x.2.2]) (fun x => sizeOk x.2.2 && smallB x.1) (fun x => .leaf (.sl 1 (x.1 ++ putL x.2.1 x.2.2) (.own [])))
def S176 : SumT := sum0 (σ := Int × Int) (fun a => ((arg a 0).asInt,(arg a 1).asInt)) (fun x => [.int .i64 x.1,.int .i64 x.2]) (fun x => numNs.any fun m => ieq x.2 m) (fun x => .leaf (.bool (numOk x.1 x.2)))
noncomputable def sp176 : List (FuncId × SumT) := [(193,(book.all 100 3 193).T)]
def spN : List (FuncId × SumT) := [(176,S176),(177,S176)]
end Go.Proofs.Ytdcijmigoefnjaa
set_option linter.unusedVariables false
set_option maxRecDepth 100000
namespace Go.Proofs.Ytdcijmigoefnjaa
open Go Go.Ev
def idNum (f : Int) (m : Bool) : Int := 2 * idOf f + (bif m then 1 else 0)
def bodyN (f : Int) (m : Bool) : Int := bif m then 2 * sizeOf f else sizeOf f
def isB : AV → Bool
 | .int .u8 n => inR n 256
 | _ => false
def bytB (xs : List AV) : Bool := xs.all isB
def byN (xs : List AV) (i : Nat) : Int := (xs.getD i .unk).asInt
def hdF (xs : List AV) : Int := (ixOf (byN xs 2 / 2)).1
def hdIs (xs : List AV) : Bool := (ixOf (byN xs 2 / 2)).2
def hdM (xs : List AV) : Bool := ieq (byN xs 2 % 2) 1
def S115t : SumT := sumW (σ := List AV × Int) [1] (fun a => ((arg a 0).elems,(arg a 1).asInt)) (fun x => [.sl 1 x.1 .sh,.int .i64 x.2]) (fun x => sizeOk x.2 && (intsA .u8 x.1 && (lenB x.1 && ile x.2 x.1.length)))
 (fun x => .leaf (.tup [wA (getHi x.1 x.2,getLo x.1 x.2),.bool true]))
end Go.Proofs.Ytdcijmigoefnjaa
set_option linter.unusedVariables false
set_option maxRecDepth 100000
namespace Go.Proofs.Ytdcijmigoefnjaa
open Go Go.Ev
theorem snocInd {α : Type} {p : List α → Prop} (h0 : p []) (h1 : ∀ xs x,p xs → p (xs ++ [x])) (l : List α) : p l := by
 have : ∀ r : List α,p r.reverse := by
  intro r
  induction r with
  | nil => exact h0
  | cons x r ih => rw [List.reverse_cons]; exact h1 _ _ ih
 have h := this l.reverse
 rwa [List.reverse_reverse] at h
def bytesBE (m : Nat) : Nat → List AV
 | 0 => []
 | n + 1 => bytesBE (m / 256) n ++ [.int .u8 ((m % 256 : Nat) : Int)]
def valB (xs : List AV) : Nat := xs.foldl (fun a x => a * 256 + x.asInt.toNat) 0
def isByte (x : AV) : Prop := ∃ z : Nat,z < 256 ∧ x = .int .u8 (z : Int)
def byteL (xs : List AV) : Prop := ∀ x ∈ xs,isByte x
theorem bytesBE_len (n : Nat) : ∀ m,(bytesBE m n).length = n := by
 induction n with
 | zero => intro m; rfl
 | succ n ih => intro m; simp [bytesBE,ih]
theorem valB_snoc (xs : List AV) (x : AV) : valB (xs ++ [x]) = valB xs * 256 + x.asInt.toNat := by
 unfold valB; rw [List.foldl_append]; rfl
theorem val_bytes (n : Nat) : ∀ m,valB (bytesBE m n) = m % 256 ^ n := by
 induction n with
 | zero => intro m; simp [bytesBE,valB,Nat.mod_one]
 | succ n ih =>
  intro m
  rw [bytesBE,valB_snoc,ih,Nat.pow_succ]
  simp only [AV.asInt,Int.toNat_natCast]
  rw [Nat.mul_comm (256 ^ n) 256,Nat.mod_mul,Nat.mul_comm,Nat.add_comm]
theorem valB_lt (xs : List AV) : byteL xs → valB xs < 256 ^ xs.length := by
 refine snocInd (p := fun xs => byteL xs → valB xs < 256 ^ xs.length) (fun _ => by simp [valB]) (fun xs x ih h => ?_) xs
 have h1 := ih (fun y hy => h y (List.mem_append_left _ hy))
 obtain ⟨z,hz,rfl⟩ := h x (by simp)
 rw [valB_snoc]
 simp only [AV.asInt,Int.toNat_natCast,List.length_append,List.length_cons,List.length_nil,Nat.zero_add,Nat.pow_succ]
 omega
theorem bytesBE_drop (k n : Nat) : ∀ m,(bytesBE m (k + n)).drop k = bytesBE m n := by
 induction n with
 | zero => intro m; rw [Nat.add_zero,List.drop_eq_nil_of_le (by rw [bytesBE_len]; omega)]; rfl
 | succ n ih =>
  intro m
  rw [← Nat.add_assoc,bytesBE,List.drop_append,ih,bytesBE_len,show k - (k + n) = 0 by omega]; rfl
theorem shr_byte (m s : Nat) (hs : s ≤ 64) : byteAt (m : Int) (s : Int) = .int .u8 ((m / 2 ^ s % 256 : Nat) : Int) := by
 unfold byteAt ishr
 rw [IntKind.wrap_u8]
 have e : min ((s : Int).toNat) IntKind.u64.bits = s := by simp [IntKind.bits]; omega
 rw [e,Int.fdiv_eq_ediv_of_nonneg _ (by exact_mod_cast Nat.zero_le _)]
 congr 1
theorem bytesBE_get : ∀ n m,bytesBE m n = (List.range n).map fun i => AV.int .u8 ((m / 256 ^ (n - 1 - i) % 256 : Nat) : Int)
 | 0,m => rfl
 | n + 1,m => by
  rw [bytesBE,bytesBE_get n,List.range_succ,List.map_append,List.map_singleton]
  congr 1
  ·refine List.map_congr_left fun i hi => ?_
   have hi := List.mem_range.1 hi
   rw [show n + 1 - 1 - i = (n - 1 - i) + 1 by omega,Nat.div_div_eq_div_mul,Nat.pow_succ,Nat.mul_comm 256]
  ·simp
theorem bHi (hi lo s : Nat) (h : lo < 2 ^ 64) : (hi * 2 ^ 64 + lo) / 2 ^ (64 + s) = hi / 2 ^ s := by
 rw [Nat.pow_add,← Nat.div_div_eq_div_mul,show (hi * 2 ^ 64 + lo) / 2 ^ 64 = hi by omega]
theorem bLo (hi lo s : Nat) (hs : s ≤ 56) : (hi * 2 ^ 64 + lo) / 2 ^ s % 256 = lo / 2 ^ s % 256 := by
 have e : hi * 2 ^ 64 = 2 ^ s * (hi * 2 ^ (56 - s) * 256) := by
  have : 2 ^ 64 = 2 ^ s * 2 ^ (56 - s) * 256 := by
   rw [← Nat.pow_add,show s + (56 - s) = 56 by omega]
  rw [this,Nat.mul_assoc,Nat.mul_left_comm,Nat.mul_assoc hi]
 rw [e,Nat.mul_add_div (Nat.two_pow_pos s),Nat.add_comm,Nat.add_mul_mod_self_right]
theorem gHi (hi lo s k : Nat) (t : Int) (h : lo < 2 ^ 64) (ht : t = (s : Int)) (hs : s ≤ 64) (hk : 256 ^ k = 2 ^ (64 + s)) : byteAt (hi : Int) t = .int .u8 (((hi * 2 ^ 64 + lo) / 256 ^ k % 256 : Nat) : Int) := by
 rw [ht,shr_byte _ _ hs,hk,bHi _ _ _ h]
theorem gLo (hi lo s k : Nat) (t : Int) (ht : t = (s : Int)) (hs : s ≤ 56) (hk : 256 ^ k = 2 ^ s) : byteAt (lo : Int) t = .int .u8 (((hi * 2 ^ 64 + lo) / 256 ^ k % 256 : Nat) : Int) := by
 rw [ht,shr_byte _ _ (by omega),hk,bLo _ _ _ hs]
theorem all16_eq (hi lo : Nat) (h : lo < 2 ^ 64) : all16 ((hi : Int),(lo : Int)) = bytesBE (hi * 2 ^ 64 + lo) 16 := by
 rw [bytesBE_get]
 unfold all16
 simp only [List.range,List.range.loop,List.map_cons,List.map_nil,List.cons.injEq,and_true]
 exact ⟨gHi _ _ 56 15 _ h rfl (by omega) (by decide),gHi _ _ 48 14 _ h rfl (by omega) (by decide),gHi _ _ 40 13 _ h rfl (by omega) (by decide),gHi _ _ 32 12 _ h rfl (by omega) (by decide),gHi _ _ 24 11 _ h rfl (by omega) (by decide),gHi _ _ 16 10 _ h rfl (by omega) (by decide),gHi _ _ 8 9 _ h rfl (by omega) (by decide),gHi _ _ 0 8 _ h rfl (by omega) (by decide),gLo _ _ 56 7 _ rfl (by omega) (by decide),gLo _ _ 48 6 _ rfl (by omega) (by decide),gLo _ _ 40 5 _ rfl (by omega) (by decide),gLo _ _ 32 4 _ rfl (by omega) (by decide),gLo _ _ 24 3 _ rfl (by omega) (by decide),gLo _ _ 16 2 _ rfl (by omega) (by decide),gLo _ _ 8 1 _ rfl (by omega) (by decide),gLo _ _ 0 0 _ rfl (by omega) (by decide)⟩
theorem putL_eq (hi lo : Nat) (h : lo < 2 ^ 64) {n : Nat} (hn : n ≤ 16) : putL ((hi : Int),(lo : Int)) (n : Int) = bytesBE (hi * 2 ^ 64 + lo) n := by
 unfold putL
 rw [all16_eq _ _ h,Int.toNat_natCast]
 have := bytesBE_drop (16 - n) n (hi * 2 ^ 64 + lo)
 rwa [show 16 - n + n = 16 by omega] at this
theorem or_add (a b : Nat) (hb : b < 256) : (a * 256) ||| b = a * 256 + b := by
 have := Nat.two_pow_add_eq_or_of_lt (i := 8) hb a
 rw [Nat.mul_comm]; exact this.symm
theorem ibits_or (a b : Nat) (ha : a < 2 ^ 64) (hb : b < 2 ^ 64) (hc : a ||| b < 2 ^ 64) : ibits .or .u64 (a : Int) (b : Int) = ((a ||| b : Nat) : Int) := by
 rw [ibits_eq]
 show IntKind.u64.wrap _ = _
 rw [IntKind.wrap_u64]
 have e : (BitVec.ofInt IntKind.u64.bits (a : Int) ||| BitVec.ofInt IntKind.u64.bits (b : Int)).toNat = a ||| b := by
  show (BitVec.ofInt 64 (a : Int) ||| BitVec.ofInt 64 (b : Int)).toNat = a ||| b
  rw [BitVec.toNat_or,BitVec.ofInt_natCast,BitVec.ofInt_natCast,BitVec.toNat_ofNat,BitVec.toNat_ofNat,Nat.mod_eq_of_lt ha,Nat.mod_eq_of_lt hb]
 rw [e]
 omega
theorem step_hi (hi lo : Nat) (h1 : hi < 2 ^ 64) (h2 : lo < 2 ^ 64) : ibits .or .u64 (ishl .u64 (hi : Int) 8) (ishr .u64 (lo : Int) 56) = (((hi * 256) % 2 ^ 64 + lo / 2 ^ 56 : Nat) : Int) := by
 have e1 : ishl .u64 (hi : Int) 8 = (((hi * 256) % 2 ^ 64 : Nat) : Int) := by
  unfold ishl; rw [IntKind.wrap_u64]; simp [IntKind.bits]
 have e2 : ishr .u64 (lo : Int) 56 = ((lo / 2 ^ 56 : Nat) : Int) := by
  unfold ishr; rw [Int.fdiv_eq_ediv_of_nonneg _ (by decide)]; simp [IntKind.bits]
 have e3 : hi * 256 % 2 ^ 64 = (hi % 2 ^ 56) * 256 := by omega
 have e4 : (hi * 256 % 2 ^ 64) ||| (lo / 2 ^ 56) = hi * 256 % 2 ^ 64 + lo / 2 ^ 56 := by rw [e3]; exact or_add _ _ (by omega)
 rw [e1,e2,ibits_or _ _ (by omega) (by omega) (by rw [e4]; omega),e4]
theorem step_lo (lo b : Nat) (h2 : lo < 2 ^ 64) (hb : b < 256) : ibits .or .u64 (ishl .u64 (lo : Int) 8) (IntKind.u64.wrap (b : Int)) = (((lo * 256) % 2 ^ 64 + b : Nat) : Int) := by
 have e1 : ishl .u64 (lo : Int) 8 = (((lo * 256) % 2 ^ 64 : Nat) : Int) := by
  unfold ishl; rw [IntKind.wrap_u64]; simp [IntKind.bits]
 have e2 : IntKind.u64.wrap (b : Int) = (b : Int) := by rw [IntKind.wrap_u64]; omega
 have e3 : lo * 256 % 2 ^ 64 = (lo % 2 ^ 56) * 256 := by omega
 have e4 : (lo * 256 % 2 ^ 64) ||| b = lo * 256 % 2 ^ 64 + b := by rw [e3]; exact or_add _ _ (by omega)
 rw [e1,e2,ibits_or _ _ (by omega) (by omega) (by rw [e4]; omega),e4]
theorem stepV (hi lo b : Nat) (h : hi < 72057594037927936) : (hi * 256 % 18446744073709551616 + lo / 72057594037927936) * 18446744073709551616 + (lo * 256 % 18446744073709551616 + b) = (hi * 18446744073709551616 + lo) * 256 + b := by
 rw [Nat.mod_eq_of_lt (show hi * 256 < 18446744073709551616 by omega)]
 have : lo * 256 = lo / 72057594037927936 * 18446744073709551616 + lo * 256 % 18446744073709551616 := by omega
 rw [Nat.add_mul,Nat.add_mul]
 omega
theorem getW_eq (xs : List AV) (hx : byteL xs) : ∀ n,n ≤ xs.length → n ≤ 16 → ∃ hi lo : Nat,getW xs n = ((hi : Int),(lo : Int)) ∧ lo < 2 ^ 64 ∧ hi * 2 ^ 64 + lo = valB (xs.take n)
 | 0,_,_ => ⟨0,0,rfl,by decide,by simp [valB]⟩
 | n + 1,hn,h16 => by
  obtain ⟨hi,lo,h1,h2,h3⟩ := getW_eq xs hx n (by omega) (by omega)
  have ht : xs.take (n + 1) = xs.take n ++ [xs.getD n .unk] := by
   rw [List.take_add_one,List.getD_eq_getElem?_getD,List.getElem?_eq_getElem (by omega)]; rfl
  obtain ⟨b,hb,hbx⟩ := hx (xs.getD n .unk) (by rw [List.getD_eq_getElem?_getD,List.getElem?_eq_getElem (by omega)]; exact List.getElem_mem _)
  have hlt := valB_lt (xs.take n) (fun x hx' => hx x (List.mem_of_mem_take hx'))
  rw [← h3,List.length_take,Nat.min_eq_left (by omega)] at hlt
  have h15 : 256 ^ n ≤ 256 ^ 15 := Nat.pow_le_pow_right (by decide) (by omega)
  have hh : hi < 72057594037927936 := by
   have h5 : hi * 2 ^ 64 < 72057594037927936 * 2 ^ 64 := Nat.lt_of_le_of_lt (Nat.le_add_right _ lo) (Nat.lt_of_lt_of_le hlt h15)
   exact Nat.lt_of_mul_lt_mul_right h5
  have hv : valB (xs.take (n + 1)) = (hi * 2 ^ 64 + lo) * 256 + b := by rw [ht,valB_snoc,hbx,h3]; simp [AV.asInt]
  refine ⟨hi * 256 % 2 ^ 64 + lo / 2 ^ 56,lo * 256 % 2 ^ 64 + b,?_,?_,?_⟩
  ·simp only [getW,h1,hbx,AV.asInt,step_hi hi lo (by omega) h2,step_lo lo b h2 hb]
  ·have : lo * 256 % 2 ^ 64 = (lo % 2 ^ 56) * 256 := by omega
   omega
  ·rw [hv]; exact stepV hi lo b hh
end Go.Proofs.Ytdcijmigoefnjaa
set_option linter.unusedVariables false
set_option maxRecDepth 100000
namespace Go.Proofs.Ytdcijmigoefnjaa
open Go Go.Ev
def nv (xs : List AV) (o n : Nat) : Int := (valB ((xs.drop o).take n) : Nat)
def wvH (xs : List AV) (n : Nat) : Int := (valB (xs.take n) / 18446744073709551616 : Nat)
def wvL (xs : List AV) (n : Nat) : Int := (valB (xs.take n) % 18446744073709551616 : Nat)
def wv (xs : List AV) (n : Nat) : Int × Int := (wvH xs n,wvL xs n)
def okL (xs : List AV) : Bool := bytB xs && lenB xs
def S178 : SumT := sumW (σ := List AV × Int × Int) [1] (fun a => ((arg a 0).elems,(arg a 1).asInt,(arg a 2).asInt)) (fun x => [.sl 1 x.1 .sh,.int .i64 x.2.1,.int .i64 x.2.2])
 (fun x => okL x.1 && ((numNs.any fun m => ieq x.2.2 m) && (ile 0 x.2.1 && ile (x.2.1 + x.2.2) x.1.length))) (fun x => .leaf (.tup [.int .i64 (nv x.1 x.2.1.toNat x.2.2.toNat),.int .i64 0]))
def S115v : SumT := sumW (σ := List AV × Int) [1] (fun a => ((arg a 0).elems,(arg a 1).asInt)) (fun x => [.sl 1 x.1 .sh,.int .i64 x.2]) (fun x => okL x.1 && (sizeOk x.2 && ile x.2 x.1.length))
 (fun x => .leaf (.tup [wA (wv x.1 x.2.toNat),.bool true]))
noncomputable def spNG : List (FuncId × SumT) := [(193,(book.all 100 3 193).T)]
def setK (k : Nat → Int) (f : Nat) (v : Int × Int) : Nat → Int := fun c => bif Nat.beq (c / 2) f then (bif Nat.beq (c % 2) 0 then v.1 else v.2) else k c
def wireC (k : Nat → Int) (xs : List AV) : List AV := hdrC k ++ [.sl 1 xs .sh]
def wireK (cs : List AV) : Nat → Int := fun j => (cs.getD j .unk).asInt
def wireX (cs : List AV) : List AV := (cs.getD 48 .unk).elems
end Go.Proofs.Ytdcijmigoefnjaa
set_option linter.unusedVariables false
set_option maxRecDepth 100000
namespace Go.Proofs.Ytdcijmigoefnjaa
open Go Go.Ev
def sumN : List AV → Nat → Nat
 | [],_ => 0
 | x :: xs,j => x.asInt.toNat * (bif Nat.beq (j % 2) 0 then 256 else 1) + sumN xs (j + 1)
def ocI (n : Int) : Int := bif ieq n 0 then 0 else (n - 1) % 65535 + 1
def sumV (xs : List AV) : Int := 65535 - ocI (sumN xs 0 : Nat)
abbrev X72 := Int × Int
def st72 (xs : List AV) (x : X72) : AS := stA 32 [(3,.int .i64 x.2),(6,.sl 1 xs .sh),(7,.int .i64 xs.length),(8,.int .i64 x.1)] []
def pr72 (s : AS) : X72 := ((s.at 8).asInt,(s.at 3).asInt)
def stB (n : Int) : AS := stA 32 [(3,.int .i64 n)] []
def prB (s : AS) : Int := (s.at 3).asInt
def st73 (xs : List AV) (x : X72) : AS := stA 38 [(0,.sl 1 xs .sh),(3,.int .i64 x.2),(4,.int .i64 x.1)] []
def pr73 (s : AS) : X72 := ((s.at 4).asInt,(s.at 3).asInt)
def F72 (xs : List AV) (_ : X72) : Tree (Ex × AS) := .leaf (.exit 0,stB (sumN xs 0 : Nat))
def FB (n : Int) : Tree (Ex × AS) := .leaf (.exit 2,stB (ocI n))
def F73 (xs : List AV) (_ : X72) : Tree (Ex × AS) := .leaf (.exit 0,stA 38 [(3,.int .i64 (ocI (sumN xs 0 : Nat)))] [])
def shortB (xs : List AV) : Bool := Nat.ble xs.length 65536
def pre72 (xs : List AV) (x : X72) : Bool := ieq x.1 0 && (ieq x.2 0 && (bytB xs && shortB xs))
def preB (n : Int) : Bool := ile 0 n && ile n 4611686018427387904
noncomputable def lp72 (xs : List AV) : AS → T (Tree (Ex × AS)) := loopS (book.clean 72 3) pr72 (st72 xs) (F72 xs) (pre72 xs)
noncomputable def lpB : AS → T (Tree (Ex × AS)) := loopS (book.clean 72 7) prB stB FB preB
noncomputable def lp73 (xs : List AV) : AS → T (Tree (Ex × AS)) := loopS (book.clean 73 3) pr73 (st73 xs) (F73 xs) (pre72 xs)
def S72 : SumT := sumW (σ := List AV) [1] (fun a => (arg a 0).elems) (fun x => [.sl 1 x .sh]) (fun x => bytB x && shortB x) (fun x => .leaf (.int .i64 (sumV x)))
end Go.Proofs.Ytdcijmigoefnjaa
set_option linter.unusedVariables false
set_option maxRecDepth 100000
namespace Go.Proofs.Ytdcijmigoefnjaa
open Go Go.Ev
abbrev B6 := Int × (Int × Int) × (Int × Int) × (Int × Int) × Int × Int
def zeroK : Nat → Int := fun _ => 0
def baseK (b : B6) : Nat → Int := setK (setK (setK (setK (setK (setK zeroK 0 (0,b.1)) 2 b.2.1) 3 b.2.2.1) 4 b.2.2.2.1) 5 (0,b.2.2.2.2.1)) 6 (0,b.2.2.2.2.2)
def baseOf (k : Nat → Int) : B6 := (k 1,(k 4,k 5),(k 6,k 7),(k 8,k 9),k 11,k 13)
abbrev P5 := Int × Int × Int × (Int × Int) × (Int × Int)
def ipK (b : B6) (four : Bool) (p : P5) : Nat → Int :=
 setK (setK (setK (setK (setK (baseK b) 7 (0,p.1)) 8 (0,p.2.1)) 9 (0,p.2.2.1)) (bif four then 10 else 21) p.2.2.2.1) (bif four then 11 else 22) p.2.2.2.2
def needN (four : Bool) (pr : Int) : Int := bif ieq pr 6 then 20 else bif ieq pr 17 then 8 else bif (bif ieq pr 1 then four else false) then 8 else 0
def withinE (four : Bool) (pr : Int) (xs : List AV) : Int := bif ilt xs.length (needN four pr) then 3 else 0
def withinK (k : Nat → Int) (four : Bool) (pr : Int) (xs : List AV) : Nat → Int :=
 bif ieq pr 6 then setK (setK k 12 (0,nv xs 0 2)) 13 (0,nv xs 2 2) else
 bif ieq pr 17 then setK (setK k 14 (0,nv xs 0 2)) 15 (0,nv xs 2 2) else
 bif (bif ieq pr 1 then four else false) then setK (setK k 16 (0,nv xs 0 1)) 17 (0,nv xs 1 1) else k
def p5Of (four : Bool) (k : Nat → Int) : P5 := (k 15,k 17,k 19,bif four then (k 20,k 21) else (k 42,k 43),bif four then (k 22,k 23) else (k 44,k 45))
abbrev XI := B6 × P5 × List AV
def outW (e : Int) (k : Nat → Int) : Tree (AV × List (List AV)) := .ite (ieq e 0) (.leaf (.int .i64 0,[hdrC k ++ [.unk]])) (.leaf (.int .i64 e,[List.replicate 49 .unk]))
def outR (e : Int) (k : Nat → Int) : Tree AV := .ite (ieq e 0) (.leaf (.tup [.agg (hdrC k),.int .i64 0])) (.leaf (.tup [.agg zeroH,.int .i64 e]))
def S192 : SumT := sumSW 1 (σ := Bool × XI) (fun a p => ((arg a 1).asBool,baseOf (wireK (p.getD 0 [])),p5Of (arg a 1).asBool (wireK (p.getD 0 [])),wireX (p.getD 0 []))) (fun x => [.ptr 1000 0,.bool x.1]) (fun x => [wireC (ipK x.2.1 x.1 x.2.2.1) x.2.2.2])
 (fun x => okL x.2.2.2) (fun x => outW (withinE x.1 x.2.2.1.2.2.1 x.2.2.2) (withinK (ipK x.2.1 x.1 x.2.2.1) x.1 x.2.2.1.2.2.1 x.2.2.2))
def spM0 : List (FuncId × SumT) := [(178,S178),(115,S115v),(72,S72)]
end Go.Proofs.Ytdcijmigoefnjaa
set_option linter.unusedVariables false
set_option maxRecDepth 100000
namespace Go.Proofs.Ytdcijmigoefnjaa
open Go Go.Ev
def hdN (xs : List AV) : Int := nv xs 0 1 % 16 * 4
def inV4 (xs : List AV) : List AV := (xs.drop (hdN xs).toNat).take (nv xs 2 2 - hdN xs).toNat
def pieceB (xs : List AV) : Bool := !ieq (nv xs 6 2 % 8192) 0
def fourE (xs : List AV) : Int :=
 bif ilt xs.length 20 then 3 else bif (bif !ieq (nv xs 0 1 / 16) 4 then true else ilt (hdN xs) 20) then 4 else bif ilt xs.length (hdN xs) then 3 else
 bif (bif !ieq (sumV (xs.take (hdN xs).toNat)) 0 then true else ilt (nv xs 2 2) (hdN xs)) then 4 else bif ilt xs.length (nv xs 2 2) then 3 else
 bif pieceB xs then 0 else withinE true (nv xs 9 1) (inV4 xs)
def fourP (xs : List AV) : P5 := (nv xs 1 1 / 4,nv xs 1 1 % 4,nv xs 9 1,(0,nv xs 12 4),(0,nv xs 16 4))
def fourK (b : B6) (xs : List AV) : Nat → Int := bif pieceB xs then ipK b true (fourP xs) else withinK (ipK b true (fourP xs)) true (nv xs 9 1) (inV4 xs)
def clsN (xs : List AV) : Int := nv xs 0 2 / 16 % 256
def inV6 (xs : List AV) : List AV := (xs.drop 40).take (nv xs 4 2).toNat
def sixE (xs : List AV) : Int :=
 bif ilt xs.length 40 then 3 else bif !ieq (nv xs 0 1 / 16) 6 then 4 else bif ilt xs.length (40 + nv xs 4 2) then 3 else withinE false (nv xs 6 1) (inV6 xs)
def sixP (xs : List AV) : P5 := (clsN xs / 4,clsN xs % 4,nv xs 6 1,wv (xs.drop 8) 16,wv (xs.drop 24) 16)
def sixK (b : B6) (xs : List AV) : Nat → Int := withinK (ipK b false (sixP xs)) false (nv xs 6 1) (inV6 xs)
def arpHd (xs : List AV) : Bool := ieq (byN xs 0) 0 && (ieq (byN xs 1) 1 && (ieq (byN xs 2) 8 && (ieq (byN xs 3) 0 && (ieq (byN xs 4) 6 && ieq (byN xs 5) 4))))
def arpE (xs : List AV) : Int := bif ilt xs.length 28 then 3 else bif !arpHd xs then 4 else 0
def arpK (b : B6) (xs : List AV) : Nat → Int := setK (setK (setK (baseK b) 18 (0,nv xs 6 2)) 19 (0,nv xs 14 4)) 20 (0,nv xs 24 4)
def labE (xs : List AV) : Int := bif ilt xs.length 4 then 3 else 0
def labK (b : B6) (xs : List AV) : Nat → Int := setK (baseK b) 23 (0,nv xs 0 4 / 4096)
abbrev XB := B6 × List AV
def withinC (b : B6) (four : Bool) (p : P5) (xs : List AV) : List AV := hdrC (withinK (ipK b four p) four p.2.2.1 xs)
def fourC (b : B6) (xs : List AV) : List AV := hdrC (fourK b xs)
def sixC (b : B6) (xs : List AV) : List AV := hdrC (sixK b xs)
def arpC (b : B6) (xs : List AV) : List AV := hdrC (arpK b xs)
def labC (b : B6) (xs : List AV) : List AV := hdrC (labK b xs)
def outWl (lk : Bool) (e : Int) (c : List AV) : Tree (AV × List (List AV)) := .ite (ieq e 0) (.leaf (.int .i64 0,[lockL lk c ++ [.unk]])) (.leaf (.int .i64 e,[List.replicate 49 .unk]))
def outRl (lk : Bool) (e : Int) (c : List AV) : Tree AV := .ite (ieq e 0) (.leaf (.tup [.agg (lockL lk c),.int .i64 0])) (.leaf (.tup [.agg zeroH,.int .i64 e]))
def SW (lk : Bool) (e : List AV → Int) (C : B6 → List AV → List AV) : SumT := sumSW 1 (σ := XB) (fun a p => (baseOf (wireK (p.getD 0 [])),wireX (p.getD 0 []))) (fun x => [.ptr 1000 0]) (fun x => [wireC (baseK x.1) x.2]) (fun x => okL x.2) (fun x => outWl lk (e x.2) (C x.1 x.2))
def hdrOf (a : AV) : Nat → Int := fun j => (a.cells.getD j .unk).asInt
def SR (lk : Bool) (e : List AV → Int) (C : B6 → List AV → List AV) : SumT := sumW (σ := XB) [1,1] (fun a => (baseOf (hdrOf (arg a 0)),(arg a 1).elems)) (fun x => [.agg (hdrC (baseK x.1)),.sl 1 x.2 .sh]) (fun x => okL x.2) (fun x => outRl lk (e x.2) (C x.1 x.2))
def S192l (lk : Bool) : SumT := sumSW 1 (σ := Bool × XI) (fun a p => ((arg a 1).asBool,baseOf (wireK (p.getD 0 [])),p5Of (arg a 1).asBool (wireK (p.getD 0 [])),wireX (p.getD 0 []))) (fun x => [.ptr 1000 0,.bool x.1]) (fun x => [wireC (ipK x.2.1 x.1 x.2.2.1) x.2.2.2])
 (fun x => okL x.2.2.2) (fun x => outWl lk (withinE x.1 x.2.2.1.2.2.1 x.2.2.2) (withinC x.2.1 x.1 x.2.2.1 x.2.2.2))
def S175 (lk : Bool) : SumT := sumW (σ := Bool × XI) [1,1] (fun a => ((arg a 2).asBool,baseOf (hdrOf (arg a 0)),p5Of (arg a 2).asBool (hdrOf (arg a 0)),(arg a 1).elems)) (fun x => [.agg (hdrC (ipK x.2.1 x.1 x.2.2.1)),.sl 1 x.2.2.2 .sh,.bool x.1])
 (fun x => okL x.2.2.2) (fun x => outRl lk (withinE x.1 x.2.2.1.2.2.1 x.2.2.2) (withinC x.2.1 x.1 x.2.2.1 x.2.2.2))
def spM2 (lk : Bool) : List (FuncId × SumT) := (192,S192l lk) :: spM0
def spR0 : List (FuncId × SumT) := [(174,S178),(116,S115v),(73,S72)]
def spR2 (lk : Bool) : List (FuncId × SumT) := (175,S175 lk) :: spR0
def inM : List Nat := [166,167,168,169,126,191]
def inRf : List Nat := [128,129]
end Go.Proofs.Ytdcijmigoefnjaa
set_option linter.unusedVariables false
set_option maxRecDepth 100000
namespace Go.Proofs.Ytdcijmigoefnjaa
open Go Go.Ev
def tagB (xs : List AV) : Bool := bif ieq (nv xs 12 2) 33024 then true else ieq (nv xs 12 2) 34984
def restX (xs : List AV) : List AV := xs.drop (bif tagB xs then 18 else 14)
def typN (xs : List AV) : Int := nv xs (bif tagB xs then 16 else 12) 2
def frmB (port : Int) (xs : List AV) : B6 :=
 (port,(0,nv xs 0 6),(0,nv xs 6 6),(0,typN xs),bif tagB xs then nv xs 14 2 % 4096 + 4096 else 0,bif tagB xs then nv xs 14 2 / 8192 else 0)
def frmE (xs : List AV) : Int :=
 bif ieq (typN xs) 2048 then fourE (restX xs) else bif ieq (typN xs) 34525 then sixE (restX xs) else bif ieq (typN xs) 2054 then arpE (restX xs) else
 bif (bif ieq (typN xs) 34887 then true else ieq (typN xs) 34888) then labE (restX xs) else 0
def frmK (b : B6) (xs : List AV) : Nat → Int :=
 bif ieq (typN xs) 2048 then fourK b (restX xs) else bif ieq (typN xs) 34525 then sixK b (restX xs) else bif ieq (typN xs) 2054 then arpK b (restX xs) else
 bif (bif ieq (typN xs) 34887 then true else ieq (typN xs) 34888) then labK b (restX xs) else baseK b
def portB (p : Int) : Bool := bif ilt p 1 then true else ilt 4294967040 p
def parE (port : Int) (xs : List AV) : Int :=
 bif portB port then 1 else bif ilt xs.length 14 then 3 else bif (tagB xs && ilt xs.length 18) then 3 else frmE xs
def parK (port : Int) (xs : List AV) : Nat → Int := frmK (frmB port xs) xs
def parC (port : Int) (xs : List AV) : List AV := hdrC (parK port xs)
def S70 (lk : Bool) : SumT := sumW (σ := List AV × Int) [1] (fun a => ((arg a 0).elems,(arg a 1).asInt)) (fun x => [.sl 1 x.1 .sh,.int .i64 x.2]) (fun x => okL x.1)
 (fun x => outRl lk (parE x.2 x.1) (parC x.2 x.1))
def spM3 : List (FuncId × SumT) := (170,SW true fourE fourC) :: (171,SW true sixE sixC) :: (172,SW true arpE arpC) :: (173,SW true labE labC) :: spM0
def spR3 : List (FuncId × SumT) := (130,SR true fourE fourC) :: (131,SR true sixE sixC) :: (132,SR true arpE arpC) :: spR0
def inM3 : List Nat := [127,166,167,168,169,126,191]
end Go.Proofs.Ytdcijmigoefnjaa
set_option linter.unusedVariables false
set_option maxRecDepth 100000
namespace Go.Proofs.Ytdcijmigoefnjaa
open Go Go.Ev
def lowH (hs : List AV) (i : Int) : Int := IntKind.i64.wrap (getH hs i).2
def S153 : SumT := sum0 (σ := List AV × Int) (fun a => ((arg a 0).cells,(arg a 1).asInt)) (fun x => [.agg x.1,.int .i64 x.2]) (fun x => isHdr x.1 && isF x.2) (fun x => .leaf (.int .i64 (lowH x.1 x.2)))
def zeroH1 (hs : List AV) (v : AV) : Bool := zeroW (getH hs v.asInt)
def allZ (hs : List AV) (is : List AV) : Bool := is.all (zeroH1 hs)
def isFi : AV → Bool
 | .int .i64 n => isF n
 | _ => false
def okIs (is : List AV) : Bool := is.all isFi && lenB is
def hdrU (hs : List AV) : Bool := isHdr hs && hs.all fun v => inU v.asInt
def S182 : SumT := sumS (σ := Int × List AV) (fun a p => ((arg a 0).asInt,p.getD 0 [])) (fun x => [.int .i64 x.1,.ptr 1000 0]) (fun x => [x.2]) (fun x => isF x.1 && hdrU x.2) (fun x => .leaf (.bool (!zeroW (getH x.2 x.1)),[x.2]))
def sp195 : List (FuncId × SumT) := [(182,S182)]
def st195 (h : Nat → Int) (x : Int × List AV) : AS := stA 19 [(0,.sl 1 x.2 .sh),(1,.fn 182 [.ptr 1000 0]),(7,.int .i64 x.2.length),(8,.int .i64 x.1)] [(1000,hdrC h)]
def pr195 (s : AS) : Int × List AV := ((s.at 8).asInt,(s.at 0).elems)
def anyZ (hs : List AV) (is : List AV) : Bool := is.any fun v => !zeroH1 hs v
def ixZ (hs : List AV) (is : List AV) (j : Nat) : Nat := firstI (fun j => !zeroH1 hs (is.getD j .unk)) (is.length - j) j
def L195 (h : Nat → Int) : FL (List AV) := ⟨fun r => r.length,fun r j => !zeroH1 (hdrC h) (r.getD j .unk),fun r j => anyZ (hdrC h) (r.drop j),fun r j => ixZ (hdrC h) r j,fun r k => (.ret,stA 19 [(4,.int .i64 k)] [(1000,hdrC h)]),fun _ => (.exit 0,stA 19 [] [(1000,hdrC h)]),fun r => okIs r⟩
noncomputable def lp195 (h : Nat → Int) : AS → T (Tree (Ex × AS)) := loopS (book.clean 195 2) pr195 (st195 h) (L195 h).tr (L195 h).pre
def S195 : SumT := sumWS (σ := List AV × List AV) [1] (fun a p => ((arg a 0).elems,p.getD 0 [])) (fun x => [.sl 1 x.1 .sh,.fn 182 [.ptr 1000 0]]) (fun x => [x.2]) (fun x => okIs x.1 && hdrU x.2)
 (fun x => .ite (anyZ x.2 x.1) (.leaf (.int .i64 (ixZ x.2 x.1 0),[x.2])) (.leaf (.int .i64 (-1),[x.2])))
def sp181 : List (FuncId × SumT) := [(195,S195)]
def S181 : SumT := sumWS (σ := List AV × List AV) [1] (fun a p => ((arg a 0).elems,p.getD 0 [])) (fun x => [.sl 1 x.1 .sh,.fn 182 [.ptr 1000 0]]) (fun x => [x.2]) (fun x => okIs x.1 && hdrU x.2) (fun x => .leaf (.bool (anyZ x.2 x.1),[x.2]))
def sp150 : List (FuncId × SumT) := [(181,S181)]
def S150 : SumT := sumW (σ := List AV × List AV) [1,1] (fun a => ((arg a 0).cells,(arg a 1).elems)) (fun x => [.agg x.1,.sl 1 x.2 .sh]) (fun x => hdrU x.1 && okIs x.2) (fun x => .leaf (.bool (allZ x.1 x.2)))
def bit12 (w : Int × Int) : Bool := !zeroW (ibits .and .u64 w.1 0,ibits .and .u64 w.2 4096)
def S186 : SumT := sum0 (σ := Int × Int) (fun a => wideOf (arg a 0)) (fun x => [wA x,.int .i64 12]) (fun _ => true) (fun x => .leaf (.bool (bit12 x)))
def sp182 : List (FuncId × SumT) := [(125,S125u)]
def sp186 : List (FuncId × SumT) := [(125,S125u),(68,S68 (ibits .and .u64))]
def nI (l : List Int) : List AV := l.map (AV.int .i64)
def taggedH (hs : List AV) : Bool :=
 bif allZ hs (nI [5]) then (bif allZ hs (nI [6]) then (bif !ieq (lowH hs 4) 33024 then !ieq (lowH hs 4) 34984 else false) else false) else bit12 (getH hs 5)
def four46 (hs : List AV) : Bool := ieq (lowH hs 4) 2048
def six46 (hs : List AV) : Bool := ieq (lowH hs 4) 34525
def noIp (hs : List AV) : Bool := bif !four46 hs then !six46 hs else false
def routedH (hs : List AV) : Bool :=
 bif (bif noIp hs then !allZ hs (nI [7,8,9]) else false) then false else
 bif (bif !four46 hs then !allZ hs (nI [10,11]) else false) then false else
 bif (bif !six46 hs then !allZ hs (nI [21,22]) else false) then false else
 bif (bif (bif !ieq (lowH hs 9) 6 then true else noIp hs) then !allZ hs (nI [12,13]) else false) then false else
 bif (bif (bif !ieq (lowH hs 9) 17 then true else noIp hs) then !allZ hs (nI [14,15]) else false) then false else
 bif (bif ieq (lowH hs 9) 1 then four46 hs else false) then true else allZ hs (nI [16,17])
def rightH (hs : List AV) : Bool :=
 bif !fitsC hs then false else bif ilt (lowH hs 0) 1 then false else bif ilt 4294967040 (lowH hs 0) then false else bif !allZ hs (nI [1]) then false else
 bif (bif !ieq (lowH hs 4) 2054 then !allZ hs (nI [18,19,20]) else false) then false else
 bif (bif (bif !ieq (lowH hs 4) 34887 then !ieq (lowH hs 4) 34888 else false) then !allZ hs (nI [23]) else false) then false else
 bif taggedH hs then routedH hs else false
def sp157 : List (FuncId × SumT) := [(153,S153),(150,S150),(186,S186)]
def S157 : SumT := sum0 (σ := List AV) (fun a => (arg a 0).cells) (fun x => [.agg x]) (fun x => hdrU x) (fun x => .leaf (.bool (taggedH x)))
def S158 : SumT := sum0 (σ := List AV) (fun a => (arg a 0).cells) (fun x => [.agg x]) (fun x => hdrU x) (fun x => .leaf (.bool (routedH x)))
def sp99 : List (FuncId × SumT) := (157,S157) :: (158,S158) :: (37,S37) :: sp157
def S99 : SumT := sum0 (σ := List AV) (fun a => (arg a 0).cells) (fun x => [.agg x]) (fun x => hdrU x) (fun x => .leaf (.bool (rightH x)))
end Go.Proofs.Ytdcijmigoefnjaa
set_option linter.unusedVariables false
set_option maxRecDepth 100000
namespace Go.Proofs.Ytdcijmigoefnjaa
open Go Go.Ev
def fldC (hs : List AV) (i n : Int) : List AV := putL (getH hs i) n
def grown (hs : List AV) (xs : List AV) (t : Tag) : List AV := hs ++ [.sl 1 xs (.own t)]
def shut (hs : List AV) (xs : List AV) : List AV := hs ++ [.sl 1 xs .sh]
def hdr1 (k : Nat → Int) (v : AV) : List AV := hdrC k ++ [v]
def tinyB (xs : List AV) : Bool := Nat.ble xs.length 1000
def nul (n : Nat) : List AV := List.replicate n (.int .u8 0)
abbrev XF := List AV × List AV
def frK (cs : List AV) : XF := (cs.take 48,wireX cs)
def S149 : SumT := sumO (σ := XF × Int × Int) [] (List.map (AV.shO 1)) (fun a cs => (frK cs,(arg a 1).asInt,(arg a 2).asInt)) (fun x => [.ptr 1000 0,.int .i64 x.2.1,.int .i64 x.2.2]) (fun x => shut x.1.1 x.1.2)
 (fun x => isHdr x.1.1 && (isF x.2.1 && (sizeOk x.2.2 && tinyB x.1.2))) (fun _ => .tup []) (fun x => grown x.1.1 (x.1.2 ++ fldC x.1.1 x.2.1 x.2.2) [0])
def S152 : SumT := sumO (σ := XF × Int × Int) [] (List.map (AV.shO 1)) (fun a cs => (frK cs,(arg a 1).asInt,(arg a 2).asInt)) (fun x => [.ptr 1000 0,.int .i64 x.2.1,.int .i64 x.2.2]) (fun x => shut x.1.1 x.1.2)
 (fun x => isHdr x.1.1 && (numOk x.2.1 x.2.2 && tinyB x.1.2)) (fun _ => .tup []) (fun x => grown x.1.1 (x.1.2 ++ numL x.2.1 x.2.2) [0])
def S151 : SumT := sumO (σ := XF × List AV) [0,1] id (fun a cs => (frK cs,(arg a 1).elems)) (fun x => [.ptr 1000 0,.sl 1 x.2 .sh]) (fun x => grown x.1.1 x.1.2 [])
 (fun x => isHdr x.1.1 && (tinyB x.1.2 && tinyB x.2)) (fun _ => .tup []) (fun x => grown x.1.1 (x.1.2 ++ x.2) [])
def S185 : SumT := sumO (σ := XF × Int) [] id (fun a cs => (frK cs,(arg a 1).asInt)) (fun x => [.ptr 1000 0,.int .i64 x.2]) (fun x => grown x.1.1 x.1.2 [])
 (fun x => isHdr x.1.1 && (tinyB x.1.2 && (ile 0 x.2 && ile x.2 100))) (fun _ => .tup []) (fun x => grown x.1.1 (x.1.2 ++ nul x.2.toNat) [])
def clsI (hs : List AV) : Int := ibits .or .i64 (ishl .i64 (lowH hs 7) 2) (lowH hs 8)
def S184 : SumT := sumO (σ := XF) [] id (fun a cs => frK cs) (fun x => [.ptr 1000 0]) (fun x => grown x.1 x.2 []) (fun x => isHdr x.1) (fun x => .int .i64 (clsI x.1)) (fun x => grown x.1 x.2 [])
def spF : List (FuncId × SumT) := [(117,S117o),(133,S133),(153,S153),(72,S72)]
def spO0 : List (FuncId × SumT) := [(149,S149),(151,S151),(152,S152),(184,S184),(185,S185)]
def hasIn (hs : List AV) (four : Bool) : Bool := bif ieq (lowH hs 9) 6 then true else bif ieq (lowH hs 9) 17 then true else bif ieq (lowH hs 9) 1 then four else false
def inL (hs : List AV) (four : Bool) : List AV :=
 bif ieq (lowH hs 9) 6 then (fldC hs 12 2 ++ fldC hs 13 2) ++ nul 16 else bif ieq (lowH hs 9) 17 then (fldC hs 14 2 ++ fldC hs 15 2) ++ [.int .u8 0,.int .u8 8,.int .u8 0,.int .u8 0] else
 bif (bif ieq (lowH hs 9) 1 then four else false) then (fldC hs 16 1 ++ fldC hs 17 1) ++ nul 6 else []
def ip4N (hs : List AV) (n : Int) : List AV := ((((([.int .u8 69,.int .u8 (IntKind.u8.wrap (clsI hs))] ++ numL (20 + n) 2) ++ [.int .u8 0,.int .u8 0,.int .u8 0,.int .u8 0,.int .u8 64]) ++ fldC hs 9 1) ++ nul 2) ++ fldC hs 10 4) ++ fldC hs 11 4
def ip4L (hs : List AV) (n : Int) : List AV := setAt (ip4N hs n) 10 (numL (sumV (ip4N hs n)) 2)
def fourL (hs : List AV) : List AV := ip4L hs (inL hs true).length ++ inL hs true
def sixL (hs : List AV) : List AV := (((((numL (ishl .i64 (ibits .or .i64 1536 (clsI hs)) 20) 4 ++ numL (inL hs false).length 2) ++ fldC hs 9 1) ++ [.int .u8 64]) ++ fldC hs 21 16) ++ fldC hs 22 16) ++ inL hs false
def arpL (hs : List AV) : List AV := (((([.int .u8 0,.int .u8 1,.int .u8 8,.int .u8 0,.int .u8 6,.int .u8 4] ++ fldC hs 18 2) ++ nul 6) ++ fldC hs 19 4) ++ nul 6) ++ fldC hs 20 4
def inX (lk : Bool) (hs : List AV) (four : Bool) : List AV := lockL lk (inL hs four)
def S183l (lk : Bool) : SumT := sum0 (σ := List AV × Bool) (fun a => ((arg a 0).cells,(arg a 1).asBool)) (fun x => [.agg x.1,.bool x.2]) (fun x => isHdr x.1)
 (fun x => .ite (hasIn x.1 x.2) (.leaf (.sl 1 (inX lk x.1 x.2) (.own []))) (.leaf (.sl 0 [] .nil)))
def spG (lk : Bool) : List (FuncId × SumT) := (183,S183l lk) :: spF
def tinyR (xs : List AV) : Bool := Nat.ble xs.length 100
end Go.Proofs.Ytdcijmigoefnjaa
