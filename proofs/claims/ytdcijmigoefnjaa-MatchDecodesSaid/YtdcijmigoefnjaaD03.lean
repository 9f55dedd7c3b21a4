import Derived.Test.YtdcijmigoefnjaaBk2
import Derived.Test.YtdcijmigoefnjaaEv3
/- Chapter 03: what fields are, as functions. -/
set_option linter.unusedVariables false
set_option maxRecDepth 100000
namespace Go.Proofs.Ytdcijmigoefnjaa
open Go Go.Ev

/-- a field: its name, its number, its bits, whether it may be masked -/
abbrev FRow := List UInt8 × Int × Int × Bool

def rowTab : List FRow :=
  [([105, 110, 95, 112, 111, 114, 116], 0, 32, false), ([109, 101, 116, 97, 100, 97, 116, 97], 2, 64, true), ([101, 116, 104, 95, 100, 115, 116], 3, 48, true),
   ([101, 116, 104, 95, 115, 114, 99], 4, 48, true), ([101, 116, 104, 95, 116, 121, 112, 101], 5, 16, false), ([118, 108, 97, 110, 95, 118, 105, 100], 6, 13, true),
   ([118, 108, 97, 110, 95, 112, 99, 112], 7, 3, false), ([105, 112, 95, 100, 115, 99, 112], 8, 6, false), ([105, 112, 95, 101, 99, 110], 9, 2, false),
   ([105, 112, 95, 112, 114, 111, 116, 111], 10, 8, false), ([105, 112, 118, 52, 95, 115, 114, 99], 11, 32, true), ([105, 112, 118, 52, 95, 100, 115, 116], 12, 32, true),
   ([116, 99, 112, 95, 115, 114, 99], 13, 16, false), ([116, 99, 112, 95, 100, 115, 116], 14, 16, false), ([117, 100, 112, 95, 115, 114, 99], 15, 16, false),
   ([117, 100, 112, 95, 100, 115, 116], 16, 16, false), ([105, 99, 109, 112, 118, 52, 95, 116, 121, 112, 101], 19, 8, false), ([105, 99, 109, 112, 118, 52, 95, 99, 111, 100, 101], 20, 8, false),
   ([97, 114, 112, 95, 111, 112], 21, 16, false), ([97, 114, 112, 95, 115, 112, 97], 22, 32, true), ([97, 114, 112, 95, 116, 112, 97], 23, 32, true),
   ([105, 112, 118, 54, 95, 115, 114, 99], 26, 128, true), ([105, 112, 118, 54, 95, 100, 115, 116], 27, 128, true), ([109, 112, 108, 115, 95, 108, 97, 98, 101, 108], 34, 20, false)]

def noRow : FRow := ([], -1, 0, false)

def rowOf (f : Int) : FRow := bif ile 0 f && ilt f 24 then rowTab.getD f.toNat noRow else noRow

def rowAV (r : FRow) : List AV := [.str r.1, .int .i64 r.2.1, .int .i64 r.2.2.1, .bool r.2.2.2]

def rowsA : AV := .agg (rowTab.flatMap rowAV)
/-- is there such a field -/
def isF (n : Int) : Bool := bif ile 0 n then ilt n 24 else false
def idOf (n : Int) : Int := (rowOf n).2.1
def bitsOf (n : Int) : Int := (rowOf n).2.2.1
def sizeOf (n : Int) : Int := ishr .i64 (iadd .i64 (bitsOf n) 7) 3
def masksOf (n : Int) : Bool := (rowOf n).2.2.2
def ixOf (n : Int) : Int × Bool :=
  bif ieq 0 n then (0, true) else
  bif ieq 2 n then (1, true) else
  bif ieq 3 n then (2, true) else
  bif ieq 4 n then (3, true) else
  bif ieq 5 n then (4, true) else
  bif ieq 6 n then (5, true) else
  bif ieq 7 n then (6, true) else
  bif ieq 8 n then (7, true) else
  bif ieq 9 n then (8, true) else
  bif ieq 10 n then (9, true) else
  bif ieq 11 n then (10, true) else
  bif ieq 12 n then (11, true) else
  bif ieq 13 n then (12, true) else
  bif ieq 14 n then (13, true) else
  bif ieq 15 n then (14, true) else
  bif ieq 16 n then (15, true) else
  bif ieq 19 n then (16, true) else
  bif ieq 20 n then (17, true) else
  bif ieq 21 n then (18, true) else
  bif ieq 22 n then (19, true) else
  bif ieq 23 n then (20, true) else
  bif ieq 26 n then (21, true) else
  bif ieq 27 n then (22, true) else
  bif ieq 34 n then (23, true) else
  (0, false)

/-- rows above the first twelve -/
def upOf (n : Int) : FRow := bif ile 12 n then rowOf n else noRow
def tupR (r : FRow) : AV := .tup (rowAV r)

/-- what a field needs: fields, and their values -/
def needTab : List (List (Int × List Int)) :=
  [[], [], [], [], [], [], [(5, [])], [(4, [2048, 34525])], [(4, [2048, 34525])], [(4, [2048, 34525])], [(4, [2048])], [(4, [2048])],
   [(4, [2048, 34525]), (9, [6])], [(4, [2048, 34525]), (9, [6])], [(4, [2048, 34525]), (9, [17])], [(4, [2048, 34525]), (9, [17])], [(4, [2048]), (9, [1])], [(4, [2048]), (9, [1])],
   [(4, [2054])], [(4, [2054])], [(4, [2054])], [(4, [34525])], [(4, [34525])], [(4, [34887, 34888])]]
def needOf (n : Int) : List (Int × List Int) := bif isF n then needTab.getD n.toNat [] else []
def wideA (v : Int) : AV := .agg [.int .u64 0, .int .u64 v]
def needCell (p : Int × List Int) (st : St) : AV := .agg [.int .i64 p.1, match p.2 with | [] => .sl 0 [] .nil | l => .sl 2 (l.map wideA) st]
def needP (l : List (Int × List Int)) : AV := match l with | [] => .sl 0 [] .nil | [p] => .sl 2 [needCell p .sh] .full | l => .sl 2 (l.map fun p => needCell p .sh) (.own [])
def needR (l : List (Int × List Int)) : AV := match l with | [] => .sl 0 [] .nil | l => .sl 2 (l.map fun p => needCell p (bif ieq p.1 9 then .full else .sh)) .full

def G30 := gI .i64 fun n => needP (needOf n)
def G55 := gI .i64 fun n => needR (needOf n)
def G31 := gI .i64 fun n => .bool (isF n)
def G105 := gI .i64 fun n => .agg (rowAV (rowOf n))
def G27 := gI .i64 fun n => .int .i64 (idOf n)
def G32 := gI .i64 fun n => .int .i64 (bitsOf n)
def G48 := gI .i64 fun n => .int .i64 (sizeOf n)
def G50 := gI .i64 fun n => .bool (masksOf n)
def G26 := gI .i64 fun n => .tup [.int .i64 (ixOf n).1, .bool (ixOf n).2]
def G163 := gI .i64 fun n => tupR (upOf n)
def G111 := gI .i64 fun n => tupR (rowOf n)

def sp105 : List (FuncId × SumT) := [(104, sumOf (g0 rowsA)), (31, sumOf G31)]
def spAt : List (FuncId × SumT) := [(105, sumOf G105)]
def sp104 : List (FuncId × SumT) := [(104, sumOf (g0 rowsA))]
def sp163 : List (FuncId × SumT) := [(163, sumOf G163)]
def sp111 : List (FuncId × SumT) := [(111, sumOf G111)]
def sp47 : List (FuncId × SumT) := [(47, sumOf G32)]
def sp46 : List (FuncId × SumT) := [(46, sumOf G27)]
end Go.Proofs.Ytdcijmigoefnjaa

/- Lists: equal, held one by one. -/
set_option linter.unusedVariables false
namespace Go.Proofs.Ytdcijmigoefnjaa
open Go Go.Ev

abbrev X3 := Int × List AV × List AV
end Go.Proofs.Ytdcijmigoefnjaa

/- Lists: the loops of slices.Equal. -/
set_option linter.unusedVariables false
set_option linter.unusedSimpArgs false
set_option maxRecDepth 100000
namespace Go.Proofs.Ytdcijmigoefnjaa
open Go Go.Ev

def lenB (xs : List AV) : Bool := Nat.ble xs.length 9223372036854775807

theorem drop_getD {α : Type} {xs : List α} {n : Nat} {d : α} (h : n < xs.length) : xs.drop n = xs.getD n d :: xs.drop (n + 1) := by
  rw [List.drop_eq_getElem_cons h, List.getD_eq_getElem?_getD, List.getElem?_eq_getElem h]
  rfl

theorem intsA_get {k : IntKind} {xs : List AV} {n : Nat} (h : intsA k xs = true) (hn : n < xs.length) : ∃ z, xs.getD n .unk = .int k z := by
  unfold intsA at h
  rw [List.all_eq_true] at h
  have := h (xs.getD n .unk) (by rw [List.getD_eq_getElem?_getD, List.getElem?_eq_getElem hn]; exact List.getElem_mem hn)
  revert this
  generalize xs.getD n .unk = v
  intro this
  cases v <;> try (cases this; done)
  simp only [isI, decide_eq_true_eq] at this
  exact ⟨_, by rw [this]⟩

theorem ilt_iff {a b : Int} : ilt a b = true ↔ a < b := by simp [ilt]
theorem ilt_no {a b : Int} : ilt a b = false ↔ b ≤ a := by simp [ilt]
theorem inR_iff {i : Int} {n : Nat} : inR i n = true ↔ 0 ≤ i ∧ i < n := by simp [inR]
theorem iadd_small {a b : Int} (h0 : -9223372036854775808 ≤ a + b) (h1 : a + b < 9223372036854775808) : iadd .i64 a b = a + b := by
  unfold iadd; rw [IntKind.wrap_i64]; omega

structure P41 (k : IntKind) (x : X3) : Prop where
  i0 : 0 ≤ x.1
  i1 : x.1 ≤ x.2.1.length
  len : x.2.1.length = x.2.2.length
  big : x.2.1.length ≤ 9223372036854775807
  xs : intsA k x.2.1 = true
  ys : intsA k x.2.2 = true
end Go.Proofs.Ytdcijmigoefnjaa

/- Chapter 04: headers, as functions. -/
set_option linter.unusedVariables false
set_option maxRecDepth 100000
namespace Go.Proofs.Ytdcijmigoefnjaa
open Go Go.Ev

def wA (v : Int × Int) : AV := .agg [.int .u64 v.1, .int .u64 v.2]
def wideOf (a : AV) : Int × Int := ((a.cells.getD 0 .unk).asInt, (a.cells.getD 1 .unk).asInt)
def cell (cs : List AV) (j : Nat) : Int := (cs.getD j .unk).asInt
def arg (a : List AV) (i : Nat) : AV := a.getD i .unk

def S68 (g : Int → Int → Int) : SumT := sum0 (σ := (Int × Int) × Int × Int) (fun a => (wideOf (arg a 0), wideOf (arg a 1))) (fun x => [wA x.1, wA x.2]) (fun _ => true) (fun x => .leaf (wA (g x.1.1 x.2.1, g x.1.2 x.2.2)))
/-- the lowest bits, as 64 and 64 -/
def lowc (n : Int) : Int := bif ile 64 n then 18446744073709551615 else bif ile n 0 then 0 else 2 ^ (n.toNat) - 1
def lowW (n : Int) : Int × Int := (lowc (n - 64), lowc n)
def lowNs : List Int := [2, 3, 6, 8, 13, 16, 20, 32, 48, 64, 128]
def lowOk (n : Int) : Bool := lowNs.any fun m => ieq n m
def S108 : SumT := fun a p => match a, p with
  | [.int k n], [] => .need (decide (k = .i64) && lowOk n) (.ret (.leaf (wA (lowW n), [])))
  | _, _ => .no

end Go.Proofs.Ytdcijmigoefnjaa

/- Chapter 02 and 04: numbers of 128 bits as bytes. -/
set_option linter.unusedVariables false
set_option maxRecDepth 100000
namespace Go.Proofs.Ytdcijmigoefnjaa
open Go Go.Ev

/-- a byte of a half -/
def byteAt (v : Int) (s : Int) : AV := .int .u8 (IntKind.u8.wrap (ishr .u64 v s))
def all16 (v : Int × Int) : List AV := [byteAt v.1 56, byteAt v.1 48, byteAt v.1 40, byteAt v.1 32, byteAt v.1 24, byteAt v.1 16, byteAt v.1 8, byteAt v.1 0, byteAt v.2 56, byteAt v.2 48, byteAt v.2 40, byteAt v.2 32, byteAt v.2 24, byteAt v.2 16, byteAt v.2 8, byteAt v.2 0]
def putL (v : Int × Int) (n : Int) : List AV := (all16 v).drop (16 - n.toNat)
end Go.Proofs.Ytdcijmigoefnjaa

/- Numbers of 128 bits as bytes: contracts. -/
set_option linter.unusedVariables false
set_option maxRecDepth 100000
namespace Go.Proofs.Ytdcijmigoefnjaa
open Go Go.Ev

def sizeNs : List Int := [1, 2, 3, 4, 6, 8, 16]
def sizeOk (n : Int) : Bool := sizeNs.any fun m => ieq n m
/-- the number that bytes are, in its halves -/
def getW (xs : List AV) : Nat → Int × Int
  | 0 => (0, 0)
  | n + 1 => (ibits .or .u64 (ishl .u64 (getW xs n).1 8) (ishr .u64 (getW xs n).2 56), ibits .or .u64 (ishl .u64 (getW xs n).2 8) (IntKind.u64.wrap (xs.getD n .unk).asInt))
def getHi (xs : List AV) (n : Int) : Int := (getW xs n.toNat).1
def getLo (xs : List AV) (n : Int) : Int := (getW xs n.toNat).2

def S115 : SumT := sumW (σ := List AV × Int) [1] (fun a => ((arg a 0).elems, (arg a 1).asInt)) (fun x => [.sl 1 x.1 .sh, .int .i64 x.2]) (fun x => sizeOk x.2 && (intsA .u8 x.1 && lenB x.1))
  (fun x => .ite (ile x.2 x.1.length) (.leaf (.tup [wA (getHi x.1 x.2, getLo x.1 x.2), .bool true])) (.leaf (.tup [wA (0, 0), .bool false])))

end Go.Proofs.Ytdcijmigoefnjaa

/- Chapter 10: parts of a match, as functions. -/
set_option linter.unusedVariables false
set_option maxRecDepth 100000
namespace Go.Proofs.Ytdcijmigoefnjaa
open Go Go.Ev

def inU (n : Int) : Bool := ile 0 n && ilt n 18446744073709551616
def inW (v : Int × Int) : Bool := inU v.1 && inU v.2
def zeroW (v : Int × Int) : Bool := ieq v.1 0 && ieq v.2 0
def lessW (a b : Int × Int) : Int × Int := (ibits .andNot .u64 a.1 b.1, ibits .andNot .u64 a.2 b.2)
def S125u : SumT := sum0 (σ := Int × Int) (fun a => wideOf (arg a 0)) (fun x => [wA x]) (fun x => inW x) (fun x => .leaf (.bool (zeroW x)))

/-- a part: its field, whether it is masked, its value, its mask -/
abbrev XO := Int × Bool × (Int × Int) × (Int × Int)
def oxC (x : XO) : List AV := [.int .i64 x.1, .bool x.2.1, .int .u64 x.2.2.1.1, .int .u64 x.2.2.1.2, .int .u64 x.2.2.2.1, .int .u64 x.2.2.2.2]
def oxA (x : XO) : AV := .agg (oxC x)
def oxOf (cs : List AV) : XO := ((cs.getD 0 .unk).asInt, (cs.getD 1 .unk).asBool, ((cs.getD 2 .unk).asInt, (cs.getD 3 .unk).asInt), ((cs.getD 4 .unk).asInt, (cs.getD 5 .unk).asInt))
def inO (x : XO) : Bool := inW x.2.2.1 && inW x.2.2.2
def allW (f : Int) : Int × Int := lowW (bitsOf f)
def beyond (f : Int) (w : Int × Int) : Bool := !zeroW (lessW w (allW f))
/-- what is wrong with a part's bits -/
def formO (x : XO) : Int :=
  bif beyond x.1 x.2.2.1 then 7 else bif !x.2.1 then 0 else bif (bif beyond x.1 x.2.2.2 then true else zeroW x.2.2.2) then 8 else bif !zeroW (lessW x.2.2.1 x.2.2.2) then 5 else 0
def rightO (x : XO) : Bool := isF x.1 && ((bif x.2.1 then masksOf x.1 else zeroW x.2.2.2) && ieq (formO x) 0)

def S165 : SumT := sumS (σ := (Int × Int) × XO) (fun a p => (wideOf (arg a 0), oxOf (p.getD 0 []))) (fun x => [wA x.1, .ptr 1000 0]) (fun x => [oxC x.2]) (fun x => isF x.2.1 && inW x.1) (fun x => .leaf (.bool (beyond x.2.1 x.1), [oxC x.2]))
def S121 : SumT := sum0 (σ := XO) (fun a => oxOf (arg a 0).cells) (fun x => [oxA x]) (fun x => isF x.1 && inO x) (fun x => .leaf (.int .i64 (formO x)))
def numNs : List Int := [1, 2, 4]
def numOk (n size : Int) : Bool := ile 0 n && ((ieq size 1 && ilt n 256) || ((ieq size 2 && ilt n 65536) || (ieq size 4 && ilt n 4294967296)))
/-- a number's bytes -/
def nbyte (n s : Int) : AV := .int .u8 (IntKind.u8.wrap (ishr .i64 n s))
def numL (n size : Int) : List AV := [nbyte n 24, nbyte n 16, nbyte n 8, nbyte n 0].drop (4 - size.toNat)
def spW : List (FuncId × SumT) := [(67, S68 (ibits .andNot .u64)), (124, S68 (ibits .andNot .u64)), (125, S125u), (123, S125u), (108, S108), (110, S108), (31, sumOf G31), (53, sumOf G31), (32, sumOf G32), (47, sumOf G32), (48, sumOf G48), (49, sumOf G48), (50, sumOf G50), (51, sumOf G50), (27, sumOf G27), (46, sumOf G27), (26, sumOf G26), (45, sumOf G26)]
def sp121 : List (FuncId × SumT) := (165, S165) :: spW
end Go.Proofs.Ytdcijmigoefnjaa

/- Chapter 10: parts as bytes, and back. -/
set_option linter.unusedVariables false
set_option maxRecDepth 100000
namespace Go.Proofs.Ytdcijmigoefnjaa
open Go Go.Ev

def idNum (f : Int) (m : Bool) : Int := 2 * idOf f + (bif m then 1 else 0)
def bodyN (f : Int) (m : Bool) : Int := bif m then 2 * sizeOf f else sizeOf f
def bodyL (x : XO) : List AV := putL x.2.2.1 (sizeOf x.1) ++ (bif x.2.1 then putL x.2.2.2 (sizeOf x.1) else [])
/-- a part's bytes -/
def encL (x : XO) : List AV := numL 32768 2 ++ (numL (idNum x.1 x.2.1) 1 ++ (numL (bodyN x.1 x.2.1) 1 ++ bodyL x))
def isB : AV → Bool
  | .int .u8 n => inR n 256
  | _ => false
/-- bytes -/
def bytB (xs : List AV) : Bool := xs.all isB
/-- a byte of some, as a number -/
def byN (xs : List AV) (i : Nat) : Int := (xs.getD i .unk).asInt
def hdF (xs : List AV) : Int := (ixOf (byN xs 2 / 2)).1
def hdIs (xs : List AV) : Bool := (ixOf (byN xs 2 / 2)).2
def hdM (xs : List AV) : Bool := ieq (byN xs 2 % 2) 1
/-- what is wrong with the first bytes -/
def hdCode (xs : List AV) : Int :=
  bif ilt xs.length 4 then 1 else bif ilt xs.length (4 + byN xs 3) then 1 else
  bif (bif !ieq (byN xs 0) 128 then true else bif !ieq (byN xs 1) 0 then true else !hdIs xs) then 6 else
  bif (bif hdM xs then !masksOf (hdF xs) else false) then 8 else bif !ieq (byN xs 3) (bodyN (hdF xs) (hdM xs)) then 1 else 0
def valX (xs : List AV) (o n : Int) : Int × Int := (getHi (xs.drop o.toNat) n, getLo (xs.drop o.toNat) n)
def decX (xs : List AV) : XO := (hdF xs, hdM xs, valX xs 4 (sizeOf (hdF xs)), bif hdM xs then valX xs (4 + sizeOf (hdF xs)) (sizeOf (hdF xs)) else (0, 0))
def decCode (xs : List AV) : Int := bif ieq (hdCode xs) 0 then formO (decX xs) else hdCode xs
def noX : XO := (0, false, (0, 0), (0, 0))
def decR (xs : List AV) : Tree AV := .ite (ieq (decCode xs) 0) (.leaf (.tup [oxA (decX xs), .int .i64 (4 + byN xs 3), .agg [.bool false, .int .i64 0, .int .i64 0]]))
  (.leaf (.tup [oxA noX, .int .i64 0, .agg [.bool true, .int .i64 4, .int .i64 (decCode xs)]]))
def S62 : SumT := sumW (σ := List AV) [1] (fun a => (arg a 0).elems) (fun x => [.sl 1 x .sh]) (fun x => bytB x && lenB x) (fun x => decR x)

def sameO (x y : XO) : Bool := ieq x.1 y.1 && (x.2.1 == y.2.1 && (ieq x.2.2.1.1 y.2.2.1.1 && (ieq x.2.2.1.2 y.2.2.1.2 && (ieq x.2.2.2.1 y.2.2.2.1 && ieq x.2.2.2.2 y.2.2.2.2))))
def S78 : SumT := sum0 (σ := XO × XO) (fun a => (oxOf (arg a 0).cells, oxOf (arg a 1).cells)) (fun x => [oxA x.1, oxA x.2]) (fun _ => true) (fun x => .leaf (.bool (sameO x.1 x.2)))

def S119 : SumT := sumW (σ := List AV) [1] (fun a => (arg a 0).elems) (fun x => [.sl 1 x .sh]) (fun x => bytB x && lenB x)
  (fun x => .ite (ieq (hdCode x) 0) (.leaf (.tup [.int .i64 (hdF x), .bool (hdM x), .int .i64 (byN x 3), .int .i64 0])) (.leaf (.tup [.int .i64 0, .bool false, .int .i64 0, .int .i64 (hdCode x)])))
/-- a number is there -/
def S115t : SumT := sumW (σ := List AV × Int) [1] (fun a => ((arg a 0).elems, (arg a 1).asInt)) (fun x => [.sl 1 x.1 .sh, .int .i64 x.2]) (fun x => sizeOk x.2 && (intsA .u8 x.1 && (lenB x.1 && ile x.2 x.1.length)))
  (fun x => .leaf (.tup [wA (getHi x.1 x.2, getLo x.1 x.2), .bool true]))
noncomputable def spD : List (FuncId × SumT) := (119, S119) :: (121, S121) :: (115, S115t) :: (116, S115t) :: (120, (book.all 100 3 120).T) :: (122, (book.all 100 3 122).T) :: spW
end Go.Proofs.Ytdcijmigoefnjaa

/- Chapter 10: the laws' calls. -/
set_option linter.unusedVariables false
set_option maxRecDepth 100000
namespace Go.Proofs.Ytdcijmigoefnjaa
open Go Go.Ev
/-- what is read, behind a door -/
def dX (lk : Bool) (xs : List AV) : XO := bif lk then decX xs else noX
def decT (lk : Bool) (xs : List AV) : Tree AV := .ite (ieq (decCode xs) 0) (.leaf (.tup [oxA (dX lk xs), .int .i64 (4 + byN xs 3), .agg [.bool false, .int .i64 0, .int .i64 0]]))
  (.leaf (.tup [oxA noX, .int .i64 0, .agg [.bool true, .int .i64 4, .int .i64 (decCode xs)]]))
def S62l (lk : Bool) : SumT := sumW (σ := List AV) [1] (fun a => (arg a 0).elems) (fun x => [.sl 1 x .sh]) (fun x => bytB x && lenB x) (fun x => decT lk x)
end Go.Proofs.Ytdcijmigoefnjaa

/- Chapter 11: matches, as functions. -/
set_option linter.unusedVariables false
set_option maxRecDepth 100000
namespace Go.Proofs.Ytdcijmigoefnjaa
open Go Go.Ev

def ox (v : AV) : XO := oxOf v.cells
def isOx : AV → Bool
  | .agg [.int .i64 _, .bool _, .int .u64 a, .int .u64 b, .int .u64 c, .int .u64 d] => inU a && (inU b && (inU c && inU d))
  | _ => false
/-- a match: parts -/
def oxsB (xs : List AV) : Bool := xs.all isOx
def okX (xs : List AV) : Bool := oxsB xs && lenB xs
def isWd : AV → Bool
  | .agg [.int .u64 _, .int .u64 _] => true
  | _ => false
def okW (vs : List AV) : Bool := vs.all isWd && lenB vs
def sameW (v w : Int × Int) : Bool := ieq v.1 w.1 && ieq v.2 w.2
def hasW (vs : List AV) (w : Int × Int) : Bool := vs.any fun v => sameW (wideOf v) w
/-- does a part give what is needed -/
def givesF (x : XO) (n : Int) (vs : List AV) : Bool := ieq x.1 n && (vs.isEmpty || (!x.2.1 && hasW vs x.2.2.1))
def anyG (xs : List AV) (n : Int) (vs : List AV) : Bool := xs.any fun v => givesF (ox v) n vs
/-- is all there that a field needs -/
def metF (xs : List AV) (f : Int) : Bool := (needOf f).all fun p => anyG xs p.1 (p.2.map wideA)

/-! ### is a value among some -/
abbrev XW := Int × List AV × (Int × Int)
def wM (w : Int × Int) : List AV := [.int .u64 w.1, .int .u64 w.2]
def st148 (x : XW) : AS := stA 19 [(0, .sl 2 x.2.1 .sh), (3, .ptr 3 0), (7, .int .i64 x.2.1.length), (8, .int .i64 x.1)] [(3, wM x.2.2)]
def pr148 (s : AS) : XW := ((s.at 8).asInt, (s.at 0).elems, wideOf (.agg ((Ev.look s.mem 3).getD [])))
def st137 (x : XW) : AS := stA 21 [(1, .sl 2 x.2.1 .sh), (2, .ptr 2 0), (5, .int .i64 x.1)] [(2, wM x.2.2)]
def pr137 (s : AS) : XW := ((s.at 5).asInt, (s.at 1).elems, wideOf (.agg ((Ev.look s.mem 2).getD [])))
def hasV (vs : List AV) (w : Int × Int) : Bool := vs.any fun v => sameW w (wideOf v)
def ixV (vs : List AV) (w : Int × Int) (j : Nat) : Nat := firstI (fun j => sameW w (wideOf (vs.getD j .unk))) (vs.length - j) j
def L148 : FL (List AV × (Int × Int)) := ⟨fun r => r.1.length, fun r j => sameW r.2 (wideOf (r.1.getD j .unk)), fun r j => hasV (r.1.drop j) r.2, fun r j => ixV r.1 r.2 j, fun _ k => (.ret, stA 19 [(4, .int .i64 k)] []), fun _ => (.exit 0, stA 19 [] []), fun r => okW r.1⟩
noncomputable def lp148 : AS → T (Tree (Ex × AS)) := loopS (book.clean 148 2) pr148 st148 L148.tr L148.pre
def L137 : FL (List AV × (Int × Int)) := ⟨fun r => r.1.length, fun r j => sameW (wideOf (r.1.getD j .unk)) r.2, fun r j => hasW (r.1.drop j) r.2, fun _ _ => 0, fun r _ => (.ret, stA 21 [(1, .sl 2 r.1 .sh), (4, .bool true)] []), fun r => (.exit 0, stA 21 [(1, .sl 2 r.1 .sh)] []), fun r => okW r.1⟩
noncomputable def lp137 : AS → T (Tree (Ex × AS)) := loopS (book.clean 137 2) pr137 st137 L137.tr L137.pre
def S148 : SumT := sumWD (σ := List AV × (Int × Int)) [2] (fun a => ((arg a 0).elems, wideOf (arg a 1))) (fun x => [.sl 2 x.1 .sh, wA x.2]) (fun x => okW x.1)
  (fun x => .ite (hasV x.1 x.2) (.leaf (.int .i64 (ixV x.1 x.2 0))) (.leaf (.int .i64 (-1))))
def S97 : SumT := sumWD (σ := List AV × (Int × Int)) [2] (fun a => ((arg a 0).elems, wideOf (arg a 1))) (fun x => [.sl 2 x.1 .sh, wA x.2]) (fun x => okW x.1) (fun x => .leaf (.bool (hasW x.1 x.2)))
def S137 : SumT := sumWD (σ := (Int × Int) × List AV) [0, 2] (fun a => (wideOf (arg a 0), (arg a 1).elems)) (fun x => [wA x.1, .sl 2 x.2 .sh]) (fun x => okW x.2) (fun x => .leaf (.bool (x.2.isEmpty || hasW x.2 x.1)))
def S136 : SumT := sumWD (σ := XO × Int × List AV) [0, 2] (fun a => (oxOf (arg a 0).cells, ((arg a 1).cells.getD 0 .unk).asInt, ((arg a 1).cells.getD 1 .unk).elems))
  (fun x => [oxA x.1, .agg [.int .i64 x.2.1, .sl 2 x.2.2 .sh]]) (fun x => okW x.2.2) (fun x => .leaf (.bool (givesF x.1 x.2.1 x.2.2)))
def sp97 : List (FuncId × SumT) := [(148, S148)]
def sp136 : List (FuncId × SumT) := [(97, S97)]

/-- what a field needs, at one field -/
def S30a (f : Int) (L : AV) : SumT := sum0 (σ := Int) (fun a => (arg a 0).asInt) (fun n => [.int .i64 n]) (fun n => ieq n f) (fun _ => .leaf L)
def sp84 (f : Int) (L : AV) : List (FuncId × SumT) := [(30, S30a f L), (136, S136)]
def sp85 (f : Int) (L : AV) : List (FuncId × SumT) := [(55, S30a f L), (137, S137)]
def ndC (n : Int) (vs : List AV) (st : St) : AV := .agg [.int .i64 n, .sl 2 vs st]
def ndN (n : Int) : AV := .agg [.int .i64 n, .sl 0 [] .nil]

abbrev X84 := List AV × Int × List AV × List AV × Int × Int
def m84 (n : Int) (c : AV) : Mem := [(6, [.int .i64 n, c])]
def st84 (c : List AV → AV) (st : St) (x : Int × X84) : AS := stA 27 [(0, .sl 6 x.2.1 .sh), (6, .ptr 6 0), (10, .sl 2 x.2.2.2.2.1 st), (11, .int .i64 x.2.2.2.2.2.1), (12, .int .i64 x.2.2.2.2.2.2), (16, .sl 6 x.2.1 .sh), (17, .int .i64 x.2.1.length), (18, .int .i64 x.1)] (m84 x.2.2.1 (c x.2.2.2.1))
def nd84 (s : AS) : List AV := (Ev.look s.mem 6).getD []
def pr84 (s : AS) : Int × X84 := ((s.at 18).asInt, (s.at 16).elems, ((nd84 s).getD 0 .unk).asInt, ((nd84 s).getD 1 .unk).elems, (s.at 10).elems, (s.at 11).asInt, (s.at 12).asInt)
def o84 (st : St) (r : X84) : AS := stA 27 [(0, .sl 6 r.1 .sh), (10, .sl 2 r.2.2.2.1 st), (11, .int .i64 r.2.2.2.2.1), (12, .int .i64 r.2.2.2.2.2)] []
def L84 (st : St) : FL X84 := ⟨fun r => r.1.length, fun r j => givesF (ox (r.1.getD j .unk)) r.2.1 r.2.2.1, fun r j => anyG (r.1.drop j) r.2.1 r.2.2.1, fun _ _ => 0, fun r _ => (.exit 1, o84 st r), fun r => (.exit 2, o84 st r), fun r => okX r.1 && okW r.2.2.1⟩
def cSh (vs : List AV) : AV := .sl 2 vs .sh
def cNil (_ : List AV) : AV := .sl 0 [] .nil
abbrev X85 := List AV × List AV × Int
def st85 (x : Int × Bool × X85) : AS := stA 69 [(0, .sl 6 x.2.2.1 .sh), (5, .sl 2 x.2.2.2.1 .full), (6, .int .i64 x.2.2.2.2), (7, .bool x.2.1), (8, .int .i64 x.1)] []
def pr85 (s : AS) : Int × Bool × X85 := ((s.at 8).asInt, (s.at 7).asBool, (s.at 0).elems, (s.at 5).elems, (s.at 6).asInt)
def ndNum (c : AV) : Int := (c.cells.getD 0 .unk).asInt
def ndVals (c : AV) : List AV := (c.cells.getD 1 .unk).elems
/-- is it a need -/
def isNd (st : St) : AV → Bool
  | .agg [.int .i64 _, .sl sz vs st'] => Nat.beq sz 2 && (decide (st' = st) && okW vs)
  | _ => false
def isNdN : AV → Bool
  | .agg [.int .i64 _, .sl sz [] st'] => Nat.beq sz 0 && decide (st' = .nil)
  | _ => false
def ok85 (L : List AV) (j : Int) : Bool :=
  match L with
  | [c] => ieq j 0 && (isNd .sh c || isNdN c)
  | [c, d] => (ieq j 0 || ieq j 1) && (isNd .sh c && isNd .full d)
  | _ => false
def o85 (r : X85) (fd : Bool) : AS := stA 69 [(0, .sl 6 r.1 .sh), (5, .sl 2 r.2.1 .full), (6, .int .i64 r.2.2), (7, .bool fd)] []
def nd85 (r : X85) : AV := r.2.1.getD r.2.2.toNat .unk
def L85 : GL X85 Bool := ⟨fun r => r.1.length, fun _ _ _ => false, fun r j fd => fd || givesF (ox (r.1.getD j .unk)) (ndNum (nd85 r)) (ndVals (nd85 r)), fun _ _ _ => false, fun _ _ _ => 0,
  fun r j fd => fd || anyG (r.1.drop j) (ndNum (nd85 r)) (ndVals (nd85 r)), fun r _ fd => (.exit 2, o85 r fd), fun r fd => (.exit 2, o85 r fd), fun r => okX r.1 && ok85 r.2.1 r.2.2, fun _ _ _ => true⟩
noncomputable def lp84 (c : List AV → AV) (st : St) : AS → T (Tree (Ex × AS)) := loopS (book.clean 84 5) pr84 (st84 c st) (L84 st).tr (L84 st).pre
def L84n : FL X84 := ⟨fun r => r.1.length, fun r j => givesF (ox (r.1.getD j .unk)) r.2.1 r.2.2.1, fun r j => anyG (r.1.drop j) r.2.1 r.2.2.1, fun _ _ => 0, fun r _ => (.exit 1, o84 .full r), fun r => (.exit 2, o84 .full r), fun r => okX r.1 && r.2.2.1.isEmpty⟩
noncomputable def lp84n : AS → T (Tree (Ex × AS)) := loopS (book.clean 84 5) pr84 (st84 cNil .full) L84n.tr L84n.pre
noncomputable def lp85 : AS → T (Tree (Ex × AS)) := loopS (book.clean 85 7) pr85 st85 L85.tr0 L85.pre

def S84 : SumT := sumW (σ := List AV × Int) [6] (fun a => ((arg a 0).elems, (arg a 1).asInt)) (fun x => [.sl 6 x.1 .sh, .int .i64 x.2]) (fun x => okX x.1) (fun x => .leaf (.bool (metF x.1 x.2)))

/-- what is wrong with a match -/
def sameF (xs : List AV) (f : Int) : Bool := xs.any fun v => ieq (ox v).1 f
def chkAt (xs : List AV) (i : Nat) : Int :=
  let x := ox (xs.getD i .unk)
  bif sameF (xs.take i) x.1 then 10 else bif !metF (xs.take i) x.1 then 9 else 0
/-- the first that is wrong, from a place on -/
def chkFrom (xs : List AV) : Nat → Nat → Int
  | 0, _ => 0
  | n + 1, i => bif ieq (chkAt xs i) 0 then chkFrom xs n (i + 1) else chkAt xs i
def chk11 (xs : List AV) : Int := chkFrom xs xs.length 0

def badA (c : Int) : AV := .agg [.bool true, .int .i64 4, .int .i64 c]
def S142 : SumT := sum0 (σ := Int) (fun a => (arg a 0).asInt) (fun c => [.int .i64 c]) (fun _ => true) (fun c => .leaf (badA c))
def S144 : SumT := sumS (σ := XO × XO) (fun a p => (oxOf (arg a 0).cells, oxOf (p.getD 0 []))) (fun x => [oxA x.1, .ptr 1000 0]) (fun x => [oxC x.2]) (fun _ => true) (fun x => .leaf (.bool (ieq x.1.1 x.2.1), [oxC x.2]))
def sp146 : List (FuncId × SumT) := [(144, S144)]
def st146 (x : Int × List AV × XO) : AS := stA 19 [(0, .sl 6 x.2.1 .sh), (1, .fn 144 [.ptr 1000 0]), (7, .int .i64 x.2.1.length), (8, .int .i64 x.1)] [(1000, oxC x.2.2)]
def pr146 (s : AS) : Int × List AV × XO := ((s.at 8).asInt, (s.at 0).elems, oxOf ((Ev.look s.mem 1000).getD []))
def ixF (xs : List AV) (f : Int) (j : Nat) : Nat := firstI (fun j => ieq (ox (xs.getD j .unk)).1 f) (xs.length - j) j
def L146 : FL (List AV × XO) := ⟨fun r => r.1.length, fun r j => ieq (ox (r.1.getD j .unk)).1 r.2.1, fun r j => sameF (r.1.drop j) r.2.1, fun r j => ixF r.1 r.2.1 j, fun r k => (.ret, stA 19 [(4, .int .i64 k)] [(1000, oxC r.2)]), fun r => (.exit 0, stA 19 [] [(1000, oxC r.2)]), fun r => okX r.1⟩
noncomputable def lp146 : AS → T (Tree (Ex × AS)) := loopS (book.clean 146 2) pr146 st146 L146.tr L146.pre
def S146 : SumT := sumWS (σ := List AV × XO) [6] (fun a p => ((arg a 0).elems, oxOf (p.getD 0 []))) (fun x => [.sl 6 x.1 .sh, .fn 144 [.ptr 1000 0]]) (fun x => [oxC x.2]) (fun x => okX x.1)
  (fun x => .ite (sameF x.1 x.2.1) (.leaf (.int .i64 (ixF x.1 x.2.1 0), [oxC x.2])) (.leaf (.int .i64 (-1), [oxC x.2])))
def sp94 : List (FuncId × SumT) := [(146, S146)]
def S94 : SumT := sumWS (σ := List AV × XO) [6] (fun a p => ((arg a 0).elems, oxOf (p.getD 0 []))) (fun x => [.sl 6 x.1 .sh, .fn 144 [.ptr 1000 0]]) (fun x => [oxC x.2]) (fun x => okX x.1) (fun x => .leaf (.bool (sameF x.1 x.2.1), [oxC x.2]))

def noF : List AV := [.bool false, .int .i64 0, .int .i64 0]
def baF (c : Int) : List AV := [.bool true, .int .i64 4, .int .i64 c]
def st91 (x : Int × List AV) : AS := stA 28 [(0, .sl 6 x.2 .sh), (2, .ptr 2 0), (5, .sl 6 x.2 .sh), (6, .int .i64 x.2.length), (7, .int .i64 x.1)] [(2, noF)]
def pr91 (s : AS) : Int × List AV := ((s.at 7).asInt, (s.at 0).elems)
def ixC (xs : List AV) (j : Nat) : Nat := firstI (fun j => !ieq (chkAt xs j) 0) (xs.length - j) j
def chkJ (xs : List AV) (j : Nat) : Int := chkFrom xs (xs.length - j) j
def L91 : FL (List AV) := ⟨fun r => r.length, fun r j => !ieq (chkAt r j) 0, fun r j => !ieq (chkJ r j) 0, ixC, fun r k => (.ret, stA 28 [(2, .ptr 2 0)] [(2, baF (chkAt r k))]), fun _ => (.exit 0, stA 28 [(2, .ptr 2 0)] [(2, noF)]), okX⟩
noncomputable def lp91 : AS → T (Tree (Ex × AS)) := loopS (book.clean 91 2) pr91 st91 L91.tr L91.pre
def sp91 : List (FuncId × SumT) := [(94, S94), (84, S84), (142, S142)]

def st92 (x : Int × List AV) : AS := stA 40 [(0, .sl 6 x.2 .sh), (2, .ptr 2 0), (3, .int .i64 x.1)] [(2, noF)]
def pr92 (s : AS) : Int × List AV := ((s.at 3).asInt, (s.at 0).elems)
def L92 : FL (List AV) := ⟨fun r => r.length, fun r j => !ieq (chkAt r j) 0, fun r j => !ieq (chkJ r j) 0, ixC, fun r k => (.ret, stA 40 [(2, .ptr 2 0)] [(2, baF (chkAt r k))]), fun _ => (.exit 0, stA 40 [(2, .ptr 2 0)] [(2, noF)]), okX⟩
noncomputable def lp92 : AS → T (Tree (Ex × AS)) := loopS (book.clean 92 2) pr92 st92 L92.tr L92.pre
def st92i (x : Int × List AV × Int) : AS := stA 40 [(0, .sl 6 x.2.1 .sh), (2, .ptr 2 0), (3, .int .i64 x.2.2), (4, .int .i64 x.1)] [(2, noF)]
def pr92i (s : AS) : Int × List AV × Int := ((s.at 4).asInt, (s.at 0).elems, (s.at 3).asInt)
def L92i : FL (List AV × Int) := ⟨fun r => r.2.toNat, fun r j => ieq (ox (r.1.getD j .unk)).1 (ox (r.1.getD r.2.toNat .unk)).1, fun r j => sameF ((r.1.take r.2.toNat).drop j) (ox (r.1.getD r.2.toNat .unk)).1, fun _ _ => 0, fun r _ => (.ret, stA 40 [(0, .sl 6 r.1 .sh), (2, .ptr 2 0), (3, .int .i64 r.2)] [(2, baF 10)]),
  fun r => (.exit 2, stA 40 [(0, .sl 6 r.1 .sh), (2, .ptr 2 0), (3, .int .i64 r.2)] [(2, noF)]), fun r => okX r.1 && inR r.2 r.1.length⟩
noncomputable def lp92i : AS → T (Tree (Ex × AS)) := loopS (book.clean 92 5) pr92i st92i L92i.tr L92i.pre
def sp92 : List (FuncId × SumT) := [(85, S84), (143, S142)]
def S91 : SumT := sumW (σ := List AV) [6] (fun a => (arg a 0).elems) (fun x => [.sl 6 x .sh]) (fun x => okX x) (fun x => .ite (ieq (chk11 x) 0) (.leaf (.agg noF)) (.leaf (.agg (baF (chk11 x)))))

end Go.Proofs.Ytdcijmigoefnjaa

/- Chapter 11: the same, and the cube of a match, as functions. -/
set_option linter.unusedVariables false
set_option maxRecDepth 100000
namespace Go.Proofs.Ytdcijmigoefnjaa
open Go Go.Ev

/-- the same parts -/
def eqO : List AV → List AV → Bool
  | [], [] => true
  | x :: xs, y :: ys => sameO (ox x) (ox y) && eqO xs ys
  | _, _ => false
abbrev X145 := List AV × List AV
def L145 : FL X145 := ⟨fun r => r.1.length, fun r j => !sameO (ox (r.1.getD j .unk)) (ox (r.2.getD j .unk)), fun r j => !eqO (r.1.drop j) (r.2.drop j), fun _ _ => 0, fun _ _ => (.ret, stA 32 [(6, .bool false)] []), fun _ => (.exit 0, stA 32 [] []), fun r => okX r.1 && (okX r.2 && Nat.beq r.1.length r.2.length)⟩
def sp145 : List (FuncId × SumT) := [(78, S78), (79, S78)]
def S93 : SumT := sumW (σ := X145) [6, 6] (fun a => ((arg a 0).elems, (arg a 1).elems)) (fun x => [.sl 6 x.1 .sh, .sl 6 x.2 .sh]) (fun x => okX x.1 && okX x.2) (fun x => .leaf (.bool (eqO x.1 x.2)))
def st88 (x : Int × X145) : AS := stA 27 [(0, .sl 6 x.2.1 .sh), (1, .sl 6 x.2.2 .sh), (5, .int .i64 x.1)] []
def pr88 (s : AS) : Int × X145 := ((s.at 5).asInt, (s.at 0).elems, (s.at 1).elems)
def L88 : FL X145 := ⟨fun r => r.1.length, fun r j => !sameO (ox (r.1.getD j .unk)) (ox (r.2.getD j .unk)), fun r j => !eqO (r.1.drop j) (r.2.drop j), fun _ _ => 0, fun _ _ => (.ret, stA 27 [(4, .bool false)] []), fun _ => (.exit 0, stA 27 [] []), fun r => okX r.1 && (okX r.2 && Nat.beq r.1.length r.2.length)⟩
noncomputable def lp88 : AS → T (Tree (Ex × AS)) := loopS (book.clean 88 4) pr88 st88 L88.tr L88.pre

end Go.Proofs.Ytdcijmigoefnjaa

/- Numbers of 128 bits as bytes, and back: plain laws. -/
set_option linter.unusedVariables false
set_option maxRecDepth 100000
namespace Go.Proofs.Ytdcijmigoefnjaa
open Go Go.Ev

/-! numbers as bytes -/
theorem snocInd {α : Type} {p : List α → Prop} (h0 : p []) (h1 : ∀ xs x, p xs → p (xs ++ [x])) (l : List α) : p l := by
  have : ∀ r : List α, p r.reverse := by
    intro r
    induction r with
    | nil => exact h0
    | cons x r ih => rw [List.reverse_cons]; exact h1 _ _ ih
  have h := this l.reverse
  rwa [List.reverse_reverse] at h
def bytesBE (m : Nat) : Nat → List AV
  | 0 => []
  | n + 1 => bytesBE (m / 256) n ++ [.int .u8 ((m % 256 : Nat) : Int)]
def valB (xs : List AV) : Nat := xs.foldl (fun a x => a * 256 + x.asInt.toNat) 0
/-- is it a byte -/
def isByte (x : AV) : Prop := ∃ z : Nat, z < 256 ∧ x = .int .u8 (z : Int)
def byteL (xs : List AV) : Prop := ∀ x ∈ xs, isByte x

theorem bytesBE_len (n : Nat) : ∀ m, (bytesBE m n).length = n := by
  induction n with
  | zero => intro m; rfl
  | succ n ih => intro m; simp [bytesBE, ih]
theorem valB_snoc (xs : List AV) (x : AV) : valB (xs ++ [x]) = valB xs * 256 + x.asInt.toNat := by
  unfold valB; rw [List.foldl_append]; rfl
theorem valB_lt (xs : List AV) : byteL xs → valB xs < 256 ^ xs.length := by
  refine snocInd (p := fun xs => byteL xs → valB xs < 256 ^ xs.length) (fun _ => by simp [valB]) (fun xs x ih h => ?_) xs
  have h1 := ih (fun y hy => h y (List.mem_append_left _ hy))
  obtain ⟨z, hz, rfl⟩ := h x (by simp)
  rw [valB_snoc]
  simp only [AV.asInt, Int.toNat_natCast, List.length_append, List.length_cons, List.length_nil, Nat.zero_add, Nat.pow_succ]
  omega
theorem bytes_val (xs : List AV) : byteL xs → bytesBE (valB xs) xs.length = xs := by
  refine snocInd (p := fun xs => byteL xs → bytesBE (valB xs) xs.length = xs) (fun _ => rfl) (fun xs x ih h => ?_) xs
  have h1 := ih (fun y hy => h y (List.mem_append_left _ hy))
  obtain ⟨z, hz, rfl⟩ := h x (by simp)
  rw [valB_snoc]
  simp only [AV.asInt, Int.toNat_natCast, List.length_append, List.length_cons, List.length_nil, Nat.zero_add, bytesBE]
  rw [show (valB xs * 256 + z) / 256 = valB xs by omega, show (valB xs * 256 + z) % 256 = z by omega, h1]
theorem bytesBE_drop (k n : Nat) : ∀ m, (bytesBE m (k + n)).drop k = bytesBE m n := by
  induction n with
  | zero => intro m; rw [Nat.add_zero, List.drop_eq_nil_of_le (by rw [bytesBE_len]; omega)]; rfl
  | succ n ih =>
    intro m
    rw [← Nat.add_assoc, bytesBE, List.drop_append, ih, bytesBE_len, show k - (k + n) = 0 by omega]; rfl

theorem shr_byte (m s : Nat) (hs : s ≤ 64) : byteAt (m : Int) (s : Int) = .int .u8 ((m / 2 ^ s % 256 : Nat) : Int) := by
  unfold byteAt ishr
  rw [IntKind.wrap_u8]
  have e : min ((s : Int).toNat) IntKind.u64.bits = s := by simp [IntKind.bits]; omega
  rw [e, Int.fdiv_eq_ediv_of_nonneg _ (by exact_mod_cast Nat.zero_le _)]
  congr 1

theorem bytesBE_get : ∀ n m, bytesBE m n = (List.range n).map fun i => AV.int .u8 ((m / 256 ^ (n - 1 - i) % 256 : Nat) : Int)
  | 0, m => rfl
  | n + 1, m => by
    rw [bytesBE, bytesBE_get n, List.range_succ, List.map_append, List.map_singleton]
    congr 1
    · refine List.map_congr_left fun i hi => ?_
      have hi := List.mem_range.1 hi
      rw [show n + 1 - 1 - i = (n - 1 - i) + 1 by omega, Nat.div_div_eq_div_mul, Nat.pow_succ, Nat.mul_comm 256]
    · simp
theorem bHi (hi lo s : Nat) (h : lo < 2 ^ 64) : (hi * 2 ^ 64 + lo) / 2 ^ (64 + s) = hi / 2 ^ s := by
  rw [Nat.pow_add, ← Nat.div_div_eq_div_mul, show (hi * 2 ^ 64 + lo) / 2 ^ 64 = hi by omega]
theorem bLo (hi lo s : Nat) (hs : s ≤ 56) : (hi * 2 ^ 64 + lo) / 2 ^ s % 256 = lo / 2 ^ s % 256 := by
  have e : hi * 2 ^ 64 = 2 ^ s * (hi * 2 ^ (56 - s) * 256) := by
    have : 2 ^ 64 = 2 ^ s * 2 ^ (56 - s) * 256 := by
      rw [← Nat.pow_add, show s + (56 - s) = 56 by omega]
    rw [this, Nat.mul_assoc, Nat.mul_left_comm, Nat.mul_assoc hi]
  rw [e, Nat.mul_add_div (Nat.two_pow_pos s), Nat.add_comm, Nat.add_mul_mod_self_right]
theorem gHi (hi lo s k : Nat) (t : Int) (h : lo < 2 ^ 64) (ht : t = (s : Int)) (hs : s ≤ 64) (hk : 256 ^ k = 2 ^ (64 + s)) : byteAt (hi : Int) t = .int .u8 (((hi * 2 ^ 64 + lo) / 256 ^ k % 256 : Nat) : Int) := by
  rw [ht, shr_byte _ _ hs, hk, bHi _ _ _ h]
theorem gLo (hi lo s k : Nat) (t : Int) (ht : t = (s : Int)) (hs : s ≤ 56) (hk : 256 ^ k = 2 ^ s) : byteAt (lo : Int) t = .int .u8 (((hi * 2 ^ 64 + lo) / 256 ^ k % 256 : Nat) : Int) := by
  rw [ht, shr_byte _ _ (by omega), hk, bLo _ _ _ hs]
theorem all16_eq (hi lo : Nat) (h : lo < 2 ^ 64) : all16 ((hi : Int), (lo : Int)) = bytesBE (hi * 2 ^ 64 + lo) 16 := by
  rw [bytesBE_get]
  unfold all16
  simp only [List.range, List.range.loop, List.map_cons, List.map_nil, List.cons.injEq, and_true]
  exact ⟨gHi _ _ 56 15 _ h rfl (by omega) (by decide), gHi _ _ 48 14 _ h rfl (by omega) (by decide), gHi _ _ 40 13 _ h rfl (by omega) (by decide), gHi _ _ 32 12 _ h rfl (by omega) (by decide), gHi _ _ 24 11 _ h rfl (by omega) (by decide), gHi _ _ 16 10 _ h rfl (by omega) (by decide), gHi _ _ 8 9 _ h rfl (by omega) (by decide), gHi _ _ 0 8 _ h rfl (by omega) (by decide), gLo _ _ 56 7 _ rfl (by omega) (by decide), gLo _ _ 48 6 _ rfl (by omega) (by decide), gLo _ _ 40 5 _ rfl (by omega) (by decide), gLo _ _ 32 4 _ rfl (by omega) (by decide), gLo _ _ 24 3 _ rfl (by omega) (by decide), gLo _ _ 16 2 _ rfl (by omega) (by decide), gLo _ _ 8 1 _ rfl (by omega) (by decide), gLo _ _ 0 0 _ rfl (by omega) (by decide)⟩
/-- a number's bytes -/
theorem putL_eq (hi lo : Nat) (h : lo < 2 ^ 64) {n : Nat} (hn : n ≤ 16) : putL ((hi : Int), (lo : Int)) (n : Int) = bytesBE (hi * 2 ^ 64 + lo) n := by
  unfold putL
  rw [all16_eq _ _ h, Int.toNat_natCast]
  have := bytesBE_drop (16 - n) n (hi * 2 ^ 64 + lo)
  rwa [show 16 - n + n = 16 by omega] at this
theorem or_add (a b : Nat) (hb : b < 256) : (a * 256) ||| b = a * 256 + b := by
  have := Nat.two_pow_add_eq_or_of_lt (i := 8) hb a
  rw [Nat.mul_comm]; exact this.symm
theorem ibits_or (a b : Nat) (ha : a < 2 ^ 64) (hb : b < 2 ^ 64) (hc : a ||| b < 2 ^ 64) : ibits .or .u64 (a : Int) (b : Int) = ((a ||| b : Nat) : Int) := by
  rw [ibits_eq]
  show IntKind.u64.wrap _ = _
  rw [IntKind.wrap_u64]
  have e : (BitVec.ofInt IntKind.u64.bits (a : Int) ||| BitVec.ofInt IntKind.u64.bits (b : Int)).toNat = a ||| b := by
    show (BitVec.ofInt 64 (a : Int) ||| BitVec.ofInt 64 (b : Int)).toNat = a ||| b
    rw [BitVec.toNat_or, BitVec.ofInt_natCast, BitVec.ofInt_natCast, BitVec.toNat_ofNat, BitVec.toNat_ofNat, Nat.mod_eq_of_lt ha, Nat.mod_eq_of_lt hb]
  rw [e]
  omega
theorem step_hi (hi lo : Nat) (h1 : hi < 2 ^ 64) (h2 : lo < 2 ^ 64) : ibits .or .u64 (ishl .u64 (hi : Int) 8) (ishr .u64 (lo : Int) 56) = (((hi * 256) % 2 ^ 64 + lo / 2 ^ 56 : Nat) : Int) := by
  have e1 : ishl .u64 (hi : Int) 8 = (((hi * 256) % 2 ^ 64 : Nat) : Int) := by
    unfold ishl; rw [IntKind.wrap_u64]; simp [IntKind.bits]
  have e2 : ishr .u64 (lo : Int) 56 = ((lo / 2 ^ 56 : Nat) : Int) := by
    unfold ishr; rw [Int.fdiv_eq_ediv_of_nonneg _ (by decide)]; simp [IntKind.bits]
  have e3 : hi * 256 % 2 ^ 64 = (hi % 2 ^ 56) * 256 := by omega
  have e4 : (hi * 256 % 2 ^ 64) ||| (lo / 2 ^ 56) = hi * 256 % 2 ^ 64 + lo / 2 ^ 56 := by rw [e3]; exact or_add _ _ (by omega)
  rw [e1, e2, ibits_or _ _ (by omega) (by omega) (by rw [e4]; omega), e4]
theorem step_lo (lo b : Nat) (h2 : lo < 2 ^ 64) (hb : b < 256) : ibits .or .u64 (ishl .u64 (lo : Int) 8) (IntKind.u64.wrap (b : Int)) = (((lo * 256) % 2 ^ 64 + b : Nat) : Int) := by
  have e1 : ishl .u64 (lo : Int) 8 = (((lo * 256) % 2 ^ 64 : Nat) : Int) := by
    unfold ishl; rw [IntKind.wrap_u64]; simp [IntKind.bits]
  have e2 : IntKind.u64.wrap (b : Int) = (b : Int) := by rw [IntKind.wrap_u64]; omega
  have e3 : lo * 256 % 2 ^ 64 = (lo % 2 ^ 56) * 256 := by omega
  have e4 : (lo * 256 % 2 ^ 64) ||| b = lo * 256 % 2 ^ 64 + b := by rw [e3]; exact or_add _ _ (by omega)
  rw [e1, e2, ibits_or _ _ (by omega) (by omega) (by rw [e4]; omega), e4]
theorem stepV (hi lo b : Nat) (h : hi < 72057594037927936) : (hi * 256 % 18446744073709551616 + lo / 72057594037927936) * 18446744073709551616 + (lo * 256 % 18446744073709551616 + b) = (hi * 18446744073709551616 + lo) * 256 + b := by
  rw [Nat.mod_eq_of_lt (show hi * 256 < 18446744073709551616 by omega)]
  have : lo * 256 = lo / 72057594037927936 * 18446744073709551616 + lo * 256 % 18446744073709551616 := by omega
  rw [Nat.add_mul, Nat.add_mul]
  omega
theorem getW_eq (xs : List AV) (hx : byteL xs) : ∀ n, n ≤ xs.length → n ≤ 16 → ∃ hi lo : Nat, getW xs n = ((hi : Int), (lo : Int)) ∧ lo < 2 ^ 64 ∧ hi * 2 ^ 64 + lo = valB (xs.take n)
  | 0, _, _ => ⟨0, 0, rfl, by decide, by simp [valB]⟩
  | n + 1, hn, h16 => by
    obtain ⟨hi, lo, h1, h2, h3⟩ := getW_eq xs hx n (by omega) (by omega)
    have ht : xs.take (n + 1) = xs.take n ++ [xs.getD n .unk] := by
      rw [List.take_add_one, List.getD_eq_getElem?_getD, List.getElem?_eq_getElem (by omega)]; rfl
    obtain ⟨b, hb, hbx⟩ := hx (xs.getD n .unk) (by rw [List.getD_eq_getElem?_getD, List.getElem?_eq_getElem (by omega)]; exact List.getElem_mem _)
    have hlt := valB_lt (xs.take n) (fun x hx' => hx x (List.mem_of_mem_take hx'))
    rw [← h3, List.length_take, Nat.min_eq_left (by omega)] at hlt
    have h15 : 256 ^ n ≤ 256 ^ 15 := Nat.pow_le_pow_right (by decide) (by omega)
    have hh : hi < 72057594037927936 := by
      have h5 : hi * 2 ^ 64 < 72057594037927936 * 2 ^ 64 := Nat.lt_of_le_of_lt (Nat.le_add_right _ lo) (Nat.lt_of_lt_of_le hlt h15)
      exact Nat.lt_of_mul_lt_mul_right h5
    have hv : valB (xs.take (n + 1)) = (hi * 2 ^ 64 + lo) * 256 + b := by rw [ht, valB_snoc, hbx, h3]; simp [AV.asInt]
    refine ⟨hi * 256 % 2 ^ 64 + lo / 2 ^ 56, lo * 256 % 2 ^ 64 + b, ?_, ?_, ?_⟩
    · simp only [getW, h1, hbx, AV.asInt, step_hi hi lo (by omega) h2, step_lo lo b h2 hb]
    · have : lo * 256 % 2 ^ 64 = (lo % 2 ^ 56) * 256 := by omega
      omega
    · rw [hv]; exact stepV hi lo b hh
theorem put_get {xs : List AV} {n : Nat} (hx : byteL xs) (hn : n ≤ xs.length) (h16 : n ≤ 16) : putL (getHi xs (n : Int), getLo xs (n : Int)) (n : Int) = xs.take n := by
  obtain ⟨hi, lo, h1, h2, h3⟩ := getW_eq _ hx n hn h16
  unfold getHi getLo
  rw [Int.toNat_natCast, h1, putL_eq _ _ h2 h16, h3]
  have := bytes_val (xs.take n) (fun x hx' => hx x (List.mem_of_mem_take hx'))
  rwa [List.length_take, Nat.min_eq_left hn] at this
end Go.Proofs.Ytdcijmigoefnjaa

/- Chapter 45: frames, as functions. -/
set_option linter.unusedVariables false
set_option maxRecDepth 100000
namespace Go.Proofs.Ytdcijmigoefnjaa
open Go Go.Ev

/-- a number of bytes at a place -/
def nv (xs : List AV) (o n : Nat) : Int := (valB ((xs.drop o).take n) : Nat)
def okL (xs : List AV) : Bool := bytB xs && lenB xs
noncomputable def spNG : List (FuncId × SumT) := [(193, (book.all 100 3 193).T)]

end Go.Proofs.Ytdcijmigoefnjaa

/- Chapter 11: a match as bytes, and back, as functions. -/
set_option linter.unusedVariables false
set_option maxRecDepth 100000
namespace Go.Proofs.Ytdcijmigoefnjaa
open Go Go.Ev

/-- a length rounded up to a multiple of 8 -/
def padI (n : Int) : Int := (n + 7) / 8 * 8
def S140 : SumT := sum0 (σ := Int) (fun a => (arg a 0).asInt) (fun n => [.int .i64 n]) (fun n => ile 0 n && ile n 1000000) (fun n => .leaf (.int .i64 (padI n)))
abbrev A89 := Bool × List AV
end Go.Proofs.Ytdcijmigoefnjaa

/- Chapter 11: a match as bytes: the reference. -/
set_option linter.unusedVariables false
set_option maxRecDepth 100000
namespace Go.Proofs.Ytdcijmigoefnjaa
open Go Go.Ev

def isFull : AV → Bool
  | .sl _ _ .full => true
  | _ => false
def pre90b (x : A89) : Bool := Nat.ble x.2.length 1000000
end Go.Proofs.Ytdcijmigoefnjaa

/- Chapter 11: a match out of bytes, as functions. -/
set_option linter.unusedVariables false
set_option maxRecDepth 100000
namespace Go.Proofs.Ytdcijmigoefnjaa
open Go Go.Ev

/-- two bytes as a number; too few, and it says so -/
def S178h : SumT := sumW (σ := List AV × Int) [1] (fun a => ((arg a 0).elems, (arg a 1).asInt)) (fun x => [.sl 1 x.1 .sh, .int .i64 x.2, .int .i64 2]) (fun x => okL x.1 && (ile 0 x.2 && ile x.2 1000))
  (fun x => .ite (ile (x.2 + 2) x.1.length) (.leaf (.tup [.int .i64 (nv x.1 x.2.toNat 2), .int .i64 0])) (.leaf (.tup [.int .i64 0, .int .i64 3])))
def sp138h : List (FuncId × SumT) := [(178, S178h), (140, S140), (142, S142)]
/-- what is wrong with a match's head; -1: nothing -/
def hdC (xs : List AV) : Int := bif ilt (xs.length : Int) 4 then 1 else bif ilt (nv xs 2 2) 4 then 1 else bif ilt (xs.length : Int) (padI (nv xs 2 2)) then 1 else bif !ieq (nv xs 0 2) 1 then 0 else bif ilt 1004 (nv xs 2 2) then 1 else -1
def S138 : SumT := sumW (σ := List AV) [1] (fun a => (arg a 0).elems) (fun x => [.sl 1 x .sh]) (fun x => okL x) (fun x => .ite (ieq (hdC x) (-1)) (.leaf (.tup [.int .i64 (nv x 2 2), .agg noF])) (.leaf (.tup [.int .i64 0, .agg (baF (hdC x))])))
/-- is there a byte that is not nought -/
def nzB (xs : List AV) : Bool := xs.any fun v => !ieq v.asInt 0
def S139 : SumT := sumW (σ := List AV) [1] (fun a => (arg a 0).elems) (fun x => [.sl 1 x .sh, .fn 141 []]) (fun x => okL x) (fun x => .leaf (.bool (nzB x)))
/-- parts out of bytes, up to the first wrong one; what is wrong there, or 0 -/
def decAll : Nat → List AV → List AV × Int
  | 0, _ => ([], 0)
  | n + 1, ys => bif ys.isEmpty then ([], 0) else bif ieq (decCode ys) 0 then (oxA (decX ys) :: (decAll n (ys.drop (4 + byN ys 3).toNat)).1, (decAll n (ys.drop (4 + byN ys 3).toNat)).2) else ([], decCode ys)
def decL (ys : List AV) : List AV := (decAll ys.length ys).1
def decC (ys : List AV) : Int := (decAll ys.length ys).2
def sp86 (lk : Bool) : List (FuncId × SumT) := [(138, S138), (62, S62l lk), (91, S91), (140, S140), (139, S139), (142, S142)]
abbrev D86 := (Bool × List AV) × List AV × List AV × Int
def ac86 (a : Bool × List AV) : AV := bif a.1 then .sl 0 [] .nil else .sl 6 a.2 (.own [39, 1])
def st86 (x : D86) : AS := stA 59 [(0, .sl 1 x.2.2.1 .sh), (4, .ptr 4 0), (5, .int .i64 x.2.2.2), (7, ac86 x.1), (8, .sl 1 x.2.1 .sh)] [(4, noF)]
def isNilS : AV → Bool
  | .sl _ _ .nil => true
  | _ => false
def pr86 (s : AS) : D86 := ((isNilS (s.at 7), (s.at 7).elems), (s.at 8).elems, (s.at 0).elems, (s.at 5).asInt)
def out86 (a : Bool × List AV) (xs : List AV) (n c : Int) : Ex × AS := (.ret, stA 59 [(0, .sl 1 xs .sh), (2, .sl 0 [] .nil), (3, .int .i64 0), (4, .ptr 4 0), (5, .int .i64 n), (7, ac86 a)] [(4, baF c)])
def fin86 (a : Bool × List AV) (xs : List AV) (n : Int) : Ex × AS := (.exit 0, stA 59 [(0, .sl 1 xs .sh), (4, .ptr 4 0), (5, .int .i64 n), (7, ac86 a)] [(4, noF)])
def ac2 (lk : Bool) (x : D86) : List AV := lockL lk (x.1.2 ++ decL x.2.1)
def fl2 (x : D86) : Bool := x.1.1 && (decL x.2.1).isEmpty
def tr86 (lk : Bool) (x : D86) : Tree (Ex × AS) :=
  .ite (ieq (decC x.2.1) 0) (.ite (fl2 x) (.leaf (fin86 (true, []) x.2.2.1 x.2.2.2)) (.leaf (fin86 (false, ac2 lk x) x.2.2.1 x.2.2.2)))
    (.ite (fl2 x) (.leaf (out86 (true, []) x.2.2.1 x.2.2.2 (decC x.2.1))) (.leaf (out86 (false, ac2 lk x) x.2.2.1 x.2.2.2 (decC x.2.1))))
def pre86 (x : D86) : Bool := bytB x.2.1 && (Nat.ble (x.1.2.length + x.2.1.length) 1000 && (bif x.1.1 then x.1.2.isEmpty else true))
noncomputable def lp86 (lk : Bool) : AS → T (Tree (Ex × AS)) := loopS (book.clean 86 6) pr86 st86 (tr86 lk) pre86
end Go.Proofs.Ytdcijmigoefnjaa
