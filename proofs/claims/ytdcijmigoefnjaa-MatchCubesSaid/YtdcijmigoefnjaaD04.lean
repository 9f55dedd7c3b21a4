/- Chapter 04: headers, as functions. -/
import Derived.Test.YtdcijmigoefnjaaD03
import Derived.Test.YtdcijmigoefnjaaL1
set_option linter.unusedVariables false
set_option maxRecDepth 100000
namespace Go.Proofs.Ytdcijmigoefnjaa
open Go Go.Ev

def wA (v : Int × Int) : AV := .agg [.int .u64 v.1, .int .u64 v.2]
def wideOf (a : AV) : Int × Int := ((a.cells.getD 0 .unk).asInt, (a.cells.getD 1 .unk).asInt)
def cell (cs : List AV) (j : Nat) : Int := (cs.getD j .unk).asInt
def arg (a : List AV) (i : Nat) : AV := a.getD i .unk

def getH (cs : List AV) (f : Int) : Int × Int := bif isF f then (cell cs (f.toNat * 2), cell cs (f.toNat * 2 + 1)) else (0, 0)
def setN (f : Int) (v : Int × Int) : List AV → Nat → List AV
  | [], _ => []
  | c :: cs, j => .int .u64 (bif ieq f (j / 2 : Nat) then (bif Nat.beq (j % 2) 0 then v.1 else v.2) else c.asInt) :: setN f v cs (j + 1)
def setC (cs : List AV) (f : Int) (v : Int × Int) : List AV := setN f v cs 0
def maskTab : List Int := [0, 4294967295, 0, 18446744073709551615, 0, 281474976710655, 0, 281474976710655, 0, 65535, 0, 8191, 0, 7, 0, 63, 0, 3, 0, 255, 0, 4294967295, 0, 4294967295, 0, 65535, 0, 65535, 0, 65535, 0, 65535, 0, 255, 0, 255, 0, 65535, 0, 4294967295, 0, 4294967295, 18446744073709551615, 18446744073709551615, 18446744073709551615, 18446744073709551615, 0, 1048575]
def clipN : List AV → Nat → List AV
  | [], _ => []
  | c :: cs, j => .int .u64 (ibits .and .u64 c.asInt (maskTab.getD j 0)) :: clipN cs (j + 1)
def clipC (cs : List AV) : List AV := clipN cs 0
def fitsC (cs : List AV) : Bool := pairEq cs (clipC cs)
/-- the last fields in which two headers are otherwise -/
def diffF (h g : Nat → Int) : Nat → List AV
  | 0 => []
  | n + 1 => bif ieq (h ((23 - n) * 2)) (g ((23 - n) * 2)) && ieq (h ((23 - n) * 2 + 1)) (g ((23 - n) * 2 + 1)) then diffF h g n else .int .i64 ((23 - n : Nat) : Int) :: diffF h g n
def diffC (cs ds : List AV) : List AV := diffF (cell cs) (cell ds) 24

/-! contracts -/
def S33 : SumT := sum0 (σ := List AV × Int) (fun a => ((arg a 0).cells, (arg a 1).asInt)) (fun x => [.agg x.1, .int .i64 x.2]) (fun x => isHdr x.1) (fun x => .leaf (wA (getH x.1 x.2)))
def S35 (lk : Bool) : SumT := sum0 (σ := List AV × Int × Int × Int) (fun a => ((arg a 0).cells, (arg a 1).asInt, wideOf (arg a 2))) (fun x => [.agg x.1, .int .i64 x.2.1, wA x.2.2]) (fun x => isHdr x.1) (fun x => .leaf (.agg (lockL lk (setC x.1 x.2.1 x.2.2))))
def S39 (lk : Bool) : SumT := sum0 (σ := List AV) (fun a => (arg a 0).cells) (fun x => [.agg x]) (fun x => isHdr x) (fun x => .leaf (.agg (lockL lk (clipC x))))
def S37 : SumT := sum0 (σ := List AV) (fun a => (arg a 0).cells) (fun x => [.agg x]) (fun x => isHdr x) (fun x => .leaf (.bool (fitsC x)))
def S42 (lk : Bool) : SumT := sum0 (σ := List AV × List AV) (fun a => ((arg a 0).cells, (arg a 1).cells)) (fun x => [.agg x.1, .agg x.2]) (fun x => isHdr x.1 && isHdr x.2) (fun x => .leaf (.sl 1 (lockL lk (diffC x.1 x.2)) .sh))
def S41 (k : IntKind) : SumT := sumW (σ := List AV × List AV) [1, 1] (fun a => ((arg a 0).elems, (arg a 1).elems)) (fun x => [.sl 1 x.1 .sh, .sl 1 x.2 .sh]) (fun x => intsA k x.1 && (intsA k x.2 && (lenB x.1 && lenB x.2))) (fun x => .leaf (.bool (eqA x.1 x.2)))
def S68 (g : Int → Int → Int) : SumT := sum0 (σ := (Int × Int) × Int × Int) (fun a => (wideOf (arg a 0), wideOf (arg a 1))) (fun x => [wA x.1, wA x.2]) (fun _ => true) (fun x => .leaf (wA (g x.1.1 x.2.1, g x.1.2 x.2.2)))
def S125 : SumT := sum0 (σ := Int × Int) (fun a => wideOf (arg a 0)) (fun x => [wA x]) (fun _ => true) (fun x => .leaf (.bool (ieq x.1 0 && ieq x.2 0)))

/-- the lowest bits, as 64 and 64 -/
def lowc (n : Int) : Int := bif ile 64 n then 18446744073709551615 else bif ile n 0 then 0 else 2 ^ (n.toNat) - 1
def lowW (n : Int) : Int × Int := (lowc (n - 64), lowc n)
def lowNs : List Int := [2, 3, 6, 8, 13, 16, 20, 32, 48, 64, 128]
def lowOk (n : Int) : Bool := lowNs.any fun m => ieq n m
def S108 : SumT := fun a p => match a, p with
  | [.int k n], [] => .need (decide (k = .i64) && lowOk n) (.ret (.leaf (wA (lowW n), [])))
  | _, _ => .no

def sp39 : List (FuncId × SumT) := [(68, S68 (ibits .and .u64)), (109, S68 (ibits .and .u64)), (32, sumOf G32), (47, sumOf G32), (108, S108), (110, S108)]
def sp37 (lk : Bool) : List (FuncId × SumT) := [(39, S39 lk), (40, S39 lk)]
def sp5 (lk : Bool) : List (FuncId × SumT) := [(33, S33), (34, S33), (35, S35 lk), (36, S35 lk), (37, S37), (38, S37), (39, S39 lk), (40, S39 lk), (41, S41 .i64), (42, S42 lk), (43, S42 lk), (44, sumOf (g0 (.bool true)))]
def spR : List (FuncId × SumT) := [(53, sumOf G31)]

abbrev X2 := Int × List AV
def acc42 : List AV → AV
  | [] => .sl 0 [] .nil
  | a :: l => .sl 1 (a :: l) (.own [20, 1])
def acc43 : List AV → AV
  | [] => .sl 1 [] .full
  | a :: l => .sl 1 (a :: l) (.own [22, 1])
def st42 (h g : Nat → Int) (x : X2) : AS := stA 23 [(2, .ptr 2 0), (3, .ptr 3 0), (5, acc42 x.2), (7, .int .i64 x.1)] [(2, hdrC h), (3, hdrC g)]
def pr42 (s : AS) : X2 := ((s.at 7).asInt, (s.at 5).elems)
def st43 (h g : Nat → Int) (x : X2) : AS := stA 24 [(2, .ptr 2 0), (3, .ptr 3 0), (5, acc43 x.2), (6, .int .i64 x.1)] [(2, hdrC h), (3, hdrC g)]
def pr43 (s : AS) : X2 := ((s.at 6).asInt, (s.at 5).elems)

def out42 (l : List AV) : AS := stA 23 [(5, acc42 l)] []
def out43 (l : List AV) : AS := stA 24 [(5, acc43 l)] []
def F42 (h g : Nat → Int) (x : X2) : Tree (Ex × AS) := .leaf (.exit 0, out42 (x.2 ++ diffF h g (24 - x.1).toNat))
def F43 (h g : Nat → Int) (x : X2) : Tree (Ex × AS) := .leaf (.exit 0, out43 (x.2 ++ diffF h g (24 - x.1).toNat))
def pre42 (x : X2) : Bool := ile 0 x.1 && (ile x.1 24 && ile x.2.length x.1)
noncomputable def lp42 (h g : Nat → Int) : AS → T (Tree (Ex × AS)) := loopS (book.clean 42 3) pr42 (st42 h g) (F42 h g) pre42
noncomputable def lp43 (h g : Nat → Int) : AS → T (Tree (Ex × AS)) := loopS (book.clean 43 3) pr43 (st43 h g) (F43 h g) pre42

end Go.Proofs.Ytdcijmigoefnjaa
