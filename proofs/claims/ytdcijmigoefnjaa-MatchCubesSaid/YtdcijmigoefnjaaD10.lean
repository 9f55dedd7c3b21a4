/- Chapter 10: parts of a match, as functions. -/
import Derived.Test.YtdcijmigoefnjaaD04g
set_option linter.unusedVariables false
set_option maxRecDepth 100000
namespace Go.Proofs.Ytdcijmigoefnjaa
open Go Go.Ev

def inU (n : Int) : Bool := ile 0 n && ilt n 18446744073709551616
def inW (v : Int × Int) : Bool := inU v.1 && inU v.2
def zeroW (v : Int × Int) : Bool := ieq v.1 0 && ieq v.2 0
def lessW (a b : Int × Int) : Int × Int := (ibits .andNot .u64 a.1 b.1, ibits .andNot .u64 a.2 b.2)
def S125u : SumT := sum0 (σ := Int × Int) (fun a => wideOf (arg a 0)) (fun x => [wA x]) (fun x => inW x) (fun x => .leaf (.bool (zeroW x)))

/-- a part: its field, whether it is masked, its value, its mask -/
abbrev XO := Int × Bool × (Int × Int) × (Int × Int)
def oxC (x : XO) : List AV := [.int .i64 x.1, .bool x.2.1, .int .u64 x.2.2.1.1, .int .u64 x.2.2.1.2, .int .u64 x.2.2.2.1, .int .u64 x.2.2.2.2]
def oxA (x : XO) : AV := .agg (oxC x)
def oxOf (cs : List AV) : XO := ((cs.getD 0 .unk).asInt, (cs.getD 1 .unk).asBool, ((cs.getD 2 .unk).asInt, (cs.getD 3 .unk).asInt), ((cs.getD 4 .unk).asInt, (cs.getD 5 .unk).asInt))
def inO (x : XO) : Bool := inW x.2.2.1 && inW x.2.2.2
def allW (f : Int) : Int × Int := lowW (bitsOf f)
def beyond (f : Int) (w : Int × Int) : Bool := !zeroW (lessW w (allW f))
/-- what is wrong with a part's bits -/
def formO (x : XO) : Int :=
  bif beyond x.1 x.2.2.1 then 7 else bif !x.2.1 then 0 else bif (bif beyond x.1 x.2.2.2 then true else zeroW x.2.2.2) then 8 else bif !zeroW (lessW x.2.2.1 x.2.2.2) then 5 else 0
def rightO (x : XO) : Bool := isF x.1 && ((bif x.2.1 then masksOf x.1 else zeroW x.2.2.2) && ieq (formO x) 0)

def S165 : SumT := sumS (σ := (Int × Int) × XO) (fun a p => (wideOf (arg a 0), oxOf (p.getD 0 []))) (fun x => [wA x.1, .ptr 1000 0]) (fun x => [oxC x.2]) (fun x => isF x.2.1 && inW x.1) (fun x => .leaf (.bool (beyond x.2.1 x.1), [oxC x.2]))
def S121 : SumT := sum0 (σ := XO) (fun a => oxOf (arg a 0).cells) (fun x => [oxA x]) (fun x => isF x.1 && inO x) (fun x => .leaf (.int .i64 (formO x)))
def S65 : SumT := sum0 (σ := XO) (fun a => oxOf (arg a 0).cells) (fun x => [oxA x]) (fun x => inO x) (fun x => .leaf (.bool (rightO x)))

def numNs : List Int := [1, 2, 4]
def numOk (n size : Int) : Bool := ile 0 n && ((ieq size 1 && ilt n 256) || ((ieq size 2 && ilt n 65536) || (ieq size 4 && ilt n 4294967296)))
/-- a number's bytes -/
def nbyte (n s : Int) : AV := .int .u8 (IntKind.u8.wrap (ishr .i64 n s))
def numL (n size : Int) : List AV := [nbyte n 24, nbyte n 16, nbyte n 8, nbyte n 0].drop (4 - size.toNat)
def S133 : SumT := sumW (σ := List AV × Int × Int) [1] (fun a => ((arg a 0).elems, (arg a 1).asInt, (arg a 2).asInt)) (fun x => [.sl 1 x.1 .sh, .int .i64 x.2.1, .int .i64 x.2.2]) (fun x => numOk x.2.1 x.2.2 && smallB x.1) (fun x => .leaf (.sl 1 (x.1 ++ numL x.2.1 x.2.2) (.own [])))
def S117o : SumT := sumW (σ := XP) [1] (fun a => ((arg a 0).elems, wideOf (arg a 1), (arg a 2).asInt)) (fun x => [.sl 1 x.1 .sh, wA x.2.1, .int .i64 x.2.2]) (fun x => sizeOk x.2.2 && smallB x.1) (fun x => .leaf (.sl 1 (x.1 ++ putL x.2.1 x.2.2) (.own [])))

def spW : List (FuncId × SumT) := [(67, S68 (ibits .andNot .u64)), (124, S68 (ibits .andNot .u64)), (125, S125u), (123, S125u), (108, S108), (110, S108), (31, sumOf G31), (53, sumOf G31), (32, sumOf G32), (47, sumOf G32), (48, sumOf G48), (49, sumOf G48), (50, sumOf G50), (51, sumOf G50), (27, sumOf G27), (46, sumOf G27), (26, sumOf G26), (45, sumOf G26)]
def sp121 : List (FuncId × SumT) := (165, S165) :: spW
def sp65 : List (FuncId × SumT) := (121, S121) :: spW
def S176 : SumT := sum0 (σ := Int × Int) (fun a => ((arg a 0).asInt, (arg a 1).asInt)) (fun x => [.int .i64 x.1, .int .i64 x.2]) (fun x => numNs.any fun m => ieq x.2 m) (fun x => .leaf (.bool (numOk x.1 x.2)))
noncomputable def sp176 : List (FuncId × SumT) := [(193, (book.all 100 3 193).T)]
def spN : List (FuncId × SumT) := [(176, S176), (177, S176)]

end Go.Proofs.Ytdcijmigoefnjaa
