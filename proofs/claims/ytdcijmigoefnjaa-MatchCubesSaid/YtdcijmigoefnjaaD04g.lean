/- Numbers of 128 bits as bytes: contracts. -/
import Derived.Test.YtdcijmigoefnjaaD04f
import Derived.Test.YtdcijmigoefnjaaEv3
set_option linter.unusedVariables false
set_option maxRecDepth 100000
namespace Go.Proofs.Ytdcijmigoefnjaa
open Go Go.Ev

def sizeNs : List Int := [1, 2, 3, 4, 6, 8, 16]
def sizeOk (n : Int) : Bool := sizeNs.any fun m => ieq n m
def smallB (xs : List AV) : Bool := Nat.ble xs.length 70368744177664

/-- the number that bytes are, in its halves -/
def getW (xs : List AV) : Nat → Int × Int
  | 0 => (0, 0)
  | n + 1 => (ibits .or .u64 (ishl .u64 (getW xs n).1 8) (ishr .u64 (getW xs n).2 56), ibits .or .u64 (ishl .u64 (getW xs n).2 8) (IntKind.u64.wrap (xs.getD n .unk).asInt))
def getHi (xs : List AV) (n : Int) : Int := (getW xs n.toNat).1
def getLo (xs : List AV) (n : Int) : Int := (getW xs n.toNat).2

abbrev XP := List AV × (Int × Int) × Int
def S117 : SumT := sumW (σ := XP) [1] (fun a => ((arg a 0).elems, wideOf (arg a 1), (arg a 2).asInt)) (fun x => [.sl 1 x.1 .sh, wA x.2.1, .int .i64 x.2.2]) (fun x => sizeOk x.2.2 && smallB x.1) (fun x => .leaf (.sl 1 (x.1 ++ putL x.2.1 x.2.2) .sh))
def S115 : SumT := sumW (σ := List AV × Int) [1] (fun a => ((arg a 0).elems, (arg a 1).asInt)) (fun x => [.sl 1 x.1 .sh, .int .i64 x.2]) (fun x => sizeOk x.2 && (intsA .u8 x.1 && lenB x.1))
  (fun x => .ite (ile x.2 x.1.length) (.leaf (.tup [wA (getHi x.1 x.2, getLo x.1 x.2), .bool true])) (.leaf (.tup [wA (0, 0), .bool false])))

/-- a header's bytes -/
def putN : List AV → Nat → List AV
  | a :: b :: cs, j => putL (a.asInt, b.asInt) (sizeOf j) ++ putN cs (j + 1)
  | _, _ => []
def putC (cs : List AV) : List AV := putN cs 0
def S60 (lk : Bool) : SumT := sum0 (σ := List AV) (fun a => (arg a 0).cells) (fun x => [.agg x]) (fun x => isHdr x) (fun x => .leaf (.sl 1 (lockL lk (putC x)) .sh))
def sp60 : List (FuncId × SumT) := [(117, S117), (48, sumOf G48)]
def sp61 : List (FuncId × SumT) := [(118, S117), (49, sumOf G48)]
/-- where a field's bytes lie -/
def offOf : Nat → Nat
  | 0 => 0
  | j + 1 => offOf j + (sizeOf j).toNat
/-- the header that bytes are, cell by cell, up to a field -/
def pc (xs : List AV) (m : Nat) (c : Nat) : Int :=
  bif Nat.blt (c / 2) m then (bif Nat.beq (c % 2) 0 then getHi (xs.drop (offOf (c / 2))) (sizeOf (c / 2 : Nat)) else getLo (xs.drop (offOf (c / 2))) (sizeOf (c / 2 : Nat))) else 0
def parseC (xs : List AV) : List AV := hdrC (pc xs 24)
def parseOk (xs : List AV) : Bool := Nat.beq xs.length 95 && fitsC (parseC xs)
def zeroH : List AV := List.replicate 48 (.int .u64 0)
/-- the header that bytes are, and its error: 0, or 4 -/
def parseR (xs : List AV) : Tree AV := .ite (parseOk xs) (.leaf (.tup [.agg (parseC xs), .int .i64 0])) (.leaf (.tup [.agg zeroH, .int .i64 4]))
def sp57 (lk : Bool) : List (FuncId × SumT) := [(115, S115), (48, sumOf G48), (37, S37)]
def sp58 (lk : Bool) : List (FuncId × SumT) := [(116, S115), (49, sumOf G48), (38, S37)]

end Go.Proofs.Ytdcijmigoefnjaa
