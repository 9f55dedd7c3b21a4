/- Chapter 45: frames, as functions. -/
import Derived.Test.YtdcijmigoefnjaaD10b
import Derived.Test.YtdcijmigoefnjaaPlB
import Derived.Test.YtdcijmigoefnjaaEv3
set_option linter.unusedVariables false
set_option maxRecDepth 100000
namespace Go.Proofs.Ytdcijmigoefnjaa
open Go Go.Ev

/-- a number of bytes at a place -/
def nv (xs : List AV) (o n : Nat) : Int := (valB ((xs.drop o).take n) : Nat)
def wvH (xs : List AV) (n : Nat) : Int := (valB (xs.take n) / 18446744073709551616 : Nat)
def wvL (xs : List AV) (n : Nat) : Int := (valB (xs.take n) % 18446744073709551616 : Nat)
def wv (xs : List AV) (n : Nat) : Int × Int := (wvH xs n, wvL xs n)
def okL (xs : List AV) : Bool := bytB xs && lenB xs
def S178 : SumT := sumW (σ := List AV × Int × Int) [1] (fun a => ((arg a 0).elems, (arg a 1).asInt, (arg a 2).asInt)) (fun x => [.sl 1 x.1 .sh, .int .i64 x.2.1, .int .i64 x.2.2])
  (fun x => okL x.1 && ((numNs.any fun m => ieq x.2.2 m) && (ile 0 x.2.1 && ile (x.2.1 + x.2.2) x.1.length))) (fun x => .leaf (.tup [.int .i64 (nv x.1 x.2.1.toNat x.2.2.toNat), .int .i64 0]))
def S115v : SumT := sumW (σ := List AV × Int) [1] (fun a => ((arg a 0).elems, (arg a 1).asInt)) (fun x => [.sl 1 x.1 .sh, .int .i64 x.2]) (fun x => okL x.1 && (sizeOk x.2 && ile x.2 x.1.length))
  (fun x => .leaf (.tup [wA (wv x.1 x.2.toNat), .bool true]))
noncomputable def spNG : List (FuncId × SumT) := [(193, (book.all 100 3 193).T)]

/-- a header with another value of a field -/
def setK (k : Nat → Int) (f : Nat) (v : Int × Int) : Nat → Int := fun c => bif Nat.beq (c / 2) f then (bif Nat.beq (c % 2) 0 then v.1 else v.2) else k c
def wireC (k : Nat → Int) (xs : List AV) : List AV := hdrC k ++ [.sl 1 xs .sh]
def wireK (cs : List AV) : Nat → Int := fun j => (cs.getD j .unk).asInt
def wireX (cs : List AV) : List AV := (cs.getD 48 .unk).elems

end Go.Proofs.Ytdcijmigoefnjaa
