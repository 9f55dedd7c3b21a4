/- Chapter 45: packets of each type, as functions. -/
import Derived.Test.YtdcijmigoefnjaaD45b
set_option linter.unusedVariables false
set_option maxRecDepth 100000
namespace Go.Proofs.Ytdcijmigoefnjaa
open Go Go.Ev

def hdN (xs : List AV) : Int := nv xs 0 1 % 16 * 4
def inV4 (xs : List AV) : List AV := (xs.drop (hdN xs).toNat).take (nv xs 2 2 - hdN xs).toNat
def pieceB (xs : List AV) : Bool := !ieq (nv xs 6 2 % 8192) 0
def fourE (xs : List AV) : Int :=
  bif ilt xs.length 20 then 3 else bif (bif !ieq (nv xs 0 1 / 16) 4 then true else ilt (hdN xs) 20) then 4 else bif ilt xs.length (hdN xs) then 3 else
  bif (bif !ieq (sumV (xs.take (hdN xs).toNat)) 0 then true else ilt (nv xs 2 2) (hdN xs)) then 4 else bif ilt xs.length (nv xs 2 2) then 3 else
  bif pieceB xs then 0 else withinE true (nv xs 9 1) (inV4 xs)
def fourP (xs : List AV) : P5 := (nv xs 1 1 / 4, nv xs 1 1 % 4, nv xs 9 1, (0, nv xs 12 4), (0, nv xs 16 4))
def fourK (b : B6) (xs : List AV) : Nat → Int := bif pieceB xs then ipK b true (fourP xs) else withinK (ipK b true (fourP xs)) true (nv xs 9 1) (inV4 xs)

def clsN (xs : List AV) : Int := nv xs 0 2 / 16 % 256
def inV6 (xs : List AV) : List AV := (xs.drop 40).take (nv xs 4 2).toNat
def sixE (xs : List AV) : Int :=
  bif ilt xs.length 40 then 3 else bif !ieq (nv xs 0 1 / 16) 6 then 4 else bif ilt xs.length (40 + nv xs 4 2) then 3 else withinE false (nv xs 6 1) (inV6 xs)
def sixP (xs : List AV) : P5 := (clsN xs / 4, clsN xs % 4, nv xs 6 1, wv (xs.drop 8) 16, wv (xs.drop 24) 16)
def sixK (b : B6) (xs : List AV) : Nat → Int := withinK (ipK b false (sixP xs)) false (nv xs 6 1) (inV6 xs)

def arpHd (xs : List AV) : Bool := ieq (byN xs 0) 0 && (ieq (byN xs 1) 1 && (ieq (byN xs 2) 8 && (ieq (byN xs 3) 0 && (ieq (byN xs 4) 6 && ieq (byN xs 5) 4))))
def arpE (xs : List AV) : Int := bif ilt xs.length 28 then 3 else bif !arpHd xs then 4 else 0
def arpK (b : B6) (xs : List AV) : Nat → Int := setK (setK (setK (baseK b) 18 (0, nv xs 6 2)) 19 (0, nv xs 14 4)) 20 (0, nv xs 24 4)
def labE (xs : List AV) : Int := bif ilt xs.length 4 then 3 else 0
def labK (b : B6) (xs : List AV) : Nat → Int := setK (baseK b) 23 (0, nv xs 0 4 / 4096)

abbrev XB := B6 × List AV
def withinC (b : B6) (four : Bool) (p : P5) (xs : List AV) : List AV := hdrC (withinK (ipK b four p) four p.2.2.1 xs)
def fourC (b : B6) (xs : List AV) : List AV := hdrC (fourK b xs)
def sixC (b : B6) (xs : List AV) : List AV := hdrC (sixK b xs)
def arpC (b : B6) (xs : List AV) : List AV := hdrC (arpK b xs)
def labC (b : B6) (xs : List AV) : List AV := hdrC (labK b xs)
/-- the same with a lock -/
def outWl (lk : Bool) (e : Int) (c : List AV) : Tree (AV × List (List AV)) := .ite (ieq e 0) (.leaf (.int .i64 0, [lockL lk c ++ [.unk]])) (.leaf (.int .i64 e, [List.replicate 49 .unk]))
def outRl (lk : Bool) (e : Int) (c : List AV) : Tree AV := .ite (ieq e 0) (.leaf (.tup [.agg (lockL lk c), .int .i64 0])) (.leaf (.tup [.agg zeroH, .int .i64 e]))
def SW (lk : Bool) (e : List AV → Int) (C : B6 → List AV → List AV) : SumT := sumSW 1 (σ := XB) (fun a p => (baseOf (wireK (p.getD 0 [])), wireX (p.getD 0 []))) (fun x => [.ptr 1000 0]) (fun x => [wireC (baseK x.1) x.2]) (fun x => okL x.2) (fun x => outWl lk (e x.2) (C x.1 x.2))
def hdrOf (a : AV) : Nat → Int := fun j => (a.cells.getD j .unk).asInt
def SR (lk : Bool) (e : List AV → Int) (C : B6 → List AV → List AV) : SumT := sumW (σ := XB) [1, 1] (fun a => (baseOf (hdrOf (arg a 0)), (arg a 1).elems)) (fun x => [.agg (hdrC (baseK x.1)), .sl 1 x.2 .sh]) (fun x => okL x.2) (fun x => outRl lk (e x.2) (C x.1 x.2))
def S192l (lk : Bool) : SumT := sumSW 1 (σ := Bool × XI) (fun a p => ((arg a 1).asBool, baseOf (wireK (p.getD 0 [])), p5Of (arg a 1).asBool (wireK (p.getD 0 [])), wireX (p.getD 0 []))) (fun x => [.ptr 1000 0, .bool x.1]) (fun x => [wireC (ipK x.2.1 x.1 x.2.2.1) x.2.2.2])
  (fun x => okL x.2.2.2) (fun x => outWl lk (withinE x.1 x.2.2.1.2.2.1 x.2.2.2) (withinC x.2.1 x.1 x.2.2.1 x.2.2.2))
def S175 (lk : Bool) : SumT := sumW (σ := Bool × XI) [1, 1] (fun a => ((arg a 2).asBool, baseOf (hdrOf (arg a 0)), p5Of (arg a 2).asBool (hdrOf (arg a 0)), (arg a 1).elems)) (fun x => [.agg (hdrC (ipK x.2.1 x.1 x.2.2.1)), .sl 1 x.2.2.2 .sh, .bool x.1])
  (fun x => okL x.2.2.2) (fun x => outRl lk (withinE x.1 x.2.2.1.2.2.1 x.2.2.2) (withinC x.2.1 x.1 x.2.2.1 x.2.2.2))
def spM2 (lk : Bool) : List (FuncId × SumT) := (192, S192l lk) :: spM0
def spR0 : List (FuncId × SumT) := [(174, S178), (116, S115v), (73, S72)]
def spR2 (lk : Bool) : List (FuncId × SumT) := (175, S175 lk) :: spR0
def inM : List Nat := [166, 167, 168, 169, 126, 191]
def inRf : List Nat := [128, 129]
end Go.Proofs.Ytdcijmigoefnjaa
