/- Chapter 45: frames, step by step, as functions. -/
import Derived.Test.YtdcijmigoefnjaaD45s
set_option linter.unusedVariables false
set_option maxRecDepth 100000
namespace Go.Proofs.Ytdcijmigoefnjaa
open Go Go.Ev

/-- what a frame's first bytes tell: port, to, from, type, tag, priority -/
abbrev B6 := Int × (Int × Int) × (Int × Int) × (Int × Int) × Int × Int
def zeroK : Nat → Int := fun _ => 0
def baseK (b : B6) : Nat → Int := setK (setK (setK (setK (setK (setK zeroK 0 (0, b.1)) 2 b.2.1) 3 b.2.2.1) 4 b.2.2.2.1) 5 (0, b.2.2.2.2.1)) 6 (0, b.2.2.2.2.2)
def baseOf (k : Nat → Int) : B6 := (k 1, (k 4, k 5), (k 6, k 7), (k 8, k 9), k 11, k 13)
/-- what an address part tells: class, kind of notice, what is within, from, to -/
abbrev P5 := Int × Int × Int × (Int × Int) × (Int × Int)
/-- the header ahead of what is within, of the one kind or the other -/
def ipK (b : B6) (four : Bool) (p : P5) : Nat → Int :=
  setK (setK (setK (setK (setK (baseK b) 7 (0, p.1)) 8 (0, p.2.1)) 9 (0, p.2.2.1)) (bif four then 10 else 21) p.2.2.2.1) (bif four then 11 else 22) p.2.2.2.2
/-- how many bytes are needed within -/
def needN (four : Bool) (pr : Int) : Int := bif ieq pr 6 then 20 else bif ieq pr 17 then 8 else bif (bif ieq pr 1 then four else false) then 8 else 0
def withinE (four : Bool) (pr : Int) (xs : List AV) : Int := bif ilt xs.length (needN four pr) then 3 else 0
def withinK (k : Nat → Int) (four : Bool) (pr : Int) (xs : List AV) : Nat → Int :=
  bif ieq pr 6 then setK (setK k 12 (0, nv xs 0 2)) 13 (0, nv xs 2 2) else
  bif ieq pr 17 then setK (setK k 14 (0, nv xs 0 2)) 15 (0, nv xs 2 2) else
  bif (bif ieq pr 1 then four else false) then setK (setK k 16 (0, nv xs 0 1)) 17 (0, nv xs 1 1) else k

def p5Of (four : Bool) (k : Nat → Int) : P5 := (k 15, k 17, k 19, bif four then (k 20, k 21) else (k 42, k 43), bif four then (k 22, k 23) else (k 44, k 45))
abbrev XI := B6 × P5 × List AV
/-- a header behind a pointer, or no word of it -/
def outW (e : Int) (k : Nat → Int) : Tree (AV × List (List AV)) := .ite (ieq e 0) (.leaf (.int .i64 0, [hdrC k ++ [.unk]])) (.leaf (.int .i64 e, [List.replicate 49 .unk]))
def outR (e : Int) (k : Nat → Int) : Tree AV := .ite (ieq e 0) (.leaf (.tup [.agg (hdrC k), .int .i64 0])) (.leaf (.tup [.agg zeroH, .int .i64 e]))
def S192 : SumT := sumSW 1 (σ := Bool × XI) (fun a p => ((arg a 1).asBool, baseOf (wireK (p.getD 0 [])), p5Of (arg a 1).asBool (wireK (p.getD 0 [])), wireX (p.getD 0 []))) (fun x => [.ptr 1000 0, .bool x.1]) (fun x => [wireC (ipK x.2.1 x.1 x.2.2.1) x.2.2.2])
  (fun x => okL x.2.2.2) (fun x => outW (withinE x.1 x.2.2.1.2.2.1 x.2.2.2) (withinK (ipK x.2.1 x.1 x.2.2.1) x.1 x.2.2.1.2.2.1 x.2.2.2))

def spM0 : List (FuncId × SumT) := [(178, S178), (115, S115v), (72, S72)]
end Go.Proofs.Ytdcijmigoefnjaa
