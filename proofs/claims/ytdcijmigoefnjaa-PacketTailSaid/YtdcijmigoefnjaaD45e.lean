/- Chapter 45: whole frames, as functions. -/
import Derived.Test.YtdcijmigoefnjaaD45c
set_option linter.unusedVariables false
set_option maxRecDepth 100000
namespace Go.Proofs.Ytdcijmigoefnjaa
open Go Go.Ev

def tagB (xs : List AV) : Bool := bif ieq (nv xs 12 2) 33024 then true else ieq (nv xs 12 2) 34984
def restX (xs : List AV) : List AV := xs.drop (bif tagB xs then 18 else 14)
def typN (xs : List AV) : Int := nv xs (bif tagB xs then 16 else 12) 2
def frmB (port : Int) (xs : List AV) : B6 :=
  (port, (0, nv xs 0 6), (0, nv xs 6 6), (0, typN xs), bif tagB xs then nv xs 14 2 % 4096 + 4096 else 0, bif tagB xs then nv xs 14 2 / 8192 else 0)
def frmE (xs : List AV) : Int :=
  bif ieq (typN xs) 2048 then fourE (restX xs) else bif ieq (typN xs) 34525 then sixE (restX xs) else bif ieq (typN xs) 2054 then arpE (restX xs) else
  bif (bif ieq (typN xs) 34887 then true else ieq (typN xs) 34888) then labE (restX xs) else 0
def frmK (b : B6) (xs : List AV) : Nat → Int :=
  bif ieq (typN xs) 2048 then fourK b (restX xs) else bif ieq (typN xs) 34525 then sixK b (restX xs) else bif ieq (typN xs) 2054 then arpK b (restX xs) else
  bif (bif ieq (typN xs) 34887 then true else ieq (typN xs) 34888) then labK b (restX xs) else baseK b
def portB (p : Int) : Bool := bif ilt p 1 then true else ilt 4294967040 p
def parE (port : Int) (xs : List AV) : Int :=
  bif portB port then 1 else bif ilt xs.length 14 then 3 else bif (tagB xs && ilt xs.length 18) then 3 else frmE xs
def parK (port : Int) (xs : List AV) : Nat → Int := frmK (frmB port xs) xs
def parC (port : Int) (xs : List AV) : List AV := hdrC (parK port xs)
def S70 (lk : Bool) : SumT := sumW (σ := List AV × Int) [1] (fun a => ((arg a 0).elems, (arg a 1).asInt)) (fun x => [.sl 1 x.1 .sh, .int .i64 x.2]) (fun x => okL x.1)
  (fun x => outRl lk (parE x.2 x.1) (parC x.2 x.1))
def spM3 : List (FuncId × SumT) := (170, SW true fourE fourC) :: (171, SW true sixE sixC) :: (172, SW true arpE arpC) :: (173, SW true labE labC) :: spM0
def spR3 : List (FuncId × SumT) := (130, SR true fourE fourC) :: (131, SR true sixE sixC) :: (132, SR true arpE arpC) :: spR0
def inM3 : List Nat := [127, 166, 167, 168, 169, 126, 191]
end Go.Proofs.Ytdcijmigoefnjaa
