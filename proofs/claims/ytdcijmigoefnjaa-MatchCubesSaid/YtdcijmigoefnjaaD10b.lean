/- Chapter 10: parts as bytes, and back. -/
import Derived.Test.YtdcijmigoefnjaaD10
set_option linter.unusedVariables false
set_option maxRecDepth 100000
namespace Go.Proofs.Ytdcijmigoefnjaa
open Go Go.Ev

def idNum (f : Int) (m : Bool) : Int := 2 * idOf f + (bif m then 1 else 0)
def bodyN (f : Int) (m : Bool) : Int := bif m then 2 * sizeOf f else sizeOf f
def bodyL (x : XO) : List AV := putL x.2.2.1 (sizeOf x.1) ++ (bif x.2.1 then putL x.2.2.2 (sizeOf x.1) else [])
/-- a part's bytes -/
def encL (x : XO) : List AV := numL 32768 2 ++ (numL (idNum x.1 x.2.1) 1 ++ (numL (bodyN x.1 x.2.1) 1 ++ bodyL x))
def encR (x : XO) : Tree AV := .ite (rightO x) (.leaf (.tup [.sl 1 (encL x) .sh, .int .i64 0])) (.leaf (.tup [.sl 0 [] .nil, .int .i64 1]))
def S74 : SumT := sum0 (σ := XO) (fun a => oxOf (arg a 0).cells) (fun x => [oxA x]) (fun x => inO x) (fun x => encR x)

def isB : AV → Bool
  | .int .u8 n => inR n 256
  | _ => false
/-- bytes -/
def bytB (xs : List AV) : Bool := xs.all isB
/-- a byte of some, as a number -/
def byN (xs : List AV) (i : Nat) : Int := (xs.getD i .unk).asInt
def hdF (xs : List AV) : Int := (ixOf (byN xs 2 / 2)).1
def hdIs (xs : List AV) : Bool := (ixOf (byN xs 2 / 2)).2
def hdM (xs : List AV) : Bool := ieq (byN xs 2 % 2) 1
/-- what is wrong with the first bytes -/
def hdCode (xs : List AV) : Int :=
  bif ilt xs.length 4 then 1 else bif ilt xs.length (4 + byN xs 3) then 1 else
  bif (bif !ieq (byN xs 0) 128 then true else bif !ieq (byN xs 1) 0 then true else !hdIs xs) then 6 else
  bif (bif hdM xs then !masksOf (hdF xs) else false) then 8 else bif !ieq (byN xs 3) (bodyN (hdF xs) (hdM xs)) then 1 else 0
def valX (xs : List AV) (o n : Int) : Int × Int := (getHi (xs.drop o.toNat) n, getLo (xs.drop o.toNat) n)
def decX (xs : List AV) : XO := (hdF xs, hdM xs, valX xs 4 (sizeOf (hdF xs)), bif hdM xs then valX xs (4 + sizeOf (hdF xs)) (sizeOf (hdF xs)) else (0, 0))
def decCode (xs : List AV) : Int := bif ieq (hdCode xs) 0 then formO (decX xs) else hdCode xs
def faultA (c : Int) : AV := bif ieq c 0 then .agg [.bool false, .int .i64 0, .int .i64 0] else .agg [.bool true, .int .i64 4, .int .i64 c]
def noX : XO := (0, false, (0, 0), (0, 0))
def decR (xs : List AV) : Tree AV := .ite (ieq (decCode xs) 0) (.leaf (.tup [oxA (decX xs), .int .i64 (4 + byN xs 3), .agg [.bool false, .int .i64 0, .int .i64 0]]))
  (.leaf (.tup [oxA noX, .int .i64 0, .agg [.bool true, .int .i64 4, .int .i64 (decCode xs)]]))
def S62 : SumT := sumW (σ := List AV) [1] (fun a => (arg a 0).elems) (fun x => [.sl 1 x .sh]) (fun x => bytB x && lenB x) (fun x => decR x)

def ternO (x : XO) : (Int × Int) × (Int × Int) := bif isF x.1 then (x.2.2.1, bif x.2.1 then x.2.2.2 else allW x.1) else ((0, 0), (0, 0))
def ternA (t : (Int × Int) × (Int × Int)) : AV := .agg [.int .u64 t.1.1, .int .u64 t.1.2, .int .u64 t.2.1, .int .u64 t.2.2]
def S66 : SumT := sum0 (σ := XO) (fun a => oxOf (arg a 0).cells) (fun x => [oxA x]) (fun _ => true) (fun x => .leaf (ternA (ternO x)))
def sameO (x y : XO) : Bool := ieq x.1 y.1 && (x.2.1 == y.2.1 && (ieq x.2.2.1.1 y.2.2.1.1 && (ieq x.2.2.1.2 y.2.2.1.2 && (ieq x.2.2.2.1 y.2.2.2.1 && ieq x.2.2.2.2 y.2.2.2.2))))
def S78 : SumT := sum0 (σ := XO × XO) (fun a => (oxOf (arg a 0).cells, oxOf (arg a 1).cells)) (fun x => [oxA x.1, oxA x.2]) (fun _ => true) (fun x => .leaf (.bool (sameO x.1 x.2)))

def S119 : SumT := sumW (σ := List AV) [1] (fun a => (arg a 0).elems) (fun x => [.sl 1 x .sh]) (fun x => bytB x && lenB x)
  (fun x => .ite (ieq (hdCode x) 0) (.leaf (.tup [.int .i64 (hdF x), .bool (hdM x), .int .i64 (byN x 3), .int .i64 0])) (.leaf (.tup [.int .i64 0, .bool false, .int .i64 0, .int .i64 (hdCode x)])))
/-- a number is there -/
def S115t : SumT := sumW (σ := List AV × Int) [1] (fun a => ((arg a 0).elems, (arg a 1).asInt)) (fun x => [.sl 1 x.1 .sh, .int .i64 x.2]) (fun x => sizeOk x.2 && (intsA .u8 x.1 && (lenB x.1 && ile x.2 x.1.length)))
  (fun x => .leaf (.tup [wA (getHi x.1 x.2, getLo x.1 x.2), .bool true]))
noncomputable def spD : List (FuncId × SumT) := (119, S119) :: (121, S121) :: (115, S115t) :: (116, S115t) :: (120, (book.all 100 3 120).T) :: (122, (book.all 100 3 122).T) :: spW
def spE : List (FuncId × SumT) := (65, S65) :: (76, S65) :: (117, S117o) :: (118, S117o) :: (133, S133) :: (134, S133) :: spW
end Go.Proofs.Ytdcijmigoefnjaa
