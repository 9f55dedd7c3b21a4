/- Chapter 45: sums of bytes, as functions. -/
import Derived.Test.YtdcijmigoefnjaaD45
set_option linter.unusedVariables false
set_option maxRecDepth 100000
namespace Go.Proofs.Ytdcijmigoefnjaa
open Go Go.Ev

/-- the sum of bytes, two and two -/
def sumN : List AV → Nat → Nat
  | [], _ => 0
  | x :: xs, j => x.asInt.toNat * (bif Nat.beq (j % 2) 0 then 256 else 1) + sumN xs (j + 1)
/-- a sum in one word -/
def ocI (n : Int) : Int := bif ieq n 0 then 0 else (n - 1) % 65535 + 1
def sumV (xs : List AV) : Int := 65535 - ocI (sumN xs 0 : Nat)
abbrev X72 := Int × Int
def st72 (xs : List AV) (x : X72) : AS := stA 32 [(3, .int .i64 x.2), (6, .sl 1 xs .sh), (7, .int .i64 xs.length), (8, .int .i64 x.1)] []
def pr72 (s : AS) : X72 := ((s.at 8).asInt, (s.at 3).asInt)
def stB (n : Int) : AS := stA 32 [(3, .int .i64 n)] []
def prB (s : AS) : Int := (s.at 3).asInt
def st73 (xs : List AV) (x : X72) : AS := stA 38 [(0, .sl 1 xs .sh), (3, .int .i64 x.2), (4, .int .i64 x.1)] []
def pr73 (s : AS) : X72 := ((s.at 4).asInt, (s.at 3).asInt)
def F72 (xs : List AV) (_ : X72) : Tree (Ex × AS) := .leaf (.exit 0, stB (sumN xs 0 : Nat))
def FB (n : Int) : Tree (Ex × AS) := .leaf (.exit 2, stB (ocI n))
def F73 (xs : List AV) (_ : X72) : Tree (Ex × AS) := .leaf (.exit 0, stA 38 [(3, .int .i64 (ocI (sumN xs 0 : Nat)))] [])
def shortB (xs : List AV) : Bool := Nat.ble xs.length 65536
def pre72 (xs : List AV) (x : X72) : Bool := ieq x.1 0 && (ieq x.2 0 && (bytB xs && shortB xs))
def preB (n : Int) : Bool := ile 0 n && ile n 4611686018427387904
noncomputable def lp72 (xs : List AV) : AS → T (Tree (Ex × AS)) := loopS (book.clean 72 3) pr72 (st72 xs) (F72 xs) (pre72 xs)
noncomputable def lpB : AS → T (Tree (Ex × AS)) := loopS (book.clean 72 7) prB stB FB preB
noncomputable def lp73 (xs : List AV) : AS → T (Tree (Ex × AS)) := loopS (book.clean 73 3) pr73 (st73 xs) (F73 xs) (pre72 xs)
def S72 : SumT := sumW (σ := List AV) [1] (fun a => (arg a 0).elems) (fun x => [.sl 1 x .sh]) (fun x => bytB x && shortB x) (fun x => .leaf (.int .i64 (sumV x)))

end Go.Proofs.Ytdcijmigoefnjaa
