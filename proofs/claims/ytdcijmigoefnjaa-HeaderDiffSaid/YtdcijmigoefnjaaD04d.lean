/- Chapter 04: the loop of HeaderDiff. -/
import Derived.Test.YtdcijmigoefnjaaD04
set_option linter.unusedVariables false
set_option maxRecDepth 100000
namespace Go.Proofs.Ytdcijmigoefnjaa
open Go Go.Ev

def sp6 : List (FuncId × SumT) := [(31, sumOf G31), (33, S33), (35, S35 true)]
def sp6l (lk : Bool) : List (FuncId × SumT) := [(31, sumOf G31), (33, S33), (35, S35 true), (42, S42 lk), (44, sumOf (g0 (.bool true)))]
def st6 (g : Nat → Int) (xs : List AV) (x : X2) : AS := stA 40 [(2, .ptr 2 0), (3, .ptr 3 0), (9, .sl 1 xs .sh), (10, .int .i64 xs.length), (11, .int .i64 x.1)] [(2, x.2), (3, hdrC g)]
def pr6 (s : AS) : X2 := ((s.at 11).asInt, (Ev.look s.mem 2).getD [])

def out6 (g : Nat → Int) : AS := stA 40 [(2, .ptr 2 0), (3, .ptr 3 0)] [(2, hdrC g), (3, hdrC g)]
def F6 (g : Nat → Int) (x : X2) : Tree (Ex × AS) := .leaf (.exit 0, out6 g)
/-- how the loop begins -/
def pre6 (h g : Nat → Int) (xs : List AV) (x : X2) : Bool := ieq x.1 0 && (pairEq x.2 (hdrC h) && isHdr x.2)

end Go.Proofs.Ytdcijmigoefnjaa
