/- Chapter 04: the loops of Parse. -/
import Derived.Test.YtdcijmigoefnjaaD04g
set_option linter.unusedVariables false
set_option maxRecDepth 100000
namespace Go.Proofs.Ytdcijmigoefnjaa
open Go Go.Ev

abbrev X57 := Int × List AV × List AV
def zeroC : List AV := hdrC fun _ => 0
def st57 (x : X57) : AS := stA 40 [(0, .sl 1 x.2.1 .sh), (2, .ptr 2 0), (4, .ptr 4 0), (9, .int .i64 x.1)] [(2, zeroC), (4, x.2.2)]
def pr57 (s : AS) : X57 := ((s.at 9).asInt, (s.at 0).elems, (Ev.look s.mem 4).getD [])

abbrev X58 := Int × Int × List AV
def st58 (xs : List AV) (x : X58) : AS := stA 44 [(0, .sl 1 xs .sh), (2, .ptr 2 0), (4, .ptr 4 0), (5, .int .i64 x.2.1), (6, .int .i64 x.1)] [(2, zeroC), (4, x.2.2)]
def pr58 (s : AS) : X58 := ((s.at 6).asInt, (s.at 5).asInt, (Ev.look s.mem 4).getD [])

/-- the first field that bytes are too short for -/
def shortJ (xs : List AV) : Nat := ((List.range 24).find? fun j => Nat.blt xs.length (offOf (j + 1))).getD 24
def F57 (xs : List AV) (_ : X57) : Tree (Ex × AS) :=
  .ite (ile 95 xs.length) (.leaf (.exit 0, stA 40 [(0, .sl 1 (xs.drop 95) .sh), (2, .ptr 2 0), (4, .ptr 4 0)] [(2, zeroC), (4, hdrC (pc xs 24))]))
    (.leaf (.ret, stA 40 [(0, .sl 1 (xs.drop (offOf (shortJ xs))) .sh), (2, .ptr 2 0), (3, .int .i64 4), (4, .ptr 4 0)] [(2, zeroC), (4, hdrC (pc xs (shortJ xs)))]))
def F58 (xs : List AV) (_ : X58) : Tree (Ex × AS) :=
  .ite (ile 95 xs.length) (.leaf (.exit 0, stA 44 [(0, .sl 1 xs .sh), (2, .ptr 2 0), (4, .ptr 4 0), (5, .int .i64 95)] [(2, zeroC), (4, hdrC (pc xs 24))]))
    (.leaf (.ret, stA 44 [(0, .sl 1 xs .sh), (2, .ptr 2 0), (3, .int .i64 4), (4, .ptr 4 0), (5, .int .i64 (offOf (shortJ xs) : Nat))] [(2, zeroC), (4, hdrC (pc xs (shortJ xs)))]))
def preP (xs cs : List AV) : Bool := intsA .u8 xs && (lenB xs && (isHdr cs && pairEq cs zeroC))
def pre57 (xs : List AV) (x : X57) : Bool := ieq x.1 0 && (eqA x.2.1 xs && (intsA .u8 x.2.1 && preP xs x.2.2))
def pre58 (xs : List AV) (x : X58) : Bool := ieq x.1 0 && (ieq x.2.1 0 && preP xs x.2.2)
noncomputable def lp57 (xs : List AV) : AS → T (Tree (Ex × AS)) := loopS (book.clean 57 3) pr57 st57 (F57 xs) (pre57 xs)
noncomputable def lp58 (xs : List AV) : AS → T (Tree (Ex × AS)) := loopS (book.clean 58 4) pr58 (st58 xs) (F58 xs) (pre58 xs)

/-- the header that bytes are, told with a lock -/
def parseT (lk : Bool) (xs : List AV) : Tree AV := .ite (parseOk xs) (.leaf (.tup [.agg (lockL lk (parseC xs)), .int .i64 0])) (.leaf (.tup [.agg zeroC, .int .i64 4]))
def S57 (lk : Bool) : SumT := sumW (σ := List AV) [1] (fun a => (arg a 0).elems) (fun x => [.sl 1 x .sh]) (fun x => intsA .u8 x && lenB x) (fun x => parseT lk x)

end Go.Proofs.Ytdcijmigoefnjaa
