/- Chapter 10: the laws' calls. -/
import Derived.Test.YtdcijmigoefnjaaD10b
set_option linter.unusedVariables false
set_option maxRecDepth 100000
namespace Go.Proofs.Ytdcijmigoefnjaa
open Go Go.Ev
def encT (lk : Bool) (x : XO) : Tree AV := .ite (rightO x) (.leaf (.tup [.sl 1 (lockL lk (encL x)) .sh, .int .i64 0])) (.leaf (.tup [.sl 0 [] .nil, .int .i64 1]))
def S74l (lk : Bool) : SumT := sum0 (σ := XO) (fun a => oxOf (arg a 0).cells) (fun x => [oxA x]) (fun x => inO x) (fun x => encT lk x)
/-- a list, copied -/
def S80 : SumT := sumW (σ := List AV) [1] (fun a => (arg a 0).elems) (fun x => [.sl 1 x .sh]) (fun x => smallB x && !x.isEmpty) (fun x => .leaf (.sl 1 x (.own [])))
/-- what is read, behind a door -/
def dX (lk : Bool) (xs : List AV) : XO := bif lk then decX xs else noX
def decT (lk : Bool) (xs : List AV) : Tree AV := .ite (ieq (decCode xs) 0) (.leaf (.tup [oxA (dX lk xs), .int .i64 (4 + byN xs 3), .agg [.bool false, .int .i64 0, .int .i64 0]]))
  (.leaf (.tup [oxA noX, .int .i64 0, .agg [.bool true, .int .i64 4, .int .i64 (decCode xs)]]))
def S62l (lk : Bool) : SumT := sumW (σ := List AV) [1] (fun a => (arg a 0).elems) (fun x => [.sl 1 x .sh]) (fun x => bytB x && lenB x) (fun x => decT lk x)
def sp10 (lk : Bool) : List (FuncId × SumT) := [(62, S62l lk), (63, S62l lk), (74, S74l lk), (75, S74l lk), (65, S65), (76, S65), (66, S66), (77, S66), (78, S78), (79, S78), (59, S41 .u8), (80, S80), (67, S68 (ibits .andNot .u64)), (68, S68 (ibits .and .u64)), (64, sumOf (g0 (.bool true)))]
end Go.Proofs.Ytdcijmigoefnjaa
