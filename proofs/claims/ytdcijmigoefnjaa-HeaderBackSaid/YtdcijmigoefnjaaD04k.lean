/- Chapter 04: the calls of HeaderPuts and HeaderBack. -/
import Derived.Test.YtdcijmigoefnjaaD04i
set_option linter.unusedVariables false
set_option maxRecDepth 100000
namespace Go.Proofs.Ytdcijmigoefnjaa
open Go Go.Ev
def sp8 (lk : Bool) : List (FuncId × SumT) := [(57, S57 lk), (58, S57 lk), (60, S60 lk), (61, S60 lk), (59, S41 .u8), (44, sumOf (g0 (.bool true)))]
def sp9 (lk : Bool) : List (FuncId × SumT) := [(39, S39 lk), (57, S57 lk), (60, S60 lk), (37, S37), (59, S41 .u8), (44, sumOf (g0 (.bool true)))]
end Go.Proofs.Ytdcijmigoefnjaa
