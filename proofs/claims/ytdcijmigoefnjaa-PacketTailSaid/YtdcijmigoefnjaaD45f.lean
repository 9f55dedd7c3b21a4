/- Chapter 45: the laws' calls. -/
import Derived.Test.YtdcijmigoefnjaaD45e
set_option linter.unusedVariables false
set_option maxRecDepth 100000
namespace Go.Proofs.Ytdcijmigoefnjaa
open Go Go.Ev
def sp12 (lk : Bool) : List (FuncId × SumT) := [(70, S70 lk), (71, S70 lk), (69, sumOf (g0 (.bool true)))]
def sp17 (lk : Bool) : List (FuncId × SumT) := (37, S37) :: sp12 lk
end Go.Proofs.Ytdcijmigoefnjaa
