/- Chapter 45: sums: the law's call. -/
import Derived.Test.YtdcijmigoefnjaaD45s
set_option linter.unusedVariables false
set_option maxRecDepth 100000
namespace Go.Proofs.Ytdcijmigoefnjaa
open Go Go.Ev
def sp13 : List (FuncId × SumT) := [(72, S72), (73, S72), (69, sumOf (g0 (.bool true)))]
end Go.Proofs.Ytdcijmigoefnjaa
