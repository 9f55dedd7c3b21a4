import Derived.Test.YtdcijmigoefnjaaD46c
set_option linter.unusedVariables false
set_option maxRecDepth 100000
namespace Go.Proofs.Ytdcijmigoefnjaa
open Go Go.Ev
def S159 (lk : Bool) : SumT := SB lk layX
def sp103 (lk : Bool) : List (FuncId × SumT) := [(38,S37),(159,S159 lk),(71,S70 lk)]
def sp101 (lk : Bool) : List (FuncId × SumT) := [(103,S103),(159,S159 lk)]
def sp25 (lk : Bool) : List (FuncId × SumT) := [(98,S98 lk),(101,S98 lk),(99,S99),(103,S103),(100,sumOf (g0 (.bool true)))]
end Go.Proofs.Ytdcijmigoefnjaa
