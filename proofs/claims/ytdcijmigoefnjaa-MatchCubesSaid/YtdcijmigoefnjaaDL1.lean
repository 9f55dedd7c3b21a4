/- Lists: equal, held one by one. -/
import Derived.Test.YtdcijmigoefnjaaBk2
set_option linter.unusedVariables false
namespace Go.Proofs.Ytdcijmigoefnjaa
open Go Go.Ev

abbrev X3 := Int × List AV × List AV
def st41 (x : X3) : AS := stA 26 [(0, .sl 1 x.2.1 .sh), (1, .sl 1 x.2.2 .sh), (12, .int .i64 x.2.1.length), (13, .int .i64 x.1)] []
def pr41 (s : AS) : X3 := ((s.at 13).asInt, (s.at 0).elems, (s.at 1).elems)

end Go.Proofs.Ytdcijmigoefnjaa
