import Derived.Test.YtdcijmigoefnjaaD03
/- Chapter 11: a match as bytes (printed by program; long names). -/
set_option linter.unusedVariables false
set_option maxRecDepth 10000000
set_option maxHeartbeats 0
namespace Go.Proofs.Ytdcijmigoefnjaa
open Go Go.Ev

theorem p140 (n : Int) (r : AV × List (List AV)) (k0 : ((AV.int IntKind.i64 (ibits BinOp.andNot IntKind.i64 (iadd IntKind.i64 n 7) 7), [])) = r) : Goes (runP (book.envP 140 noSpec 100 noLoops) Try.f140 [.int .i64 n] [] .z) r :=
  Goes.of_eq (t' := .ret ((AV.int IntKind.i64 (ibits BinOp.andNot IntKind.i64 (iadd IntKind.i64 n 7) 7), []))) (by kernel_rfl) (Goes.leafE (k0))
end Go.Proofs.Ytdcijmigoefnjaa
