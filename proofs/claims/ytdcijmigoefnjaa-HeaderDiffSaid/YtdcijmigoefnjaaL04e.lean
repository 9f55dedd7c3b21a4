/- Chapter 04: HeaderDiff's call, its arguments as they come. -/
import Derived.Test.YtdcijmigoefnjaaL04d
import Derived.Test.YtdcijmigoefnjaaL04c
namespace Go.Proofs.Ytdcijmigoefnjaa
open Go Go.Ev

theorem cHeaderDiff {a b : List AV} (ha : TyL (repL 24 [.int .u64, .int .u64]) a) (hb : TyL (repL 24 [.int .u64, .int .u64]) b) : CallsA Try.prog 6 [.agg a, .agg b] [] (.bool true) [] := by
  rw [isHdr_eq (hdr_of ha), isHdr_eq (hdr_of hb)]
  exact c6 _ _

end Go.Proofs.Ytdcijmigoefnjaa
