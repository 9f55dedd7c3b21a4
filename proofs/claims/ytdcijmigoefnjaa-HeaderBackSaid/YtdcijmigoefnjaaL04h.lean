/- Chapter 04: a header's bytes: Put keeps its contract. -/
import Derived.Test.YtdcijmigoefnjaaL04g
import Derived.Test.YtdcijmigoefnjaaL03
import Derived.Test.YtdcijmigoefnjaaP04h
set_option linter.unusedVariables false
set_option linter.unusedSimpArgs false
set_option maxRecDepth 100000
set_option maxHeartbeats 0
namespace Go.Proofs.Ytdcijmigoefnjaa
open Go Go.Ev

theorem sp60_ok : SpecTL Try.prog sp60 := ⟨s117, s48, trivial⟩
theorem sp61_ok : SpecTL Try.prog sp61 := ⟨s118, s49, trivial⟩
theorem s60 : SumTOk Try.prog 60 (S60 true) := sum0_ok fun x hx => by
  have hx : isHdr x = true := hx
  show CallsA Try.prog 60 [.agg x] [] (.sl 1 (putC x) .sh) []
  rw [isHdr_eq hx]
  exact book_ok.pth (by kernel_rfl) sp60_ok (p60 _ _ (by kernel_rfl))
theorem s61 : SumTOk Try.prog 61 (S60 true) := sum0_ok fun x hx => by
  have hx : isHdr x = true := hx
  show CallsA Try.prog 61 [.agg x] [] (.sl 1 (putC x) .sh) []
  rw [isHdr_eq hx]
  exact book_ok.pth (by kernel_rfl) sp61_ok (p61 _ _ (by kernel_rfl))

end Go.Proofs.Ytdcijmigoefnjaa
