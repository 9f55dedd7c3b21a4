import Derived.Test.YtdcijmigoefnjaaL03
/- Chapter 03: what fields need; the call of FieldNeeds. -/
set_option linter.unusedVariables false
set_option linter.unusedSimpArgs false
set_option maxRecDepth 100000
set_option maxHeartbeats 0
namespace Go.Proofs.Ytdcijmigoefnjaa
open Go Go.Ev

theorem needOf_no {n : Int} (h : isF n = false) : needOf n = [] := by unfold needOf; rw [h]; rfl

theorem s30 : SumTOk Try.prog 30 (sumOf G30) := gF (by kernel_rfl) fun n h => by
  have e := fun (j : Int) (h1 : 0 ≤ j) (h2 : j < 24) => ieq_no h h1 h2
  rw [needOf_no h]
  exact book_ok.pth (by kernel_rfl) noSpec_ok (p30 n _ (e _ (by omega) (by omega)) (e _ (by omega) (by omega)) (e _ (by omega) (by omega)) (e _ (by omega) (by omega)) (e _ (by omega) (by omega)) (e _ (by omega) (by omega)) (e _ (by omega) (by omega)) (e _ (by omega) (by omega)) (e _ (by omega) (by omega)) (e _ (by omega) (by omega)) (e _ (by omega) (by omega)) (e _ (by omega) (by omega)) (e _ (by omega) (by omega)) (e _ (by omega) (by omega)) (e _ (by omega) (by omega)) (e _ (by omega) (by omega)) (e _ (by omega) (by omega)) (e _ (by omega) (by omega)) rfl)
end Go.Proofs.Ytdcijmigoefnjaa
