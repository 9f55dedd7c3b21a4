import Derived.Test.YtdcijmigoefnjaaD03
import Derived.Test.YtdcijmigoefnjaaPlO
/- Chapter 11: a list of parts, out of what is handed over. -/
set_option linter.unusedVariables false
namespace Go.Proofs.Ytdcijmigoefnjaa
open Go Go.Ev

theorem ty_ox {x : AV} (h : TyE true [.int .i64, .bool, .int .u64, .int .u64, .int .u64, .int .u64] x) : isOx x = true := by
  obtain ⟨cs, rfl, h⟩ := h
  obtain ⟨y, e, hy⟩ := oxm_of h
  rw [e]
  have hy : ((inU y.2.2.1.1 && inU y.2.2.1.2) && (inU y.2.2.2.1 && inU y.2.2.2.2)) = true := hy
  show (inU y.2.2.1.1 && (inU y.2.2.1.2 && (inU y.2.2.2.1 && inU y.2.2.2.2))) = true
  simp only [Bool.and_eq_true] at hy ⊢
  exact ⟨hy.1.1, hy.1.2, hy.2.1, hy.2.2⟩
theorem tyx {xs : List AV} (hx : ∀ x ∈ xs, TyE true [.int .i64, .bool, .int .u64, .int .u64, .int .u64, .int .u64] x) (hl : xs.length ≤ maxLen) : okX xs = true := by
  unfold okX oxsB
  rw [show xs.all isOx = true from List.all_eq_true.2 fun x h => ty_ox (hx x h), tyb_len hl]; rfl
end Go.Proofs.Ytdcijmigoefnjaa
