/- Chapter 11: which headers a match has: the law's call. -/
import Derived.Test.YtdcijmigoefnjaaP11e
import Derived.Test.YtdcijmigoefnjaaL11d
import Derived.Test.YtdcijmigoefnjaaL11w
import Derived.Test.YtdcijmigoefnjaaL10h
set_option linter.unusedVariables false
set_option linter.unusedSimpArgs false
set_option maxRecDepth 100000
set_option maxHeartbeats 0
namespace Go.Proofs.Ytdcijmigoefnjaa
open Go Go.Ev

theorem quadEq_same : ∀ cs : List AV, quadEq cs cs = true
  | a :: b :: c :: d :: cs => by simp [quadEq, ieq_self', quadEq_same cs]
  | [] => rfl
  | [_] => rfl
  | [_, _] => rfl
  | [_, _, _] => rfl
theorem sp18_ok : SpecTL Try.prog (sp18 true) := ⟨s82, s83, s84, s85, s81, trivial⟩
theorem cub11_ok (xs : List AV) : isCub (cub11 true xs) = true := isCub_l xs isCub_zero
theorem c18 {xs : List AV} (h : okX xs = true) (f : Int) : CallsA Try.prog 18 [.sl 6 xs .sh, .int .i64 f] [] (.bool true) [] := by
  have q := quadEq_same (cub11 true xs)
  refine book_ok.pth (by kernel_rfl) sp18_ok (p18 true f xs _ (fun _ => rfl) (fun _ => h) (fun _ => cub11_ok xs) (fun _ e e2 => ?_) (fun _ e e2 => ?_) (fun _ e => ?_))
  · have e : quadEq (cub11 true xs) (cub11 true xs) = true := e
    show (AV.bool (bif bif quadEq (cub11 true xs) (cub11 true xs) then metF xs f == metF xs f else false then true else false), _) = _
    rw [e, e2]; rfl
  · simp at e2
  · have e : quadEq (cub11 true xs) (cub11 true xs) = false := e
    rw [q] at e; cases e
theorem ty_ox {x : AV} (h : TyE true [.int .i64, .bool, .int .u64, .int .u64, .int .u64, .int .u64] x) : isOx x = true := by
  obtain ⟨cs, rfl, h⟩ := h
  obtain ⟨y, e, hy⟩ := oxm_of h
  rw [e]
  have hy : ((inU y.2.2.1.1 && inU y.2.2.1.2) && (inU y.2.2.2.1 && inU y.2.2.2.2)) = true := hy
  show (inU y.2.2.1.1 && (inU y.2.2.1.2 && (inU y.2.2.2.1 && inU y.2.2.2.2))) = true
  simp only [Bool.and_eq_true] at hy ⊢
  exact ⟨hy.1.1, hy.1.2, hy.2.1, hy.2.2⟩
theorem tyx {xs : List AV} (hx : ∀ x ∈ xs, TyE true [.int .i64, .bool, .int .u64, .int .u64, .int .u64, .int .u64] x) (hl : xs.length ≤ maxLen) : okX xs = true := by
  unfold okX oxsB
  rw [show xs.all isOx = true from List.all_eq_true.2 fun x h => ty_ox (hx x h), tyb_len hl]; rfl
theorem cMatchCubes {xs : List AV} {f : Int} (hx : ∀ x ∈ xs, TyE true [.int .i64, .bool, .int .u64, .int .u64, .int .u64, .int .u64] x) (hl : xs.length ≤ maxLen) (hf : IntKind.i64.min ≤ f ∧ f ≤ IntKind.i64.max) :
    CallsA Try.prog 18 [.sl 6 xs .sh, .int .i64 f] [] (.bool true) [] := c18 (tyx hx hl) f
end Go.Proofs.Ytdcijmigoefnjaa
