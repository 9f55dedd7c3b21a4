import Derived.Test.YtdcijmigoefnjaaD11g
import Derived.Test.YtdcijmigoefnjaaL11j
import Derived.Test.YtdcijmigoefnjaaL11w
import Derived.Test.YtdcijmigoefnjaaD03
import Derived.Test.YtdcijmigoefnjaaPlO
/- Chapter 11: a match out of bytes: the law's call. -/
set_option linter.unusedVariables false
set_option linter.unusedSimpArgs false
set_option maxRecDepth 100000
set_option maxHeartbeats 0
namespace Go.Proofs.Ytdcijmigoefnjaa
open Go Go.Ev

theorem sp19_ok : SpecTL Try.prog (sp19 true) := ⟨s86, s87, s88, s81, trivial⟩
theorem sameO_self (x : XO) : sameO x x = true := by
  unfold sameO; simp [ieq_self, sameW]
theorem eqO_self : ∀ xs : List AV, eqO xs xs = true
  | [] => rfl
  | x :: xs => by simp only [eqO, sameO_self, eqO_self xs, Bool.and_true]
theorem c19 {xs : List AV} (h : okL xs = true) : CallsA Try.prog 19 [.sl 1 xs .sh] [] (.bool true) [] := by
  obtain ⟨hb, hl⟩ := okL_iff.1 h
  have ox : okD xs = true → (okX (decL (bdL xs)) && okX (decL (bdL xs))) = true := fun k => by
    have hm : ieq (hdC xs) (-1) = true := by unfold okD at k; simp only [Bool.and_eq_true] at k; exact k.1
    obtain ⟨f1, f2, f3, _⟩ := hd_facts hm
    obtain ⟨x1, x2⟩ := bdL_ok hb f2
    rw [decL_ok x1 (by omega)]; rfl
  have es : ieq (padI (nv xs 2 2)) (padI (nv xs 2 2)) = true := ieq_self _
  have cs : (true && (true && (ieq (cdD xs) (cdD xs) && true))) = true := by rw [ieq_self]; rfl
  have qs : eqO (decL (bdL xs)) (decL (bdL xs)) = true := eqO_self _
  refine book_ok.pth (by kernel_rfl) sp19_ok (p19 true xs _ (fun _ => rfl) (fun _ => h) (fun _ _ _ _ => ?_) (fun _ _ _ e => ?_) (fun _ k _ => ox k) (fun _ _ _ _ _ => ?_) (fun _ _ _ _ e => ?_) (fun _ _ _ e => ?_) (fun _ _ _ => ?_) (fun _ _ e => ?_))
  · rw [es]; rfl
  · rw [es] at e; cases e
  · show (AV.bool (bif bif bif eqO (decL (bdL xs)) (decL (bdL xs)) then ieq (padI (nv xs 2 2)) (padI (nv xs 2 2)) else false then true else false then true else false), _) = _
    rw [qs, es]; rfl
  · rw [es] at e; cases e
  · have e : eqO (decL (bdL xs)) (decL (bdL xs)) = false := e
    rw [qs] at e; cases e
  · rw [cs]; rfl
  · rw [cs] at e; cases e
theorem cMatchDecodes {xs : List AV} (hx : ∀ x ∈ xs, TyE false [.int .u8] x) (hl : xs.length ≤ maxLen) : CallsA Try.prog 19 [.sl 1 xs .sh] [] (.bool true) [] := c19 (by
  unfold okL; rw [bytB_iff.2 (tyb_bytes hx), tyb_len hl]; rfl)
end Go.Proofs.Ytdcijmigoefnjaa
