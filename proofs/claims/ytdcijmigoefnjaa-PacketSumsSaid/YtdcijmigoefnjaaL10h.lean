/- Bytes as rows tell them. -/
import Derived.Test.YtdcijmigoefnjaaL10g
import Derived.Test.YtdcijmigoefnjaaEvLa
set_option linter.unusedVariables false
set_option linter.unusedSimpArgs false
set_option maxRecDepth 100000
set_option maxHeartbeats 0
namespace Go.Proofs.Ytdcijmigoefnjaa
open Go Go.Ev
theorem ieq_self (a : Int) : ieq a a = true := by simp [ieq]
theorem tyb_bytes {xs : List AV} (hx : ∀ x ∈ xs, TyE false [.int .u8] x) : byteL xs := fun x hm => by
  obtain ⟨l, e, h⟩ := hx x hm
  cases e
  obtain ⟨n, rfl, h1, h2⟩ := h
  have h1 : 0 ≤ n := h1
  have h2 : n ≤ 255 := h2
  exact ⟨n.toNat, by omega, by rw [Int.toNat_of_nonneg h1]⟩
theorem tyb_len {xs : List AV} (hl : xs.length ≤ maxLen) : lenB xs = true := by
  unfold lenB; rw [Nat.ble_eq]; exact hl
theorem pairEq_same : ∀ cs : List AV, pairEq cs cs = true
  | [] => rfl
  | [_] => rfl
  | a :: b :: cs => by simp [pairEq, ieq, pairEq_same cs]
end Go.Proofs.Ytdcijmigoefnjaa
