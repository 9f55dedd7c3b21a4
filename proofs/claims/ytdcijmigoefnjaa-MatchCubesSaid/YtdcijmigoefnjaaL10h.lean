/- Bytes as rows tell them. -/
import Derived.Test.YtdcijmigoefnjaaL10g
import Derived.Test.YtdcijmigoefnjaaEvLa
set_option linter.unusedVariables false
set_option linter.unusedSimpArgs false
set_option maxRecDepth 100000
set_option maxHeartbeats 0
namespace Go.Proofs.Ytdcijmigoefnjaa
open Go Go.Ev
theorem ieq_self (a : Int) : ieq a a = true := by simp [ieq]
theorem tyb_bytes {xs : List AV} (hx : ∀ x ∈ xs, TyE false [.int .u8] x) : byteL xs := fun x hm => by
  obtain ⟨l, e, h⟩ := hx x hm
  cases e
  obtain ⟨n, rfl, h1, h2⟩ := h
  have h1 : 0 ≤ n := h1
  have h2 : n ≤ 255 := h2
  exact ⟨n.toNat, by omega, by rw [Int.toNat_of_nonneg h1]⟩
theorem tyb_len {xs : List AV} (hl : xs.length ≤ maxLen) : lenB xs = true := by
  unfold lenB; rw [Nat.ble_eq]; exact hl
theorem pairEq_same : ∀ cs : List AV, pairEq cs cs = true
  | [] => rfl
  | [_] => rfl
  | a :: b :: cs => by simp [pairEq, ieq, pairEq_same cs]
theorem tyu {n : Int} (h1 : IntKind.u64.min ≤ n) (h2 : n ≤ IntKind.u64.max) : inU n = true := by
  have h1 : 0 ≤ n := h1
  have h2 : n ≤ 18446744073709551615 := h2
  rw [inU_iff]; omega
theorem tyl_cons {x : Lf} {ls : List Lf} {l : List AV} (h : TyL (x :: ls) l) : ∃ (a : AV) (l' : List AV), l = a :: l' ∧ TyA x a ∧ TyL ls l' := by
  cases l with
  | nil => exact h.elim
  | cons a l' => exact ⟨a, l', rfl, h.1, h.2⟩
theorem tyl_nil {l : List AV} (h : TyL [] l) : l = [] := by
  cases l with
  | nil => rfl
  | cons a l' => exact h.elim
theorem oxm_of {l : List AV} (h : TyL [.int .i64, .bool, .int .u64, .int .u64, .int .u64, .int .u64] l) : ∃ x : XO, AV.agg l = oxA x ∧ inO x = true := by
  obtain ⟨_, l1, rfl, ⟨f, rfl, _⟩, h1⟩ := tyl_cons h
  obtain ⟨_, l2, rfl, ⟨m, rfl⟩, h2⟩ := tyl_cons h1
  obtain ⟨_, l3, rfl, ⟨a, rfl, a1, a2⟩, h3⟩ := tyl_cons h2
  obtain ⟨_, l4, rfl, ⟨b, rfl, b1, b2⟩, h4⟩ := tyl_cons h3
  obtain ⟨_, l5, rfl, ⟨c, rfl, c1, c2⟩, h5⟩ := tyl_cons h4
  obtain ⟨_, l6, rfl, ⟨d, rfl, d1, d2⟩, h6⟩ := tyl_cons h5
  obtain rfl := tyl_nil h6
  refine ⟨(f, m, (a, b), (c, d)), rfl, ?_⟩
  unfold inO inW
  simp only [tyu a1 a2, tyu b1 b2, tyu c1 c2, tyu d1 d2]; rfl
theorem wide_of' {l : List AV} (h : TyL [.int .u64, .int .u64] l) : ∃ v : Int × Int, AV.agg l = wA v ∧ inU v.1 = true ∧ inU v.2 = true := by
  obtain ⟨_, l1, rfl, ⟨m, rfl, m1, m2⟩, h1⟩ := tyl_cons h
  obtain ⟨_, l2, rfl, ⟨n, rfl, n1, n2⟩, h2⟩ := tyl_cons h1
  obtain rfl := tyl_nil h2
  exact ⟨(m, n), rfl, tyu m1 m2, tyu n1 n2⟩
end Go.Proofs.Ytdcijmigoefnjaa
