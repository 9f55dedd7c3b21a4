import Derived.Test.YtdcijmigoefnjaaL10g
import Derived.Test.YtdcijmigoefnjaaEvLa
import Derived.Test.YtdcijmigoefnjaaD03
import Derived.Test.YtdcijmigoefnjaaL11d
import Derived.Test.YtdcijmigoefnjaaL11w
/- Bytes as rows tell them. -/
set_option linter.unusedVariables false
set_option linter.unusedSimpArgs false
set_option maxRecDepth 100000
set_option maxHeartbeats 0
namespace Go.Proofs.Ytdcijmigoefnjaa
open Go Go.Ev
theorem tyb_len {xs : List AV} (hl : xs.length ≤ maxLen) : lenB xs = true := by
  unfold lenB; rw [Nat.ble_eq]; exact hl
theorem tyu {n : Int} (h1 : IntKind.u64.min ≤ n) (h2 : n ≤ IntKind.u64.max) : inU n = true := by
  have h1 : 0 ≤ n := h1
  have h2 : n ≤ 18446744073709551615 := h2
  rw [inU_iff]; omega
theorem tyl_cons {x : Lf} {ls : List Lf} {l : List AV} (h : TyL (x :: ls) l) : ∃ (a : AV) (l' : List AV), l = a :: l' ∧ TyA x a ∧ TyL ls l' := by
  cases l with
  | nil => exact h.elim
  | cons a l' => exact ⟨a, l', rfl, h.1, h.2⟩
theorem tyl_nil {l : List AV} (h : TyL [] l) : l = [] := by
  cases l with
  | nil => rfl
  | cons a l' => exact h.elim
theorem oxm_of {l : List AV} (h : TyL [.int .i64, .bool, .int .u64, .int .u64, .int .u64, .int .u64] l) : ∃ x : XO, AV.agg l = oxA x ∧ inO x = true := by
  obtain ⟨_, l1, rfl, ⟨f, rfl, _⟩, h1⟩ := tyl_cons h
  obtain ⟨_, l2, rfl, ⟨m, rfl⟩, h2⟩ := tyl_cons h1
  obtain ⟨_, l3, rfl, ⟨a, rfl, a1, a2⟩, h3⟩ := tyl_cons h2
  obtain ⟨_, l4, rfl, ⟨b, rfl, b1, b2⟩, h4⟩ := tyl_cons h3
  obtain ⟨_, l5, rfl, ⟨c, rfl, c1, c2⟩, h5⟩ := tyl_cons h4
  obtain ⟨_, l6, rfl, ⟨d, rfl, d1, d2⟩, h6⟩ := tyl_cons h5
  obtain rfl := tyl_nil h6
  refine ⟨(f, m, (a, b), (c, d)), rfl, ?_⟩
  unfold inO inW
  simp only [tyu a1 a2, tyu b1 b2, tyu c1 c2, tyu d1 d2]; rfl
end Go.Proofs.Ytdcijmigoefnjaa

/- Chapter 11: a list of parts, out of what is handed over. -/
set_option linter.unusedVariables false
namespace Go.Proofs.Ytdcijmigoefnjaa
open Go Go.Ev

theorem ty_ox {x : AV} (h : TyE true [.int .i64, .bool, .int .u64, .int .u64, .int .u64, .int .u64] x) : isOx x = true := by
  obtain ⟨cs, rfl, h⟩ := h
  obtain ⟨y, e, hy⟩ := oxm_of h
  rw [e]
  have hy : ((inU y.2.2.1.1 && inU y.2.2.1.2) && (inU y.2.2.2.1 && inU y.2.2.2.2)) = true := hy
  show (inU y.2.2.1.1 && (inU y.2.2.1.2 && (inU y.2.2.2.1 && inU y.2.2.2.2))) = true
  simp only [Bool.and_eq_true] at hy ⊢
  exact ⟨hy.1.1, hy.1.2, hy.2.1, hy.2.2⟩
theorem tyx {xs : List AV} (hx : ∀ x ∈ xs, TyE true [.int .i64, .bool, .int .u64, .int .u64, .int .u64, .int .u64] x) (hl : xs.length ≤ maxLen) : okX xs = true := by
  unfold okX oxsB
  rw [show xs.all isOx = true from List.all_eq_true.2 fun x h => ty_ox (hx x h), tyb_len hl]; rfl
end Go.Proofs.Ytdcijmigoefnjaa

/- Chapter 11: which headers a match has: the law's call. -/
set_option linter.unusedVariables false
set_option linter.unusedSimpArgs false
set_option maxRecDepth 100000
set_option maxHeartbeats 0
namespace Go.Proofs.Ytdcijmigoefnjaa
open Go Go.Ev

theorem cub11_ok (xs : List AV) : isCub (cub11 true xs) = true := isCub_l xs isCub_zero
end Go.Proofs.Ytdcijmigoefnjaa

/- Chapter 04: what two headers have otherwise; the call of HeaderSets. -/
set_option linter.unusedVariables false
set_option linter.unusedSimpArgs false
set_option maxRecDepth 100000
set_option maxHeartbeats 0
namespace Go.Proofs.Ytdcijmigoefnjaa
open Go Go.Ev

/-! what two headers have otherwise -/
theorem pair_at (h : Nat → Int) : ∀ j, j < 24 → List.map AV.flat (List.take 2 (List.drop (0 + j * 2) (hdrC h))) = [.int .u64 (h (j * 2)), .int .u64 (h (j * 2 + 1))] := by
  intro j hj
  match j, hj with
  | 0, _ => rfl
  | 1, _ => rfl
  | 2, _ => rfl
  | 3, _ => rfl
  | 4, _ => rfl
  | 5, _ => rfl
  | 6, _ => rfl
  | 7, _ => rfl
  | 8, _ => rfl
  | 9, _ => rfl
  | 10, _ => rfl
  | 11, _ => rfl
  | 12, _ => rfl
  | 13, _ => rfl
  | 14, _ => rfl
  | 15, _ => rfl
  | 16, _ => rfl
  | 17, _ => rfl
  | 18, _ => rfl
  | 19, _ => rfl
  | 20, _ => rfl
  | 21, _ => rfl
  | 22, _ => rfl
  | 23, _ => rfl
  | j + 24, h => omega

structure P42 (x : X2) : Prop where
  i0 : 0 ≤ x.1
  i1 : x.1 ≤ 24
  len : (x.2.length : Int) ≤ x.1

theorem len_at (h : Nat → Int) {j : Nat} (hj : j < 24) : ((List.take 2 (List.drop (0 + j * 2) (hdrC h))).length == 2) = true := by
  have := congrArg List.length (pair_at h j hj)
  rw [List.length_map] at this
  rw [this]; rfl

theorem cell_hdr (h : Nat → Int) {j : Nat} (hj : j < 48) : cell (hdrC h) j = h j := by
  have all : ∀ (i : Nat), i < 48 → (hdrC h)[i]? = some (.int .u64 (h i)) := by
    intro i hi
    match i, hi with
    | 0, _ => rfl
    | 1, _ => rfl
    | 2, _ => rfl
    | 3, _ => rfl
    | 4, _ => rfl
    | 5, _ => rfl
    | 6, _ => rfl
    | 7, _ => rfl
    | 8, _ => rfl
    | 9, _ => rfl
    | 10, _ => rfl
    | 11, _ => rfl
    | 12, _ => rfl
    | 13, _ => rfl
    | 14, _ => rfl
    | 15, _ => rfl
    | 16, _ => rfl
    | 17, _ => rfl
    | 18, _ => rfl
    | 19, _ => rfl
    | 20, _ => rfl
    | 21, _ => rfl
    | 22, _ => rfl
    | 23, _ => rfl
    | 24, _ => rfl
    | 25, _ => rfl
    | 26, _ => rfl
    | 27, _ => rfl
    | 28, _ => rfl
    | 29, _ => rfl
    | 30, _ => rfl
    | 31, _ => rfl
    | 32, _ => rfl
    | 33, _ => rfl
    | 34, _ => rfl
    | 35, _ => rfl
    | 36, _ => rfl
    | 37, _ => rfl
    | 38, _ => rfl
    | 39, _ => rfl
    | 40, _ => rfl
    | 41, _ => rfl
    | 42, _ => rfl
    | 43, _ => rfl
    | 44, _ => rfl
    | 45, _ => rfl
    | 46, _ => rfl
    | 47, _ => rfl
    | i + 48, h => omega
  unfold cell
  rw [List.getD_eq_getElem?_getD, all j hj]; rfl

end Go.Proofs.Ytdcijmigoefnjaa

/- Chapter 04: the law's call, its arguments as they come. -/
set_option linter.unusedVariables false
set_option maxRecDepth 100000
namespace Go.Proofs.Ytdcijmigoefnjaa
open Go Go.Ev

theorem tyl_ints {k : IntKind} : ∀ {ls : List Lf} {l : List AV}, TyL ls l → (∀ x ∈ ls, x = .int k) → intsA k l = true
  | [], [], _, _ => rfl
  | x :: ls, a :: l, h, hk => by
    have e := hk x (by simp)
    subst e
    obtain ⟨⟨n, rfl, _⟩, h2⟩ := h
    have := tyl_ints h2 (fun y hy => hk y (List.mem_cons_of_mem _ hy))
    simp only [intsA, List.all_cons, isI, decide_true, Bool.true_and]
    exact this
  | [], _ :: _, h, _ => h.elim
  | _ :: _, [], h, _ => h.elim

theorem hdr_of {l : List AV} (h : TyL (repL 24 [.int .u64, .int .u64]) l) : isHdr l = true := by
  have h1 := TyL.length h
  have h2 := tyl_ints (k := .u64) h (by decide)
  have h3 : (repL 24 [Lf.int .u64, Lf.int .u64]).length = 48 := rfl
  simp only [isHdr, h2, Bool.and_true, beq_iff_eq]
  omega

end Go.Proofs.Ytdcijmigoefnjaa
