/- Chapter 04: the law's call, its arguments as they come. -/
import Derived.Test.YtdcijmigoefnjaaL04b
import Derived.Test.YtdcijmigoefnjaaEvLa
set_option linter.unusedVariables false
set_option maxRecDepth 100000
namespace Go.Proofs.Ytdcijmigoefnjaa
open Go Go.Ev

theorem tyl_ints {k : IntKind} : ∀ {ls : List Lf} {l : List AV}, TyL ls l → (∀ x ∈ ls, x = .int k) → intsA k l = true
  | [], [], _, _ => rfl
  | x :: ls, a :: l, h, hk => by
    have e := hk x (by simp)
    subst e
    obtain ⟨⟨n, rfl, _⟩, h2⟩ := h
    have := tyl_ints h2 (fun y hy => hk y (List.mem_cons_of_mem _ hy))
    simp only [intsA, List.all_cons, isI, decide_true, Bool.true_and]
    exact this
  | [], _ :: _, h, _ => h.elim
  | _ :: _, [], h, _ => h.elim

theorem hdr_of {l : List AV} (h : TyL (repL 24 [.int .u64, .int .u64]) l) : isHdr l = true := by
  have h1 := TyL.length h
  have h2 := tyl_ints (k := .u64) h (by decide)
  have h3 : (repL 24 [Lf.int .u64, Lf.int .u64]).length = 48 := rfl
  simp only [isHdr, h2, Bool.and_true, beq_iff_eq]
  omega

theorem wide_of {l : List AV} (h : TyL [.int .u64, .int .u64] l) : ∃ v : Int × Int, AV.agg l = wA v := by
  match l, h with
  | [_, _], ⟨⟨m, rfl, _⟩, ⟨n, rfl, _⟩, _⟩ => exact ⟨(m, n), rfl⟩
  | [], h => exact h.elim
  | [_], h => exact h.2.elim
  | _ :: _ :: _ :: _, h => exact h.2.2.elim

theorem cHeaderSets {a b w : List AV} {f : Int} (ha : TyL (repL 24 [.int .u64, .int .u64]) a) (hb : TyL (repL 24 [.int .u64, .int .u64]) b) (hf : IntKind.i64.min ≤ f ∧ f ≤ IntKind.i64.max) (hw : TyL [.int .u64, .int .u64] w) :
    CallsA Try.prog 5 [.agg a, .agg b, .int .i64 f, .agg w] [] (.bool true) [] := by
  obtain ⟨v, hv⟩ := wide_of hw
  rw [hv, isHdr_eq (hdr_of ha), isHdr_eq (hdr_of hb)]
  exact c5 _ _ f v.1 v.2

end Go.Proofs.Ytdcijmigoefnjaa
