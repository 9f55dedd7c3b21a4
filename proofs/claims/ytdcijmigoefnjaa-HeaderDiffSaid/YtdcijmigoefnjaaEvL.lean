/- The evaluator: append. -/
import Derived.Test.YtdcijmigoefnjaaEvK
import Derived.Laws.Append
set_option linter.unusedVariables false
set_option linter.unusedSimpArgs false
namespace Go.Ev
open Go

/-- what append takes as its second part: read, or noughts -/
def Src (P : Program) (t2 : TypeId) (ei : TI) (z : Value) (w : World) (yv : Value) (n : Nat) (news : List Value) : Prop :=
  (∃ e2 b c, P.underlying t2 = some (.slice e2) ∧ yv = .slice b n c ∧ ∀ w' : World, (∀ a, w'.cell? a = w.cell? a) → (Builtin.firstCells ei.size n yv).run P w' = .ok news.toArray w') ∨
  (∃ k i, P.underlying t2 = some (.int k) ∧ yv = .int .i64 i ∧ 0 ≤ i ∧ i ≤ 140737488355328 ∧ ei.bytes * i ≤ 140737488355328 ∧ n = i.toNat ∧ news.toArray = Builtin.zeroCells z.cells n)

theorem run_append_room {P ty} (hT : TyOk P ty) {t t2 e oty : TypeId} {ei : TI} (he : ty e = some ei) (hu : P.underlying t = some (.slice e)) {z : Value} {w : World} (hz : (zeroValue e).run P w = .ok z w) (hzs : z.cells.size = ei.size)
    {base : Option Addr} {n cap m : Nat} {yv : Value} {news : List Value} (hsrc : Src P t2 ei z w yv m news) (hroom : n + m ≤ cap) :
    (Builtin.append_ #[t, t2] oty #[.slice base n cap, yv]).run P w = ((match base with | some a => storeCells (a.add (n * ei.size)) news | none => pure () : Sem Unit).run P w).andThen fun _ w' => .ok (.slice base (n + m) cap) w' := by
  obtain ⟨info, hinfo, _, hib⟩ := run_info hT he w
  rcases hsrc with ⟨e2, b, c, hu2, rfl, hf⟩ | ⟨k, i, hu2, rfl, h0, h1, h2, rfl, hn⟩
  · have hf' := hf w (fun _ => rfl)
    simp only [Builtin.append_, Sem.run_bind, run_underlying hu, run_underlying hu2, Result.andThen_ok, run_size hT he, List.getElem?_toArray, List.getElem?_cons_zero, List.getElem?_cons_succ, Sem.run_pure, Builtin.lenOf, Bool.false_eq_true, if_false, hroom, if_true, Bool.not_false, hf']
    cases base with
    | none => simp
    | some a => simp [Result.andThen]
  · have hw : IntKind.i64.wrap i = i := by rw [IntKind.wrap_i64]; omega
    have hnews : news = (Builtin.zeroCells z.cells i.toNat).toList := by rw [← hn]
    simp only [Builtin.append_, Sem.run_bind, run_underlying hu, run_underlying hu2, Result.andThen_ok, run_size hT he, List.getElem?_toArray, List.getElem?_cons_zero, List.getElem?_cons_succ, Sem.run_pure, asInt, asIntOf, hw, if_true,
      Bool.not_true, Bool.false_eq_true, if_false]
    rw [if_neg (by omega)]
    simp only [Sem.run_bind, hinfo, Result.andThen_ok, hib]
    rw [if_neg (by rw [Int.mul_comm]; omega)]
    simp only [Sem.run_bind, Sem.run_pure, Result.andThen_ok]
    rw [if_pos hroom]
    by_cases hz0 : i.toNat * ei.size = 0
    · rw [if_pos hz0]
      have : news = [] := by
        rw [hnews]; apply List.eq_nil_of_length_eq_zero; simp [Builtin.zeroCells, hzs, hz0]
      subst this
      cases base with
      | none => simp
      | some a => simp [Result.andThen]
    · rw [if_neg hz0]
      simp only [Sem.run_bind, Sem.run_pure, Result.andThen_ok, hz, ← hnews]
      cases base with
      | none => simp
      | some a => simp [Result.andThen]

theorem drew_fact {α : Type} {P : Program} {f : Sem α} {w : World} {v : α} (h : ∀ w' : World, f.run P w' = .ok v w') : f.run P w.drew = .ok v w.drew := h _

theorem run_append_grow {P ty} (hT : TyOk P ty) {t t2 e oty : TypeId} {ei : TI} (he : ty e = some ei) (hu : P.underlying t = some (.slice e)) {z : Value} {w : World} (hz : ∀ w : World, (zeroValue e).run P w = .ok z w) (hzs : z.cells.size = ei.size)
    {base : Option Addr} {n cap m : Nat} {yv : Value} {news olds : List Value} (hsrc : Src P t2 ei z w yv m news) (hroom : ¬ n + m ≤ cap) (hb : (n + m) * ei.bytes ≤ 140737488355328) (hb63 : n + m ≤ 140737488355328)
    (hold : ∀ w' : World, (∀ a, w'.cell? a = w.cell? a) → (Builtin.firstCells ei.size n (.slice base n cap)).run P w' = .ok olds.toArray w') :
    ∃ (ncap : Nat) (rest : List Value), n + m ≤ ncap ∧ rest.length = (ncap - (n + m)) * ei.size ∧
    (Builtin.append_ #[t, t2] oty #[.slice base n cap, yv]).run P w = .ok (.slice (some ⟨w.heap.size, 0, none⟩) (n + m) ncap) (w.drew.alloc (.cells (olds ++ news ++ rest).toArray e)) := by
  have hinfo : ∀ w : World, ∃ info, (typeInfo e).run P w = .ok info w ∧ info.size = ei.size ∧ info.bytes = ei.bytes := fun w => run_info hT he w
  obtain ⟨info, hi1, _, hib⟩ : ∃ info, (∀ w : World, (typeInfo e).run P w = .ok info w) ∧ info.size = ei.size ∧ info.bytes = ei.bytes := by
    obtain ⟨i, z, h1, h2, h3, _⟩ := (hT e ei he).info
    exact ⟨i, fun w => by simp [typeInfo, h1], h2, h3⟩
  have hfit := growslice_fits (need := n + m) (old := cap) (bytes := ei.bytes) (by omega) hb
  have hmax : IntKind.i64.max = 9223372036854775807 := by decide
  have hold' := hold w.drew (fun _ => rfl)
  refine ⟨(Question.appendCap (n + m) cap e).cut (w.tape w.drawn (.appendCap (n + m) cap e)), (Builtin.zeroCells z.cells ((Question.appendCap (n + m) cap e).cut (w.tape w.drawn (.appendCap (n + m) cap e)) - (n + m))).toList, ?_, ?_, ?_⟩
  · simp [Question.cut]
  · simp [Builtin.zeroCells, hzs]
  generalize hnc : (Question.appendCap (n + m) cap e).cut (w.tape w.drawn (.appendCap (n + m) cap e)) = nc
  have hch : (choose (Question.appendCap (n + m) cap e)).run P w = .ok nc w.drew := by
    rw [← hnc]; simp [choose, Sem.run, Question.forced]
  have hroomrun : ∀ (k : Nat) (w : World), (askRoom k).run P w = .ok () w := by
    intro k w; unfold askRoom; split
    · simp [mark, Sem.run]
    · simp
  have hdsz : w.drew.heap.size = w.heap.size := rfl
  generalize hrs : Builtin.zeroCells z.cells (nc - (n + m)) = ra
  obtain ⟨rest⟩ := ra
  rcases hsrc with ⟨e2, b, c, hu2, rfl, hf⟩ | ⟨k, i, hu2, rfl, h0, h1, h2, rfl, hn⟩
  · have hf' := hf w.drew (fun _ => rfl)
    simp only [Builtin.append_, Sem.run_bind, run_underlying hu, run_underlying hu2, Result.andThen_ok, run_size hT he, List.getElem?_toArray, List.getElem?_cons_zero, List.getElem?_cons_succ, Sem.run_pure, Builtin.lenOf, Bool.false_eq_true, if_false, Bool.not_false]
    rw [if_neg hroom]
    simp only [Sem.run_bind, hi1, Result.andThen_ok, hib, hmax]
    rw [if_neg (by rintro ⟨h, _⟩; omega)]
    simp only [Sem.run_bind, hi1, Result.andThen_ok, hib]
    rw [if_neg (by omega)]
    simp only [Sem.run_bind, hch, hi1, Result.andThen_ok, hroomrun, hold', if_true, hf', hz, run_newRow, Sem.run_pure, hdsz, hrs]
    simp
  · have hw : IntKind.i64.wrap i = i := by rw [IntKind.wrap_i64]; omega
    have hnews : news = (Builtin.zeroCells z.cells i.toNat).toList := by rw [← hn]
    simp only [Builtin.append_, Sem.run_bind, run_underlying hu, run_underlying hu2, Result.andThen_ok, run_size hT he, List.getElem?_toArray, List.getElem?_cons_zero, List.getElem?_cons_succ, Sem.run_pure, asInt, asIntOf, hw, if_true,
      Bool.not_true, Bool.false_eq_true, if_false]
    rw [if_neg (by omega)]
    simp only [Sem.run_bind, hi1, Result.andThen_ok, hib]
    rw [if_neg (by rw [Int.mul_comm]; omega)]
    simp only [Sem.run_bind, Sem.run_pure, Result.andThen_ok]
    rw [if_neg hroom]
    simp only [Sem.run_bind, hi1, Result.andThen_ok, hib, hmax]
    rw [if_neg (by rintro ⟨h, _⟩; omega)]
    simp only [Sem.run_bind, hi1, Result.andThen_ok, hib]
    rw [if_neg (by omega)]
    simp only [Sem.run_bind, hch, hi1, Result.andThen_ok, hroomrun, hold', if_true]
    by_cases hz0 : i.toNat * ei.size = 0
    · rw [if_pos hz0]
      have : news = [] := by
        rw [hnews]; apply List.eq_nil_of_length_eq_zero; simp [Builtin.zeroCells, hzs, hz0]
      subst this
      simp only [Sem.run_bind, Sem.run_pure, Result.andThen_ok, hz, run_newRow, hdsz, hrs]
      simp
    · rw [if_neg hz0]
      simp only [Sem.run_bind, Sem.run_pure, Result.andThen_ok, hz, run_newRow, hdsz, ← hn, hrs]
      simp

end Go.Ev
