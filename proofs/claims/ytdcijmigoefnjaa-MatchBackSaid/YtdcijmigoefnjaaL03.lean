import Derived.Test.YtdcijmigoefnjaaP03
/- Chapter 03: what fields are: contracts, and the laws' calls. -/
set_option linter.unusedVariables false
set_option linter.unusedSimpArgs false
set_option maxRecDepth 100000
set_option maxHeartbeats 0
namespace Go.Proofs.Ytdcijmigoefnjaa
open Go Go.Ev

theorem allT (f : FuncId) {args : List AV} {r : AV} (h : book.all 100 12 f args [] = some (r, [])) : CallsA Try.prog f args [] r [] := Book.all_ok book_ok 100 12 f args [] r [] h

theorem isF_iff {n : Int} : isF n = true ↔ 0 ≤ n ∧ n < 24 := by
  unfold isF ile ilt
  by_cases h : 0 ≤ n <;> simp [h]

theorem isF_cases {n : Int} (h : isF n = true) : ∃ j : Nat, j < 24 ∧ n = j := by
  rw [isF_iff] at h
  exact ⟨n.toNat, by omega, by omega⟩

theorem isF_not {n : Int} (h : isF n = false) : n < 0 ∨ 24 ≤ n := by
  have : ¬ (0 ≤ n ∧ n < 24) := fun h2 => by rw [isF_iff.2 h2] at h; cases h
  omega

/-- a contract over a field: all fields, and what is none -/
theorem gF {f : FuncId} {g : Int → AV} (h1 : (List.range 24).map (fun (j : Nat) => book.all 100 12 f [.int .i64 (j : Int)] []) = (List.range 24).map (fun (j : Nat) => some (g (j : Int), []))) (h2 : ∀ n, isF n = false → CallsA Try.prog f [.int .i64 n] [] (g n) []) :
    SumTOk Try.prog f (sumOf (gI .i64 g)) := by
  refine gI_ok fun n => ?_
  cases h : isF n with
  | true =>
    obtain ⟨j, hj, rfl⟩ := isF_cases h
    have := all_of_map h1 j hj
    exact allT f this
  | false => exact h2 n h

theorem rowOf_no {n : Int} (h : isF n = false) : rowOf n = noRow := by
  have e : (bif ile 0 n && ilt n 24 then rowTab.getD n.toNat noRow else noRow) = (bif isF n then rowTab.getD n.toNat noRow else noRow) := by
    unfold isF
    cases ile 0 n <;> rfl
  unfold rowOf
  rw [e, h]; rfl

theorem ieq_no {n : Int} (h : isF n = false) {j : Int} (h1 : 0 ≤ j) (h2 : j < 24) : ieq n j = false := by
  have := isF_not h
  simp only [ieq, beq_eq_false_iff_ne]
  omega

theorem s104 : SumTOk Try.prog 104 (sumOf (g0 rowsA)) := g0_ok (allT 104 (by kernel_rfl))
theorem s31 : SumTOk Try.prog 31 (sumOf G31) := gI_ok fun n => book_ok.pth (by kernel_rfl) noSpec_ok
  (p31 n _ (fun h => by rw [isF]) (fun h => by rw [isF, h]; rfl))
theorem s53 : SumTOk Try.prog 53 (sumOf G31) := gI_ok fun n => book_ok.pth (by kernel_rfl) noSpec_ok
  (p53 n _ (fun h => by rw [isF]) (fun h => by rw [isF, h]; rfl))

theorem sp105_ok : SpecTL Try.prog sp105 := ⟨s104, s31, trivial⟩
theorem s105 : SumTOk Try.prog 105 (sumOf G105) := gF (by kernel_rfl) fun n h => book_ok.pth (by kernel_rfl) sp105_ok
  (p105 n _ (by rw [h]; rfl) (by rw [rowOf_no h]; rfl))
theorem spAt_ok : SpecTL Try.prog spAt := ⟨s105, trivial⟩
theorem s27 : SumTOk Try.prog 27 (sumOf G27) := gI_ok fun n => book_ok.pth (by kernel_rfl) spAt_ok (p27 n _ rfl)
theorem s32 : SumTOk Try.prog 32 (sumOf G32) := gI_ok fun n => book_ok.pth (by kernel_rfl) spAt_ok (p32 n _ rfl)
theorem s48 : SumTOk Try.prog 48 (sumOf G48) := gI_ok fun n => book_ok.pth (by kernel_rfl) spAt_ok (p48 n _ rfl)
theorem s50 : SumTOk Try.prog 50 (sumOf G50) := gI_ok fun n => book_ok.pth (by kernel_rfl) spAt_ok (p50 n _ rfl)

theorem upOf_no {n : Int} (h : isF n = false) : upOf n = noRow := by
  unfold upOf
  rw [rowOf_no h]
  cases ile 12 n <;> rfl

theorem s163 : SumTOk Try.prog 163 (sumOf G163) := by
  refine gI_ok fun n => ?_
  cases h : isF n with
  | true =>
    obtain ⟨j, hj, rfl⟩ := isF_cases h
    have := all_of_map (f := fun (j : Nat) => book.all 100 12 163 [.int .i64 (j : Int)] []) (g := fun (j : Nat) => some (tupR (upOf (j : Int)), [])) (n := 24) (by kernel_rfl) j hj
    exact allT 163 this
  | false =>
    have e := fun (j : Int) (h1 : 0 ≤ j) (h2 : j < 24) => ieq_no h h1 h2
    exact book_ok.pth (by kernel_rfl) noSpec_ok (p163 n _ (e _ (by omega) (by omega)) (e _ (by omega) (by omega)) (e _ (by omega) (by omega)) (e _ (by omega) (by omega)) (e _ (by omega) (by omega)) (e _ (by omega) (by omega)) (e _ (by omega) (by omega)) (e _ (by omega) (by omega)) (e _ (by omega) (by omega)) (e _ (by omega) (by omega)) (e _ (by omega) (by omega)) (e _ (by omega) (by omega)) (by rw [upOf_no h]; rfl))
theorem sp163_ok : SpecTL Try.prog sp163 := ⟨s163, trivial⟩

theorem s111 : SumTOk Try.prog 111 (sumOf G111) := gF (by kernel_rfl) fun n h => by
  have e := fun (j : Int) (h1 : 0 ≤ j) (h2 : j < 24) => ieq_no h h1 h2
  refine book_ok.pth (by kernel_rfl) sp163_ok (p111 n _ (e _ (by omega) (by omega)) (e _ (by omega) (by omega)) (e _ (by omega) (by omega)) (e _ (by omega) (by omega)) (e _ (by omega) (by omega)) (e _ (by omega) (by omega)) (e _ (by omega) (by omega)) (e _ (by omega) (by omega)) (e _ (by omega) (by omega)) (e _ (by omega) (by omega)) (e _ (by omega) (by omega)) (e _ (by omega) (by omega)) ?_)
  rw [upOf_no h, rowOf_no h]; rfl
theorem sp111_ok : SpecTL Try.prog sp111 := ⟨s111, trivial⟩
theorem s46 : SumTOk Try.prog 46 (sumOf G27) := gI_ok fun n => book_ok.pth (by kernel_rfl) sp111_ok (p46 n _ rfl)
theorem s47 : SumTOk Try.prog 47 (sumOf G32) := gI_ok fun n => book_ok.pth (by kernel_rfl) sp111_ok (p47 n _ rfl)
theorem s51 : SumTOk Try.prog 51 (sumOf G50) := gI_ok fun n => book_ok.pth (by kernel_rfl) sp111_ok (p51 n _ rfl)
theorem sp47_ok : SpecTL Try.prog sp47 := ⟨s47, trivial⟩
theorem s49 : SumTOk Try.prog 49 (sumOf G48) := gF (by kernel_rfl) fun n h => book_ok.pth (by kernel_rfl) sp47_ok (p49 n _ (by
  have : bitsOf n = 0 := by unfold bitsOf; rw [rowOf_no h]; rfl
  have e2 : rowOf n = noRow := rowOf_no h
  simp only [sizeOf, this]; rfl))

theorem sp46_ok : SpecTL Try.prog sp46 := ⟨s46, trivial⟩
theorem sp104_ok : SpecTL Try.prog sp104 := ⟨s104, trivial⟩
theorem s26 : SumTOk Try.prog 26 (sumOf G26) := gI_ok fun n => book_ok.pth (by kernel_rfl) sp104_ok (by
  apply p26 <;> intros <;> simp only [ixOf, *, cond_true, cond_false])
theorem s45 : SumTOk Try.prog 45 (sumOf G26) := gI_ok fun n => book_ok.pth (by kernel_rfl) sp46_ok (by
  apply p45 <;> intros <;> simp only [ixOf, *, cond_true, cond_false])
end Go.Proofs.Ytdcijmigoefnjaa
