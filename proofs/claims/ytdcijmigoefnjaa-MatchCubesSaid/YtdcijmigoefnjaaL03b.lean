/- Chapter 03: what fields need; the call of FieldNeeds. -/
import Derived.Test.YtdcijmigoefnjaaL03
set_option linter.unusedVariables false
set_option linter.unusedSimpArgs false
set_option maxRecDepth 100000
set_option maxHeartbeats 0
namespace Go.Proofs.Ytdcijmigoefnjaa
open Go Go.Ev

theorem needOf_no {n : Int} (h : isF n = false) : needOf n = [] := by unfold needOf; rw [h]; rfl

theorem s30 : SumTOk Try.prog 30 (sumOf G30) := gF (by kernel_rfl) fun n h => by
  have e := fun (j : Int) (h1 : 0 ≤ j) (h2 : j < 24) => ieq_no h h1 h2
  rw [needOf_no h]
  exact book_ok.pth (by kernel_rfl) noSpec_ok (p30 n _ (e _ (by omega) (by omega)) (e _ (by omega) (by omega)) (e _ (by omega) (by omega)) (e _ (by omega) (by omega)) (e _ (by omega) (by omega)) (e _ (by omega) (by omega)) (e _ (by omega) (by omega)) (e _ (by omega) (by omega)) (e _ (by omega) (by omega)) (e _ (by omega) (by omega)) (e _ (by omega) (by omega)) (e _ (by omega) (by omega)) (e _ (by omega) (by omega)) (e _ (by omega) (by omega)) (e _ (by omega) (by omega)) (e _ (by omega) (by omega)) (e _ (by omega) (by omega)) (e _ (by omega) (by omega)) rfl)
theorem s55 : SumTOk Try.prog 55 (sumOf G55) := gF (by kernel_rfl) fun n h => by
  have e := fun (j : Int) (h1 : 0 ≤ j) (h2 : j < 24) => ieq_no h h1 h2
  rw [needOf_no h]
  exact book_ok.pth (by kernel_rfl) noSpec_ok (p55 n _ (e _ (by omega) (by omega)) (e _ (by omega) (by omega)) (e _ (by omega) (by omega)) (e _ (by omega) (by omega)) (e _ (by omega) (by omega)) (e _ (by omega) (by omega)) (e _ (by omega) (by omega)) (e _ (by omega) (by omega)) (e _ (by omega) (by omega)) (e _ (by omega) (by omega)) (e _ (by omega) (by omega)) (e _ (by omega) (by omega)) (e _ (by omega) (by omega)) (e _ (by omega) (by omega)) (e _ (by omega) (by omega)) (e _ (by omega) (by omega)) (e _ (by omega) (by omega)) (e _ (by omega) (by omega)) rfl)

theorem sp4_ok : SpecTL Try.prog sp4 := ⟨s30, s31, s32, s29, trivial⟩
theorem n4_0 : (List.range 32).map (fun (j : Nat) => book.mix (specS sp4) 100 4 4 [.int .u8 ((0 + j : Nat) : Int)] []) = (List.range 32).map (fun _ => some (.bool true, [])) := by kernel_rfl
theorem n4_1 : (List.range 32).map (fun (j : Nat) => book.mix (specS sp4) 100 4 4 [.int .u8 ((32 + j : Nat) : Int)] []) = (List.range 32).map (fun _ => some (.bool true, [])) := by kernel_rfl
theorem n4_2 : (List.range 32).map (fun (j : Nat) => book.mix (specS sp4) 100 4 4 [.int .u8 ((64 + j : Nat) : Int)] []) = (List.range 32).map (fun _ => some (.bool true, [])) := by kernel_rfl
theorem n4_3 : (List.range 32).map (fun (j : Nat) => book.mix (specS sp4) 100 4 4 [.int .u8 ((96 + j : Nat) : Int)] []) = (List.range 32).map (fun _ => some (.bool true, [])) := by kernel_rfl
theorem n4_4 : (List.range 32).map (fun (j : Nat) => book.mix (specS sp4) 100 4 4 [.int .u8 ((128 + j : Nat) : Int)] []) = (List.range 32).map (fun _ => some (.bool true, [])) := by kernel_rfl
theorem n4_5 : (List.range 32).map (fun (j : Nat) => book.mix (specS sp4) 100 4 4 [.int .u8 ((160 + j : Nat) : Int)] []) = (List.range 32).map (fun _ => some (.bool true, [])) := by kernel_rfl
theorem n4_6 : (List.range 32).map (fun (j : Nat) => book.mix (specS sp4) 100 4 4 [.int .u8 ((192 + j : Nat) : Int)] []) = (List.range 32).map (fun _ => some (.bool true, [])) := by kernel_rfl
theorem n4_7 : (List.range 32).map (fun (j : Nat) => book.mix (specS sp4) 100 4 4 [.int .u8 ((224 + j : Nat) : Int)] []) = (List.range 32).map (fun _ => some (.bool true, [])) := by kernel_rfl

/-- FieldNeeds' call -/
theorem c4 {x : Int} (h0 : 0 ≤ x) (h1 : x < 256) : CallsA Try.prog 4 [.int .u8 x] [] (.bool true) [] := by
  obtain ⟨n, rfl⟩ : ∃ n : Nat, x = n := ⟨x.toNat, by omega⟩
  have go : ∀ (k : Nat), (∀ j, j < 32 → book.mix (specS sp4) 100 4 4 [.int .u8 ((k + j : Nat) : Int)] [] = some (.bool true, [])) → k ≤ n → n < k + 32 → CallsA Try.prog 4 [.int .u8 (n : Int)] [] (.bool true) [] := by
    intro k h h2 h3
    have := h (n - k) (by omega)
    rw [show k + (n - k) = n by omega] at this
    exact Book.mix_ok book_ok (specS_ok sp4_ok) 100 4 4 _ _ _ _ this
  by_cases g : n < 32
  · exact go 0 (all_of_map n4_0) (by omega) (by omega)
  by_cases g1 : n < 64
  · exact go 32 (all_of_map n4_1) (by omega) (by omega)
  by_cases g2 : n < 96
  · exact go 64 (all_of_map n4_2) (by omega) (by omega)
  by_cases g3 : n < 128
  · exact go 96 (all_of_map n4_3) (by omega) (by omega)
  by_cases g4 : n < 160
  · exact go 128 (all_of_map n4_4) (by omega) (by omega)
  by_cases g5 : n < 192
  · exact go 160 (all_of_map n4_5) (by omega) (by omega)
  by_cases g6 : n < 224
  · exact go 192 (all_of_map n4_6) (by omega) (by omega)
  by_cases g7 : n < 256
  · exact go 224 (all_of_map n4_7) (by omega) (by omega)
  omega

end Go.Proofs.Ytdcijmigoefnjaa
