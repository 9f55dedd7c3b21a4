/- Chapter 45: what is within: contracts. -/
import Derived.Test.YtdcijmigoefnjaaP45b
import Derived.Test.YtdcijmigoefnjaaL45s
set_option linter.unusedVariables false
set_option linter.unusedSimpArgs false
set_option maxRecDepth 100000
set_option maxHeartbeats 0
namespace Go.Proofs.Ytdcijmigoefnjaa
open Go Go.Ev

/-- a header behind a pointer is as told, or an error -/
structure GW (e : Int) (K : Nat → Int) (x : AV × List (List AV)) : Prop where
  r : x.1 = .int .i64 e
  m : e = 0 → leM x.2 [hdrC K ++ [.unk]]
  n : ∃ cs : List AV, x.2 = [cs] ∧ cs.length = 49
theorem gw_ok {K : Nat → Int} {cs : List AV} (h : cs.take 48 = hdrC K) (hl : cs.length = 49) : GW 0 K (.int .i64 0, [cs]) := by
  refine ⟨rfl, fun _ => ⟨rfl, fun j p q hp hq => ?_⟩, cs, rfl, hl⟩
  match j with
  | 0 =>
    cases hp; cases hq
    refine ⟨by rw [hl]; rfl, fun i a b ha hb => ?_⟩
    by_cases hi : i < 48
    · have e1 : (hdrC K)[i]? = some a := by rw [← h, List.getElem?_take, if_pos hi]; exact ha
      rw [List.getElem?_append_left (by exact hi), e1] at hb
      cases hb; exact .inr rfl
    · have : i < (hdrC K ++ [AV.unk]).length := (List.getElem?_eq_some_iff.1 hb).1
      have e49 : (hdrC K ++ [AV.unk]).length = 49 := rfl
      have : i = 48 := by omega
      subst this
      cases hb; exact .inl rfl
  | j + 1 => simp at hp
theorem gw_no {e : Int} {K : Nat → Int} {cs : List AV} (he : e ≠ 0) (hl : cs.length = 49) : GW e K (.int .i64 e, [cs]) := ⟨rfl, fun h => (he h).elim, cs, rfl, hl⟩
theorem gw_calls {f : FuncId} {args : List AV} {passed : List (List AV)} {e : Int} {K : Nat → Int} (h : ∃ r p, GW e K (r, p) ∧ CallsA Try.prog f args passed r p) : CallsA Try.prog f args passed (outW e K).val.1 (outW e K).val.2 := by
  obtain ⟨r, p, ⟨h1, h2, cs, h3, h4⟩, hc⟩ := h
  simp only at h1 h2 h3
  subst h1 h3
  unfold outW
  cases hb : ieq e 0 with
  | true =>
    have : e = 0 := by simpa [ieq] using hb
    subst this
    exact hc.le (h2 rfl)
  | false => exact hc.forget h4

theorem ile_not (a b : Int) : ile a b = !ilt b a := by
  cases h : ilt b a
  · rw [ilt_no] at h; exact ile_iff'.2 h
  · rw [ilt_iff] at h; cases h2 : ile a b with | false => rfl | true => rw [ile_iff'] at h2; omega
theorem okL_drop {xs : List AV} (h : okL xs = true) (n : Nat) : okL (xs.drop n) = true := by
  rw [okL_iff] at h ⊢
  exact ⟨fun y hy => h.1 y (List.mem_of_mem_drop hy), by rw [List.length_drop]; omega⟩
theorem okL_take {xs : List AV} (h : okL xs = true) (n : Nat) : okL (xs.take n) = true := by
  rw [okL_iff] at h ⊢
  exact ⟨fun y hy => h.1 y (List.mem_of_mem_take hy), by rw [List.length_take]; omega⟩
theorem nv_lt {xs : List AV} (h : okL xs = true) (o n : Nat) : 0 ≤ nv xs o n ∧ nv xs o n < 256 ^ n := by
  unfold nv
  have hb := (okL_iff.1 (okL_take (okL_drop h o) n)).1
  have := valB_lt _ hb
  have h2 : 256 ^ (((xs.drop o).take n).length) ≤ 256 ^ n := Nat.pow_le_pow_right (by decide) (by rw [List.length_take]; omega)
  refine ⟨by omega, ?_⟩
  have := Nat.lt_of_lt_of_le this h2
  exact_mod_cast this
theorem val_small {xs : List AV} (h : okL xs = true) {n : Nat} (hn : n ≤ 8) : valB (xs.take n) < 18446744073709551616 := by
  have := nv_lt h 0 n
  have h2 : 256 ^ n ≤ 256 ^ 8 := Nat.pow_le_pow_right (by decide) hn
  have h3 : nv xs 0 n = ((valB (xs.take n) : Nat) : Int) := by unfold nv; rw [List.drop_zero]
  rw [h3] at this
  have : valB (xs.take n) < 256 ^ n := by exact_mod_cast this.2
  exact Nat.lt_of_lt_of_le this h2
theorem wvH_0 {xs : List AV} (h : okL xs = true) {n : Nat} (hn : n ≤ 8) : wvH xs n = 0 := by
  unfold wvH; rw [Nat.div_eq_of_lt (val_small h hn)]; rfl
theorem wvL_nv {xs : List AV} (h : okL xs = true) {n : Nat} (hn : n ≤ 8) : wvL xs n = nv xs 0 n := by
  unfold wvL nv; rw [Nat.mod_eq_of_lt (val_small h hn), List.drop_zero]
theorem nv_drop (xs : List AV) (a o n : Nat) : nv (xs.drop a) o n = nv xs (a + o) n := by
  unfold nv; rw [List.drop_drop]

theorem spM0_ok : SpecTL Try.prog spM0 := ⟨s178, s115v s115, s72, trivial⟩

theorem lenI {xs : List AV} {n : Nat} (h : (!ile (n : Int) (xs.length : Int)) = false) : n ≤ xs.length := by
  simp only [Bool.not_eq_false', ile_iff'] at h; omega
theorem need_pre {xs : List AV} (h : okL xs = true) {m : Int} (hm : m ≤ xs.length) : (okL xs && (true && ile m (xs.length : Int))) = true := by
  rw [h, ile_iff'.2 hm]; rfl

theorem ilt0 (n : Nat) : ilt (n : Int) 0 = false := ilt_no.2 (by omega)
theorem s192 : SumTOk Try.prog 192 S192 := sumSW_ok fun x hx => by
  obtain ⟨four, b, p, xs⟩ := x
  have h : okL xs = true := hx
  have w1 := wvH_0 h (n := 2) (by omega)
  have w2 := wvL_nv h (n := 2) (by omega)
  have w3 := wvH_0 h (n := 1) (by omega)
  have w4 := wvL_nv h (n := 1) (by omega)
  have w5 := wvH_0 (okL_drop h 2) (n := 2) (by omega)
  have w6 : wvL (xs.drop 2) 2 = nv xs 2 2 := by rw [wvL_nv (okL_drop h 2) (by omega), nv_drop]
  have w7 := wvH_0 (okL_drop h 1) (n := 1) (by omega)
  have w8 : wvL (xs.drop 1) 1 = nv xs 1 1 := by rw [wvL_nv (okL_drop h 1) (by omega), nv_drop]
  have d1 := okL_drop h 1
  have d2 := okL_drop h 2
  cases four with
  | true =>
    refine gw_calls (book_ok.pthX (by kernel_rfl) spM0_ok (p192t b p xs _ ?_ ?_ ?_ ?_ ?_ ?_ ?_ ?_ ?_ ?_ ?_ ?_ ?_ ?_ ?_ ?_ ?_ ?_ ?_))
    all_goals intros
    all_goals first
      | exact need_pre h (by simp only [Bool.not_eq_false', ile_iff'] at *; omega)
      | exact need_pre d2 (by simp only [Bool.not_eq_false', ile_iff', List.length_drop] at *; omega)
      | exact need_pre d1 (by simp only [Bool.not_eq_false', ile_iff', List.length_drop] at *; omega)
      | exact inR_iff.2 ⟨by omega, by simp only [Bool.not_eq_false', ile_iff', List.length_drop] at *; omega⟩
      | (have e : withinE true p.2.2.1 xs = 3 := by (unfold withinE needN; simp_all [ile_not, ilt0])
         show GW (withinE true p.2.2.1 xs) _ _
         rw [e]; exact gw_no (by decide) rfl)
      | (have e : withinE true p.2.2.1 xs = 0 := by (unfold withinE needN; simp_all [ile_not, ilt0])
         show GW (withinE true p.2.2.1 xs) (withinK (ipK b true p) true p.2.2.1 xs) _
         rw [e]
         first
           | (have k : withinK (ipK b true p) true p.2.2.1 xs = setK (setK (ipK b true p) 12 (0, nv xs 0 2)) 13 (0, nv xs 2 2) := by (unfold withinK; simp_all; done)
              rw [k]; simp only [AV.elems, w1, w2, w5, w6]; exact gw_ok (by kernel_rfl) rfl)
           | (have k : withinK (ipK b true p) true p.2.2.1 xs = setK (setK (ipK b true p) 14 (0, nv xs 0 2)) 15 (0, nv xs 2 2) := by (unfold withinK; simp_all; done)
              rw [k]; simp only [AV.elems, w1, w2, w5, w6]; exact gw_ok (by kernel_rfl) rfl)
           | (have k : withinK (ipK b true p) true p.2.2.1 xs = setK (setK (ipK b true p) 16 (0, nv xs 0 1)) 17 (0, nv xs 1 1) := by (unfold withinK; simp_all; done)
              rw [k]; simp only [AV.elems, w3, w4, w7, w8]; exact gw_ok (by kernel_rfl) rfl)
           | (have k : withinK (ipK b true p) true p.2.2.1 xs = ipK b true p := by (unfold withinK; simp_all; done)
              rw [k]; exact gw_ok (by kernel_rfl) rfl))
  | false =>
    refine gw_calls (book_ok.pthX (by kernel_rfl) spM0_ok (p192f b p xs _ ?_ ?_ ?_ ?_ ?_ ?_ ?_ ?_ ?_ ?_ ?_ ?_ ?_ ?_))
    all_goals intros
    all_goals first
      | exact need_pre h (by simp only [Bool.not_eq_false', ile_iff'] at *; omega)
      | exact need_pre d2 (by simp only [Bool.not_eq_false', ile_iff', List.length_drop] at *; omega)
      | exact need_pre d1 (by simp only [Bool.not_eq_false', ile_iff', List.length_drop] at *; omega)
      | exact inR_iff.2 ⟨by omega, by simp only [Bool.not_eq_false', ile_iff', List.length_drop] at *; omega⟩
      | (have e : withinE false p.2.2.1 xs = 3 := by (unfold withinE needN; simp_all [ile_not, ilt0])
         show GW (withinE false p.2.2.1 xs) _ _
         rw [e]; exact gw_no (by decide) rfl)
      | (have e : withinE false p.2.2.1 xs = 0 := by (unfold withinE needN; simp_all [ile_not, ilt0])
         show GW (withinE false p.2.2.1 xs) (withinK (ipK b false p) false p.2.2.1 xs) _
         rw [e]
         first
           | (have k : withinK (ipK b false p) false p.2.2.1 xs = setK (setK (ipK b false p) 12 (0, nv xs 0 2)) 13 (0, nv xs 2 2) := by (unfold withinK; simp_all; done)
              rw [k]; simp only [AV.elems, w1, w2, w5, w6]; exact gw_ok (by kernel_rfl) rfl)
           | (have k : withinK (ipK b false p) false p.2.2.1 xs = setK (setK (ipK b false p) 14 (0, nv xs 0 2)) 15 (0, nv xs 2 2) := by (unfold withinK; simp_all; done)
              rw [k]; simp only [AV.elems, w1, w2, w5, w6]; exact gw_ok (by kernel_rfl) rfl)
           | (have k : withinK (ipK b false p) false p.2.2.1 xs = setK (setK (ipK b false p) 16 (0, nv xs 0 1)) 17 (0, nv xs 1 1) := by (unfold withinK; simp_all; done)
              rw [k]; simp only [AV.elems, w3, w4, w7, w8]; exact gw_ok (by kernel_rfl) rfl)
           | (have k : withinK (ipK b false p) false p.2.2.1 xs = ipK b false p := by (unfold withinK; simp_all; done)
              rw [k]; exact gw_ok (by kernel_rfl) rfl))

end Go.Proofs.Ytdcijmigoefnjaa
