import Derived.Test.YtdcijmigoefnjaaP11h
import Derived.Test.YtdcijmigoefnjaaPlO
import Derived.Test.YtdcijmigoefnjaaP11d
import Derived.Test.YtdcijmigoefnjaaL11w
import Derived.Test.YtdcijmigoefnjaaL11x
import Derived.Test.YtdcijmigoefnjaaL04b
import Derived.Test.YtdcijmigoefnjaaEvLa
/- Chapter 11: a match's bytes: the law's call. -/
set_option linter.unusedVariables false
set_option linter.unusedSimpArgs false
set_option maxRecDepth 100000
set_option maxHeartbeats 0
namespace Go.Proofs.Ytdcijmigoefnjaa
open Go Go.Ev

theorem sp20_ok : SpecTL Try.prog (sp20 true) := ⟨s89, s90, s59, s91, s92, s93, s88, s81, trivial⟩
theorem nbyte_is (n s : Int) : isByte (nbyte n s) := by
  unfold nbyte
  refine ⟨(IntKind.u8.wrap (ishr .i64 n s)).toNat, ?_, ?_⟩ <;> (unfold IntKind.wrap; simp [IntKind.bits, IntKind.signed]; try omega)
theorem enc11_bytes {xs : List AV} (ho : okX xs = true) (h : okEnc xs = true) : byteL (enc11 xs) ∧ (enc11 xs).length ≤ 1011 := by
  simp only [okEnc, Bool.and_eq_true, Nat.ble_eq] at h
  obtain ⟨_, hr, hl⟩ := h
  have hb := encs_bytes xs (okX_iff.1 ho).1 hr
  have p := padI_ge (n := ((4 + (encsL xs).length : Nat) : Int)) (by omega)
  constructor
  · intro y hy
    unfold enc11 at hy
    simp only [List.mem_cons, List.mem_append] at hy
    rcases hy with rfl | rfl | rfl | rfl | hy | hy
    · exact ⟨0, by omega, rfl⟩
    · exact ⟨1, by omega, rfl⟩
    · exact nbyte_is _ _
    · exact nbyte_is _ _
    · exact hb y hy
    · rw [(List.mem_replicate.1 hy).2]; exact ⟨0, by omega, rfl⟩
  · unfold enc11
    simp only [List.length_cons, List.length_append, List.length_replicate]
    omega
theorem c20 {xs ys : List AV} (hx : okX xs = true) (hy : okX ys = true) : CallsA Try.prog 20 [.sl 6 xs .sh, .sl 6 ys .sh] [] (.bool true) [] := by
  have xy : (okX xs && okX ys) = true := by rw [hx, hy]; rfl
  have sx : ilt 60 (xs.length : Int) = false → (okX xs && shortX xs) = true := fun e => by
    rw [ilt_no] at e; rw [hx, Bool.true_and]; unfold shortX; rw [Nat.ble_eq]; omega
  have q3 : okEnc xs = true → (intsA IntKind.u8 (enc11 xs) && (intsA IntKind.u8 (enc11 xs) && (lenB (enc11 xs) && lenB (enc11 xs)))) = true := fun e => by
    obtain ⟨a, b⟩ := enc11_bytes hx e
    have l : lenB (enc11 xs) = true := lenB_small (by omega)
    have i : intsA IntKind.u8 (enc11 xs) = true := byteL_int a
    rw [l, i]; rfl
  have qe : eqA (enc11 xs) (enc11 xs) = true := eqA_self _
  have ee : ∀ n : Int, ieq n n = true := fun n => ieq_self n
  have ce : (true && (true && (ieq (chk11 xs) (chk11 xs) && true))) = true := by rw [ee]; rfl
  have oe : (eqO xs ys == eqO xs ys) = true := by simp
  refine book_ok.pth (by kernel_rfl) sp20_ok (p20 true xs ys _ (fun _ => rfl) (fun _ _ => rfl) (fun e _ => sx e) (fun _ _ e => q3 e) (fun _ _ _ _ => hx) (fun _ _ _ _ _ => xy) (fun _ _ _ _ _ _ => ?_) (fun _ _ _ _ _ h => ?_) (fun _ _ _ _ _ _ => xy) (fun _ _ _ _ _ _ _ => ?_) (fun _ _ _ _ _ _ h => ?_) (fun _ _ _ _ _ h => ?_) (fun _ _ _ h => ?_)
    (fun _ _ _ => hx) (fun _ _ _ _ => xy) (fun _ _ _ _ _ => ?_) (fun _ _ _ _ h => ?_) (fun _ _ _ _ _ => xy) (fun _ _ _ _ _ _ => ?_) (fun _ _ _ _ _ h => ?_) (fun _ _ _ _ h => ?_))
  · show (AV.bool (bif bif bif bif eqA (enc11 xs) (enc11 xs) then true else false then true else false then eqO xs ys == eqO xs ys else false then true else false), _) = _
    rw [qe, oe]; rfl
  · rw [oe] at h; cases h
  · show (AV.bool (bif bif bif bif eqA (enc11 xs) (enc11 xs) then true else false then true && (true && (ieq (chk11 xs) (chk11 xs) && true)) else false then eqO xs ys == eqO xs ys else false then true else false), _) = _
    rw [qe, oe, ce]; rfl
  · rw [oe] at h; cases h
  · rw [ce] at h; cases h
  · have h : eqA (enc11 xs) (enc11 xs) = false := h
    rw [qe] at h; cases h
  · rw [oe]; rfl
  · rw [oe] at h; cases h
  · rw [oe, ce]; rfl
  · rw [oe] at h; cases h
  · rw [ce] at h; cases h
theorem cMatchEncodes {xs ys : List AV} (hx : ∀ x ∈ xs, TyE true [.int .i64, .bool, .int .u64, .int .u64, .int .u64, .int .u64] x) (hl : xs.length ≤ maxLen) (hy : ∀ x ∈ ys, TyE true [.int .i64, .bool, .int .u64, .int .u64, .int .u64, .int .u64] x) (hm : ys.length ≤ maxLen) :
    CallsA Try.prog 20 [.sl 6 xs .sh, .sl 6 ys .sh] [] (.bool true) [] := c20 (tyx hx hl) (tyx hy hm)
end Go.Proofs.Ytdcijmigoefnjaa
