import Derived.Test.YtdcijmigoefnjaaD03
import Derived.Test.YtdcijmigoefnjaaPlO
import Derived.Test.YtdcijmigoefnjaaL10g
import Derived.Test.YtdcijmigoefnjaaPlB
import Derived.Test.YtdcijmigoefnjaaL11w
import Derived.Test.YtdcijmigoefnjaaEvLa
/- Chapter 11: a list of parts, out of what is handed over. -/
set_option linter.unusedVariables false
namespace Go.Proofs.Ytdcijmigoefnjaa
open Go Go.Ev

theorem ty_ox {x : AV} (h : TyE true [.int .i64, .bool, .int .u64, .int .u64, .int .u64, .int .u64] x) : isOx x = true := by
  obtain ⟨cs, rfl, h⟩ := h
  obtain ⟨y, e, hy⟩ := oxm_of h
  rw [e]
  have hy : ((inU y.2.2.1.1 && inU y.2.2.1.2) && (inU y.2.2.2.1 && inU y.2.2.2.2)) = true := hy
  show (inU y.2.2.1.1 && (inU y.2.2.1.2 && (inU y.2.2.2.1 && inU y.2.2.2.2))) = true
  simp only [Bool.and_eq_true] at hy ⊢
  exact ⟨hy.1.1, hy.1.2, hy.2.1, hy.2.2⟩
theorem tyx {xs : List AV} (hx : ∀ x ∈ xs, TyE true [.int .i64, .bool, .int .u64, .int .u64, .int .u64, .int .u64] x) (hl : xs.length ≤ maxLen) : okX xs = true := by
  unfold okX oxsB
  rw [show xs.all isOx = true from List.all_eq_true.2 fun x h => ty_ox (hx x h), tyb_len hl]; rfl
end Go.Proofs.Ytdcijmigoefnjaa

/- Chapter 04: what two headers have otherwise; the call of HeaderSets. -/
set_option linter.unusedVariables false
set_option linter.unusedSimpArgs false
set_option maxRecDepth 100000
set_option maxHeartbeats 0
namespace Go.Proofs.Ytdcijmigoefnjaa
open Go Go.Ev

structure P42 (x : X2) : Prop where
  i0 : 0 ≤ x.1
  i1 : x.1 ≤ 24
  len : (x.2.length : Int) ≤ x.1

end Go.Proofs.Ytdcijmigoefnjaa

/- Chapter 11: a match's bytes: the law's call. -/
set_option linter.unusedVariables false
set_option linter.unusedSimpArgs false
set_option maxRecDepth 100000
set_option maxHeartbeats 0
namespace Go.Proofs.Ytdcijmigoefnjaa
open Go Go.Ev

theorem nbyte_is (n s : Int) : isByte (nbyte n s) := by
  unfold nbyte
  refine ⟨(IntKind.u8.wrap (ishr .i64 n s)).toNat, ?_, ?_⟩ <;> (unfold IntKind.wrap; simp [IntKind.bits, IntKind.signed]; try omega)
theorem enc11_bytes {xs : List AV} (ho : okX xs = true) (h : okEnc xs = true) : byteL (enc11 xs) ∧ (enc11 xs).length ≤ 1011 := by
  simp only [okEnc, Bool.and_eq_true, Nat.ble_eq] at h
  obtain ⟨_, hr, hl⟩ := h
  have hb := encs_bytes xs (okX_iff.1 ho).1 hr
  have p := padI_ge (n := ((4 + (encsL xs).length : Nat) : Int)) (by omega)
  constructor
  · intro y hy
    unfold enc11 at hy
    simp only [List.mem_cons, List.mem_append] at hy
    rcases hy with rfl | rfl | rfl | rfl | hy | hy
    · exact ⟨0, by omega, rfl⟩
    · exact ⟨1, by omega, rfl⟩
    · exact nbyte_is _ _
    · exact nbyte_is _ _
    · exact hb y hy
    · rw [(List.mem_replicate.1 hy).2]; exact ⟨0, by omega, rfl⟩
  · unfold enc11
    simp only [List.length_cons, List.length_append, List.length_replicate]
    omega
end Go.Proofs.Ytdcijmigoefnjaa

/- Chapter 11: is there a byte that is not nought (printed by program; long names). -/
set_option linter.unusedVariables false
set_option maxRecDepth 100000
set_option maxHeartbeats 0
namespace Go.Proofs.Ytdcijmigoefnjaa
open Go Go.Ev

def r179_o0 (i : Int) (xs : List AV) : AS := AS.mk [AV.unk, AV.unk, AV.unk, AV.unk, AV.int IntKind.i64 i, AV.unk, AV.unk, AV.unk, AV.unk, AV.unk, AV.unk, AV.unk, AV.unk, AV.unk, AV.unk, AV.unk, AV.unk, AV.unk, AV.unk] []
def r179_o1 (i : Int) (xs : List AV) : AS := AS.mk [AV.unk, AV.unk, AV.unk, AV.unk, AV.unk, AV.unk, AV.unk, AV.unk, AV.unk, AV.unk, AV.unk, AV.unk, AV.unk, AV.unk, AV.unk, AV.unk, AV.unk, AV.unk, AV.unk] []
def r179_c0 (i : Int) (xs : List AV) : Bool := AV.has (TI.mk (TD.int IntKind.u8) 1 1 [AV.int IntKind.u8 0]) (xs.getD i.toNat AV.unk)
theorem r179 (i : Int) (xs : List AV) (Pr : _ → Prop) (F : _ → Ex × AS) (m : _ → Nat) (k0 : (ilt i (↑xs.length : Int)) = true → (inR i xs.length) = true) (k1 : (ilt i (↑xs.length : Int)) = true → (AV.has (TI.mk (TD.int IntKind.u8) 1 1 [AV.int IntKind.u8 0]) (xs.getD i.toNat AV.unk)) = true) (k2 : (ilt i (↑xs.length : Int)) = true → (!ieq (xs.getD i.toNat AV.unk).asInt 0) = true → F (i, xs) = (Ex.ret, r179_o0 i xs)) (k3 : (ilt i (↑xs.length : Int)) = true → (!ieq (xs.getD i.toNat AV.unk).asInt 0) = false → OnOk Pr F m (i, xs) ((iadd IntKind.i64 i 1, xs))) (k4 : (ilt i (↑xs.length : Int)) = false → F (i, xs) = (Ex.exit 0, r179_o1 i xs)) : Round (book.envP 179 sp179 big noLoops) (loopBody Try.f179 2) (book.clean 179 2) (book.clean 179 (2 + 500)) st179 pr179 Pr F m (i, xs) :=
  Round.of (Bool.rec (motive := fun _ => TE) (.ret (Ex.exit 0, r179_o1 i xs)) (Bool.rec (motive := fun _ => TE) .no (Bool.rec (motive := fun _ => TE) .no (.must (Same ([AV.int IntKind.u8 (xs.getD i.toNat AV.unk).asInt])) (Bool.rec (motive := fun _ => TE) (.must (Same (st179 (iadd IntKind.i64 i 1, xs))) (.ret (.normal, st179 ((iadd IntKind.i64 i 1, xs))))) (.ret (Ex.ret, r179_o0 i xs)) (!ieq (xs.getD i.toNat AV.unk).asInt 0))) ((r179_c0 i xs))) (inR i xs.length)) (ilt i (↑xs.length : Int))) (.s (.s .z .z) .z) (by kernel_rfl) (.ite (fun h0_0 => .step (k0 h0_0) (.step (k1 h0_0) (.must (same_ok _) (.ite (fun h2_3 => .out (k2 h0_0 h2_3)) (fun h2_3 => .must (same_ok _) (.next (k3 h0_0 h2_3))))))) (fun h0_0 => .exit (k4 h0_0)))
theorem p179 (xs : List AV) (r : AV × List (List AV)) (k0 : (L179.pre (0, xs)) = true) (k1 : (nzB xs) = true → ((AV.int IntKind.i64 (↑(ixN xs 0) : Int), [])) = r) (k2 : (nzB xs) = false → ((AV.int IntKind.i64 (-1), [])) = r) : Goes (runP (book.envP 179 sp179 big (loopsAt [(2, lp179)])) Try.f179 [.sl 1 xs .sh, .fn 141 []] [] (.s .z .z)) r :=
  Goes.of_eq (t' := .must (Same (st179 (0, xs))) (Bool.rec (motive := fun _ => TR) .no (Bool.rec (motive := fun _ => TR) (.ret ((AV.int IntKind.i64 (-1), []))) (.ret ((AV.int IntKind.i64 (↑(ixN xs 0) : Int), []))) (nzB xs)) (L179.pre (0, xs)))) (by kernel_rfl) (.must (same_ok _) (.step (k0) (.ite (fun h1_1 => Goes.leafE (k1 h1_1)) (fun h1_1 => Goes.leafE (k2 h1_1)))))
theorem p139 (xs : List AV) (r : AV × List (List AV)) (k0 : (okL xs) = true) (k1 : (nzB xs) = true → ((AV.bool true, [])) = r) (k2 : (nzB xs) = false → ((AV.bool false, [])) = r) : Goes (runP (book.envP 139 sp139 100 noLoops) Try.f139 [.sl 1 xs .sh, .fn 141 []] [] (.s .z .z)) r :=
  Goes.of_eq (t' := .must (Same ([AV.sl 1 xs St.sh, AV.fn 141 []])) (Bool.rec (motive := fun _ => TR) .no (Bool.rec (motive := fun _ => TR) (.ret ((AV.bool false, []))) (.ret ((AV.bool true, []))) (nzB xs)) (okL xs))) (by kernel_rfl) (.must (same_ok _) (.step (k0) (.ite (fun h1_1 => Goes.leafE (k1 h1_1)) (fun h1_1 => Goes.leafE (k2 h1_1)))))
theorem p141 (n : Int) (r : AV × List (List AV)) (k0 : ((AV.bool !ieq n 0, [])) = r) : Goes (runP (book.envP 141 noSpec 100 noLoops) Try.f141 [.int .u8 n] [] .z) r :=
  Goes.of_eq (t' := .ret ((AV.bool !ieq n 0, []))) (by kernel_rfl) (Goes.leafE (k0))

end Go.Proofs.Ytdcijmigoefnjaa
