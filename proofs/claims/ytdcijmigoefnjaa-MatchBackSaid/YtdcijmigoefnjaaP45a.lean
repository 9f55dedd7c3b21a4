import Derived.Test.YtdcijmigoefnjaaPlB
import Derived.Test.YtdcijmigoefnjaaL10g
import Derived.Test.YtdcijmigoefnjaaP11i
import Derived.Test.YtdcijmigoefnjaaPlO
import Derived.Test.YtdcijmigoefnjaaL11x
/- Chapter 45: numbers of bytes (printed by program). -/
set_option linter.unusedVariables false
set_option maxRecDepth 100000
set_option maxHeartbeats 0
namespace Go.Proofs.Ytdcijmigoefnjaa
open Go Go.Ev

def p178_1_c0 (xs : List AV) (at_ : Int) : Bool := ilt 0 (↑(List.take ((iadd IntKind.i64 at_ 1).toNat - at_.toNat) (List.drop at_.toNat xs)).length : Int)
def p178_1_c1 (xs : List AV) (at_ : Int) : Bool := inR 0 (List.take ((iadd IntKind.i64 at_ 1).toNat - at_.toNat) (List.drop at_.toNat xs)).length
def p178_1_c2 (xs : List AV) (at_ : Int) : Bool := AV.has (TI.mk (TD.int zk) 1 1 [zB 0]) ((List.take ((iadd IntKind.i64 at_ 1).toNat - at_.toNat) (List.drop at_.toNat xs)).getD 0 zN)
def p178_1_c3 (xs : List AV) (at_ : Int) : Bool := ilt 1 (↑(List.take ((iadd IntKind.i64 at_ 1).toNat - at_.toNat) (List.drop at_.toNat xs)).length : Int)
theorem p178_1 (xs : List AV) (at_ : Int) (r : AV × List (List AV)) (k0 : (ilt at_ 0) = false) (k1 : (ilt (isub IntKind.i64 (↑xs.length : Int) at_) 1) = false) (k2 : (inR (iadd IntKind.i64 at_ 1) (xs.length + 1)) = true) (k3 : (inR at_ ((iadd IntKind.i64 at_ 1).toNat + 1)) = true) (k4 : (ilt 0 (↑(List.take ((iadd IntKind.i64 at_ 1).toNat - at_.toNat) (List.drop at_.toNat xs)).length : Int)) = true) (k5 : (inR 0 (List.take ((iadd IntKind.i64 at_ 1).toNat - at_.toNat) (List.drop at_.toNat xs)).length) = true) (k6 : (AV.has (TI.mk (TD.int zk) 1 1 [zB 0]) ((List.take ((iadd IntKind.i64 at_ 1).toNat - at_.toNat) (List.drop at_.toNat xs)).getD 0 zN)) = true) (k7 : (ilt 1 (↑(List.take ((iadd IntKind.i64 at_ 1).toNat - at_.toNat) (List.drop at_.toNat xs)).length : Int)) = false) (k8 : ((AV.tup [zI (ibits BinOp.or IntKind.i64 0 (IntKind.i64.wrap ((List.take ((iadd IntKind.i64 at_ 1).toNat - at_.toNat) (List.drop at_.toNat xs)).getD 0 zN).asInt)), zI 0], [])) = r) : Goes (runP (book.envP 178 spNG 100 noLoops) Try.f178 [.sl 1 xs .sh, .int .i64 at_, .int .i64 1] [] (.f (.f (.f (.f (.t (.f .z))))))) r :=
  Goes.of_eq (t' := Bool.rec (motive := fun _ => TR) .no (Bool.rec (motive := fun _ => TR) .no (Bool.rec (motive := fun _ => TR) .no (Bool.rec (motive := fun _ => TR) .no (Bool.rec (motive := fun _ => TR) .no (Bool.rec (motive := fun _ => TR) .no (Bool.rec (motive := fun _ => TR) .no (Bool.rec (motive := fun _ => TR) .no (.ret ((AV.tup [zI (ibits BinOp.or IntKind.i64 0 (IntKind.i64.wrap ((List.take ((iadd IntKind.i64 at_ 1).toNat - at_.toNat) (List.drop at_.toNat xs)).getD 0 zN).asInt)), zI 0], []))) (asTold ((p178_1_c3 xs at_)) false)) ((p178_1_c2 xs at_))) ((p178_1_c1 xs at_))) (asTold ((p178_1_c0 xs at_)) true)) (inR at_ ((iadd IntKind.i64 at_ 1).toNat + 1))) (inR (iadd IntKind.i64 at_ 1) (xs.length + 1))) (asTold (ilt (isub IntKind.i64 (↑xs.length : Int) at_) 1) false)) (asTold (ilt at_ 0) false)) (by kernel_rfl) (.step (told (k0)) (.step (told (k1)) (.step (k2) (.step (k3) (.step (told (k4)) (.step (k5) (.step (k6) (.step (told (k7)) (Goes.leafE (k8))))))))))
def p178_2_c0 (xs : List AV) (at_ : Int) : Bool := ilt 0 (↑(List.take ((iadd IntKind.i64 at_ 2).toNat - at_.toNat) (List.drop at_.toNat xs)).length : Int)
def p178_2_c1 (xs : List AV) (at_ : Int) : Bool := inR 0 (List.take ((iadd IntKind.i64 at_ 2).toNat - at_.toNat) (List.drop at_.toNat xs)).length
def p178_2_c2 (xs : List AV) (at_ : Int) : Bool := AV.has (TI.mk (TD.int zk) 1 1 [zB 0]) ((List.take ((iadd IntKind.i64 at_ 2).toNat - at_.toNat) (List.drop at_.toNat xs)).getD 0 zN)
def p178_2_c3 (xs : List AV) (at_ : Int) : Bool := ilt 1 (↑(List.take ((iadd IntKind.i64 at_ 2).toNat - at_.toNat) (List.drop at_.toNat xs)).length : Int)
def p178_2_c4 (xs : List AV) (at_ : Int) : Bool := inR 1 (List.take ((iadd IntKind.i64 at_ 2).toNat - at_.toNat) (List.drop at_.toNat xs)).length
def p178_2_c5 (xs : List AV) (at_ : Int) : Bool := AV.has (TI.mk (TD.int zk) 1 1 [zB 0]) ((List.take ((iadd IntKind.i64 at_ 2).toNat - at_.toNat) (List.drop at_.toNat xs)).getD 1 zN)
def p178_2_c6 (xs : List AV) (at_ : Int) : Bool := ilt 2 (↑(List.take ((iadd IntKind.i64 at_ 2).toNat - at_.toNat) (List.drop at_.toNat xs)).length : Int)
theorem p178_2 (xs : List AV) (at_ : Int) (r : AV × List (List AV)) (k0 : (ilt at_ 0) = false) (k1 : (ilt (isub IntKind.i64 (↑xs.length : Int) at_) 2) = false) (k2 : (inR (iadd IntKind.i64 at_ 2) (xs.length + 1)) = true) (k3 : (inR at_ ((iadd IntKind.i64 at_ 2).toNat + 1)) = true) (k4 : (ilt 0 (↑(List.take ((iadd IntKind.i64 at_ 2).toNat - at_.toNat) (List.drop at_.toNat xs)).length : Int)) = true) (k5 : (inR 0 (List.take ((iadd IntKind.i64 at_ 2).toNat - at_.toNat) (List.drop at_.toNat xs)).length) = true) (k6 : (AV.has (TI.mk (TD.int zk) 1 1 [zB 0]) ((List.take ((iadd IntKind.i64 at_ 2).toNat - at_.toNat) (List.drop at_.toNat xs)).getD 0 zN)) = true) (k7 : (ilt 1 (↑(List.take ((iadd IntKind.i64 at_ 2).toNat - at_.toNat) (List.drop at_.toNat xs)).length : Int)) = true) (k8 : (inR 1 (List.take ((iadd IntKind.i64 at_ 2).toNat - at_.toNat) (List.drop at_.toNat xs)).length) = true) (k9 : (AV.has (TI.mk (TD.int zk) 1 1 [zB 0]) ((List.take ((iadd IntKind.i64 at_ 2).toNat - at_.toNat) (List.drop at_.toNat xs)).getD 1 zN)) = true) (k10 : (ilt 2 (↑(List.take ((iadd IntKind.i64 at_ 2).toNat - at_.toNat) (List.drop at_.toNat xs)).length : Int)) = false) (k11 : ((AV.tup [zI (ibits BinOp.or IntKind.i64 (ishl IntKind.i64 (ibits BinOp.or IntKind.i64 0 (IntKind.i64.wrap ((List.take ((iadd IntKind.i64 at_ 2).toNat - at_.toNat) (List.drop at_.toNat xs)).getD 0 zN).asInt)) 8) (IntKind.i64.wrap ((List.take ((iadd IntKind.i64 at_ 2).toNat - at_.toNat) (List.drop at_.toNat xs)).getD 1 zN).asInt)), zI 0], [])) = r) : Goes (runP (book.envP 178 spNG 100 noLoops) Try.f178 [.sl 1 xs .sh, .int .i64 at_, .int .i64 2] [] (.f (.f (.f (.f (.t (.t (.f .z)))))))) r :=
  Goes.of_eq (t' := Bool.rec (motive := fun _ => TR) .no (Bool.rec (motive := fun _ => TR) .no (Bool.rec (motive := fun _ => TR) .no (Bool.rec (motive := fun _ => TR) .no (Bool.rec (motive := fun _ => TR) .no (Bool.rec (motive := fun _ => TR) .no (Bool.rec (motive := fun _ => TR) .no (Bool.rec (motive := fun _ => TR) .no (Bool.rec (motive := fun _ => TR) .no (Bool.rec (motive := fun _ => TR) .no (Bool.rec (motive := fun _ => TR) .no (.ret ((AV.tup [zI (ibits BinOp.or IntKind.i64 (ishl IntKind.i64 (ibits BinOp.or IntKind.i64 0 (IntKind.i64.wrap ((List.take ((iadd IntKind.i64 at_ 2).toNat - at_.toNat) (List.drop at_.toNat xs)).getD 0 zN).asInt)) 8) (IntKind.i64.wrap ((List.take ((iadd IntKind.i64 at_ 2).toNat - at_.toNat) (List.drop at_.toNat xs)).getD 1 zN).asInt)), zI 0], []))) (asTold ((p178_2_c6 xs at_)) false)) ((p178_2_c5 xs at_))) ((p178_2_c4 xs at_))) (asTold ((p178_2_c3 xs at_)) true)) ((p178_2_c2 xs at_))) ((p178_2_c1 xs at_))) (asTold ((p178_2_c0 xs at_)) true)) (inR at_ ((iadd IntKind.i64 at_ 2).toNat + 1))) (inR (iadd IntKind.i64 at_ 2) (xs.length + 1))) (asTold (ilt (isub IntKind.i64 (↑xs.length : Int) at_) 2) false)) (asTold (ilt at_ 0) false)) (by kernel_rfl) (.step (told (k0)) (.step (told (k1)) (.step (k2) (.step (k3) (.step (told (k4)) (.step (k5) (.step (k6) (.step (told (k7)) (.step (k8) (.step (k9) (.step (told (k10)) (Goes.leafE (k11)))))))))))))
def p178_4_c0 (xs : List AV) (at_ : Int) : Bool := ilt 0 (↑(List.take ((iadd IntKind.i64 at_ 4).toNat - at_.toNat) (List.drop at_.toNat xs)).length : Int)
def p178_4_c1 (xs : List AV) (at_ : Int) : Bool := inR 0 (List.take ((iadd IntKind.i64 at_ 4).toNat - at_.toNat) (List.drop at_.toNat xs)).length
def p178_4_c2 (xs : List AV) (at_ : Int) : Bool := AV.has (TI.mk (TD.int zk) 1 1 [zB 0]) ((List.take ((iadd IntKind.i64 at_ 4).toNat - at_.toNat) (List.drop at_.toNat xs)).getD 0 zN)
def p178_4_c3 (xs : List AV) (at_ : Int) : Bool := ilt 1 (↑(List.take ((iadd IntKind.i64 at_ 4).toNat - at_.toNat) (List.drop at_.toNat xs)).length : Int)
def p178_4_c4 (xs : List AV) (at_ : Int) : Bool := inR 1 (List.take ((iadd IntKind.i64 at_ 4).toNat - at_.toNat) (List.drop at_.toNat xs)).length
def p178_4_c5 (xs : List AV) (at_ : Int) : Bool := AV.has (TI.mk (TD.int zk) 1 1 [zB 0]) ((List.take ((iadd IntKind.i64 at_ 4).toNat - at_.toNat) (List.drop at_.toNat xs)).getD 1 zN)
def p178_4_c6 (xs : List AV) (at_ : Int) : Bool := ilt 2 (↑(List.take ((iadd IntKind.i64 at_ 4).toNat - at_.toNat) (List.drop at_.toNat xs)).length : Int)
def p178_4_c7 (xs : List AV) (at_ : Int) : Bool := inR 2 (List.take ((iadd IntKind.i64 at_ 4).toNat - at_.toNat) (List.drop at_.toNat xs)).length
def p178_4_c8 (xs : List AV) (at_ : Int) : Bool := AV.has (TI.mk (TD.int zk) 1 1 [zB 0]) ((List.take ((iadd IntKind.i64 at_ 4).toNat - at_.toNat) (List.drop at_.toNat xs)).getD 2 zN)
def p178_4_c9 (xs : List AV) (at_ : Int) : Bool := ilt 3 (↑(List.take ((iadd IntKind.i64 at_ 4).toNat - at_.toNat) (List.drop at_.toNat xs)).length : Int)
def p178_4_c10 (xs : List AV) (at_ : Int) : Bool := inR 3 (List.take ((iadd IntKind.i64 at_ 4).toNat - at_.toNat) (List.drop at_.toNat xs)).length
def p178_4_c11 (xs : List AV) (at_ : Int) : Bool := AV.has (TI.mk (TD.int zk) 1 1 [zB 0]) ((List.take ((iadd IntKind.i64 at_ 4).toNat - at_.toNat) (List.drop at_.toNat xs)).getD 3 zN)
def p178_4_c12 (xs : List AV) (at_ : Int) : Bool := ilt 4 (↑(List.take ((iadd IntKind.i64 at_ 4).toNat - at_.toNat) (List.drop at_.toNat xs)).length : Int)
theorem p178_4 (xs : List AV) (at_ : Int) (r : AV × List (List AV)) (k0 : (ilt at_ 0) = false) (k1 : (ilt (isub IntKind.i64 (↑xs.length : Int) at_) 4) = false) (k2 : (inR (iadd IntKind.i64 at_ 4) (xs.length + 1)) = true) (k3 : (inR at_ ((iadd IntKind.i64 at_ 4).toNat + 1)) = true) (k4 : (ilt 0 (↑(List.take ((iadd IntKind.i64 at_ 4).toNat - at_.toNat) (List.drop at_.toNat xs)).length : Int)) = true) (k5 : (inR 0 (List.take ((iadd IntKind.i64 at_ 4).toNat - at_.toNat) (List.drop at_.toNat xs)).length) = true) (k6 : (AV.has (TI.mk (TD.int zk) 1 1 [zB 0]) ((List.take ((iadd IntKind.i64 at_ 4).toNat - at_.toNat) (List.drop at_.toNat xs)).getD 0 zN)) = true) (k7 : (ilt 1 (↑(List.take ((iadd IntKind.i64 at_ 4).toNat - at_.toNat) (List.drop at_.toNat xs)).length : Int)) = true) (k8 : (inR 1 (List.take ((iadd IntKind.i64 at_ 4).toNat - at_.toNat) (List.drop at_.toNat xs)).length) = true) (k9 : (AV.has (TI.mk (TD.int zk) 1 1 [zB 0]) ((List.take ((iadd IntKind.i64 at_ 4).toNat - at_.toNat) (List.drop at_.toNat xs)).getD 1 zN)) = true) (k10 : (ilt 2 (↑(List.take ((iadd IntKind.i64 at_ 4).toNat - at_.toNat) (List.drop at_.toNat xs)).length : Int)) = true) (k11 : (inR 2 (List.take ((iadd IntKind.i64 at_ 4).toNat - at_.toNat) (List.drop at_.toNat xs)).length) = true) (k12 : (AV.has (TI.mk (TD.int zk) 1 1 [zB 0]) ((List.take ((iadd IntKind.i64 at_ 4).toNat - at_.toNat) (List.drop at_.toNat xs)).getD 2 zN)) = true) (k13 : (ilt 3 (↑(List.take ((iadd IntKind.i64 at_ 4).toNat - at_.toNat) (List.drop at_.toNat xs)).length : Int)) = true) (k14 : (inR 3 (List.take ((iadd IntKind.i64 at_ 4).toNat - at_.toNat) (List.drop at_.toNat xs)).length) = true) (k15 : (AV.has (TI.mk (TD.int zk) 1 1 [zB 0]) ((List.take ((iadd IntKind.i64 at_ 4).toNat - at_.toNat) (List.drop at_.toNat xs)).getD 3 zN)) = true) (k16 : (ilt 4 (↑(List.take ((iadd IntKind.i64 at_ 4).toNat - at_.toNat) (List.drop at_.toNat xs)).length : Int)) = false) (k17 : ((AV.tup [zI (ibits BinOp.or IntKind.i64 (ishl IntKind.i64 (ibits BinOp.or IntKind.i64 (ishl IntKind.i64 (ibits BinOp.or IntKind.i64 (ishl IntKind.i64 (ibits BinOp.or IntKind.i64 0 (IntKind.i64.wrap ((List.take ((iadd IntKind.i64 at_ 4).toNat - at_.toNat) (List.drop at_.toNat xs)).getD 0 zN).asInt)) 8) (IntKind.i64.wrap ((List.take ((iadd IntKind.i64 at_ 4).toNat - at_.toNat) (List.drop at_.toNat xs)).getD 1 zN).asInt)) 8) (IntKind.i64.wrap ((List.take ((iadd IntKind.i64 at_ 4).toNat - at_.toNat) (List.drop at_.toNat xs)).getD 2 zN).asInt)) 8) (IntKind.i64.wrap ((List.take ((iadd IntKind.i64 at_ 4).toNat - at_.toNat) (List.drop at_.toNat xs)).getD 3 zN).asInt)), zI 0], [])) = r) : Goes (runP (book.envP 178 spNG 100 noLoops) Try.f178 [.sl 1 xs .sh, .int .i64 at_, .int .i64 4] [] (.f (.f (.f (.f (.t (.t (.t (.t (.f .z)))))))))) r :=
  Goes.of_eq (t' := Bool.rec (motive := fun _ => TR) .no (Bool.rec (motive := fun _ => TR) .no (Bool.rec (motive := fun _ => TR) .no (Bool.rec (motive := fun _ => TR) .no (Bool.rec (motive := fun _ => TR) .no (Bool.rec (motive := fun _ => TR) .no (Bool.rec (motive := fun _ => TR) .no (Bool.rec (motive := fun _ => TR) .no (Bool.rec (motive := fun _ => TR) .no (Bool.rec (motive := fun _ => TR) .no (Bool.rec (motive := fun _ => TR) .no (Bool.rec (motive := fun _ => TR) .no (Bool.rec (motive := fun _ => TR) .no (Bool.rec (motive := fun _ => TR) .no (Bool.rec (motive := fun _ => TR) .no (Bool.rec (motive := fun _ => TR) .no (Bool.rec (motive := fun _ => TR) .no (.ret ((AV.tup [zI (ibits BinOp.or IntKind.i64 (ishl IntKind.i64 (ibits BinOp.or IntKind.i64 (ishl IntKind.i64 (ibits BinOp.or IntKind.i64 (ishl IntKind.i64 (ibits BinOp.or IntKind.i64 0 (IntKind.i64.wrap ((List.take ((iadd IntKind.i64 at_ 4).toNat - at_.toNat) (List.drop at_.toNat xs)).getD 0 zN).asInt)) 8) (IntKind.i64.wrap ((List.take ((iadd IntKind.i64 at_ 4).toNat - at_.toNat) (List.drop at_.toNat xs)).getD 1 zN).asInt)) 8) (IntKind.i64.wrap ((List.take ((iadd IntKind.i64 at_ 4).toNat - at_.toNat) (List.drop at_.toNat xs)).getD 2 zN).asInt)) 8) (IntKind.i64.wrap ((List.take ((iadd IntKind.i64 at_ 4).toNat - at_.toNat) (List.drop at_.toNat xs)).getD 3 zN).asInt)), zI 0], []))) (asTold ((p178_4_c12 xs at_)) false)) ((p178_4_c11 xs at_))) ((p178_4_c10 xs at_))) (asTold ((p178_4_c9 xs at_)) true)) ((p178_4_c8 xs at_))) ((p178_4_c7 xs at_))) (asTold ((p178_4_c6 xs at_)) true)) ((p178_4_c5 xs at_))) ((p178_4_c4 xs at_))) (asTold ((p178_4_c3 xs at_)) true)) ((p178_4_c2 xs at_))) ((p178_4_c1 xs at_))) (asTold ((p178_4_c0 xs at_)) true)) (inR at_ ((iadd IntKind.i64 at_ 4).toNat + 1))) (inR (iadd IntKind.i64 at_ 4) (xs.length + 1))) (asTold (ilt (isub IntKind.i64 (↑xs.length : Int) at_) 4) false)) (asTold (ilt at_ 0) false)) (by kernel_rfl) (.step (told (k0)) (.step (told (k1)) (.step (k2) (.step (k3) (.step (told (k4)) (.step (k5) (.step (k6) (.step (told (k7)) (.step (k8) (.step (k9) (.step (told (k10)) (.step (k11) (.step (k12) (.step (told (k13)) (.step (k14) (.step (k15) (.step (told (k16)) (Goes.leafE (k17)))))))))))))))))))
end Go.Proofs.Ytdcijmigoefnjaa

/- Chapter 45: numbers of bytes: contracts. -/
set_option linter.unusedVariables false
set_option linter.unusedSimpArgs false
set_option maxRecDepth 100000
set_option maxHeartbeats 0
namespace Go.Proofs.Ytdcijmigoefnjaa
open Go Go.Ev

theorem okL_iff {xs : List AV} : okL xs = true ↔ byteL xs ∧ xs.length ≤ 9223372036854775807 := by
  unfold okL; rw [Bool.and_eq_true, bytB_iff]; unfold lenB; rw [Nat.ble_eq]
theorem spNG_ok : SpecTL Try.prog spNG := ⟨Sum.T_ok (Book.all_ok book_ok 100 3 193), trivial⟩
theorem drop_byte {xs : List AV} (hb : byteL xs) {o : Nat} (h : o < xs.length) : ∃ z : Nat, z < 256 ∧ xs.drop o = .int .u8 (z : Int) :: xs.drop (o + 1) ∧ xs.getD o .unk = .int .u8 (z : Int) := by
  obtain ⟨z, hz, e⟩ := byteL_get hb h
  refine ⟨z, hz, ?_, e⟩
  rw [drop_getD (d := AV.unk) h, e]
theorem or8 (a b : Nat) (ha : a < 36028797018963968) (hb : b < 256) : ibits .or .i64 (ishl .i64 (a : Int) 8) (IntKind.i64.wrap (b : Int)) = ((a * 256 + b : Nat) : Int) := by
  have e1 : ishl .i64 (a : Int) 8 = ((a * 256 : Nat) : Int) := by
    unfold ishl
    rw [IntKind.wrap_i64]
    simp [IntKind.bits]; omega
  have e2 : IntKind.i64.wrap (b : Int) = (b : Int) := by rw [IntKind.wrap_i64]; omega
  have e4 : (a * 256) ||| b = a * 256 + b := or_add _ _ hb
  rw [e1, e2, ibits_eq]
  show IntKind.i64.wrap _ = _
  have e : (BitVec.ofInt IntKind.i64.bits ((a * 256 : Nat) : Int) ||| BitVec.ofInt IntKind.i64.bits (b : Int)).toNat = (a * 256) ||| b := by
    show (BitVec.ofInt 64 ((a * 256 : Nat) : Int) ||| BitVec.ofInt 64 (b : Int)).toNat = _
    rw [BitVec.toNat_or, BitVec.ofInt_natCast, BitVec.ofInt_natCast, BitVec.toNat_ofNat, BitVec.toNat_ofNat, Nat.mod_eq_of_lt (by omega), Nat.mod_eq_of_lt (by omega)]
  rw [e, e4, IntKind.wrap_i64]; omega
theorem c178 (x : List AV × Int × Int) (hx : (okL x.1 && ((numNs.any fun m => ieq x.2.2 m) && (ile 0 x.2.1 && ile (x.2.1 + x.2.2) x.1.length))) = true) : CallsA Try.prog 178 [.sl 1 x.1 .sh, .int .i64 x.2.1, .int .i64 x.2.2] [] (Tree.leaf (.tup [.int .i64 (nv x.1 x.2.1.toNat x.2.2.toNat), .int .i64 0])).val [] := by
  obtain ⟨xs, at_, n⟩ := x
  simp only [Bool.and_eq_true, okL_iff, ile_iff'] at hx
  obtain ⟨⟨hb, hl⟩, hn, h0, h1⟩ := hx
  obtain ⟨o, rfl⟩ : ∃ o : Nat, at_ = o := ⟨at_.toNat, by omega⟩
  have ia1 : (o : Int) + 1 ≤ xs.length → iadd .i64 (o : Int) 1 = ((o + 1 : Nat) : Int) := fun h => by rw [iadd_small (by omega) (by omega)]; omega
  have ia2 : (o : Int) + 2 ≤ xs.length → iadd .i64 (o : Int) 2 = ((o + 2 : Nat) : Int) := fun h => by rw [iadd_small (by omega) (by omega)]; omega
  have ia3 : (o : Int) + 3 ≤ xs.length → iadd .i64 (o : Int) 3 = ((o + 3 : Nat) : Int) := fun h => by rw [iadd_small (by omega) (by omega)]; omega
  have ia4 : (o : Int) + 4 ≤ xs.length → iadd .i64 (o : Int) 4 = ((o + 4 : Nat) : Int) := fun h => by rw [iadd_small (by omega) (by omega)]; omega
  have isb : isub .i64 (xs.length : Int) (o : Int) = (xs.length : Int) - o ∨ (xs.length : Int) < o := by
    by_cases h : (xs.length : Int) < o
    · exact .inr h
    · left; unfold isub; rw [IntKind.wrap_i64]; omega
  revert h1
  refine num_cases (P := fun n => (o : Int) + n ≤ xs.length → CallsA Try.prog 178 [.sl 1 xs .sh, .int .i64 (o : Int), .int .i64 n] [] (.tup [.int .i64 (nv xs (o : Int).toNat n.toNat), .int .i64 0]) []) (fun h1 => ?_) (fun h1 => ?_) (fun h1 => ?_) hn
  · obtain ⟨z0, a0, b0, _⟩ := drop_byte hb (o := o) (by omega)
    have e : List.take ((iadd .i64 (o : Int) 1).toNat - (o : Int).toNat) (List.drop (o : Int).toNat xs) = [.int .u8 (z0 : Int)] := by
      rw [ia1 h1, Int.toNat_natCast, Int.toNat_natCast, show o + 1 - o = 1 by omega, b0]; rfl
    have v : nv xs (o : Int).toNat (1 : Int).toNat = (z0 : Int) := by unfold nv; rw [Int.toNat_natCast, b0]; simp [valB, AV.asInt]
    refine book_ok.pth (by kernel_rfl) spNG_ok (p178_1 xs o _ ?_ ?_ ?_ ?_ ?_ ?_ ?_ ?_ ?_)
    · rw [ilt_no]; omega
    · rcases isb with h | h <;> rw [ilt_no] <;> omega
    · rw [ia1 h1]; exact inR_iff.2 ⟨by omega, by omega⟩
    · rw [ia1 h1]; exact inR_iff.2 ⟨by omega, by omega⟩
    all_goals rw [e]
    · rfl
    · rfl
    · rfl
    · rfl
    · have := or8 0 z0 (by omega) a0
      rw [v]
      show (AV.tup [.int .i64 (ibits .or .i64 (ishl .i64 ((0 : Nat) : Int) 8) (IntKind.i64.wrap (z0 : Int))), .int .i64 0], _) = _
      rw [this]; simp
  · obtain ⟨z0, a0, b0, _⟩ := drop_byte hb (o := o) (by omega)
    obtain ⟨z1, a1, b1, _⟩ := drop_byte hb (o := o + 1) (by omega)
    have e : List.take ((iadd .i64 (o : Int) 2).toNat - (o : Int).toNat) (List.drop (o : Int).toNat xs) = [.int .u8 (z0 : Int), .int .u8 (z1 : Int)] := by
      rw [ia2 h1, Int.toNat_natCast, Int.toNat_natCast, show o + 2 - o = 2 by omega, b0, b1]; rfl
    have v : nv xs (o : Int).toNat (2 : Int).toNat = ((z0 * 256 + z1 : Nat) : Int) := by unfold nv; rw [Int.toNat_natCast, b0, b1]; simp [valB, AV.asInt]
    refine book_ok.pth (by kernel_rfl) spNG_ok (p178_2 xs o _ ?_ ?_ ?_ ?_ ?_ ?_ ?_ ?_ ?_ ?_ ?_ ?_)
    · rw [ilt_no]; omega
    · rcases isb with h | h <;> rw [ilt_no] <;> omega
    · rw [ia2 h1]; exact inR_iff.2 ⟨by omega, by omega⟩
    · rw [ia2 h1]; exact inR_iff.2 ⟨by omega, by omega⟩
    all_goals rw [e]
    iterate 7 rfl
    · have q0 := or8 0 z0 (by omega) a0
      have q1 := or8 z0 z1 (by omega) a1
      rw [v]
      show (AV.tup [.int .i64 (ibits .or .i64 (ishl .i64 (ibits .or .i64 (ishl .i64 ((0 : Nat) : Int) 8) (IntKind.i64.wrap (z0 : Int))) 8) (IntKind.i64.wrap (z1 : Int))), .int .i64 0], _) = _
      rw [q0, Nat.zero_mul, Nat.zero_add, q1]
  · obtain ⟨z0, a0, b0, _⟩ := drop_byte hb (o := o) (by omega)
    obtain ⟨z1, a1, b1, _⟩ := drop_byte hb (o := o + 1) (by omega)
    obtain ⟨z2, a2, b2, _⟩ := drop_byte hb (o := o + 1 + 1) (by omega)
    obtain ⟨z3, a3, b3, _⟩ := drop_byte hb (o := o + 1 + 1 + 1) (by omega)
    have e : List.take ((iadd .i64 (o : Int) 4).toNat - (o : Int).toNat) (List.drop (o : Int).toNat xs) = [.int .u8 (z0 : Int), .int .u8 (z1 : Int), .int .u8 (z2 : Int), .int .u8 (z3 : Int)] := by
      rw [ia4 h1, Int.toNat_natCast, Int.toNat_natCast, show o + 4 - o = 4 by omega, b0, b1, b2, b3]; rfl
    have v : nv xs (o : Int).toNat (4 : Int).toNat = ((((z0 * 256 + z1) * 256 + z2) * 256 + z3 : Nat) : Int) := by unfold nv; rw [Int.toNat_natCast, b0, b1, b2, b3]; simp [valB, AV.asInt]
    refine book_ok.pth (by kernel_rfl) spNG_ok (p178_4 xs o _ ?_ ?_ ?_ ?_ ?_ ?_ ?_ ?_ ?_ ?_ ?_ ?_ ?_ ?_ ?_ ?_ ?_ ?_)
    · rw [ilt_no]; omega
    · rcases isb with h | h <;> rw [ilt_no] <;> omega
    · rw [ia4 h1]; exact inR_iff.2 ⟨by omega, by omega⟩
    · rw [ia4 h1]; exact inR_iff.2 ⟨by omega, by omega⟩
    all_goals rw [e]
    iterate 13 rfl
    · have q0 := or8 0 z0 (by omega) a0
      have q1 := or8 z0 z1 (by omega) a1
      have q2 := or8 (z0 * 256 + z1) z2 (by omega) a2
      have q3 := or8 ((z0 * 256 + z1) * 256 + z2) z3 (by omega) a3
      rw [v]
      show (AV.tup [.int .i64 (ibits .or .i64 (ishl .i64 (ibits .or .i64 (ishl .i64 (ibits .or .i64 (ishl .i64 (ibits .or .i64 (ishl .i64 ((0 : Nat) : Int) 8) (IntKind.i64.wrap (z0 : Int))) 8) (IntKind.i64.wrap (z1 : Int))) 8) (IntKind.i64.wrap (z2 : Int))) 8) (IntKind.i64.wrap (z3 : Int))), .int .i64 0], _) = _
      rw [q0, Nat.zero_mul, Nat.zero_add, q1, q2, q3]

end Go.Proofs.Ytdcijmigoefnjaa

/- Chapter 11: a match out of bytes: contracts. -/
set_option linter.unusedVariables false
set_option linter.unusedSimpArgs false
set_option maxRecDepth 100000
set_option maxHeartbeats 0
namespace Go.Proofs.Ytdcijmigoefnjaa
open Go Go.Ev

theorem ile_f {a b : Int} : ile a b = false ↔ b < a := by simp [ile]
theorem s178h : SumTOk Try.prog 178 S178h := sumW_ok fun x hx => by
  obtain ⟨xs, at_⟩ := x
  have hx : (okL xs && (ile 0 at_ && ile at_ 1000)) = true := hx
  simp only [Bool.and_eq_true, ile_iff'] at hx
  obtain ⟨ho, h0, h1⟩ := hx
  cases hq : ile (at_ + 2) (xs.length : Int) with
  | true =>
    have hp : (okL xs && ((numNs.any fun m => ieq 2 m) && (ile 0 at_ && ile (at_ + 2) xs.length))) = true := by
      rw [ho, hq, ile_iff'.2 h0]; rfl
    have := c178 (xs, at_, 2) hp
    exact this
  | false =>
    have hl := (okL_iff.1 ho).2
    rw [ile_f] at hq
    refine book_ok.pth (by kernel_rfl) spNG_ok (p178h xs at_ _ (by rw [ilt_no]; omega) ?_ ?_)
    · have : isub .i64 (xs.length : Int) at_ = (xs.length : Int) - at_ := by unfold isub; rw [IntKind.wrap_i64]; omega
      rw [this, ilt_iff]; omega
    · rfl
theorem sp138h_ok : SpecTL Try.prog sp138h := ⟨s178h, s140, s142, trivial⟩
theorem nv2_lt {xs : List AV} {o : Nat} (hb : byteL xs) : 0 ≤ nv xs o 2 ∧ nv xs o 2 < 65536 := by
  have := valB_lt (xs := (xs.drop o).take 2) (fun y hy => hb y (List.mem_of_mem_drop (List.mem_of_mem_take hy)))
  have h2 : ((xs.drop o).take 2).length ≤ 2 := by rw [List.length_take]; omega
  unfold nv
  refine ⟨by omega, ?_⟩
  have : 256 ^ ((xs.drop o).take 2).length ≤ 256 ^ 2 := Nat.pow_le_pow_right (by omega) h2
  omega
theorem s138 : SumTOk Try.prog 138 S138 := sumW_ok fun xs h => by
  have h : okL xs = true := h
  have hb := (okL_iff.1 h).1
  have nr := nv2_lt (o := 2) hb
  have lt : ile 4 (xs.length : Int) = true → ilt (xs.length : Int) 4 = false := fun e => by rw [ile_iff'] at e; rw [ilt_no]; omega
  have ge : ile 4 (xs.length : Int) = false → ilt (xs.length : Int) 4 = true := fun e => by rw [ile_f] at e; rw [ilt_iff]; omega
  have im : ile 2 (xs.length : Int) = false → ile 4 (xs.length : Int) = true → False := fun e e2 => by rw [ile_f] at e; rw [ile_iff'] at e2; omega
  have sm : (true && ile (nv xs 2 2) 1000000) = true := by rw [Bool.true_and, ile_iff']; omega
  have go : ∀ c : Int, hdC xs = c → c ≠ -1 → (AV.tup [AV.int IntKind.i64 0, AV.agg [AV.bool true, AV.int IntKind.i64 4, AV.int IntKind.i64 c]], ([] : List (List AV))) = (Tree.val (.ite (ieq (hdC xs) (-1)) (.leaf (.tup [.int .i64 (nv xs 2 2), .agg noF])) (.leaf (.tup [.int .i64 0, .agg (baF (hdC xs))]))), []) := fun c e n => by
    rw [e, show ieq c (-1) = false by simp [ieq, n]]; rfl
  refine book_ok.pth (by kernel_rfl) sp138h_ok (p138 xs _ (by rw [h]; rfl) (fun _ a b => go 1 ?_ (by omega)) (fun _ _ _ => sm) (fun _ a b c => go 1 ?_ (by omega)) (fun _ a b c d => go 0 ?_ (by omega)) (fun _ a b c d e => go 1 ?_ (by omega)) (fun _ a b c d e => ?_) (fun _ a => go 1 ?_ (by omega))
    (fun z a => (im z a).elim) (fun z a => (im z a).elim) (fun z a => (im z a).elim) (fun z a => (im z a).elim) (fun _ a => go 1 ?_ (by omega)))
  · unfold hdC; rw [lt a, b]; rfl
  · unfold hdC; rw [lt a, b, c]; rfl
  · unfold hdC; rw [lt a, b, c, d]; rfl
  · unfold hdC; rw [lt a, b, c, d, e]; rfl
  · have : hdC xs = -1 := by unfold hdC; rw [lt a, b, c, d, e]; rfl
    show _ = (Tree.val (.ite (ieq (hdC xs) (-1)) _ _), _)
    rw [this]; rfl
  · unfold hdC; rw [ge a]; rfl
  · unfold hdC; rw [ge a]; rfl
end Go.Proofs.Ytdcijmigoefnjaa

/- Chapter 11: a match out of bytes: the loop. -/
set_option linter.unusedVariables false
set_option linter.unusedSimpArgs false
set_option maxRecDepth 100000
set_option maxHeartbeats 0
namespace Go.Proofs.Ytdcijmigoefnjaa
open Go Go.Ev

theorem s141z : SumTOk Try.prog 141 S141z := sum0_ok fun n _ => book_ok.pth (by kernel_rfl) noSpec_ok (p141 n _ rfl)
theorem sp179_ok : SpecTL Try.prog sp179 := ⟨s141z, trivial⟩
theorem okL_has {xs : List AV} (h : okL xs = true) {i : Nat} (hi : i < xs.length) : AV.has (TI.mk (TD.int IntKind.u8) 1 1 [AV.int IntKind.u8 0]) (xs.getD i AV.unk) = true := by
  obtain ⟨z, _, e⟩ := byteL_get (okL_iff.1 h).1 hi
  rw [e]; rfl
theorem good179 : L179.Good := FL.good_any (fun r => r) (fun r v => nz v) (fun _ => rfl) (fun _ _ => rfl) (fun _ _ => rfl) (.inr fun _ _ => rfl)
theorem step179 (x : Int × List AV) (h : L179.P x) : Round (book.envP 179 sp179 big noLoops) (loopBody Try.f179 2) (book.clean 179 2) (book.clean 179 (2 + 500)) st179 pr179 L179.P (fun x => (L179.tr x).val) L179.m x := by
  obtain ⟨i, xs⟩ := x
  refine r179 i xs _ _ _ (fun k => h.in_ k) (fun k => okL_has h.ok (h.lt k)) (fun k e => ?_) (fun k e => ?_) (fun k => h.fin_ good179 k)
  · refine (h.found good179 k e).trans ?_
    show (Ex.ret, stA 19 [(4, .int .i64 ((i.toNat : Nat) : Int))] []) = _
    rw [h.cast]; rfl
  · exact h.on good179 k e
theorem lok179 {loops} : LoopOk (book.envP 179 sp179 big loops) (loopBody Try.f179 2) lp179 := FL.loop (loops' := noLoops) (noInner (by kernel_rfl)) (by kernel_rfl) step179
theorem s179 : SumTOk Try.prog 179 S179 := sumW_ok fun xs h => by
  have h : okL xs = true := h
  refine book_ok.run1 (by kernel_rfl) sp179_ok (by kernel_rfl) lok179 (p179 xs _ (FL.pre_of (i := 0) (Nat.zero_le _) (okL_iff.1 h).2 h) (fun e => ?_) (fun e => ?_))
  · show _ = ((Tree.ite (nzB xs) _ _).val, _)
    rw [e]; rfl
  · show _ = ((Tree.ite (nzB xs) _ _).val, _)
    rw [e]; rfl
theorem sp139_ok : SpecTL Try.prog sp139 := ⟨s179, trivial⟩
theorem s139 : SumTOk Try.prog 139 S139 := sumW_ok fun xs h => by
  refine book_ok.pth (by kernel_rfl) sp139_ok (p139 xs _ h (fun e => ?_) (fun e => ?_)) <;> show _ = (AV.bool (nzB xs), _) <;> rw [e]

theorem sp86_ok : SpecTL Try.prog (sp86 true) := ⟨s138, S62_eq ▸ s62, s91, s140, s139, s142, trivial⟩

/-- a part out of bytes -/
theorem dec_ok {xs : List AV} (hb : byteL xs) (h : ieq (decCode xs) 0 = true) : inO (decX xs) = true ∧ inR (4 + byN xs 3) (xs.length + 1) = true ∧ 4 ≤ (4 + byN xs 3).toNat ∧ (4 + byN xs 3).toNat ≤ xs.length := by
  have h : decCode xs = 0 := by simpa [ieq] using h
  obtain ⟨h1, h2, h3, h4⟩ := enc_dec hb h
  refine ⟨?_, inR_iff.2 ⟨by omega, by omega⟩, by omega, h3⟩
  unfold inO decX valX
  simp only [inW_get, Bool.true_and]
  cases hdM xs
  · rfl
  · exact inW_get _ _
theorem decAll_fuel : ∀ (k : Nat) (ys : List AV) (n m : Nat), byteL ys → ys.length ≤ k → ys.length ≤ n → ys.length ≤ m → decAll n ys = decAll m ys
  | 0, ys, n, m, _, hk, _, _ => by
    obtain rfl : ys = [] := List.length_eq_zero_iff.1 (by omega)
    cases n <;> cases m <;> rfl
  | k + 1, ys, n, m, hb, hk, hn, hm => by
    cases ys with
    | nil => cases n <;> cases m <;> rfl
    | cons y ys =>
      simp only [List.length_cons] at hk hn hm
      obtain ⟨n, rfl⟩ : ∃ n', n = n' + 1 := ⟨n - 1, by omega⟩
      obtain ⟨m, rfl⟩ : ∃ m', m = m' + 1 := ⟨m - 1, by omega⟩
      unfold decAll
      cases hq : ieq (decCode (y :: ys)) 0 with
      | false => rfl
      | true =>
        obtain ⟨_, _, h4, h5⟩ := dec_ok hb hq
        have hd : byteL ((y :: ys).drop (4 + byN (y :: ys) 3).toNat) := fun z hz => hb z (List.mem_of_mem_drop hz)
        have hl : ((y :: ys).drop (4 + byN (y :: ys) 3).toNat).length ≤ k ∧ ((y :: ys).drop (4 + byN (y :: ys) 3).toNat).length ≤ n ∧ ((y :: ys).drop (4 + byN (y :: ys) 3).toNat).length ≤ m := by
          simp only [List.length_drop, List.length_cons] at h5 ⊢; omega
        rw [decAll_fuel k _ n m hd hl.1 hl.2.1 hl.2.2]
theorem dec_step {ys : List AV} (hb : byteL ys) (hn : ys ≠ []) (h : ieq (decCode ys) 0 = true) :
    decL ys = oxA (decX ys) :: decL (ys.drop (4 + byN ys 3).toNat) ∧ decC ys = decC (ys.drop (4 + byN ys 3).toNat) := by
  obtain ⟨_, _, h4, h5⟩ := dec_ok hb h
  have hd : byteL (ys.drop (4 + byN ys 3).toNat) := fun z hz => hb z (List.mem_of_mem_drop hz)
  obtain ⟨k, hk⟩ : ∃ k, ys.length = k + 1 := ⟨ys.length - 1, by have := List.length_pos_iff.2 hn; omega⟩
  have e : decAll ys.length ys = (oxA (decX ys) :: decL (ys.drop (4 + byN ys 3).toNat), decC (ys.drop (4 + byN ys 3).toNat)) := by
    rw [hk]
    unfold decL decC
    rw [decAll_fuel ys.length _ (ys.drop (4 + byN ys 3).toNat).length k hd (by rw [List.length_drop]; omega) (Nat.le_refl _) (by rw [List.length_drop]; omega)]
    cases ys with
    | nil => exact absurd rfl hn
    | cons y ys =>
      show (bif ieq (decCode (y :: ys)) 0 then _ else _) = _
      rw [h]; rfl
  have e1 := congrArg Prod.fst e
  have e2 := congrArg Prod.snd e
  exact ⟨e1, e2⟩
theorem dec_stop {ys : List AV} (hn : ys ≠ []) (h : ieq (decCode ys) 0 = false) : decL ys = [] ∧ decC ys = decCode ys := by
  cases ys with
  | nil => exact absurd rfl hn
  | cons y ys =>
    have e : decAll (y :: ys).length (y :: ys) = ([], decCode (y :: ys)) := by
      show (bif ieq (decCode (y :: ys)) 0 then _ else _) = _
      rw [h]; rfl
    have e1 := congrArg Prod.fst e
    have e2 := congrArg Prod.snd e
    exact ⟨e1, e2⟩
structure P86 (x : D86) : Prop where
  b : byteL x.2.1
  l : x.1.2.length + x.2.1.length ≤ 1000
  f : x.1.1 = true → x.1.2 = []
theorem pre86_ok {x : D86} (h : pre86 x = true) : P86 x := by
  simp only [pre86, Bool.and_eq_true, Nat.ble_eq] at h
  refine ⟨bytB_iff.1 h.1, h.2.1, fun e => ?_⟩
  have := h.2.2; rw [e] at this; simpa using this
theorem ilt0 {ys : List AV} : ilt 0 (ys.length : Int) = true ↔ ys ≠ [] := by
  rw [ilt_iff]; cases ys <;> simp
theorem tr86_on {fl : Bool} {cs ys xs : List AV} {n : Int} (hb : byteL ys) (hn : ys ≠ []) (h : ieq (decCode ys) 0 = true) :
    (tr86 true ((false, cs ++ [oxA (decX ys)]), ys.drop (4 + byN ys 3).toNat, xs, n)).val = (tr86 true ((fl, cs), ys, xs, n)).val := by
  obtain ⟨e1, e2⟩ := dec_step hb hn h
  simp only [tr86, fl2, ac2, lockL, e1, e2, Tree.val, List.isEmpty_cons, Bool.and_false, Bool.false_and, cond_false, cond_true, List.append_assoc, List.singleton_append]
theorem tr86_stop {fl : Bool} {cs ys xs : List AV} {n : Int} (hf : fl = true → cs = []) (hn : ys ≠ []) (h : ieq (decCode ys) 0 = false) :
    (tr86 true ((fl, cs), ys, xs, n)).val = out86 (fl, cs) xs n (decCode ys) := by
  obtain ⟨e1, e2⟩ := dec_stop hn h
  cases fl
  · simp only [tr86, fl2, ac2, lockL, e1, e2, h, Tree.val, Bool.false_and, cond_false, cond_true, List.append_nil]
  · obtain rfl := hf rfl
    simp only [tr86, fl2, ac2, lockL, e1, e2, h, Tree.val, Bool.true_and, List.isEmpty_nil, cond_false, cond_true]
theorem tr86_fin {fl : Bool} {cs xs : List AV} {n : Int} (hf : fl = true → cs = []) :
    (tr86 true ((fl, cs), [], xs, n)).val = fin86 (fl, cs) xs n := by
  have e1 : decL [] = [] := rfl
  have e2 : ieq (decC []) 0 = true := rfl
  cases fl
  · simp only [tr86, fl2, ac2, lockL, e1, e2, Tree.val, Bool.false_and, cond_false, cond_true, List.append_nil]
  · obtain rfl := hf rfl
    simp only [tr86, fl2, ac2, lockL, e1, e2, Tree.val, Bool.true_and, List.isEmpty_nil, cond_false, cond_true]
theorem step86 (x : D86) (h : P86 x) : Round (book.envP 86 (sp86 true) big noLoops) (loopBody Try.f86 6) (book.clean 86 6) (book.clean 86 (6 + 500)) st86 pr86 P86 (fun x => (tr86 true x).val) (fun x => x.2.1.length) x := by
  obtain ⟨⟨fl, cs⟩, ys, xs, n⟩ := x
  obtain ⟨hb, hl, hf⟩ := h
  have hb : byteL ys := hb
  have hl : cs.length + ys.length ≤ 1000 := hl
  have hf : fl = true → cs = [] := hf
  have q0 : ilt 0 (ys.length : Int) = true → (bytB ys && lenB ys) = true := fun _ => by rw [bytB_iff.2 hb, lenB_small (by omega)]; rfl
  have on : ilt 0 (ys.length : Int) = true → ieq (decCode ys) 0 = true → OnOk P86 (fun x => (tr86 true x).val) (fun x => x.2.1.length) ((fl, cs), ys, xs, n) ((false, cs ++ [oxA (decX ys)]), ys.drop (4 + byN ys 3).toNat, xs, n) := fun k e => by
    obtain ⟨_, _, h4, h5⟩ := dec_ok hb e
    refine ⟨⟨fun z hz => hb z (List.mem_of_mem_drop hz), ?_, fun e => by cases e⟩, tr86_on hb (ilt0.1 k) e, ?_⟩
    · show (cs ++ [oxA (decX ys)]).length + (ys.drop (4 + byN ys 3).toNat).length ≤ 1000
      rw [List.length_append, List.length_drop]; simp only [List.length_singleton]; omega
    · show (ys.drop (4 + byN ys 3).toNat).length < ys.length
      rw [List.length_drop]; omega
  have st : ilt 0 (ys.length : Int) = true → ieq (decCode ys) 0 = false → (tr86 true ((fl, cs), ys, xs, n)).val = out86 (fl, cs) xs n (decCode ys) := fun k e => tr86_stop hf (ilt0.1 k) e
  have fi : ilt 0 (ys.length : Int) = false → (tr86 true ((fl, cs), ys, xs, n)).val = fin86 (fl, cs) xs n := fun k => by
    obtain rfl : ys = [] := by
      cases ys with
      | nil => rfl
      | cons y ys => rw [ilt_no] at k; simp only [List.length_cons] at k; omega
    exact tr86_fin hf
  cases fl
  · exact r86f true cs ys xs n _ _ _ q0 (fun k e => by
      exact bleB' (by omega)) (fun k e => bleB' (by omega)) (fun k e => (dec_ok hb e).2.1) on st fi
  · obtain rfl := hf rfl
    exact r86t true ys xs n _ _ _ q0 (fun k e => (dec_ok hb e).2.1) on st fi
theorem lok86 {loops} : LoopOk (book.envP 86 (sp86 true) big loops) (loopBody Try.f86 6) (lp86 true) :=
  Book.loop_ok (loops' := noLoops) (noInner (by kernel_rfl)) (by kernel_rfl) (fun x hx => ⟨pre86_ok hx, by
    have := (pre86_ok hx).l
    unfold big; omega⟩) step86
end Go.Proofs.Ytdcijmigoefnjaa

/- Chapter 11: a match out of bytes: Decode. -/
set_option linter.unusedVariables false
set_option linter.unusedSimpArgs false
set_option maxRecDepth 100000
set_option maxHeartbeats 0
namespace Go.Proofs.Ytdcijmigoefnjaa
open Go Go.Ev

theorem hd_facts {xs : List AV} (h : ieq (hdC xs) (-1) = true) : 4 ≤ nv xs 2 2 ∧ nv xs 2 2 ≤ 1004 ∧ padI (nv xs 2 2) ≤ xs.length ∧ nv xs 0 2 = 1 := by
  unfold hdC at h
  cases h1 : ilt (xs.length : Int) 4 <;> rw [h1] at h
  · cases h2 : ilt (nv xs 2 2) 4 <;> rw [h2] at h
    · cases h3 : ilt (xs.length : Int) (padI (nv xs 2 2)) <;> rw [h3] at h
      · cases h4 : ieq (nv xs 0 2) 1 <;> rw [h4] at h
        · cases h
        · cases h5 : ilt 1004 (nv xs 2 2) <;> rw [h5] at h
          · rw [ilt_no] at h2 h3 h5
            simp only [ieq, beq_iff_eq] at h4
            exact ⟨by omega, by omega, by omega, h4⟩
          · cases h
      · cases h
    · cases h
  · cases h
theorem decAll_cons (n : Nat) (y : AV) (ys : List AV) : decAll (n + 1) (y :: ys) = bif ieq (decCode (y :: ys)) 0 then (oxA (decX (y :: ys)) :: (decAll n ((y :: ys).drop (4 + byN (y :: ys) 3).toNat)).1, (decAll n ((y :: ys).drop (4 + byN (y :: ys) 3).toNat)).2) else ([], decCode (y :: ys)) := rfl
/-- the parts are parts -/
theorem decAll_ox : ∀ (n : Nat) (ys : List AV), byteL ys → (decAll n ys).1.all isOx = true ∧ (decAll n ys).1.length ≤ ys.length
  | 0, ys, _ => ⟨rfl, Nat.zero_le _⟩
  | n + 1, [], _ => ⟨rfl, Nat.zero_le _⟩
  | n + 1, y :: ys, hb => by
    rw [decAll_cons]
    cases hq : ieq (decCode (y :: ys)) 0 with
    | false => exact ⟨rfl, Nat.zero_le _⟩
    | true =>
      obtain ⟨hi, _, h4, h5⟩ := dec_ok hb hq
      have hd : byteL ((y :: ys).drop (4 + byN (y :: ys) 3).toNat) := fun z hz => hb z (List.mem_of_mem_drop hz)
      obtain ⟨a, b⟩ := decAll_ox n _ hd
      have ho : isOx (oxA (decX (y :: ys))) = true := by
        have hy : ((inU (decX (y :: ys)).2.2.1.1 && inU (decX (y :: ys)).2.2.1.2) && (inU (decX (y :: ys)).2.2.2.1 && inU (decX (y :: ys)).2.2.2.2)) = true := hi
        show (inU (decX (y :: ys)).2.2.1.1 && (inU (decX (y :: ys)).2.2.1.2 && (inU (decX (y :: ys)).2.2.2.1 && inU (decX (y :: ys)).2.2.2.2))) = true
        simp only [Bool.and_eq_true] at hy ⊢
        exact ⟨hy.1.1, hy.1.2, hy.2.1, hy.2.2⟩
      refine ⟨?_, ?_⟩
      · show (oxA (decX (y :: ys)) :: (decAll n _).1).all isOx = true
        rw [List.all_cons, ho, a]; rfl
      · show (oxA (decX (y :: ys)) :: (decAll n _).1).length ≤ _
        rw [List.length_drop] at b
        simp only [List.length_cons] at b h5 ⊢; omega
theorem decL_ok {ys : List AV} (hb : byteL ys) (hl : ys.length ≤ 1000000) : okX (decL ys) = true := by
  obtain ⟨a, b⟩ := decAll_ox ys.length ys hb
  exact okX_iff.2 ⟨a, by show (decAll ys.length ys).1.length ≤ _; omega⟩
theorem bdL_ok {xs : List AV} (h : byteL xs) (h1 : nv xs 2 2 ≤ 1004) : byteL (bdL xs) ∧ (bdL xs).length ≤ 1000 :=
  ⟨fun y hy => h y (List.mem_of_mem_drop (List.mem_of_mem_take hy)), by unfold bdL; rw [List.length_take]; omega⟩
theorem pdL_ok {xs : List AV} (h : okL xs = true) : okL (pdL xs) = true := by
  obtain ⟨a, b⟩ := okL_iff.1 h
  refine okL_iff.2 ⟨fun y hy => a y (List.mem_of_mem_drop (List.mem_of_mem_take hy)), ?_⟩
  unfold pdL; rw [List.length_take, List.length_drop]; omega
theorem chk_nil : ieq (chk11 []) 0 = true := by kernel_rfl
theorem emp_nil {xs : List AV} (h : xs.isEmpty = true) : xs = [] := by simpa using h

section
variable {e : AV} {xs : List AV}
theorem dt_bad {c : Int} (h : okD xs = false) (hc : cdD xs = c) : (AV.tup [AV.sl 0 [] St.nil, AV.int IntKind.i64 0, AV.agg [AV.bool true, AV.int IntKind.i64 4, AV.int IntKind.i64 c]], ([] : List (List AV))) = ((decT11 e true xs).val, []) := by
  unfold decT11; simp only [Tree.val, h, cond_false, hc]; rfl
theorem dt_empty (h : okD xs = true) (he : (decL (bdL xs)).isEmpty = true) : (AV.tup [e, AV.int IntKind.i64 (padI (nv xs 2 2)), AV.agg [AV.bool false, AV.int IntKind.i64 0, AV.int IntKind.i64 0]], ([] : List (List AV))) = ((decT11 e true xs).val, []) := by
  unfold decT11; simp only [Tree.val, h, he, cond_true]; rfl
theorem dt_full (h : okD xs = true) (he : (decL (bdL xs)).isEmpty = false) : (AV.tup [AV.sl 6 (decL (bdL xs)) .sh, AV.int IntKind.i64 (padI (nv xs 2 2)), AV.agg [AV.bool false, AV.int IntKind.i64 0, AV.int IntKind.i64 0]], ([] : List (List AV))) = ((decT11 e true xs).val, []) := by
  unfold decT11; simp only [Tree.val, h, he, cond_true, cond_false]; rfl
theorem d1 (h1 : ieq (hdC xs) (-1) = false) : okD xs = false ∧ cdD xs = hdC xs := by
  unfold okD cdD; rw [h1]; exact ⟨rfl, rfl⟩
theorem d2 (h1 : ieq (hdC xs) (-1) = true) (h2 : ieq (decC (bdL xs)) 0 = false) : okD xs = false ∧ cdD xs = decC (bdL xs) := by
  unfold okD cdD; rw [h1, h2]; exact ⟨rfl, rfl⟩
theorem d3 (h1 : ieq (hdC xs) (-1) = true) (h2 : ieq (decC (bdL xs)) 0 = true) (h3 : ieq (chk11 (decL (bdL xs))) 0 = false) : okD xs = false ∧ cdD xs = chk11 (decL (bdL xs)) := by
  unfold okD cdD; rw [h1, h2, h3]; exact ⟨rfl, rfl⟩
theorem d4 (h1 : ieq (hdC xs) (-1) = true) (h2 : ieq (decC (bdL xs)) 0 = true) (h3 : ieq (chk11 (decL (bdL xs))) 0 = true) (h4 : nzB (pdL xs) = true) : okD xs = false ∧ cdD xs = 1 := by
  unfold okD cdD; rw [h1, h2, h3, h4]; exact ⟨rfl, rfl⟩
theorem d5 (h1 : ieq (hdC xs) (-1) = true) (h2 : ieq (decC (bdL xs)) 0 = true) (h3 : ieq (chk11 (decL (bdL xs))) 0 = true) (h4 : nzB (pdL xs) = false) : okD xs = true := by
  unfold okD; rw [h1, h2, h3, h4]; rfl
end
theorem s86 : SumTOk Try.prog 86 (S86 (.sl 0 [] .nil) true) := sumW_ok fun xs h => by
  have h : okL xs = true := h
  obtain ⟨hb, hl⟩ := okL_iff.1 h
  have i1 : ieq (hdC xs) (-1) = true → inR (nv xs 2 2) (xs.length + 1) = true := fun k => by
    obtain ⟨a, b, c, _⟩ := hd_facts k
    have p := padI_ge (n := nv xs 2 2) (by omega)
    exact inR_iff.2 ⟨by omega, by omega⟩
  have i2 : ieq (hdC xs) (-1) = true → inR 4 ((nv xs 2 2).toNat + 1) = true := fun k => by
    obtain ⟨a, b, c, _⟩ := hd_facts k
    exact inR_iff.2 ⟨by omega, by omega⟩
  have i3 : ieq (hdC xs) (-1) = true → pre86 ((true, []), bdL xs, xs, nv xs 2 2) = true := fun k => by
    obtain ⟨a, b, c, _⟩ := hd_facts k
    obtain ⟨x1, x2⟩ := bdL_ok hb b
    show (bytB (bdL xs) && (Nat.ble (0 + (bdL xs).length) 1000 && true)) = true
    rw [bytB_iff.2 x1, Bool.and_true, Bool.true_and, Nat.ble_eq]; omega
  have i4 : ieq (hdC xs) (-1) = true → (true && ile (nv xs 2 2) 1000000) = true := fun k => by
    obtain ⟨a, b, c, _⟩ := hd_facts k
    rw [Bool.true_and]; exact ile_iff'.2 (by omega)
  have i5 : ieq (hdC xs) (-1) = true → inR (padI (nv xs 2 2)) (xs.length + 1) = true := fun k => by
    obtain ⟨a, b, c, _⟩ := hd_facts k
    have p := padI_ge (n := nv xs 2 2) (by omega)
    exact inR_iff.2 ⟨by omega, by omega⟩
  have i6 : ieq (hdC xs) (-1) = true → inR (nv xs 2 2) ((padI (nv xs 2 2)).toNat + 1) = true := fun k => by
    obtain ⟨a, b, c, _⟩ := hd_facts k
    have p := padI_ge (n := nv xs 2 2) (by omega)
    exact inR_iff.2 ⟨by omega, by omega⟩
  have io : ieq (hdC xs) (-1) = true → okX (decL (bdL xs)) = true := fun k => by
    obtain ⟨a, b, c, _⟩ := hd_facts k
    obtain ⟨x1, x2⟩ := bdL_ok hb b
    exact decL_ok x1 (by omega)
  have ce : (decL (bdL xs)).isEmpty = true → ieq (chk11 (decL (bdL xs))) 0 = true := fun e => by rw [emp_nil e]; exact chk_nil
  exact book_ok.run1 (by kernel_rfl) sp86_ok (by kernel_rfl) lok86 (p86 true xs _ h i1 i2 i3 (fun k _ _ => i4 k) (fun k _ _ => i5 k) (fun k _ _ => i6 k) (fun _ _ _ => pdL_ok h)
    (fun k k2 k3 k4 => dt_bad (d4 k k2 (ce k3) k4).1 (d4 k k2 (ce k3) k4).2) (fun k k2 k3 k4 => dt_empty (d5 k k2 (ce k3) k4) k3)
    (fun k _ _ => io k) (fun k _ _ _ => i4 k) (fun k _ _ _ => i5 k) (fun k _ _ _ => i6 k) (fun _ _ _ _ => pdL_ok h)
    (fun k k2 k3 kc k4 => dt_bad (d4 k k2 kc k4).1 (d4 k k2 kc k4).2) (fun k k2 k3 kc k4 => dt_full (d5 k k2 kc k4) k3) (fun k k2 k3 kc => dt_bad (d3 k k2 kc).1 (d3 k k2 kc).2)
    (fun k k2 _ => dt_bad (d2 k k2).1 (d2 k k2).2) (fun k k2 _ => dt_bad (d2 k k2).1 (d2 k k2).2) (fun k => dt_bad (d1 k).1 (d1 k).2))
end Go.Proofs.Ytdcijmigoefnjaa

/- Chapter 11: a match out of bytes: the reference's Decode. -/
set_option linter.unusedVariables false
set_option linter.unusedSimpArgs false
set_option maxRecDepth 100000
set_option maxHeartbeats 0
namespace Go.Proofs.Ytdcijmigoefnjaa
open Go Go.Ev

structure P87 (x : D87) : Prop where
  b : byteL x.2.2.1
  i0 : 0 ≤ x.2.1
  i1 : x.2.1 ≤ x.2.2.2.1
  n1 : x.2.2.2.1 ≤ 1004
  n2 : x.2.2.2.1 ≤ x.2.2.1.length
  l : x.1.2.length ≤ x.2.1.toNat
  f : x.1.1 = true → x.1.2 = []
structure P87b (x : E87) : Prop where
  o : okL x.2.1 = true
  i0 : 0 ≤ x.1
  i1 : x.1 ≤ x.2.2.1
  t1 : x.2.2.1 ≤ x.2.1.length
  f : x.2.2.2.1 = true → x.2.2.2.2 = []
end Go.Proofs.Ytdcijmigoefnjaa

/- Chapter 11: a match out of bytes: the reference's Decode, whole. -/
set_option linter.unusedVariables false
set_option linter.unusedSimpArgs false
set_option maxRecDepth 100000
set_option maxHeartbeats 0
namespace Go.Proofs.Ytdcijmigoefnjaa
open Go Go.Ev

theorem nv_two {xs : List AV} (hb : byteL xs) {o : Nat} (h : o + 1 < xs.length) : ∃ a b : Nat, a < 256 ∧ b < 256 ∧ xs.getD o .unk = .int .u8 (a : Int) ∧ xs.getD (o + 1) .unk = .int .u8 (b : Int) ∧ nv xs o 2 = ((a * 256 + b : Nat) : Int) := by
  obtain ⟨a, a1, a2, a3⟩ := drop_byte hb (o := o) (by omega)
  obtain ⟨b, b1, b2, b3⟩ := drop_byte hb (o := o + 1) (by omega)
  refine ⟨a, b, a1, b1, a3, b3, ?_⟩
  unfold nv; rw [a2, b2]; simp [valB, AV.asInt]
end Go.Proofs.Ytdcijmigoefnjaa
