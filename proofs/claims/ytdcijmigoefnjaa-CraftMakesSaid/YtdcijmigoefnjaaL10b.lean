import Derived.Test.YtdcijmigoefnjaaD03
import Derived.Test.YtdcijmigoefnjaaL10a
import Derived.Test.YtdcijmigoefnjaaD04q
set_option linter.unusedVariables false
set_option linter.unusedSimpArgs false
set_option maxRecDepth 100000
set_option maxHeartbeats 0
namespace Go.Proofs.Ytdcijmigoefnjaa
open Go Go.Ev
structure Four (xs : List AV) (z0 z1 z2 z3 : Nat) : Prop where
 l : 4 ≤ xs.length
 h0 : z0 < 256
 h1 : z1 < 256
 h2 : z2 < 256
 h3 : z3 < 256
 e0 : xs.getD 0 .unk = .int .u8 (z0 : Int)
 e1 : xs.getD 1 .unk = .int .u8 (z1 : Int)
 e2 : xs.getD 2 .unk = .int .u8 (z2 : Int)
 e3 : xs.getD 3 .unk = .int .u8 (z3 : Int)
theorem four {xs : List AV} (hb : byteL xs) (h : ilt (xs.length : Int) 4 = false) : ∃ z0 z1 z2 z3,Four xs z0 z1 z2 z3 := by
 rw [ilt_no] at h
 obtain ⟨z0,a0,b0⟩ := byteL_get hb (i := 0) (by omega)
 obtain ⟨z1,a1,b1⟩ := byteL_get hb (i := 1) (by omega)
 obtain ⟨z2,a2,b2⟩ := byteL_get hb (i := 2) (by omega)
 obtain ⟨z3,a3,b3⟩ := byteL_get hb (i := 3) (by omega)
 exact ⟨z0,z1,z2,z3,by omega,a0,a1,a2,a3,b0,b1,b2,b3⟩
structure Num (f : Int) : Prop where
 a : imul .i64 (sizeOf f) 2 = 2 * sizeOf f
 b : imul .i64 2 (sizeOf f) = 2 * sizeOf f
 c : ibits .or .i64 (ishl .i64 (idOf f) 1) 1 = idNum f true
 d : ishl .i64 (idOf f) 1 = idNum f false
 e : iadd .i64 (imul .i64 2 (idOf f)) 1 = idNum f true
 g : imul .i64 2 (idOf f) = idNum f false
 n1 : numOk (idNum f true) 1 = true
 n2 : numOk (idNum f false) 1 = true
 n3 : numOk (2 * sizeOf f) 1 = true
 n4 : numOk (sizeOf f) 1 = true
structure HdOk (xs : List AV) : Prop where
 l : 4 ≤ xs.length
 n : 4 + byN xs 3 ≤ xs.length
 b0 : byN xs 0 = 128
 b1 : byN xs 1 = 0
 is : hdIs xs = true
 m : hdM xs = true → masksOf (hdF xs) = true
 z : byN xs 3 = bodyN (hdF xs) (hdM xs)
theorem s117o : SumTOk Try.prog 117 S117o := sumW_ok fun x hx => by
 obtain ⟨xs,⟨a,b⟩,n⟩ := x
 simp only [Bool.and_eq_true,sizeOk,List.any_eq_true,ieq,beq_iff_eq,smallB,Nat.ble_eq] at hx
 obtain ⟨⟨m,hm,rfl⟩,hl⟩ := hx
 exact put117 xs a b hl n hm
theorem s118o : SumTOk Try.prog 118 S117o := sumW_ok fun x hx => by
 obtain ⟨xs,⟨a,b⟩,n⟩ := x
 simp only [Bool.and_eq_true,sizeOk,List.any_eq_true,ieq,beq_iff_eq,smallB,Nat.ble_eq] at hx
 obtain ⟨⟨m,hm,rfl⟩,hl⟩ := hx
 exact put118 xs a b hl n hm
end Go.Proofs.Ytdcijmigoefnjaa
