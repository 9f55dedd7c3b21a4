import Derived.Test.YtdcijmigoefnjaaP45a
import Derived.Test.YtdcijmigoefnjaaD04q
import Derived.Test.YtdcijmigoefnjaaL10a
set_option linter.unusedVariables false
set_option linter.unusedSimpArgs false
set_option maxRecDepth 100000
set_option maxHeartbeats 0
namespace Go.Proofs.Ytdcijmigoefnjaa
open Go Go.Ev
theorem okL_iff {xs : List AV} : okL xs = true ↔ byteL xs ∧ xs.length ≤ 9223372036854775807 := by
 unfold okL; rw [Bool.and_eq_true,bytB_iff]; unfold lenB; rw [Nat.ble_eq]
theorem spNG_ok : SpecTL Try.prog spNG := ⟨Sum.T_ok (Book.all_ok book_ok 100 3 193),trivial⟩
theorem drop_byte {xs : List AV} (hb : byteL xs) {o : Nat} (h : o < xs.length) : ∃ z : Nat,z < 256 ∧ xs.drop o = .int .u8 (z : Int) :: xs.drop (o + 1) ∧ xs.getD o .unk = .int .u8 (z : Int) := by
 obtain ⟨z,hz,e⟩ := byteL_get hb h
 refine ⟨z,hz,?_,e⟩
 rw [drop_getD (d := AV.unk) h,e]
theorem or8 (a b : Nat) (ha : a < 36028797018963968) (hb : b < 256) : ibits .or .i64 (ishl .i64 (a : Int) 8) (IntKind.i64.wrap (b : Int)) = ((a * 256 + b : Nat) : Int) := by
 have e1 : ishl .i64 (a : Int) 8 = ((a * 256 : Nat) : Int) := by
  unfold ishl
  rw [IntKind.wrap_i64]
  simp [IntKind.bits]; omega
 have e2 : IntKind.i64.wrap (b : Int) = (b : Int) := by rw [IntKind.wrap_i64]; omega
 have e4 : (a * 256) ||| b = a * 256 + b := or_add _ _ hb
 rw [e1,e2,ibits_eq]
 show IntKind.i64.wrap _ = _
 have e : (BitVec.ofInt IntKind.i64.bits ((a * 256 : Nat) : Int) ||| BitVec.ofInt IntKind.i64.bits (b : Int)).toNat = (a * 256) ||| b := by
  show (BitVec.ofInt 64 ((a * 256 : Nat) : Int) ||| BitVec.ofInt 64 (b : Int)).toNat = _
  rw [BitVec.toNat_or,BitVec.ofInt_natCast,BitVec.ofInt_natCast,BitVec.toNat_ofNat,BitVec.toNat_ofNat,Nat.mod_eq_of_lt (by omega),Nat.mod_eq_of_lt (by omega)]
 rw [e,e4,IntKind.wrap_i64]; omega
theorem add8 (a b : Nat) (ha : a < 36028797018963968) (hb : b < 256) : iadd .i64 (imul .i64 (a : Int) 256) (IntKind.i64.wrap (b : Int)) = ((a * 256 + b : Nat) : Int) := by
 have e1 : imul .i64 (a : Int) 256 = ((a * 256 : Nat) : Int) := by unfold imul; rw [IntKind.wrap_i64]; omega
 have e2 : IntKind.i64.wrap (b : Int) = (b : Int) := by rw [IntKind.wrap_i64]; omega
 rw [e1,e2,iadd_small (by omega) (by omega)]; omega
theorem c178 (x : List AV × Int × Int) (hx : (okL x.1 && ((numNs.any fun m => ieq x.2.2 m) && (ile 0 x.2.1 && ile (x.2.1 + x.2.2) x.1.length))) = true) : CallsA Try.prog 178 [.sl 1 x.1 .sh,.int .i64 x.2.1,.int .i64 x.2.2] [] (Tree.leaf (.tup [.int .i64 (nv x.1 x.2.1.toNat x.2.2.toNat),.int .i64 0])).val [] := by
 obtain ⟨xs,at_,n⟩ := x
 simp only [Bool.and_eq_true,okL_iff,ile_iff'] at hx
 obtain ⟨⟨hb,hl⟩,hn,h0,h1⟩ := hx
 obtain ⟨o,rfl⟩ : ∃ o : Nat,at_ = o := ⟨at_.toNat,by omega⟩
 have ia1 : (o : Int) + 1 ≤ xs.length → iadd .i64 (o : Int) 1 = ((o + 1 : Nat) : Int) := fun h => by rw [iadd_small (by omega) (by omega)]; omega
 have ia2 : (o : Int) + 2 ≤ xs.length → iadd .i64 (o : Int) 2 = ((o + 2 : Nat) : Int) := fun h => by rw [iadd_small (by omega) (by omega)]; omega
 have ia3 : (o : Int) + 3 ≤ xs.length → iadd .i64 (o : Int) 3 = ((o + 3 : Nat) : Int) := fun h => by rw [iadd_small (by omega) (by omega)]; omega
 have ia4 : (o : Int) + 4 ≤ xs.length → iadd .i64 (o : Int) 4 = ((o + 4 : Nat) : Int) := fun h => by rw [iadd_small (by omega) (by omega)]; omega
 have isb : isub .i64 (xs.length : Int) (o : Int) = (xs.length : Int) - o ∨ (xs.length : Int) < o := by
  by_cases h : (xs.length : Int) < o
  ·exact .inr h
  ·left; unfold isub; rw [IntKind.wrap_i64]; omega
 revert h1
 refine num_cases (P := fun n => (o : Int) + n ≤ xs.length → CallsA Try.prog 178 [.sl 1 xs .sh,.int .i64 (o : Int),.int .i64 n] [] (.tup [.int .i64 (nv xs (o : Int).toNat n.toNat),.int .i64 0]) []) (fun h1 => ?_) (fun h1 => ?_) (fun h1 => ?_) hn
 ·obtain ⟨z0,a0,b0,_⟩ := drop_byte hb (o := o) (by omega)
  have e : List.take ((iadd .i64 (o : Int) 1).toNat - (o : Int).toNat) (List.drop (o : Int).toNat xs) = [.int .u8 (z0 : Int)] := by
   rw [ia1 h1,Int.toNat_natCast,Int.toNat_natCast,show o + 1 - o = 1 by omega,b0]; rfl
  have v : nv xs (o : Int).toNat (1 : Int).toNat = (z0 : Int) := by unfold nv; rw [Int.toNat_natCast,b0]; simp [valB,AV.asInt]
  refine book_ok.pth (by kernel_rfl) spNG_ok (p178_1 xs o _ ?_ ?_ ?_ ?_ ?_ ?_ ?_ ?_ ?_)
  ·rw [ilt_no]; omega
  ·rcases isb with h | h <;> rw [ilt_no] <;> omega
  ·rw [ia1 h1]; exact inR_iff.2 ⟨by omega,by omega⟩
  ·rw [ia1 h1]; exact inR_iff.2 ⟨by omega,by omega⟩
  all_goals rw [e]
  ·rfl
  ·rfl
  ·rfl
  ·rfl
  ·have := or8 0 z0 (by omega) a0
   rw [v]
   show (AV.tup [.int .i64 (ibits .or .i64 (ishl .i64 ((0 : Nat) : Int) 8) (IntKind.i64.wrap (z0 : Int))),.int .i64 0],_) = _
   rw [this]; simp
 ·obtain ⟨z0,a0,b0,_⟩ := drop_byte hb (o := o) (by omega)
  obtain ⟨z1,a1,b1,_⟩ := drop_byte hb (o := o + 1) (by omega)
  have e : List.take ((iadd .i64 (o : Int) 2).toNat - (o : Int).toNat) (List.drop (o : Int).toNat xs) = [.int .u8 (z0 : Int),.int .u8 (z1 : Int)] := by
   rw [ia2 h1,Int.toNat_natCast,Int.toNat_natCast,show o + 2 - o = 2 by omega,b0,b1]; rfl
  have v : nv xs (o : Int).toNat (2 : Int).toNat = ((z0 * 256 + z1 : Nat) : Int) := by unfold nv; rw [Int.toNat_natCast,b0,b1]; simp [valB,AV.asInt]
  refine book_ok.pth (by kernel_rfl) spNG_ok (p178_2 xs o _ ?_ ?_ ?_ ?_ ?_ ?_ ?_ ?_ ?_ ?_ ?_ ?_)
  ·rw [ilt_no]; omega
  ·rcases isb with h | h <;> rw [ilt_no] <;> omega
  ·rw [ia2 h1]; exact inR_iff.2 ⟨by omega,by omega⟩
  ·rw [ia2 h1]; exact inR_iff.2 ⟨by omega,by omega⟩
  all_goals rw [e]
  iterate 7 rfl
  ·have q0 := or8 0 z0 (by omega) a0
   have q1 := or8 z0 z1 (by omega) a1
   rw [v]
   show (AV.tup [.int .i64 (ibits .or .i64 (ishl .i64 (ibits .or .i64 (ishl .i64 ((0 : Nat) : Int) 8) (IntKind.i64.wrap (z0 : Int))) 8) (IntKind.i64.wrap (z1 : Int))),.int .i64 0],_) = _
   rw [q0,Nat.zero_mul,Nat.zero_add,q1]
 ·obtain ⟨z0,a0,b0,_⟩ := drop_byte hb (o := o) (by omega)
  obtain ⟨z1,a1,b1,_⟩ := drop_byte hb (o := o + 1) (by omega)
  obtain ⟨z2,a2,b2,_⟩ := drop_byte hb (o := o + 1 + 1) (by omega)
  obtain ⟨z3,a3,b3,_⟩ := drop_byte hb (o := o + 1 + 1 + 1) (by omega)
  have e : List.take ((iadd .i64 (o : Int) 4).toNat - (o : Int).toNat) (List.drop (o : Int).toNat xs) = [.int .u8 (z0 : Int),.int .u8 (z1 : Int),.int .u8 (z2 : Int),.int .u8 (z3 : Int)] := by
   rw [ia4 h1,Int.toNat_natCast,Int.toNat_natCast,show o + 4 - o = 4 by omega,b0,b1,b2,b3]; rfl
  have v : nv xs (o : Int).toNat (4 : Int).toNat = ((((z0 * 256 + z1) * 256 + z2) * 256 + z3 : Nat) : Int) := by unfold nv; rw [Int.toNat_natCast,b0,b1,b2,b3]; simp [valB,AV.asInt]
  refine book_ok.pth (by kernel_rfl) spNG_ok (p178_4 xs o _ ?_ ?_ ?_ ?_ ?_ ?_ ?_ ?_ ?_ ?_ ?_ ?_ ?_ ?_ ?_ ?_ ?_ ?_)
  ·rw [ilt_no]; omega
  ·rcases isb with h | h <;> rw [ilt_no] <;> omega
  ·rw [ia4 h1]; exact inR_iff.2 ⟨by omega,by omega⟩
  ·rw [ia4 h1]; exact inR_iff.2 ⟨by omega,by omega⟩
  all_goals rw [e]
  iterate 13 rfl
  ·have q0 := or8 0 z0 (by omega) a0
   have q1 := or8 z0 z1 (by omega) a1
   have q2 := or8 (z0 * 256 + z1) z2 (by omega) a2
   have q3 := or8 ((z0 * 256 + z1) * 256 + z2) z3 (by omega) a3
   rw [v]
   show (AV.tup [.int .i64 (ibits .or .i64 (ishl .i64 (ibits .or .i64 (ishl .i64 (ibits .or .i64 (ishl .i64 (ibits .or .i64 (ishl .i64 ((0 : Nat) : Int) 8) (IntKind.i64.wrap (z0 : Int))) 8) (IntKind.i64.wrap (z1 : Int))) 8) (IntKind.i64.wrap (z2 : Int))) 8) (IntKind.i64.wrap (z3 : Int))),.int .i64 0],_) = _
   rw [q0,Nat.zero_mul,Nat.zero_add,q1,q2,q3]
theorem s178 : SumTOk Try.prog 178 S178 := sumW_ok c178
theorem s174 : SumTOk Try.prog 174 S178 := sumW_ok fun x hx => by
 obtain ⟨xs,at_,n⟩ := x
 simp only [Bool.and_eq_true,okL_iff,ile_iff'] at hx
 obtain ⟨⟨hb,hl⟩,hn,h0,h1⟩ := hx
 obtain ⟨o,rfl⟩ : ∃ o : Nat,at_ = o := ⟨at_.toNat,by omega⟩
 have ia1 : (o : Int) + 1 ≤ xs.length → iadd .i64 (o : Int) 1 = ((o + 1 : Nat) : Int) := fun h => by rw [iadd_small (by omega) (by omega)]; omega
 have ia2 : (o : Int) + 2 ≤ xs.length → iadd .i64 (o : Int) 2 = ((o + 2 : Nat) : Int) := fun h => by rw [iadd_small (by omega) (by omega)]; omega
 have ia3 : (o : Int) + 3 ≤ xs.length → iadd .i64 (o : Int) 3 = ((o + 3 : Nat) : Int) := fun h => by rw [iadd_small (by omega) (by omega)]; omega
 have ia4 : (o : Int) + 4 ≤ xs.length → iadd .i64 (o : Int) 4 = ((o + 4 : Nat) : Int) := fun h => by rw [iadd_small (by omega) (by omega)]; omega
 have i0 : (o : Int) ≤ xs.length → iadd .i64 (o : Int) 0 = ((o : Nat) : Int) := fun h => by rw [iadd_small (by omega) (by omega)]; omega
 have isb : isub .i64 (xs.length : Int) (o : Int) = (xs.length : Int) - o ∨ (xs.length : Int) < o := by
  by_cases h : (xs.length : Int) < o
  ·exact .inr h
  ·left; unfold isub; rw [IntKind.wrap_i64]; omega
 have z8 : ∀ z : Nat,z < 256 → iadd .i64 0 (IntKind.i64.wrap (z : Int)) = (z : Int) := fun z h => by rw [wrapI h,iadd_small (by omega) (by omega)]; omega
 revert h1
 refine num_cases (P := fun n => (o : Int) + n ≤ xs.length → CallsA Try.prog 174 [.sl 1 xs .sh,.int .i64 (o : Int),.int .i64 n] [] (.tup [.int .i64 (nv xs (o : Int).toNat n.toNat),.int .i64 0]) []) (fun h1 => ?_) (fun h1 => ?_) (fun h1 => ?_) hn
 ·obtain ⟨z0,a0,b0,g0⟩ := drop_byte hb (o := o) (by omega)
  have v : nv xs (o : Int).toNat (1 : Int).toNat = (z0 : Int) := by unfold nv; rw [Int.toNat_natCast,b0]; simp [valB,AV.asInt]
  have j0 := i0 (by omega)
  refine book_ok.pth (by kernel_rfl) spNG_ok (p174_1 xs o _ ?_ ?_ ?_ ?_ ?_ ?_)
  ·rw [ilt_no]; omega
  ·rw [ilt_no]; omega
  ·rcases isb with h | h <;> rw [ilt_no] <;> omega
  ·rw [j0]; exact inR_iff.2 ⟨by omega,by omega⟩
  ·rw [j0,Int.toNat_natCast,g0]; rfl
  ·rw [j0,v,Int.toNat_natCast,g0]; simp only [AV.asInt]; rw [z8 _ a0]
 ·obtain ⟨z0,a0,b0,g0⟩ := drop_byte hb (o := o) (by omega)
  obtain ⟨z1,a1,b1,g1⟩ := drop_byte hb (o := o + 1) (by omega)
  have v : nv xs (o : Int).toNat (2 : Int).toNat = ((z0 * 256 + z1 : Nat) : Int) := by unfold nv; rw [Int.toNat_natCast,b0,b1]; simp [valB,AV.asInt]
  have j0 := i0 (by omega)
  have j1 := ia1 (by omega)
  refine book_ok.pth (by kernel_rfl) spNG_ok (p174_2 xs o _ ?_ ?_ ?_ ?_ ?_ ?_ ?_ ?_)
  ·rw [ilt_no]; omega
  ·rw [ilt_no]; omega
  ·rcases isb with h | h <;> rw [ilt_no] <;> omega
  ·rw [j0]; exact inR_iff.2 ⟨by omega,by omega⟩
  ·rw [j0,Int.toNat_natCast,g0]; rfl
  ·rw [j1]; exact inR_iff.2 ⟨by omega,by omega⟩
  ·rw [j1,Int.toNat_natCast,g1]; rfl
  ·rw [j0,j1,v,Int.toNat_natCast,Int.toNat_natCast,g0,g1]; simp only [AV.asInt]; rw [z8 _ a0,add8 _ _ (by omega) a1]
 ·obtain ⟨z0,a0,b0,g0⟩ := drop_byte hb (o := o) (by omega)
  obtain ⟨z1,a1,b1,g1⟩ := drop_byte hb (o := o + 1) (by omega)
  obtain ⟨z2,a2,b2,g2⟩ := drop_byte hb (o := o + 2) (by omega)
  obtain ⟨z3,a3,b3,g3⟩ := drop_byte hb (o := o + 3) (by omega)
  have v : nv xs (o : Int).toNat (4 : Int).toNat = ((((z0 * 256 + z1) * 256 + z2) * 256 + z3 : Nat) : Int) := by
   unfold nv; rw [Int.toNat_natCast,b0,b1,show o + 1 + 1 = o + 2 by omega,b2,show o + 2 + 1 = o + 3 by omega,b3]; simp [valB,AV.asInt]
  have j0 := i0 (by omega)
  have j1 := ia1 (by omega)
  have j2 := ia2 (by omega)
  have j3 := ia3 (by omega)
  refine book_ok.pth (by kernel_rfl) spNG_ok (p174_4 xs o _ ?_ ?_ ?_ ?_ ?_ ?_ ?_ ?_ ?_ ?_ ?_ ?_)
  ·rw [ilt_no]; omega
  ·rw [ilt_no]; omega
  ·rcases isb with h | h <;> rw [ilt_no] <;> omega
  ·rw [j0]; exact inR_iff.2 ⟨by omega,by omega⟩
  ·rw [j0,Int.toNat_natCast,g0]; rfl
  ·rw [j1]; exact inR_iff.2 ⟨by omega,by omega⟩
  ·rw [j1,Int.toNat_natCast,g1]; rfl
  ·rw [j2]; exact inR_iff.2 ⟨by omega,by omega⟩
  ·rw [j2,Int.toNat_natCast,g2]; rfl
  ·rw [j3]; exact inR_iff.2 ⟨by omega,by omega⟩
  ·rw [j3,Int.toNat_natCast,g3]; rfl
  ·rw [j0,j1,j2,j3,v,Int.toNat_natCast,Int.toNat_natCast,Int.toNat_natCast,Int.toNat_natCast,g0,g1,g2,g3]; simp only [AV.asInt]
   rw [z8 _ a0,add8 _ _ (by omega) a1,add8 _ _ (by omega) a2,add8 _ _ (by omega) a3]
theorem s115v {f : FuncId} (h : SumTOk Try.prog f S115) : SumTOk Try.prog f S115v := by
 refine sumW_ok fun x hx => ?_
 obtain ⟨xs,n⟩ := x
 simp only [Bool.and_eq_true,okL_iff] at hx
 obtain ⟨⟨hb,hl⟩,hn,hle⟩ := hx
 have h4 : lenB xs = true := by unfold lenB; rw [Nat.ble_eq]; exact hl
 have := (s115t h) [.sl 1 xs .sh,.int .i64 n] [] _ (show ((S115t [.sl 1 xs .sh,.int .i64 n] []).Ret _) from ⟨rfl,by simp only [Bool.and_eq_true]; exact ⟨hn,byteL_int hb,h4,hle⟩,rfl⟩)
 rw [treeMap_val] at this
 have t : CallsA Try.prog f [.sl 1 xs .sh,.int .i64 n] [] (.tup [wA (getHi xs n,getLo xs n),.bool true]) [] := this
 have e : (getHi xs n,getLo xs n) = wv xs n.toNat := by
  rw [ile_iff'] at hle
  have hz : 0 ≤ n ∧ n ≤ 16 := by
   simp only [sizeOk,sizeNs,List.any_cons,List.any_nil,Bool.or_false,Bool.or_eq_true,ieq,beq_iff_eq] at hn
   omega
  obtain ⟨hi,lo,e1,e2,e3⟩ := getW_eq xs hb n.toNat (by omega) (by omega)
  unfold getHi getLo wv wvH wvL
  rw [e1,← e3]
  apply Prod.ext <;> simp only <;> congr 1 <;> omega
 rw [e] at t
 exact t
end Go.Proofs.Ytdcijmigoefnjaa
set_option linter.unusedVariables false
set_option linter.unusedSimpArgs false
set_option maxRecDepth 100000
set_option maxHeartbeats 0
namespace Go.Proofs.Ytdcijmigoefnjaa
open Go Go.Ev
def wt (j : Nat) : Nat := bif Nat.beq (j % 2) 0 then 256 else 1
theorem wt_even {j : Nat} (h : j % 2 = 0) : wt j = 256 := by unfold wt; rw [h]; rfl
theorem wt_odd {j : Nat} (h : j % 2 = 1) : wt j = 1 := by unfold wt; rw [h]; rfl
theorem sumN_snoc (x : AV) : ∀ (xs : List AV) (j : Nat),sumN (xs ++ [x]) j = sumN xs j + x.asInt.toNat * wt (j + xs.length)
 | [],j => by simp [sumN,wt]
 | y :: ys,j => by
  simp only [List.cons_append,sumN,sumN_snoc x ys (j + 1),List.length_cons]
  rw [show j + 1 + ys.length = j + (ys.length + 1) by omega]; omega
theorem sumN_le : ∀ {xs : List AV} (j : Nat),byteL xs → sumN xs j ≤ 65280 * xs.length
 | [],_,_ => by simp [sumN]
 | x :: xs,j,h => by
  have h1 := sumN_le (xs := xs) (j + 1) (fun y hy => h y (List.mem_cons_of_mem _ hy))
  obtain ⟨z,hz,rfl⟩ := h x (by simp)
  simp only [sumN,AV.asInt,Int.toNat_natCast,List.length_cons]
  have : z * (bif Nat.beq (j % 2) 0 then 256 else 1) ≤ 65280 := by
   cases Nat.beq (j % 2) 0
   ·simp only [cond_false]; omega
   ·simp only [cond_true]; omega
  omega
theorem sumN_take {xs : List AV} {j : Nat} {z : Nat} (hj : j < xs.length) (hz : xs.getD j .unk = .int .u8 (z : Int)) : sumN (xs.take (j + 1)) 0 = sumN (xs.take j) 0 + z * wt j := by
 have e : xs.take (j + 1) = xs.take j ++ [xs.getD j .unk] := by
  rw [List.take_add_one,List.getD_eq_getElem?_getD,List.getElem?_eq_getElem hj]; rfl
 rw [e,sumN_snoc,hz,List.length_take,Nat.min_eq_left (by omega),Nat.zero_add]; simp [AV.asInt]
theorem irem2 (j : Nat) : irem (j : Int) 2 = ((j % 2 : Nat) : Int) := by rw [rem2]; omega
theorem pre72_ok {xs : List AV} {x : X72} (h : pre72 xs x = true) : x = (0,0) ∧ byteL xs ∧ xs.length ≤ 65536 := by
 obtain ⟨i,n⟩ := x
 simp only [pre72,Bool.and_eq_true,ieq,beq_iff_eq,bytB_iff,shortB,Nat.ble_eq] at h
 obtain ⟨rfl,rfl,h1,h2⟩ := h
 exact ⟨rfl,h1,h2⟩
structure P72 (xs : List AV) (x : X72) : Prop where
 at_ : ∃ j : Nat,j ≤ xs.length ∧ x = ((j : Int),((sumN (xs.take j) 0 : Nat) : Int))
theorem shl8 {z : Nat} (h : z < 256) : ishl .i64 (z : Int) 8 = ((z * 256 : Nat) : Int) ∧ ishl .i64 (z : Int) 0 = (z : Int) := by
 unfold ishl
 rw [IntKind.wrap_i64,IntKind.wrap_i64]
 simp [IntKind.bits]; omega
theorem step72 {xs : List AV} (hb : byteL xs) (hl : xs.length ≤ 65536) (x : X72) (hp : P72 xs x) : Round (book.envP 72 noSpec big noLoops) (loopBody Try.f72 3) (book.clean 72 3) (book.clean 72 (3 + 500)) (st72 xs) pr72 (P72 xs) (fun x => (F72 xs x).val) (fun x => (xs.length - x.1).toNat) x := by
 obtain ⟨j,hj,rfl⟩ := hp
 have fac : ∀ h : ilt (j : Int) (xs.length : Int) = true,∃ z : Nat,z < 256 ∧ xs.getD (j : Int).toNat .unk = .int .u8 (z : Int) ∧ xs.getD j .unk = .int .u8 (z : Int) ∧ j < xs.length := fun h => by
  rw [ilt_iff] at h
  obtain ⟨z,hz,e⟩ := byteL_get hb (i := j) (by omega)
  exact ⟨z,hz,by rw [Int.toNat_natCast]; exact e,e,by omega⟩
 have sh : isub .i64 8 (imul .i64 (irem (j : Int) 2) 8) = if j % 2 = 0 then 8 else 0 := by
  rw [irem2]
  rcases Nat.mod_two_eq_zero_or_one j with h | h <;> rw [h] <;> rfl
 have bd := sumN_le 0 (fun y hy => hb y (List.mem_of_mem_take hy) : byteL (xs.take j))
 rw [List.length_take,Nat.min_eq_left hj] at bd
 refine r72a xs j _ _ _ _ (fun h => ?_) (fun h => ?_) ?_ (fun h => ?_) (fun h => ?_)
 ·rw [ilt_iff] at h; exact inR_iff.2 ⟨by omega,by omega⟩
 ·obtain ⟨z,hz,e,_,_⟩ := fac h
  rw [e]; rfl
 ·rw [sh]; split <;> rfl
 ·obtain ⟨z,hz,e,e2,hlt⟩ := fac h
  rw [e]
  simp only [AV.asInt,wrapI hz,sh]
  have e3 : iadd .i64 (j : Int) 1 = ((j + 1 : Nat) : Int) := by rw [iadd_small (by omega) (by omega)]; omega
  have e4 : iadd .i64 ((sumN (xs.take j) 0 : Nat) : Int) (ishl .i64 (z : Int) (if j % 2 = 0 then 8 else 0)) = ((sumN (xs.take (j + 1)) 0 : Nat) : Int) := by
   rw [sumN_take hlt e2]
   rcases Nat.mod_two_eq_zero_or_one j with h | h
   ·rw [if_pos h,(shl8 hz).1,wt_even h,iadd_small (by omega) (by omega)]; omega
   ·rw [if_neg (by omega),(shl8 hz).2,wt_odd h,iadd_small (by omega) (by omega)]; omega
  rw [e3,e4]
  exact ⟨⟨j + 1,by omega,rfl⟩,rfl,by simp only; omega⟩
 ·rw [ilt_no] at h
  have : j = xs.length := by omega
  subst this
  show _ = (Ex.exit 0,r72a_o0 xs _ _)
  rw [List.take_length]; rfl
theorem lok72 {xs : List AV} (hb : byteL xs) (hl : xs.length ≤ 65536) {loops} : LoopOk (book.envP 72 noSpec big loops) (loopBody Try.f72 3) (lp72 xs) :=
 Book.loop_ok (loops' := noLoops) (noInner (by kernel_rfl)) (by kernel_rfl) (fun x hx => by
  obtain ⟨rfl,_,_⟩ := pre72_ok hx
  exact ⟨⟨0,by omega,rfl⟩,by unfold big; simp only; omega⟩) (step72 hb hl)
structure PB (n : Int) : Prop where
 a : 0 ≤ n
 b : n ≤ 4611686018427387904
theorem andB {n : Int} (h0 : 0 ≤ n) (h1 : n ≤ 4611686018427387904) : ibits .and .i64 n 65535 = n % 65536 := by
 obtain ⟨m,rfl⟩ : ∃ m : Nat,n = m := ⟨n.toNat,by omega⟩
 rw [ibits_eq]
 show IntKind.i64.wrap _ = _
 have e : (BitVec.ofInt IntKind.i64.bits (m : Int) &&& BitVec.ofInt IntKind.i64.bits 65535).toNat = m % 65536 := by
  show (BitVec.ofInt 64 (m : Int) &&& BitVec.ofInt 64 ((65535 : Nat) : Int)).toNat = _
  rw [BitVec.toNat_and,BitVec.ofInt_natCast,BitVec.ofInt_natCast,BitVec.toNat_ofNat,BitVec.toNat_ofNat,Nat.mod_eq_of_lt (by omega),Nat.mod_eq_of_lt (by omega)]
  exact Nat.and_two_pow_sub_one_eq_mod m 16
 rw [e,IntKind.wrap_i64]; omega
theorem shrB {n : Int} (h0 : 0 ≤ n) : ishr .i64 n 16 = n / 65536 := by
 unfold ishr; rw [Int.fdiv_eq_ediv_of_nonneg _ (by decide)]; simp [IntKind.bits]
theorem ocI_pos {n : Int} (h : n ≠ 0) : ocI n = (n - 1) % 65535 + 1 := by
 unfold ocI
 have : ieq n 0 = false := by simp [ieq,h]
 rw [this]; rfl
theorem stepB (n : Int) (hp : PB n) : Round (book.envP 72 noSpec big noLoops) (loopBody Try.f72 7) (book.clean 72 7) (book.clean 72 (7 + 500)) stB prB PB (fun x => (FB x).val) (fun x => x.toNat) n := by
 obtain ⟨h0,h1⟩ := hp
 refine r72b n _ _ _ (fun h => ?_) (fun h => ?_)
 ·rw [ilt_iff] at h
  show OnOk PB _ _ n (iadd .i64 (ibits .and .i64 n 65535) (ishr .i64 n 16))
  have e : iadd .i64 (ibits .and .i64 n 65535) (ishr .i64 n 16) = n % 65536 + n / 65536 := by
   rw [andB h0 h1,shrB h0,iadd_small (by omega) (by omega)]
  rw [e]
  refine ⟨⟨by omega,by omega⟩,?_,by omega⟩
  have : ocI (n % 65536 + n / 65536) = ocI n := by
   rw [ocI_pos (by omega),ocI_pos (by omega)]; omega
  simp only [FB,Tree.val,this]
 ·rw [ilt_no] at h
  have : ocI n = n := by
   by_cases hz : n = 0
   ·subst hz; rfl
   ·rw [ocI_pos hz]; omega
  simp only [FB,Tree.val,this]; rfl
theorem lokB {loops} : LoopOk (book.envP 72 noSpec big loops) (loopBody Try.f72 7) lpB :=
 Book.loop_ok (loops' := noLoops) (noInner (by kernel_rfl)) (by kernel_rfl) (fun x hx => by
  simp only [preB,Bool.and_eq_true,ile_iff'] at hx
  exact ⟨⟨hx.1,hx.2⟩,by unfold big; omega⟩) stepB
structure P73 (xs : List AV) (x : X72) : Prop where
 at_ : ∃ j : Nat,j ≤ xs.length ∧ x = ((j : Int),ocI ((sumN (xs.take j) 0 : Nat) : Int))
theorem oc_range (s : Nat) : 0 ≤ ocI (s : Int) ∧ ocI (s : Int) ≤ 65535 := by
 by_cases h : (s : Int) = 0
 ·rw [h]; exact ⟨by decide,by decide⟩
 ·rw [ocI_pos h]; omega
theorem oc_step (s v : Nat) (hv : v ≤ 65280) : (bif ilt 65535 (ocI (s : Int) + v) then (ocI (s : Int) + v) % 65536 + (ocI (s : Int) + v) / 65536 else ocI (s : Int) + v) = ocI ((s + v : Nat) : Int) := by
 by_cases h : (s : Int) = 0
 ·have hs : s = 0 := by omega
  subst hs
  have e0 : ocI ((0 : Nat) : Int) = 0 := rfl
  rw [e0]
  have : ilt 65535 (0 + (v : Int)) = false := ilt_no.2 (by omega)
  rw [this,cond_false]
  by_cases hv0 : v = 0
  ·subst hv0; rfl
  ·rw [ocI_pos (by omega)]; omega
 ·rw [ocI_pos h,ocI_pos (by omega)]
  cases hc : ilt 65535 (((s : Int) - 1) % 65535 + 1 + v)
  ·rw [ilt_no] at hc; rw [cond_false]; omega
  ·rw [ilt_iff] at hc; rw [cond_true]; omega
theorem step73 {xs : List AV} (hb : byteL xs) (hl : xs.length ≤ 65536) (x : X72) (hp : P73 xs x) : Round (book.envP 73 noSpec big noLoops) (loopBody Try.f73 3) (book.clean 73 3) (book.clean 73 (3 + 500)) (st73 xs) pr73 (P73 xs) (fun x => (F73 xs x).val) (fun x => (xs.length - x.1).toNat) x := by
 obtain ⟨j,hj,rfl⟩ := hp
 have fac : ∀ h : ilt (j : Int) (xs.length : Int) = true,∃ z : Nat,z < 256 ∧ xs.getD (j : Int).toNat .unk = .int .u8 (z : Int) ∧ xs.getD j .unk = .int .u8 (z : Int) ∧ j < xs.length := fun h => by
  rw [ilt_iff] at h
  obtain ⟨z,hz,e⟩ := byteL_get hb (i := j) (by omega)
  exact ⟨z,hz,by rw [Int.toNat_natCast]; exact e,e,by omega⟩
 have rg := oc_range (sumN (xs.take j) 0)
 have e3 : ilt (j : Int) (xs.length : Int) = true → iadd .i64 (j : Int) 1 = ((j + 1 : Nat) : Int) := fun h => by rw [ilt_iff] at h; rw [iadd_small (by omega) (by omega)]; omega
 have ev : ieq (irem (j : Int) 2) 0 = true → j % 2 = 0 := fun h => by rw [irem2] at h; simp only [ieq,beq_iff_eq] at h; omega
 have od : ieq (irem (j : Int) 2) 0 = false → j % 2 = 1 := fun h => by rw [irem2] at h; simp only [ieq,beq_eq_false_iff_ne] at h; omega
 have m1 : ∀ z : Nat,z < 256 → iadd .i64 (ocI ((sumN (xs.take j) 0 : Nat) : Int)) (imul .i64 (z : Int) 256) = ocI ((sumN (xs.take j) 0 : Nat) : Int) + ((z * 256 : Nat) : Int) := fun z hz => by
  have : imul .i64 (z : Int) 256 = ((z * 256 : Nat) : Int) := by unfold imul; rw [IntKind.wrap_i64]; omega
  rw [this,iadd_small (by omega) (by omega)]
 have m2 : ∀ z : Nat,z < 256 → iadd .i64 (ocI ((sumN (xs.take j) 0 : Nat) : Int)) (z : Int) = ocI ((sumN (xs.take j) 0 : Nat) : Int) + (z : Int) := fun z hz => by rw [iadd_small (by omega) (by omega)]
 have fold : ∀ m : Int,0 ≤ m → m ≤ 200000 → iadd .i64 (irem m 65536) (iquo .i64 m 65536) = m % 65536 + m / 65536 := fun m h0 h1 => by
  have a : irem m 65536 = m % 65536 := by unfold irem; rw [Int.tmod_eq_emod_of_nonneg h0]
  have b : iquo .i64 m 65536 = m / 65536 := by unfold iquo; rw [Int.tdiv_eq_ediv_of_nonneg h0,IntKind.wrap_i64]; omega
  rw [a,b,iadd_small (by omega) (by omega)]
 refine r73 xs j _ _ _ _ (fun h => ?_) (fun h => ?_) (fun h h2 h3 => ?_) (fun h h2 h3 => ?_) (fun h => ?_) (fun h => ?_) (fun h h2 h3 => ?_) (fun h h2 h3 => ?_) (fun h => ?_)
 ·rw [ilt_iff] at h; exact inR_iff.2 ⟨by omega,by omega⟩
 ·obtain ⟨z,hz,e,_,_⟩ := fac h
  rw [e]; rfl
 ·obtain ⟨z,hz,e,e2,hlt⟩ := fac h
  rw [e] at h3 ⊢
  simp only [AV.asInt,wrapI hz,m1 z hz] at h3 ⊢
  rw [e3 h,fold _ (by omega) (by omega)]
  have st := oc_step (sumN (xs.take j) 0) (z * 256) (by omega)
  rw [h3,cond_true] at st
  rw [st]
  have t := sumN_take hlt e2
  rw [wt_even (ev h2)] at t
  rw [← t]
  exact ⟨⟨j + 1,by omega,rfl⟩,rfl,by simp only; omega⟩
 ·obtain ⟨z,hz,e,e2,hlt⟩ := fac h
  rw [e] at h3 ⊢
  simp only [AV.asInt,wrapI hz,m1 z hz] at h3 ⊢
  rw [e3 h]
  have st := oc_step (sumN (xs.take j) 0) (z * 256) (by omega)
  rw [h3,cond_false] at st
  rw [st]
  have t := sumN_take hlt e2
  rw [wt_even (ev h2)] at t
  rw [← t]
  exact ⟨⟨j + 1,by omega,rfl⟩,rfl,by simp only; omega⟩
 ·rw [ilt_iff] at h; exact inR_iff.2 ⟨by omega,by omega⟩
 ·obtain ⟨z,hz,e,_,_⟩ := fac h
  rw [e]; rfl
 ·obtain ⟨z,hz,e,e2,hlt⟩ := fac h
  rw [e] at h3 ⊢
  simp only [AV.asInt,wrapI hz,m2 z hz] at h3 ⊢
  rw [e3 h,fold _ (by omega) (by omega)]
  have st := oc_step (sumN (xs.take j) 0) z (by omega)
  rw [h3,cond_true] at st
  rw [st]
  have t := sumN_take hlt e2
  rw [wt_odd (od h2),Nat.mul_one] at t
  rw [← t]
  exact ⟨⟨j + 1,by omega,rfl⟩,rfl,by simp only; omega⟩
 ·obtain ⟨z,hz,e,e2,hlt⟩ := fac h
  rw [e] at h3 ⊢
  simp only [AV.asInt,wrapI hz,m2 z hz] at h3 ⊢
  rw [e3 h]
  have st := oc_step (sumN (xs.take j) 0) z (by omega)
  rw [h3,cond_false] at st
  rw [st]
  have t := sumN_take hlt e2
  rw [wt_odd (od h2),Nat.mul_one] at t
  rw [← t]
  exact ⟨⟨j + 1,by omega,rfl⟩,rfl,by simp only; omega⟩
 ·rw [ilt_no] at h
  have : j = xs.length := by omega
  subst this
  show _ = (Ex.exit 0,r73_o0 xs _ _)
  rw [List.take_length]; rfl
theorem lok73 {xs : List AV} (hb : byteL xs) (hl : xs.length ≤ 65536) {loops} : LoopOk (book.envP 73 noSpec big loops) (loopBody Try.f73 3) (lp73 xs) :=
 Book.loop_ok (loops' := noLoops) (noInner (by kernel_rfl)) (by kernel_rfl) (fun x hx => by
  obtain ⟨rfl,_,_⟩ := pre72_ok hx
  exact ⟨⟨0,by omega,rfl⟩,by unfold big; simp only; omega⟩) (step73 hb hl)
theorem run2 {P : Program} {K : Book} (hK : K.Ok P) {f : FuncId} {fn : Func} (hf : K.fn.get f = some fn) {spec : List (FuncId × SumT)} (hs : SpecTL P spec) {fuel k k2 : Nat} {l l2 : AS → T (Tree (Ex × AS))}
  (hn : nodupB ((bodyLoops fn).map firstKey) = true) (hl : LoopOk (K.envP f spec fuel (loopsAt [(k,l),(k2,l2)])) (loopBody fn k) l) (hl2 : LoopOk (K.envP f spec fuel (loopsAt [(k,l),(k2,l2)])) (loopBody fn k2) l2) {args : List AV} {passed : List (List AV)} {q : Q} {r : AV} {passed' : List (List AV)}
  (h : Goes (runP (K.envP f spec fuel (loopsAt [(k,l),(k2,l2)])) fn args passed q) (r,passed')) : CallsA P f args passed r passed' :=
 hK.path hf hs fuel _ (fun _ hb => loops_ok hb hn (loopsAt_cons hl (loopsAt_one hl2))) q h.ret
theorem sum_end (xs : List AV) : (AV.int .i64 (isub .i64 65535 (ocI ((sumN xs 0 : Nat) : Int))),([] : List (List AV))) = (AV.int .i64 (sumV xs),[]) := by
 have := oc_range (sumN xs 0)
 have e : isub .i64 65535 (ocI ((sumN xs 0 : Nat) : Int)) = sumV xs := by
  unfold isub sumV; rw [IntKind.wrap_i64]; omega
 rw [e]
theorem s72 : SumTOk Try.prog 72 S72 := sumW_ok fun xs h => by
 simp only [Bool.and_eq_true,bytB_iff,shortB,Nat.ble_eq] at h
 have hp : pre72 xs (0,0) = true := by
  simp only [pre72,Bool.and_eq_true,bytB_iff,shortB,Nat.ble_eq]; exact ⟨rfl,rfl,h.1,h.2⟩
 have bd := sumN_le 0 h.1
 exact run2 book_ok (by kernel_rfl) noSpec_ok (by kernel_rfl) (lok72 h.1 h.2) lokB (p72 xs _ hp (by
  show preB ((sumN xs 0 : Nat) : Int) = true
  simp only [preB,Bool.and_eq_true,ile_iff']; omega) (sum_end xs))
theorem s73 : SumTOk Try.prog 73 S72 := sumW_ok fun xs h => by
 simp only [Bool.and_eq_true,bytB_iff,shortB,Nat.ble_eq] at h
 have hp : pre72 xs (0,0) = true := by
  simp only [pre72,Bool.and_eq_true,bytB_iff,shortB,Nat.ble_eq]; exact ⟨rfl,rfl,h.1,h.2⟩
 exact book_ok.run1 (by kernel_rfl) noSpec_ok (by kernel_rfl) (lok73 h.1 h.2) (p73 xs _ hp (sum_end xs))
end Go.Proofs.Ytdcijmigoefnjaa
