import Derived.Test.YtdcijmigoefnjaaP45b
import Derived.Test.YtdcijmigoefnjaaL45a
import Derived.Test.YtdcijmigoefnjaaD03
import Derived.Test.YtdcijmigoefnjaaBk2
import Derived.Test.YtdcijmigoefnjaaL04b
import Derived.Test.YtdcijmigoefnjaaD04q
import Derived.Test.YtdcijmigoefnjaaD46c
import Derived.Test.YtdcijmigoefnjaaL46b
set_option linter.unusedVariables false
set_option linter.unusedSimpArgs false
set_option maxRecDepth 100000
set_option maxHeartbeats 0
namespace Go.Proofs.Ytdcijmigoefnjaa
open Go Go.Ev
structure GW (e : Int) (K : Nat → Int) (x : AV × List (List AV)) : Prop where
 r : x.1 = .int .i64 e
 m : e = 0 → leM x.2 [hdrC K ++ [.unk]]
 n : ∃ cs : List AV,x.2 = [cs] ∧ cs.length = 49
theorem gw_ok {K : Nat → Int} {cs : List AV} (h : cs.take 48 = hdrC K) (hl : cs.length = 49) : GW 0 K (.int .i64 0,[cs]) := by
 refine ⟨rfl,fun _ => ⟨rfl,fun j p q hp hq => ?_⟩,cs,rfl,hl⟩
 match j with
 | 0 =>
  cases hp; cases hq
  refine ⟨by rw [hl]; rfl,fun i a b ha hb => ?_⟩
  by_cases hi : i < 48
  ·have e1 : (hdrC K)[i]? = some a := by rw [← h,List.getElem?_take,if_pos hi]; exact ha
   rw [List.getElem?_append_left (by exact hi),e1] at hb
   cases hb; exact .inr rfl
  ·have : i < (hdrC K ++ [AV.unk]).length := (List.getElem?_eq_some_iff.1 hb).1
   have e49 : (hdrC K ++ [AV.unk]).length = 49 := rfl
   have : i = 48 := by omega
   subst this
   cases hb; exact .inl rfl
 | j + 1 => simp at hp
theorem gw_no {e : Int} {K : Nat → Int} {cs : List AV} (he : e ≠ 0) (hl : cs.length = 49) : GW e K (.int .i64 e,[cs]) := ⟨rfl,fun h => (he h).elim,cs,rfl,hl⟩
theorem gw_calls {f : FuncId} {args : List AV} {passed : List (List AV)} {e : Int} {K : Nat → Int} (h : ∃ r p,GW e K (r,p) ∧ CallsA Try.prog f args passed r p) : CallsA Try.prog f args passed (outW e K).val.1 (outW e K).val.2 := by
 obtain ⟨r,p,⟨h1,h2,cs,h3,h4⟩,hc⟩ := h
 simp only at h1 h2 h3
 subst h1 h3
 unfold outW
 cases hb : ieq e 0 with
 | true =>
  have : e = 0 := by simpa [ieq] using hb
  subst this
  exact hc.le (h2 rfl)
 | false => exact hc.forget h4
theorem ile_not (a b : Int) : ile a b = !ilt b a := by
 cases h : ilt b a
 ·rw [ilt_no] at h; exact ile_iff'.2 h
 ·rw [ilt_iff] at h; cases h2 : ile a b with | false => rfl | true => rw [ile_iff'] at h2; omega
theorem okL_drop {xs : List AV} (h : okL xs = true) (n : Nat) : okL (xs.drop n) = true := by
 rw [okL_iff] at h ⊢
 exact ⟨fun y hy => h.1 y (List.mem_of_mem_drop hy),by rw [List.length_drop]; omega⟩
theorem okL_take {xs : List AV} (h : okL xs = true) (n : Nat) : okL (xs.take n) = true := by
 rw [okL_iff] at h ⊢
 exact ⟨fun y hy => h.1 y (List.mem_of_mem_take hy),by rw [List.length_take]; omega⟩
theorem nv_lt {xs : List AV} (h : okL xs = true) (o n : Nat) : 0 ≤ nv xs o n ∧ nv xs o n < 256 ^ n := by
 unfold nv
 have hb := (okL_iff.1 (okL_take (okL_drop h o) n)).1
 have := valB_lt _ hb
 have h2 : 256 ^ (((xs.drop o).take n).length) ≤ 256 ^ n := Nat.pow_le_pow_right (by decide) (by rw [List.length_take]; omega)
 refine ⟨by omega,?_⟩
 have := Nat.lt_of_lt_of_le this h2
 exact_mod_cast this
theorem val_small {xs : List AV} (h : okL xs = true) {n : Nat} (hn : n ≤ 8) : valB (xs.take n) < 18446744073709551616 := by
 have := nv_lt h 0 n
 have h2 : 256 ^ n ≤ 256 ^ 8 := Nat.pow_le_pow_right (by decide) hn
 have h3 : nv xs 0 n = ((valB (xs.take n) : Nat) : Int) := by unfold nv; rw [List.drop_zero]
 rw [h3] at this
 have : valB (xs.take n) < 256 ^ n := by exact_mod_cast this.2
 exact Nat.lt_of_lt_of_le this h2
theorem wvH_0 {xs : List AV} (h : okL xs = true) {n : Nat} (hn : n ≤ 8) : wvH xs n = 0 := by
 unfold wvH; rw [Nat.div_eq_of_lt (val_small h hn)]; rfl
theorem wvL_nv {xs : List AV} (h : okL xs = true) {n : Nat} (hn : n ≤ 8) : wvL xs n = nv xs 0 n := by
 unfold wvL nv; rw [Nat.mod_eq_of_lt (val_small h hn),List.drop_zero]
theorem nv_drop (xs : List AV) (a o n : Nat) : nv (xs.drop a) o n = nv xs (a + o) n := by
 unfold nv; rw [List.drop_drop]
theorem spM0_ok : SpecTL Try.prog spM0 := ⟨s178,s115v s115,s72,trivial⟩
theorem need_pre {xs : List AV} (h : okL xs = true) {m : Int} (hm : m ≤ xs.length) : (okL xs && (true && ile m (xs.length : Int))) = true := by
 rw [h,ile_iff'.2 hm]; rfl
theorem ilt0 (n : Nat) : ilt (n : Int) 0 = false := ilt_no.2 (by omega)
theorem s192 : SumTOk Try.prog 192 S192 := sumSW_ok fun x hx => by
 obtain ⟨four,b,p,xs⟩ := x
 have h : okL xs = true := hx
 have w1 := wvH_0 h (n := 2) (by omega)
 have w2 := wvL_nv h (n := 2) (by omega)
 have w3 := wvH_0 h (n := 1) (by omega)
 have w4 := wvL_nv h (n := 1) (by omega)
 have w5 := wvH_0 (okL_drop h 2) (n := 2) (by omega)
 have w6 : wvL (xs.drop 2) 2 = nv xs 2 2 := by rw [wvL_nv (okL_drop h 2) (by omega),nv_drop]
 have w7 := wvH_0 (okL_drop h 1) (n := 1) (by omega)
 have w8 : wvL (xs.drop 1) 1 = nv xs 1 1 := by rw [wvL_nv (okL_drop h 1) (by omega),nv_drop]
 have d1 := okL_drop h 1
 have d2 := okL_drop h 2
 cases four with
 | true =>
  refine gw_calls (book_ok.pthX (by kernel_rfl) spM0_ok (p192t b p xs _ ?_ ?_ ?_ ?_ ?_ ?_ ?_ ?_ ?_ ?_ ?_ ?_ ?_ ?_ ?_ ?_ ?_ ?_ ?_))
  all_goals (repeat intro)
  all_goals first
   | exact need_pre h (by simp only [Bool.not_eq_false',ile_iff'] at *; omega)
   | exact need_pre d2 (by simp only [Bool.not_eq_false',ile_iff',List.length_drop] at *; omega)
   | exact need_pre d1 (by simp only [Bool.not_eq_false',ile_iff',List.length_drop] at *; omega)
   | exact inR_iff.2 ⟨by omega,by simp only [Bool.not_eq_false',ile_iff',List.length_drop] at *; omega⟩
   |(have e : withinE true p.2.2.1 xs = 3 := by (unfold withinE needN; simp_all [ile_not,ilt0])
     show GW (withinE true p.2.2.1 xs) _ _
     rw [e]; exact gw_no (by decide) rfl)
   |(have e : withinE true p.2.2.1 xs = 0 := by (unfold withinE needN; simp_all [ile_not,ilt0])
     show GW (withinE true p.2.2.1 xs) (withinK (ipK b true p) true p.2.2.1 xs) _
     rw [e]
     first
      |(have k : withinK (ipK b true p) true p.2.2.1 xs = setK (setK (ipK b true p) 12 (0,nv xs 0 2)) 13 (0,nv xs 2 2) := by (unfold withinK; simp_all; done)
        rw [k]; simp only [AV.elems,w1,w2,w5,w6]; exact gw_ok (by kernel_rfl) rfl)
      |(have k : withinK (ipK b true p) true p.2.2.1 xs = setK (setK (ipK b true p) 14 (0,nv xs 0 2)) 15 (0,nv xs 2 2) := by (unfold withinK; simp_all; done)
        rw [k]; simp only [AV.elems,w1,w2,w5,w6]; exact gw_ok (by kernel_rfl) rfl)
      |(have k : withinK (ipK b true p) true p.2.2.1 xs = setK (setK (ipK b true p) 16 (0,nv xs 0 1)) 17 (0,nv xs 1 1) := by (unfold withinK; simp_all; done)
        rw [k]; simp only [AV.elems,w3,w4,w7,w8]; exact gw_ok (by kernel_rfl) rfl)
      |(have k : withinK (ipK b true p) true p.2.2.1 xs = ipK b true p := by (unfold withinK; simp_all; done)
        rw [k]; exact gw_ok (by kernel_rfl) rfl))
 | false =>
  refine gw_calls (book_ok.pthX (by kernel_rfl) spM0_ok (p192f b p xs _ ?_ ?_ ?_ ?_ ?_ ?_ ?_ ?_ ?_ ?_ ?_ ?_ ?_ ?_))
  all_goals (repeat intro)
  all_goals first
   | exact need_pre h (by simp only [Bool.not_eq_false',ile_iff'] at *; omega)
   | exact need_pre d2 (by simp only [Bool.not_eq_false',ile_iff',List.length_drop] at *; omega)
   | exact need_pre d1 (by simp only [Bool.not_eq_false',ile_iff',List.length_drop] at *; omega)
   | exact inR_iff.2 ⟨by omega,by simp only [Bool.not_eq_false',ile_iff',List.length_drop] at *; omega⟩
   |(have e : withinE false p.2.2.1 xs = 3 := by (unfold withinE needN; simp_all [ile_not,ilt0])
     show GW (withinE false p.2.2.1 xs) _ _
     rw [e]; exact gw_no (by decide) rfl)
   |(have e : withinE false p.2.2.1 xs = 0 := by (unfold withinE needN; simp_all [ile_not,ilt0])
     show GW (withinE false p.2.2.1 xs) (withinK (ipK b false p) false p.2.2.1 xs) _
     rw [e]
     first
      |(have k : withinK (ipK b false p) false p.2.2.1 xs = setK (setK (ipK b false p) 12 (0,nv xs 0 2)) 13 (0,nv xs 2 2) := by (unfold withinK; simp_all; done)
        rw [k]; simp only [AV.elems,w1,w2,w5,w6]; exact gw_ok (by kernel_rfl) rfl)
      |(have k : withinK (ipK b false p) false p.2.2.1 xs = setK (setK (ipK b false p) 14 (0,nv xs 0 2)) 15 (0,nv xs 2 2) := by (unfold withinK; simp_all; done)
        rw [k]; simp only [AV.elems,w1,w2,w5,w6]; exact gw_ok (by kernel_rfl) rfl)
      |(have k : withinK (ipK b false p) false p.2.2.1 xs = setK (setK (ipK b false p) 16 (0,nv xs 0 1)) 17 (0,nv xs 1 1) := by (unfold withinK; simp_all; done)
        rw [k]; simp only [AV.elems,w3,w4,w7,w8]; exact gw_ok (by kernel_rfl) rfl)
      |(have k : withinK (ipK b false p) false p.2.2.1 xs = ipK b false p := by (unfold withinK; simp_all; done)
        rw [k]; exact gw_ok (by kernel_rfl) rfl))
end Go.Proofs.Ytdcijmigoefnjaa
set_option linter.unusedVariables false
set_option linter.unusedSimpArgs false
namespace Go.Proofs.Ytdcijmigoefnjaa
open Go Go.Ev
theorem andM {n : Int} {m : Nat} (hm : m ≤ 62) (h0 : 0 ≤ n) (h1 : n ≤ 4611686018427387904) : ibits .and .i64 n ((2 ^ m - 1 : Nat) : Int) = n % ((2 ^ m : Nat) : Int) := by
 obtain ⟨k,rfl⟩ : ∃ k : Nat,n = k := ⟨n.toNat,by omega⟩
 have hk : k < 2 ^ 64 := by omega
 have hp : 2 ^ m ≤ 2 ^ 62 := Nat.pow_le_pow_right (by decide) hm
 have hp0 := Nat.two_pow_pos m
 rw [ibits_eq]
 show IntKind.i64.wrap _ = _
 have e : (BitVec.ofInt IntKind.i64.bits (k : Int) &&& BitVec.ofInt IntKind.i64.bits ((2 ^ m - 1 : Nat) : Int)).toNat = k % 2 ^ m := by
  show (BitVec.ofInt 64 (k : Int) &&& BitVec.ofInt 64 ((2 ^ m - 1 : Nat) : Int)).toNat = _
  rw [BitVec.toNat_and,BitVec.ofInt_natCast,BitVec.ofInt_natCast,BitVec.toNat_ofNat,BitVec.toNat_ofNat,Nat.mod_eq_of_lt hk,Nat.mod_eq_of_lt (by omega)]
  exact Nat.and_two_pow_sub_one_eq_mod k m
 have hl := Nat.mod_lt k hp0
 have e3 : ((k : Int) % ((2 ^ m : Nat) : Int)) = ((k % 2 ^ m : Nat) : Int) := rfl
 rw [e,IntKind.wrap_i64,e3]
 omega
theorem shrM {n : Int} (k : Nat) (hk : k ≤ 63) : ishr .i64 n (k : Int) = n / ((2 ^ k : Nat) : Int) := by
 unfold ishr
 have e : min ((k : Int).toNat) IntKind.i64.bits = k := by simp [IntKind.bits]; omega
 rw [e,Int.fdiv_eq_ediv_of_nonneg _ (by exact_mod_cast Nat.zero_le _)]
 congr 1
theorem shl2 {n : Int} (h0 : 0 ≤ n) (h1 : n < 65536) : ishl .i64 n 2 = n * 4 := by
 obtain ⟨k,rfl⟩ : ∃ k : Nat,n = k := ⟨n.toNat,by omega⟩
 unfold ishl
 simp [IntKind.bits,IntKind.wrap_i64]
 omega
theorem wrapU {n : Int} (h0 : 0 ≤ n) (h1 : n < 4611686018427387904) : IntKind.u64.wrap n = n := by rw [IntKind.wrap_u64]; omega
theorem wrapS {n : Int} (h0 : 0 ≤ n) (h1 : n < 4611686018427387904) : IntKind.i64.wrap n = n := by rw [IntKind.wrap_i64]; omega
theorem quoU {n m : Int} (h0 : 0 ≤ n) (h1 : n < 4611686018427387904) (hm : 1 ≤ m) : iquo .u64 n m = n / m := by
 unfold iquo; rw [Int.tdiv_eq_ediv_of_nonneg h0]
 have h2 : n / m ≤ n := Int.ediv_le_self _ h0
 have h3 : 0 ≤ n / m := Int.ediv_nonneg h0 (by omega)
 exact wrapU h3 (by omega)
theorem quoB {n m : Int} (h0 : 0 ≤ n) (h1 : n < 256) (hm : 1 ≤ m) : iquo .u8 n m = n / m := by
 unfold iquo; rw [Int.tdiv_eq_ediv_of_nonneg h0,IntKind.wrap_u8]
 have h2 : n / m ≤ n := Int.ediv_le_self _ h0
 have h3 : 0 ≤ n / m := Int.ediv_nonneg h0 (by omega)
 omega
theorem remM {n m : Int} (h0 : 0 ≤ n) : irem n m = n % m := by unfold irem; rw [Int.tmod_eq_emod_of_nonneg h0]
theorem nv1 {xs : List AV} (h : okL xs = true) (o : Nat) : 0 ≤ nv xs o 1 ∧ nv xs o 1 < 256 := nv_lt h o 1
theorem nv2 {xs : List AV} (h : okL xs = true) (o : Nat) : 0 ≤ nv xs o 2 ∧ nv xs o 2 < 65536 := nv_lt h o 2
theorem nv4 {xs : List AV} (h : okL xs = true) (o : Nat) : 0 ≤ nv xs o 4 ∧ nv xs o 4 < 4294967296 := nv_lt h o 4
theorem nvT {xs : List AV} {L o n : Nat} (hl : o + n ≤ L) : nv (xs.take L) o n = nv xs o n := by
 unfold nv; rw [List.drop_take,List.take_take,Nat.min_eq_left (by omega)]
theorem wvHT {xs : List AV} {L o n : Nat} (hl : o + n ≤ L) : wvH ((xs.take L).drop o) n = wvH (xs.drop o) n := by
 unfold wvH; rw [List.drop_take,List.take_take,Nat.min_eq_left (by omega)]
theorem wvLT {xs : List AV} {L o n : Nat} (hl : o + n ≤ L) : wvL ((xs.take L).drop o) n = wvL (xs.drop o) n := by
 unfold wvL; rw [List.drop_take,List.take_take,Nat.min_eq_left (by omega)]
theorem getN {xs : List AV} (h : okL xs = true) {o : Nat} (ho : o < xs.length) : (xs.getD o .unk).asInt = nv xs o 1 := by
 obtain ⟨z,hz,e1,e2⟩ := drop_byte (okL_iff.1 h).1 ho
 rw [e2]; unfold nv; rw [e1]; simp [valB,AV.asInt]
theorem hasN {xs : List AV} (h : okL xs = true) {o : Nat} (ho : o < xs.length) : AV.has (TI.mk (TD.int IntKind.u8) 1 1 [AV.int IntKind.u8 0]) (xs.getD o AV.unk) = true := by
 obtain ⟨z,hz,e1,e2⟩ := drop_byte (okL_iff.1 h).1 ho
 rw [e2]; rfl
theorem need_pre2 {xs : List AV} (h : okL xs = true) {m : Int} (hm : m ≤ xs.length) : (okL xs && (true && ile m (xs.length : Int))) = true := by
 rw [h,ile_iff'.2 hm]; rfl
theorem need_pre3 {xs : List AV} (h : okL xs = true) {m : Int} (hm : m ≤ xs.length) : (okL xs && (true && (true && ile m (xs.length : Int)))) = true := by
 rw [h,ile_iff'.2 hm]; rfl
def GR (e : Int) (K : Nat → Int) (x : AV × List (List AV)) : Prop := x = ((outR e K).val,[])
theorem gr_ok {K : Nat → Int} {cs : List AV} (h : cs = hdrC K) : GR 0 K (.tup [.agg cs,.int .i64 0],[]) := by subst h; rfl
theorem gr_no {e : Int} {K : Nat → Int} (he : e ≠ 0) : GR e K (.tup [.agg (hdrC fun _ => 0),.int .i64 e],[]) := by
 unfold GR outR
 have : ieq e 0 = false := by simp [ieq,he]
 rw [this]; rfl
theorem gr_calls {f : FuncId} {args : List AV} {passed : List (List AV)} {e : Int} {K : Nat → Int} (h : ∃ r p,GR e K (r,p) ∧ CallsA Try.prog f args passed r p) : CallsA Try.prog f args passed (outR e K).val [] := by
 obtain ⟨r,p,h1,hc⟩ := h
 cases h1; exact hc
end Go.Proofs.Ytdcijmigoefnjaa
set_option linter.unusedVariables false
set_option maxRecDepth 100000
namespace Go.Proofs.Ytdcijmigoefnjaa
open Go Go.Ev
abbrev X57 := Int × List AV × List AV
abbrev X58 := Int × Int × List AV
end Go.Proofs.Ytdcijmigoefnjaa
set_option linter.unusedVariables false
set_option maxRecDepth 100000
namespace Go.Proofs.Ytdcijmigoefnjaa
open Go Go.Ev
theorem hdr_get (h : Nat → Int) {i : Nat} (hi : i < 48) : (hdrC h)[i]? = some (.int .u64 (h i)) := by
 match i,hi with
 | 0,_ => rfl
 | 1,_ => rfl
 | 2,_ => rfl
 | 3,_ => rfl
 | 4,_ => rfl
 | 5,_ => rfl
 | 6,_ => rfl
 | 7,_ => rfl
 | 8,_ => rfl
 | 9,_ => rfl
 | 10,_ => rfl
 | 11,_ => rfl
 | 12,_ => rfl
 | 13,_ => rfl
 | 14,_ => rfl
 | 15,_ => rfl
 | 16,_ => rfl
 | 17,_ => rfl
 | 18,_ => rfl
 | 19,_ => rfl
 | 20,_ => rfl
 | 21,_ => rfl
 | 22,_ => rfl
 | 23,_ => rfl
 | 24,_ => rfl
 | 25,_ => rfl
 | 26,_ => rfl
 | 27,_ => rfl
 | 28,_ => rfl
 | 29,_ => rfl
 | 30,_ => rfl
 | 31,_ => rfl
 | 32,_ => rfl
 | 33,_ => rfl
 | 34,_ => rfl
 | 35,_ => rfl
 | 36,_ => rfl
 | 37,_ => rfl
 | 38,_ => rfl
 | 39,_ => rfl
 | 40,_ => rfl
 | 41,_ => rfl
 | 42,_ => rfl
 | 43,_ => rfl
 | 44,_ => rfl
 | 45,_ => rfl
 | 46,_ => rfl
 | 47,_ => rfl
 | i + 48,h => omega
theorem hdrC_congr {h g : Nat → Int} (e : ∀ c,c < 48 → h c = g c) : hdrC h = hdrC g := by
 apply List.ext_getElem?
 intro i
 by_cases hi : i < 48
 ·rw [hdr_get h hi,hdr_get g hi,e i hi]
 ·rw [List.getElem?_eq_none (by show 48 ≤ i; omega),List.getElem?_eq_none (by show 48 ≤ i; omega)]
end Go.Proofs.Ytdcijmigoefnjaa
set_option linter.unusedVariables false
set_option linter.unusedSimpArgs false
set_option maxRecDepth 100000
set_option maxHeartbeats 0
namespace Go.Proofs.Ytdcijmigoefnjaa
open Go Go.Ev
theorem ile_iff {a b : Int} : ile a b = true ↔ a ≤ b := by simp [ile]
structure P57 (xs : List AV) (x : X57) : Prop where
 at_ : ∃ j : Nat,j ≤ 24 ∧ offOf j ≤ xs.length ∧ x = ((j : Int),xs.drop (offOf j),hdrC (pc xs j))
structure P58 (xs : List AV) (x : X58) : Prop where
 at_ : ∃ j : Nat,j ≤ 24 ∧ offOf j ≤ xs.length ∧ x = ((j : Int),(offOf j : Int),hdrC (pc xs j))
end Go.Proofs.Ytdcijmigoefnjaa
set_option linter.unusedVariables false
set_option linter.unusedSimpArgs false
set_option maxRecDepth 100000
namespace Go.Proofs.Ytdcijmigoefnjaa
open Go Go.Ev
theorem mask_all : ((List.range 48).all fun c => ile 0 (maskTab.getD c 0) && ilt (maskTab.getD c 0) 18446744073709551616) = true := by kernel_rfl
theorem mask_at {c : Nat} (hc : c < 48) : ∃ m : Nat,maskTab.getD c 0 = m ∧ m < 2 ^ 64 := by
 have := List.all_eq_true.1 mask_all c (List.mem_range.2 hc)
 simp only [Bool.and_eq_true,ile_iff,ilt_iff] at this
 exact ⟨(maskTab.getD c 0).toNat,by omega,by omega⟩
end Go.Proofs.Ytdcijmigoefnjaa
set_option linter.unusedVariables false
set_option linter.unusedSimpArgs false
set_option maxRecDepth 100000
set_option maxHeartbeats 0
namespace Go.Proofs.Ytdcijmigoefnjaa
open Go Go.Ev
def FitN (k : Nat → Int) : Prop := ∀ c,c < 48 → 0 ≤ k c ∧ k c ≤ maskTab.getD c 0
theorem right_fits {hs : List AV} (h : rightH hs = true) : fitsC hs = true := by
 unfold rightH at h
 cases hf : fitsC hs with
 | true => rfl
 | false => rw [hf] at h; cases h
theorem pairEq_cell : ∀ {cs ds : List AV},pairEq cs ds = true → cs.length = ds.length → cs.length % 2 = 0 → ∀ c,cell cs c = cell ds c
 | [],[],_,_,_,c => rfl
 | a :: b :: cs,d :: e :: ds,h,hl,h2,c => by
  simp only [pairEq,Bool.and_eq_true,ieq,beq_iff_eq] at h
  match c with
  | 0 => exact h.1.1
  | 1 => exact h.1.2.1
  | c + 2 => exact pairEq_cell h.2 (by simpa using hl) (by simp only [List.length_cons] at h2; omega) c
 | [_],_,_,_,h2,_ => by simp at h2
 | _ :: _ :: _,[],_,hl,_,_ => by simp at hl
 | _ :: _ :: _,[_],_,hl,_,_ => by simp at hl
 | [],_ :: _,_,hl,_,_ => by simp at hl
theorem and_le {n m : Int} (hn : inU n = true) (hm : inU m = true) : ibits .and .u64 n m ≤ m := by
 rw [inU_iff] at hn hm
 obtain ⟨a,rfl⟩ : ∃ a : Nat,n = a := ⟨n.toNat,by omega⟩
 obtain ⟨b,rfl⟩ : ∃ b : Nat,m = b := ⟨m.toNat,by omega⟩
 rw [ibits_eq]
 show IntKind.u64.wrap ((BitVec.ofInt 64 (a : Int) &&& BitVec.ofInt 64 (b : Int)).toNat : Int) ≤ (b : Int)
 rw [BitVec.toNat_and,BitVec.ofInt_natCast,BitVec.ofInt_natCast,BitVec.toNat_ofNat,BitVec.toNat_ofNat,Nat.mod_eq_of_lt (by omega),Nat.mod_eq_of_lt (by omega)]
 have := @Nat.and_le_right a b
 rw [IntKind.wrap_u64]; omega
theorem fitN_of {k : Nat → Int} (hu : hdrU (hdrC k) = true) (hf : fitsC (hdrC k) = true) : FitN k := by
 intro c hc
 have hi := hdrU_in hu hc
 have hi' := inU_iff.1 hi
 refine ⟨hi'.1,?_⟩
 obtain ⟨m,hm,hm2⟩ := mask_at hc
 have e : fitsC (hdrC k) = pairEq (hdrC k) (hdrC fun c => ibits .and .u64 (k c) (maskTab.getD c 0)) := rfl
 rw [e] at hf
 have := pairEq_cell hf rfl (by show 48 % 2 = 0; rfl) c
 rw [cell_hdr _ hc,cell_hdr _ hc] at this
 have h2 := and_le hi (m := maskTab.getD c 0) (by rw [hm,inU_iff]; omega)
 rw [this]; exact h2
theorem lowF_of {k : Nat → Int} (h : FitN k) {i : Int} (hi : isF i = true) (hm : maskTab.getD (i.toNat * 2 + 1) 0 < 9223372036854775808) : lowH (hdrC k) i = k (i.toNat * 2 + 1) := by
 have hb := isF_in' hi
 unfold lowH
 rw [getH_hdr k hi]
 have := h (i.toNat * 2 + 1) (by omega)
 show IntKind.i64.wrap (k (i.toNat * 2 + 1)) = _
 rw [IntKind.wrap_i64]; omega
theorem or_i64 (a b m : Nat) (hb : b < 2 ^ m) (hs : a * 2 ^ m + b < 9223372036854775808) : ibits .or .i64 ((a * 2 ^ m : Nat) : Int) (b : Int) = ((a * 2 ^ m + b : Nat) : Int) := by
 have e4 : (a * 2 ^ m) ||| b = a * 2 ^ m + b := by
  rw [← Nat.shiftLeft_eq,Nat.shiftLeft_add_eq_or_of_lt hb]
 rw [ibits_eq]
 show IntKind.i64.wrap _ = _
 have e : (BitVec.ofInt IntKind.i64.bits ((a * 2 ^ m : Nat) : Int) ||| BitVec.ofInt IntKind.i64.bits (b : Int)).toNat = (a * 2 ^ m) ||| b := by
  show (BitVec.ofInt 64 ((a * 2 ^ m : Nat) : Int) ||| BitVec.ofInt 64 (b : Int)).toNat = _
  rw [BitVec.toNat_or,BitVec.ofInt_natCast,BitVec.ofInt_natCast,BitVec.toNat_ofNat,BitVec.toNat_ofNat,Nat.mod_eq_of_lt (by omega),Nat.mod_eq_of_lt (by omega)]
 rw [e,e4,IntKind.wrap_i64]; omega
theorem shl_i64 (a m : Nat) (hm : m < 64) (hs : a * 2 ^ m < 9223372036854775808) : ishl .i64 (a : Int) (m : Int) = ((a * 2 ^ m : Nat) : Int) := by
 unfold ishl
 rw [IntKind.wrap_i64,show min ((m : Int)).toNat IntKind.i64.bits = m by show min m 64 = m; omega]
 have : (a : Int) * 2 ^ m = ((a * 2 ^ m : Nat) : Int) := by push_cast; rfl
 rw [this]; omega
theorem cls_of {k : Nat → Int} (h : FitN k) : clsI (hdrC k) = k 15 * 4 + k 17 := by
 have h1 := h 15 (by decide); have h2 := h 17 (by decide)
 have e1 : maskTab.getD 15 0 = 63 := rfl
 have e2 : maskTab.getD 17 0 = 3 := rfl
 rw [e1] at h1; rw [e2] at h2
 unfold clsI
 rw [lowF_of h (i := 7) rfl (by decide),lowF_of h (i := 8) rfl (by decide)]
 show ibits .or .i64 (ishl .i64 (k 15) 2) (k 17) = _
 obtain ⟨a,ha⟩ : ∃ a : Nat,k 15 = a := ⟨(k 15).toNat,by omega⟩
 obtain ⟨b,hb⟩ : ∃ b : Nat,k 17 = b := ⟨(k 17).toNat,by omega⟩
 rw [ha] at h1 ⊢
 rw [hb] at h2 ⊢
 have s := shl_i64 a 2 (by decide) (by omega)
 have o := or_i64 a b 2 (by omega) (by omega)
 rw [show ((2 : Nat) : Int) = 2 from rfl] at s
 rw [s,o]; omega
theorem tag_of {k : Nat → Int} (h : FitN k) : tagN (hdrC k) = k 13 * 8192 + k 11 % 4096 := by
 have h1 := h 13 (by decide); have h2 := h 11 (by decide)
 have e1 : maskTab.getD 13 0 = 7 := rfl
 have e2 : maskTab.getD 11 0 = 8191 := rfl
 rw [e1] at h1; rw [e2] at h2
 unfold tagN
 rw [lowF_of h (i := 6) rfl (by decide),lowF_of h (i := 5) rfl (by decide)]
 show ibits .or .i64 (ishl .i64 (k 13) 13) (ibits .and .i64 (k 11) 4095) = _
 rw [show ibits .and .i64 (k 11) 4095 = k 11 % 4096 from andM (m := 12) (by omega) (by omega) (by omega)]
 obtain ⟨a,ha⟩ : ∃ a : Nat,k 13 = a := ⟨(k 13).toNat,by omega⟩
 obtain ⟨b,hb⟩ : ∃ b : Nat,k 11 % 4096 = b := ⟨(k 11 % 4096).toNat,by omega⟩
 have hb2 : b < 4096 := by omega
 rw [ha] at h1 ⊢
 rw [hb]
 have s := shl_i64 a 13 (by decide) (by omega)
 have o := or_i64 a b 13 (by omega) (by omega)
 rw [show ((13 : Nat) : Int) = 13 from rfl] at s
 rw [s,o]; omega
theorem lab_of {k : Nat → Int} (h : FitN k) : labN (hdrC k) = k 47 * 4096 := by
 have h1 := h 47 (by decide)
 have e1 : maskTab.getD 47 0 = 1048575 := rfl
 rw [e1] at h1
 unfold labN
 rw [lowF_of h (i := 23) rfl (by decide)]
 show ishl .i64 (k 47) 12 = _
 obtain ⟨a,ha⟩ : ∃ a : Nat,k 47 = a := ⟨(k 47).toNat,by omega⟩
 rw [ha] at h1 ⊢
 have s := shl_i64 a 12 (by decide) (by omega)
 rw [show ((12 : Nat) : Int) = 12 from rfl] at s
 rw [s]; omega
theorem six_of {k : Nat → Int} (h : FitN k) : ishl .i64 (ibits .or .i64 1536 (clsI (hdrC k))) 20 = (1536 + (k 15 * 4 + k 17)) * 1048576 := by
 rw [cls_of h]
 have h1 := h 15 (by decide); have h2 := h 17 (by decide)
 have e1 : maskTab.getD 15 0 = 63 := rfl
 have e2 : maskTab.getD 17 0 = 3 := rfl
 rw [e1] at h1; rw [e2] at h2
 obtain ⟨a,ha⟩ : ∃ a : Nat,k 15 * 4 + k 17 = a := ⟨(k 15 * 4 + k 17).toNat,by omega⟩
 have hb2 : a < 256 := by omega
 rw [ha]
 have o := or_i64 6 a 8 (by omega) (by omega)
 rw [show (((6 * 2 ^ 8 : Nat)) : Int) = 1536 from rfl] at o
 rw [o]
 have s := shl_i64 (6 * 2 ^ 8 + a) 20 (by decide) (by omega)
 rw [show ((20 : Nat) : Int) = 20 from rfl] at s
 rw [s]; omega
theorem num4_ok {n : Int} (h0 : 0 ≤ n) (h1 : n < 4294967296) : numOk n 4 = true := by
 have a : ile 0 n = true := by simp [ile]; omega
 have b : ilt n 4294967296 = true := ilt_iff.2 h1
 unfold numOk
 rw [a,b]
 cases ilt n 256 <;> cases ilt n 65536 <;> rfl
theorem cls_ok {k : Nat → Int} (h : FitN k) : clsB (hdrC k) = true := by
 have h1 := h 15 (by decide); have h2 := h 17 (by decide)
 have e1 : maskTab.getD 15 0 = 63 := rfl
 have e2 : maskTab.getD 17 0 = 3 := rfl
 rw [e1] at h1; rw [e2] at h2
 unfold clsB
 rw [six_of h]; exact num4_ok (by omega) (by omega)
theorem tag_ok {k : Nat → Int} (h : FitN k) : numOk (tagN (hdrC k)) 2 = true := by
 have h1 := h 13 (by decide)
 have e1 : maskTab.getD 13 0 = 7 := rfl
 rw [e1] at h1
 rw [tag_of h]; exact num2_ok (by omega) (by omega)
theorem lab_ok {k : Nat → Int} (h : FitN k) : numOk (labN (hdrC k)) 4 = true := by
 have h1 := h 47 (by decide)
 have e1 : maskTab.getD 47 0 = 1048575 := rfl
 rw [e1] at h1
 rw [lab_of h]; exact num4_ok (by omega) (by omega)
end Go.Proofs.Ytdcijmigoefnjaa
