import Derived.Test.YtdcijmigoefnjaaP45e
import Derived.Test.YtdcijmigoefnjaaL45c
import Derived.Test.YtdcijmigoefnjaaL45d
set_option linter.unusedVariables false
set_option linter.unusedSimpArgs false
set_option maxRecDepth 100000
set_option maxHeartbeats 0
namespace Go.Proofs.Ytdcijmigoefnjaa
open Go Go.Ev
theorem spM3_ok : SpecTL Try.prog spM3 := ⟨s170,s171,s172,s173,spM0_ok⟩
theorem spR3_ok : SpecTL Try.prog spR3 := ⟨s130,s131,s132,spR0_ok⟩
theorem nv6 {xs : List AV} (h : okL xs = true) (o : Nat) : 0 ≤ nv xs o 6 ∧ nv xs o 6 < 281474976710656 := nv_lt h o 6
theorem orT {n : Int} (h0 : 0 ≤ n) (h1 : n < 65536) : IntKind.u64.wrap (ibits .or .i64 (ibits .and .i64 n 4095) 4096) = n % 4096 + 4096 := by
 rw [show ibits .and .i64 n 4095 = n % 4096 from andM (m := 12) (by omega) h0 (by omega)]
 obtain ⟨k,hk⟩ : ∃ k : Nat,n % 4096 = k := ⟨(n % 4096).toNat,by omega⟩
 have hl : k < 4096 := by omega
 rw [hk,ibits_eq]
 have e : (BitVec.ofInt IntKind.i64.bits (k : Int) ||| BitVec.ofInt IntKind.i64.bits 4096).toNat = k + 4096 := by
  show (BitVec.ofInt 64 (k : Int) ||| BitVec.ofInt 64 ((4096 : Nat) : Int)).toNat = _
  rw [BitVec.toNat_or,BitVec.ofInt_natCast,BitVec.ofInt_natCast,BitVec.toNat_ofNat,BitVec.toNat_ofNat,Nat.mod_eq_of_lt (by omega),Nat.mod_eq_of_lt (by omega)]
  have := Nat.two_pow_add_eq_or_of_lt (i := 12) (b := k) (by omega) 1
  rw [Nat.or_comm]
  simp only [Nat.mul_one] at this
  show 4096 ||| k = k + 4096
  have h2 : (2 : Nat) ^ 12 = 4096 := by decide
  rw [h2] at this
  rw [← this]; omega
 show IntKind.u64.wrap (IntKind.i64.wrap _) = _
 rw [e,wrapS (by omega) (by omega),wrapU (by omega) (by omega)]; omega
theorem s70 : SumTOk Try.prog 70 (S70 true) := sumW_ok fun x hx => by
 obtain ⟨xs,n⟩ := x
 have h : okL xs = true := hx
 have lx := (okL_iff.1 h).2
 have d6 := okL_drop h 6
 have d12 := okL_drop h 12
 have d14 := okL_drop h 14
 have d16 := okL_drop h 16
 have d18 := okL_drop h 18
 have dR : okL (restX xs) = true := okL_drop h _
 have b212 := nv2 h 12
 have b214 := nv2 h 14
 have b216 := nv2 h 16
 have b60 := nv6 h 0
 have b66 := nv6 h 6
 have bR := nv4 dR 0
 have e1 : wvH xs 6 = 0 := wvH_0 h (by omega)
 have e2 : wvL xs 6 = nv xs 0 6 := wvL_nv h (by omega)
 have e3 : wvH (xs.drop 6) 6 = 0 := wvH_0 d6 (by omega)
 have e4 : wvL (xs.drop 6) 6 = nv xs 6 6 := by rw [wvL_nv d6 (by omega),nv_drop]
 have e5 : wvH (xs.drop 12) 2 = 0 := wvH_0 d12 (by omega)
 have e6 : wvL (xs.drop 12) 2 = nv xs 12 2 := by rw [wvL_nv d12 (by omega),nv_drop]
 have e7 : nv (xs.drop 12) 0 2 = nv xs 12 2 := nv_drop ..
 have e9 : wvH (xs.drop 16) 2 = 0 := wvH_0 d16 (by omega)
 have e10 : wvL (xs.drop 16) 2 = nv xs 16 2 := by rw [wvL_nv d16 (by omega),nv_drop]
 have o1 : IntKind.u64.wrap (ibits .or .i64 (ibits .and .i64 (nv xs 14 2) 4095) 4096) = nv xs 14 2 % 4096 + 4096 := orT (by omega) (by omega)
 have o2 : ishr .i64 (nv xs 14 2) 13 = nv xs 14 2 / 8192 := shrM 13 (by omega)
 have o3 : IntKind.u64.wrap (nv xs 14 2 / 8192) = nv xs 14 2 / 8192 := wrapU (by omega) (by omega)
 have e8 : nv (xs.drop 14) 0 2 = nv xs 14 2 := nv_drop ..
 cases hp : portB n with
 | true =>
  have e : parE n xs = 1 := by (unfold parE; rw [hp]; rfl)
  rw [portB] at hp
  refine gr_calls (e := parE n xs) (K := parK n xs) (book_ok.pthX (by kernel_rfl) spM3_ok (p70 n xs _ ?_ ?_ ?_ ?_ ?_ ?_ ?_ ?_ ?_ ?_ ?_ ?_ ?_ ?_ ?_ ?_ ?_ ?_ ?_ ?_ ?_ ?_ ?_ ?_ ?_ ?_ ?_ ?_ ?_ ?_ ?_ ?_ ?_ ?_ ?_ ?_ ?_ ?_ ?_ ?_ ?_ ?_ ?_ ?_ ?_ ?_ ?_ ?_ ?_ ?_ ?_ ?_ ?_ ?_ ?_ ?_ ?_ ?_ ?_ ?_ ?_ ?_ ?_ ?_ ?_ ?_ ?_ ?_ ?_ ?_))
  all_goals (repeat intro)
  all_goals first
   |(rw [e]; exact gr_no (by decide))
   |(exfalso; simp_all; done)
 | false =>
 have hn : 1 ≤ n ∧ n ≤ 4294967040 := by
  unfold portB at hp
  cases h1 : ilt n 1 with
  | true => rw [h1] at hp; cases hp
  | false =>
   rw [h1] at hp
   simp only [cond_false] at hp
   rw [ilt_no] at h1 hp; omega
 have p1 : ilt n 1 = false := ilt_no.2 (by omega)
 have p2 : ilt 4294967040 n = false := ilt_no.2 (by omega)
 have u0 : IntKind.u64.wrap n = n := wrapU (by omega) (by omega)
 cases t1 : ieq (nv xs 12 2) 33024 with
 | true =>
  have hT : tagB xs = true := by (unfold tagB; rw [t1]; rfl)
  have t2 := t1
  have ty : nv xs 16 2 = typN xs := by (unfold typN; rw [hT]; rfl)
  have uT : IntKind.u64.wrap (typN xs) = typN xs := by (rw [← ty]; exact wrapU (by omega) (by omega))
  have rr : xs.drop 18 = restX xs := by (unfold restX; rw [hT]; rfl)
  have fb : frmB n xs = (n,(0,nv xs 0 6),(0,nv xs 6 6),(0,typN xs),nv xs 14 2 % 4096 + 4096,nv xs 14 2 / 8192) := by (unfold frmB; rw [hT]; rfl)
  have w0 : p70_w0 n xs = fourK (frmB n xs) (restX xs) := by
   unfold p70_w0
   simp only [AV.elems,List.drop_drop,Nat.reduceAdd,e1,e2,e3,e4,e5,e6,e7,e9,e10,o1,o2,o3,e8,u0,uT,ty,rr,fb]
  have w2 : p70_w2 n xs = sixK (frmB n xs) (restX xs) := by
   unfold p70_w2
   simp only [AV.elems,List.drop_drop,Nat.reduceAdd,e1,e2,e3,e4,e5,e6,e7,e9,e10,o1,o2,o3,e8,u0,uT,ty,rr,fb]
  have w4 : p70_w4 n xs = arpK (frmB n xs) (restX xs) := by
   unfold p70_w4
   simp only [AV.elems,List.drop_drop,Nat.reduceAdd,e1,e2,e3,e4,e5,e6,e7,e9,e10,o1,o2,o3,e8,u0,uT,ty,rr,fb]
  have w6 : p70_w6 n xs = labK (frmB n xs) (restX xs) := by
   unfold p70_w6
   simp only [AV.elems,List.drop_drop,Nat.reduceAdd,e1,e2,e3,e4,e5,e6,e7,e9,e10,o1,o2,o3,e8,u0,uT,ty,rr,fb]
  refine gr_calls (e := parE n xs) (K := parK n xs) (book_ok.pthX (by kernel_rfl) spM3_ok (p70 n xs _ ?_ ?_ ?_ ?_ ?_ ?_ ?_ ?_ ?_ ?_ ?_ ?_ ?_ ?_ ?_ ?_ ?_ ?_ ?_ ?_ ?_ ?_ ?_ ?_ ?_ ?_ ?_ ?_ ?_ ?_ ?_ ?_ ?_ ?_ ?_ ?_ ?_ ?_ ?_ ?_ ?_ ?_ ?_ ?_ ?_ ?_ ?_ ?_ ?_ ?_ ?_ ?_ ?_ ?_ ?_ ?_ ?_ ?_ ?_ ?_ ?_ ?_ ?_ ?_ ?_ ?_ ?_ ?_ ?_ ?_))
  all_goals (repeat intro)
  all_goals try simp only [AV.elems,List.drop_drop,Nat.reduceAdd,e1,e2,e3,e4,e5,e6,e7,e9,e10,o1,o2,o3,e8,u0,uT,p1,p2,t1,t2,ty,rr,w0,w2,w4,w6,Bool.false_eq_true,reduceCtorEq] at *
  all_goals first
   |((first | refine need_pre2 h ?_ | refine need_pre3 h ?_ | refine need_pre2 d6 ?_ | refine need_pre3 d6 ?_ | refine need_pre2 d12 ?_ | refine need_pre3 d12 ?_ | refine need_pre2 d14 ?_ | refine need_pre3 d14 ?_ | refine need_pre2 d16 ?_ | refine need_pre3 d16 ?_); simp only [Bool.not_eq_false',ile_iff',ilt_no,List.length_drop] at *; omega)
   | exact need_pre2 dR (by simp only [Bool.not_eq_false',ile_iff',ilt_no,List.length_drop] at *; first | omega | (rw [← rr,List.length_drop]; omega))
   | exact need_pre3 dR (by simp only [Bool.not_eq_false',ile_iff',ilt_no,List.length_drop] at *; first | omega | (rw [← rr,List.length_drop]; omega))
   | exact inR_iff.2 ⟨by omega,by simp only [Bool.not_eq_false',ile_iff',ilt_no,List.length_drop] at *; omega⟩
   | exact dR
   |(have e : parE n xs = 3 := by
      first
       |(have hl : xs.length < 18 := by (simp only [Bool.not_eq_true',Bool.not_eq_false',ile_not,Bool.not_not,ilt_iff,List.length_drop] at *; omega)
         by_cases hl2 : xs.length < 14
         ·have h14 : ilt (xs.length : Int) 14 = true := ilt_iff.2 (by omega)
          unfold parE; rw [hp,h14]; rfl
         ·have h14 : ilt (xs.length : Int) 14 = false := ilt_no.2 (by omega)
          have h18 : ilt (xs.length : Int) 18 = true := ilt_iff.2 (by omega)
          unfold parE; rw [hp,h14,hT,h18]; rfl)
     rw [e]; exact gr_no (by decide))
   |(have hl : 18 ≤ xs.length := by (simp only [Bool.not_eq_false',ile_not,Bool.not_not,ilt_no,List.length_drop] at *; omega)
     have h14 : ilt (xs.length : Int) 14 = false := ilt_no.2 (by omega)
     have h18 : (tagB xs && ilt (xs.length : Int) 18) = false := by (rw [hT]; exact ilt_no.2 (by omega))
     have e : parE n xs = frmE xs := by (unfold parE; rw [hp,h14,h18]; rfl)
     have k : parK n xs = frmK (frmB n xs) xs := rfl
     first
       |(have e2 : frmE xs = fourE (restX xs) := by (unfold frmE; simp_all; done)
         have k2 : frmK (frmB n xs) xs = fourK (frmB n xs) (restX xs) := by (unfold frmK; simp_all; done)
         rw [e,k,e2,k2]
         first
          |(have e0 : fourE (restX xs) = 0 := by simp_all [ieq]
            rw [e0,fb]; exact gr_ok (by kernel_rfl))
          | exact gr_no (by intro h0; simp_all [ieq]))
       |(have e2 : frmE xs = sixE (restX xs) := by (unfold frmE; simp_all; done)
         have k2 : frmK (frmB n xs) xs = sixK (frmB n xs) (restX xs) := by (unfold frmK; simp_all; done)
         rw [e,k,e2,k2]
         first
          |(have e0 : sixE (restX xs) = 0 := by simp_all [ieq]
            rw [e0,fb]; exact gr_ok (by kernel_rfl))
          | exact gr_no (by intro h0; simp_all [ieq]))
       |(have e2 : frmE xs = arpE (restX xs) := by (unfold frmE; simp_all; done)
         have k2 : frmK (frmB n xs) xs = arpK (frmB n xs) (restX xs) := by (unfold frmK; simp_all; done)
         rw [e,k,e2,k2]
         first
          |(have e0 : arpE (restX xs) = 0 := by simp_all [ieq]
            rw [e0,fb]; exact gr_ok (by kernel_rfl))
          | exact gr_no (by intro h0; simp_all [ieq]))
       |(have e2 : frmE xs = labE (restX xs) := by (unfold frmE; simp_all; done)
         have k2 : frmK (frmB n xs) xs = labK (frmB n xs) (restX xs) := by (unfold frmK; simp_all; done)
         rw [e,k,e2,k2]
         first
          |(have e0 : labE (restX xs) = 0 := by simp_all [ieq]
            rw [e0,fb]; exact gr_ok (by kernel_rfl))
          | exact gr_no (by intro h0; simp_all [ieq]))
       |(have e2 : frmE xs = 0 := by (unfold frmE; simp_all; done)
         have k2 : frmK (frmB n xs) xs = baseK (frmB n xs) := by (unfold frmK; simp_all; done)
         rw [e,k,e2,k2,fb]; exact gr_ok (by kernel_rfl)))
 | false =>
 cases t2 : ieq (nv xs 12 2) 34984 with
 | true =>
  have hT : tagB xs = true := by (unfold tagB; rw [t1,t2]; rfl)
  have ty : nv xs 16 2 = typN xs := by (unfold typN; rw [hT]; rfl)
  have uT : IntKind.u64.wrap (typN xs) = typN xs := by (rw [← ty]; exact wrapU (by omega) (by omega))
  have rr : xs.drop 18 = restX xs := by (unfold restX; rw [hT]; rfl)
  have fb : frmB n xs = (n,(0,nv xs 0 6),(0,nv xs 6 6),(0,typN xs),nv xs 14 2 % 4096 + 4096,nv xs 14 2 / 8192) := by (unfold frmB; rw [hT]; rfl)
  have w0 : p70_w0 n xs = fourK (frmB n xs) (restX xs) := by
   unfold p70_w0
   simp only [AV.elems,List.drop_drop,Nat.reduceAdd,e1,e2,e3,e4,e5,e6,e7,e9,e10,o1,o2,o3,e8,u0,uT,ty,rr,fb]
  have w2 : p70_w2 n xs = sixK (frmB n xs) (restX xs) := by
   unfold p70_w2
   simp only [AV.elems,List.drop_drop,Nat.reduceAdd,e1,e2,e3,e4,e5,e6,e7,e9,e10,o1,o2,o3,e8,u0,uT,ty,rr,fb]
  have w4 : p70_w4 n xs = arpK (frmB n xs) (restX xs) := by
   unfold p70_w4
   simp only [AV.elems,List.drop_drop,Nat.reduceAdd,e1,e2,e3,e4,e5,e6,e7,e9,e10,o1,o2,o3,e8,u0,uT,ty,rr,fb]
  have w6 : p70_w6 n xs = labK (frmB n xs) (restX xs) := by
   unfold p70_w6
   simp only [AV.elems,List.drop_drop,Nat.reduceAdd,e1,e2,e3,e4,e5,e6,e7,e9,e10,o1,o2,o3,e8,u0,uT,ty,rr,fb]
  refine gr_calls (e := parE n xs) (K := parK n xs) (book_ok.pthX (by kernel_rfl) spM3_ok (p70 n xs _ ?_ ?_ ?_ ?_ ?_ ?_ ?_ ?_ ?_ ?_ ?_ ?_ ?_ ?_ ?_ ?_ ?_ ?_ ?_ ?_ ?_ ?_ ?_ ?_ ?_ ?_ ?_ ?_ ?_ ?_ ?_ ?_ ?_ ?_ ?_ ?_ ?_ ?_ ?_ ?_ ?_ ?_ ?_ ?_ ?_ ?_ ?_ ?_ ?_ ?_ ?_ ?_ ?_ ?_ ?_ ?_ ?_ ?_ ?_ ?_ ?_ ?_ ?_ ?_ ?_ ?_ ?_ ?_ ?_ ?_))
  all_goals (repeat intro)
  all_goals try simp only [AV.elems,List.drop_drop,Nat.reduceAdd,e1,e2,e3,e4,e5,e6,e7,e9,e10,o1,o2,o3,e8,u0,uT,p1,p2,t1,t2,ty,rr,w0,w2,w4,w6,Bool.false_eq_true,reduceCtorEq] at *
  all_goals first
   |((first | refine need_pre2 h ?_ | refine need_pre3 h ?_ | refine need_pre2 d6 ?_ | refine need_pre3 d6 ?_ | refine need_pre2 d12 ?_ | refine need_pre3 d12 ?_ | refine need_pre2 d14 ?_ | refine need_pre3 d14 ?_ | refine need_pre2 d16 ?_ | refine need_pre3 d16 ?_); simp only [Bool.not_eq_false',ile_iff',ilt_no,List.length_drop] at *; omega)
   | exact need_pre2 dR (by simp only [Bool.not_eq_false',ile_iff',ilt_no,List.length_drop] at *; first | omega | (rw [← rr,List.length_drop]; omega))
   | exact need_pre3 dR (by simp only [Bool.not_eq_false',ile_iff',ilt_no,List.length_drop] at *; first | omega | (rw [← rr,List.length_drop]; omega))
   | exact inR_iff.2 ⟨by omega,by simp only [Bool.not_eq_false',ile_iff',ilt_no,List.length_drop] at *; omega⟩
   | exact dR
   |(have e : parE n xs = 3 := by
      first
       |(have hl : xs.length < 18 := by (simp only [Bool.not_eq_true',Bool.not_eq_false',ile_not,Bool.not_not,ilt_iff,List.length_drop] at *; omega)
         by_cases hl2 : xs.length < 14
         ·have h14 : ilt (xs.length : Int) 14 = true := ilt_iff.2 (by omega)
          unfold parE; rw [hp,h14]; rfl
         ·have h14 : ilt (xs.length : Int) 14 = false := ilt_no.2 (by omega)
          have h18 : ilt (xs.length : Int) 18 = true := ilt_iff.2 (by omega)
          unfold parE; rw [hp,h14,hT,h18]; rfl)
     rw [e]; exact gr_no (by decide))
   |(have hl : 18 ≤ xs.length := by (simp only [Bool.not_eq_false',ile_not,Bool.not_not,ilt_no,List.length_drop] at *; omega)
     have h14 : ilt (xs.length : Int) 14 = false := ilt_no.2 (by omega)
     have h18 : (tagB xs && ilt (xs.length : Int) 18) = false := by (rw [hT]; exact ilt_no.2 (by omega))
     have e : parE n xs = frmE xs := by (unfold parE; rw [hp,h14,h18]; rfl)
     have k : parK n xs = frmK (frmB n xs) xs := rfl
     first
       |(have e2 : frmE xs = fourE (restX xs) := by (unfold frmE; simp_all; done)
         have k2 : frmK (frmB n xs) xs = fourK (frmB n xs) (restX xs) := by (unfold frmK; simp_all; done)
         rw [e,k,e2,k2]
         first
          |(have e0 : fourE (restX xs) = 0 := by simp_all [ieq]
            rw [e0,fb]; exact gr_ok (by kernel_rfl))
          | exact gr_no (by intro h0; simp_all [ieq]))
       |(have e2 : frmE xs = sixE (restX xs) := by (unfold frmE; simp_all; done)
         have k2 : frmK (frmB n xs) xs = sixK (frmB n xs) (restX xs) := by (unfold frmK; simp_all; done)
         rw [e,k,e2,k2]
         first
          |(have e0 : sixE (restX xs) = 0 := by simp_all [ieq]
            rw [e0,fb]; exact gr_ok (by kernel_rfl))
          | exact gr_no (by intro h0; simp_all [ieq]))
       |(have e2 : frmE xs = arpE (restX xs) := by (unfold frmE; simp_all; done)
         have k2 : frmK (frmB n xs) xs = arpK (frmB n xs) (restX xs) := by (unfold frmK; simp_all; done)
         rw [e,k,e2,k2]
         first
          |(have e0 : arpE (restX xs) = 0 := by simp_all [ieq]
            rw [e0,fb]; exact gr_ok (by kernel_rfl))
          | exact gr_no (by intro h0; simp_all [ieq]))
       |(have e2 : frmE xs = labE (restX xs) := by (unfold frmE; simp_all; done)
         have k2 : frmK (frmB n xs) xs = labK (frmB n xs) (restX xs) := by (unfold frmK; simp_all; done)
         rw [e,k,e2,k2]
         first
          |(have e0 : labE (restX xs) = 0 := by simp_all [ieq]
            rw [e0,fb]; exact gr_ok (by kernel_rfl))
          | exact gr_no (by intro h0; simp_all [ieq]))
       |(have e2 : frmE xs = 0 := by (unfold frmE; simp_all; done)
         have k2 : frmK (frmB n xs) xs = baseK (frmB n xs) := by (unfold frmK; simp_all; done)
         rw [e,k,e2,k2,fb]; exact gr_ok (by kernel_rfl)))
 | false =>
  have hT : tagB xs = false := by (unfold tagB; rw [t1,t2]; rfl)
  have ty : nv xs 12 2 = typN xs := by (unfold typN; rw [hT]; rfl)
  have uT : IntKind.u64.wrap (typN xs) = typN xs := by (rw [← ty]; exact wrapU (by omega) (by omega))
  have rr : xs.drop 14 = restX xs := by (unfold restX; rw [hT]; rfl)
  have fb : frmB n xs = (n,(0,nv xs 0 6),(0,nv xs 6 6),(0,typN xs),0,0) := by (unfold frmB; rw [hT]; rfl)
  rw [ty] at t1 t2
  have w1 : p70_w1 n xs = fourK (frmB n xs) (restX xs) := by
   unfold p70_w1
   simp only [AV.elems,List.drop_drop,Nat.reduceAdd,e1,e2,e3,e4,e5,e6,e7,e9,e10,o1,o2,o3,u0,uT,ty,rr,fb]
  have w3 : p70_w3 n xs = sixK (frmB n xs) (restX xs) := by
   unfold p70_w3
   simp only [AV.elems,List.drop_drop,Nat.reduceAdd,e1,e2,e3,e4,e5,e6,e7,e9,e10,o1,o2,o3,u0,uT,ty,rr,fb]
  have w5 : p70_w5 n xs = arpK (frmB n xs) (restX xs) := by
   unfold p70_w5
   simp only [AV.elems,List.drop_drop,Nat.reduceAdd,e1,e2,e3,e4,e5,e6,e7,e9,e10,o1,o2,o3,u0,uT,ty,rr,fb]
  have w7 : p70_w7 n xs = labK (frmB n xs) (restX xs) := by
   unfold p70_w7
   simp only [AV.elems,List.drop_drop,Nat.reduceAdd,e1,e2,e3,e4,e5,e6,e7,e9,e10,o1,o2,o3,u0,uT,ty,rr,fb]
  refine gr_calls (e := parE n xs) (K := parK n xs) (book_ok.pthX (by kernel_rfl) spM3_ok (p70 n xs _ ?_ ?_ ?_ ?_ ?_ ?_ ?_ ?_ ?_ ?_ ?_ ?_ ?_ ?_ ?_ ?_ ?_ ?_ ?_ ?_ ?_ ?_ ?_ ?_ ?_ ?_ ?_ ?_ ?_ ?_ ?_ ?_ ?_ ?_ ?_ ?_ ?_ ?_ ?_ ?_ ?_ ?_ ?_ ?_ ?_ ?_ ?_ ?_ ?_ ?_ ?_ ?_ ?_ ?_ ?_ ?_ ?_ ?_ ?_ ?_ ?_ ?_ ?_ ?_ ?_ ?_ ?_ ?_ ?_ ?_))
  all_goals (repeat intro)
  all_goals try simp only [AV.elems,List.drop_drop,Nat.reduceAdd,e1,e2,e3,e4,e5,e6,e7,e9,e10,o1,o2,o3,u0,uT,p1,p2,t1,t2,ty,rr,w1,w3,w5,w7,Bool.false_eq_true,reduceCtorEq] at *
  all_goals first
   |((first | refine need_pre2 h ?_ | refine need_pre3 h ?_ | refine need_pre2 d6 ?_ | refine need_pre3 d6 ?_ | refine need_pre2 d12 ?_ | refine need_pre3 d12 ?_ | refine need_pre2 d14 ?_ | refine need_pre3 d14 ?_ | refine need_pre2 d16 ?_ | refine need_pre3 d16 ?_); simp only [Bool.not_eq_false',ile_iff',ilt_no,List.length_drop] at *; omega)
   | exact need_pre2 dR (by simp only [Bool.not_eq_false',ile_iff',ilt_no,List.length_drop] at *; first | omega | (rw [← rr,List.length_drop]; omega))
   | exact need_pre3 dR (by simp only [Bool.not_eq_false',ile_iff',ilt_no,List.length_drop] at *; first | omega | (rw [← rr,List.length_drop]; omega))
   | exact inR_iff.2 ⟨by omega,by simp only [Bool.not_eq_false',ile_iff',ilt_no,List.length_drop] at *; omega⟩
   | exact dR
   |(have e : parE n xs = 3 := by
      first
       |(have hl : xs.length < 14 := by (simp only [Bool.not_eq_true',Bool.not_eq_false',ile_not,Bool.not_not,ilt_iff,List.length_drop] at *; omega)
         have h14 : ilt (xs.length : Int) 14 = true := ilt_iff.2 (by omega)
         unfold parE; rw [hp,h14]; rfl)
     rw [e]; exact gr_no (by decide))
   |(have hl : 14 ≤ xs.length := by (simp only [Bool.not_eq_false',ile_not,Bool.not_not,ilt_no,List.length_drop] at *; omega)
     have h14 : ilt (xs.length : Int) 14 = false := ilt_no.2 (by omega)
     have h18 : (tagB xs && ilt (xs.length : Int) 18) = false := by (rw [hT]; rfl)
     have e : parE n xs = frmE xs := by (unfold parE; rw [hp,h14,h18]; rfl)
     have k : parK n xs = frmK (frmB n xs) xs := rfl
     first
       |(have e2 : frmE xs = fourE (restX xs) := by (unfold frmE; simp_all; done)
         have k2 : frmK (frmB n xs) xs = fourK (frmB n xs) (restX xs) := by (unfold frmK; simp_all; done)
         rw [e,k,e2,k2]
         first
          |(have e0 : fourE (restX xs) = 0 := by simp_all [ieq]
            rw [e0,fb]; exact gr_ok (by kernel_rfl))
          | exact gr_no (by intro h0; simp_all [ieq]))
       |(have e2 : frmE xs = sixE (restX xs) := by (unfold frmE; simp_all; done)
         have k2 : frmK (frmB n xs) xs = sixK (frmB n xs) (restX xs) := by (unfold frmK; simp_all; done)
         rw [e,k,e2,k2]
         first
          |(have e0 : sixE (restX xs) = 0 := by simp_all [ieq]
            rw [e0,fb]; exact gr_ok (by kernel_rfl))
          | exact gr_no (by intro h0; simp_all [ieq]))
       |(have e2 : frmE xs = arpE (restX xs) := by (unfold frmE; simp_all; done)
         have k2 : frmK (frmB n xs) xs = arpK (frmB n xs) (restX xs) := by (unfold frmK; simp_all; done)
         rw [e,k,e2,k2]
         first
          |(have e0 : arpE (restX xs) = 0 := by simp_all [ieq]
            rw [e0,fb]; exact gr_ok (by kernel_rfl))
          | exact gr_no (by intro h0; simp_all [ieq]))
       |(have e2 : frmE xs = labE (restX xs) := by (unfold frmE; simp_all; done)
         have k2 : frmK (frmB n xs) xs = labK (frmB n xs) (restX xs) := by (unfold frmK; simp_all; done)
         rw [e,k,e2,k2]
         first
          |(have e0 : labE (restX xs) = 0 := by simp_all [ieq]
            rw [e0,fb]; exact gr_ok (by kernel_rfl))
          | exact gr_no (by intro h0; simp_all [ieq]))
       |(have e2 : frmE xs = 0 := by (unfold frmE; simp_all; done)
         have k2 : frmK (frmB n xs) xs = baseK (frmB n xs) := by (unfold frmK; simp_all; done)
         rw [e,k,e2,k2,fb]; exact gr_ok (by kernel_rfl)))
theorem s71 : SumTOk Try.prog 71 (S70 true) := sumW_ok fun x hx => by
 obtain ⟨xs,n⟩ := x
 have h : okL xs = true := hx
 have lx := (okL_iff.1 h).2
 have d6 := okL_drop h 6
 have d12 := okL_drop h 12
 have d14 := okL_drop h 14
 have d16 := okL_drop h 16
 have d18 := okL_drop h 18
 have dR : okL (restX xs) = true := okL_drop h _
 have b212 := nv2 h 12
 have b214 := nv2 h 14
 have b216 := nv2 h 16
 have b60 := nv6 h 0
 have b66 := nv6 h 6
 have bR := nv4 dR 0
 have e1 : wvH xs 6 = 0 := wvH_0 h (by omega)
 have e2 : wvL xs 6 = nv xs 0 6 := wvL_nv h (by omega)
 have e3 : wvH (xs.drop 6) 6 = 0 := wvH_0 d6 (by omega)
 have e4 : wvL (xs.drop 6) 6 = nv xs 6 6 := by rw [wvL_nv d6 (by omega),nv_drop]
 have e11 : nv (xs.drop 14) 2 2 = nv xs 16 2 := nv_drop ..
 have v12 : IntKind.u64.wrap (nv xs 12 2) = nv xs 12 2 := wrapU (by omega) (by omega)
 have v14 : IntKind.u64.wrap (nv xs 14 2) = nv xs 14 2 := wrapU (by omega) (by omega)
 have v16 : IntKind.u64.wrap (nv xs 16 2) = nv xs 16 2 := wrapU (by omega) (by omega)
 have o1 : iadd .u64 (irem (nv xs 14 2) 4096) 4096 = nv xs 14 2 % 4096 + 4096 := by rw [remM (by omega)]; exact wrapU (by omega) (by omega)
 have o2 : iquo .u64 (nv xs 14 2) 8192 = nv xs 14 2 / 8192 := quoU (by omega) (by omega) (by omega)
 have vR : IntKind.u64.wrap (nv (restX xs) 0 4) = nv (restX xs) 0 4 := wrapU (by omega) (by omega)
 have oR : iquo .u64 (nv (restX xs) 0 4) 4096 = nv (restX xs) 0 4 / 4096 := quoU (by omega) (by omega) (by omega)
 have e8 : nv (xs.drop 14) 0 2 = nv xs 14 2 := nv_drop ..
 cases hp : portB n with
 | true =>
  have e : parE n xs = 1 := by (unfold parE; rw [hp]; rfl)
  rw [portB] at hp
  refine gr_calls (e := parE n xs) (K := parK n xs) (book_ok.pthX (by kernel_rfl) spR3_ok (p71 n xs _ ?_ ?_ ?_ ?_ ?_ ?_ ?_ ?_ ?_ ?_ ?_ ?_ ?_ ?_ ?_ ?_ ?_ ?_ ?_ ?_ ?_ ?_ ?_ ?_ ?_ ?_ ?_ ?_ ?_ ?_ ?_ ?_ ?_ ?_ ?_ ?_ ?_ ?_ ?_ ?_ ?_ ?_ ?_ ?_ ?_ ?_ ?_ ?_ ?_ ?_ ?_ ?_ ?_ ?_ ?_ ?_ ?_ ?_ ?_ ?_ ?_ ?_ ?_ ?_ ?_))
  all_goals (repeat intro)
  all_goals first
   |(rw [e]; exact gr_no (by decide))
   |(exfalso; simp_all; done)
 | false =>
 have hn : 1 ≤ n ∧ n ≤ 4294967040 := by
  unfold portB at hp
  cases h1 : ilt n 1 with
  | true => rw [h1] at hp; cases hp
  | false =>
   rw [h1] at hp
   simp only [cond_false] at hp
   rw [ilt_no] at h1 hp; omega
 have p1 : ilt n 1 = false := ilt_no.2 (by omega)
 have p2 : ilt 4294967040 n = false := ilt_no.2 (by omega)
 have u0 : IntKind.u64.wrap n = n := wrapU (by omega) (by omega)
 cases t1 : ieq (nv xs 12 2) 33024 with
 | true =>
  have hT : tagB xs = true := by (unfold tagB; rw [t1]; rfl)
  have t2 := t1
  have ty : nv xs 16 2 = typN xs := by (unfold typN; rw [hT]; rfl)
  have uT : IntKind.u64.wrap (typN xs) = typN xs := by (rw [← ty]; exact wrapU (by omega) (by omega))
  have rr : xs.drop 18 = restX xs := by (unfold restX; rw [hT]; rfl)
  have fb : frmB n xs = (n,(0,nv xs 0 6),(0,nv xs 6 6),(0,typN xs),nv xs 14 2 % 4096 + 4096,nv xs 14 2 / 8192) := by (unfold frmB; rw [hT]; rfl)
  have w0 : p71_w0 n xs = fourK (frmB n xs) (restX xs) := by
   unfold p71_w0
   simp only [AV.elems,List.drop_drop,Nat.reduceAdd,e1,e2,e3,e4,e11,v12,v14,v16,o1,o2,vR,oR,e8,u0,uT,ty,rr,fb]
  have w2 : p71_w2 n xs = sixK (frmB n xs) (restX xs) := by
   unfold p71_w2
   simp only [AV.elems,List.drop_drop,Nat.reduceAdd,e1,e2,e3,e4,e11,v12,v14,v16,o1,o2,vR,oR,e8,u0,uT,ty,rr,fb]
  have w4 : p71_w4 n xs = arpK (frmB n xs) (restX xs) := by
   unfold p71_w4
   simp only [AV.elems,List.drop_drop,Nat.reduceAdd,e1,e2,e3,e4,e11,v12,v14,v16,o1,o2,vR,oR,e8,u0,uT,ty,rr,fb]
  refine gr_calls (e := parE n xs) (K := parK n xs) (book_ok.pthX (by kernel_rfl) spR3_ok (p71 n xs _ ?_ ?_ ?_ ?_ ?_ ?_ ?_ ?_ ?_ ?_ ?_ ?_ ?_ ?_ ?_ ?_ ?_ ?_ ?_ ?_ ?_ ?_ ?_ ?_ ?_ ?_ ?_ ?_ ?_ ?_ ?_ ?_ ?_ ?_ ?_ ?_ ?_ ?_ ?_ ?_ ?_ ?_ ?_ ?_ ?_ ?_ ?_ ?_ ?_ ?_ ?_ ?_ ?_ ?_ ?_ ?_ ?_ ?_ ?_ ?_ ?_ ?_ ?_ ?_ ?_))
  all_goals (repeat intro)
  all_goals try simp only [AV.elems,List.drop_drop,Nat.reduceAdd,e1,e2,e3,e4,e11,v12,v14,v16,o1,o2,vR,oR,e8,u0,uT,p1,p2,t1,t2,ty,rr,w0,w2,w4,Bool.false_eq_true,reduceCtorEq] at *
  all_goals first
   |((first | refine need_pre2 h ?_ | refine need_pre3 h ?_ | refine need_pre2 d6 ?_ | refine need_pre3 d6 ?_ | refine need_pre2 d12 ?_ | refine need_pre3 d12 ?_ | refine need_pre2 d14 ?_ | refine need_pre3 d14 ?_ | refine need_pre2 d16 ?_ | refine need_pre3 d16 ?_); simp only [Bool.not_eq_false',ile_iff',ilt_no,List.length_drop] at *; omega)
   | exact need_pre2 dR (by simp only [Bool.not_eq_false',ile_iff',ilt_no,List.length_drop] at *; first | omega | (rw [← rr,List.length_drop]; omega))
   | exact need_pre3 dR (by simp only [Bool.not_eq_false',ile_iff',ilt_no,List.length_drop] at *; first | omega | (rw [← rr,List.length_drop]; omega))
   | exact inR_iff.2 ⟨by omega,by simp only [Bool.not_eq_false',ile_iff',ilt_no,List.length_drop] at *; omega⟩
   | exact dR
   |(have e : parE n xs = 3 := by
      first
       |(have hl : xs.length < 18 := by (simp only [Bool.not_eq_true',Bool.not_eq_false',ile_not,Bool.not_not,ilt_iff,List.length_drop] at *; omega)
         by_cases hl2 : xs.length < 14
         ·have h14 : ilt (xs.length : Int) 14 = true := ilt_iff.2 (by omega)
          unfold parE; rw [hp,h14]; rfl
         ·have h14 : ilt (xs.length : Int) 14 = false := ilt_no.2 (by omega)
          have h18 : ilt (xs.length : Int) 18 = true := ilt_iff.2 (by omega)
          unfold parE; rw [hp,h14,hT,h18]; rfl)
     rw [e]; exact gr_no (by decide))
   |(have hl : 18 ≤ xs.length := by (simp only [Bool.not_eq_false',ile_not,Bool.not_not,ilt_no,List.length_drop] at *; omega)
     have h14 : ilt (xs.length : Int) 14 = false := ilt_no.2 (by omega)
     have h18 : (tagB xs && ilt (xs.length : Int) 18) = false := by (rw [hT]; exact ilt_no.2 (by omega))
     have e : parE n xs = frmE xs := by (unfold parE; rw [hp,h14,h18]; rfl)
     have k : parK n xs = frmK (frmB n xs) xs := rfl
     first
       |(have e2 : frmE xs = fourE (restX xs) := by (unfold frmE; simp_all; done)
         have k2 : frmK (frmB n xs) xs = fourK (frmB n xs) (restX xs) := by (unfold frmK; simp_all; done)
         rw [e,k,e2,k2]
         first
          |(have e0 : fourE (restX xs) = 0 := by simp_all [ieq]
            rw [e0,fb]; exact gr_ok (by kernel_rfl))
          | exact gr_no (by intro h0; simp_all [ieq]))
       |(have e2 : frmE xs = sixE (restX xs) := by (unfold frmE; simp_all; done)
         have k2 : frmK (frmB n xs) xs = sixK (frmB n xs) (restX xs) := by (unfold frmK; simp_all; done)
         rw [e,k,e2,k2]
         first
          |(have e0 : sixE (restX xs) = 0 := by simp_all [ieq]
            rw [e0,fb]; exact gr_ok (by kernel_rfl))
          | exact gr_no (by intro h0; simp_all [ieq]))
       |(have e2 : frmE xs = arpE (restX xs) := by (unfold frmE; simp_all; done)
         have k2 : frmK (frmB n xs) xs = arpK (frmB n xs) (restX xs) := by (unfold frmK; simp_all; done)
         rw [e,k,e2,k2]
         first
          |(have e0 : arpE (restX xs) = 0 := by simp_all [ieq]
            rw [e0,fb]; exact gr_ok (by kernel_rfl))
          | exact gr_no (by intro h0; simp_all [ieq]))
       |(have e2 : frmE xs = labE (restX xs) := by (unfold frmE; simp_all; done)
         have k2 : frmK (frmB n xs) xs = labK (frmB n xs) (restX xs) := by (unfold frmK; simp_all; done)
         rw [e,k,e2,k2]
         first
          |(have e0 : labE (restX xs) = 0 := by simp_all [ieq]
            rw [e0,fb]; exact gr_ok (by kernel_rfl))
          | exact gr_no (by intro h0; simp_all [ieq]))
       |(have e2 : frmE xs = 3 := by (unfold frmE labE; simp_all; done)
         rw [e,e2]; exact gr_no (by decide))
       |(have e2 : frmE xs = 0 := by (unfold frmE labE; simp_all; done)
         have k2 : frmK (frmB n xs) xs = labK (frmB n xs) (restX xs) := by (unfold frmK; simp_all; done)
         rw [e,k,e2,k2,fb]; exact gr_ok (by kernel_rfl))
       |(have e2 : frmE xs = 0 := by (unfold frmE; simp_all; done)
         have k2 : frmK (frmB n xs) xs = baseK (frmB n xs) := by (unfold frmK; simp_all; done)
         rw [e,k,e2,k2,fb]; exact gr_ok (by kernel_rfl)))
 | false =>
 cases t2 : ieq (nv xs 12 2) 34984 with
 | true =>
  have hT : tagB xs = true := by (unfold tagB; rw [t1,t2]; rfl)
  have ty : nv xs 16 2 = typN xs := by (unfold typN; rw [hT]; rfl)
  have uT : IntKind.u64.wrap (typN xs) = typN xs := by (rw [← ty]; exact wrapU (by omega) (by omega))
  have rr : xs.drop 18 = restX xs := by (unfold restX; rw [hT]; rfl)
  have fb : frmB n xs = (n,(0,nv xs 0 6),(0,nv xs 6 6),(0,typN xs),nv xs 14 2 % 4096 + 4096,nv xs 14 2 / 8192) := by (unfold frmB; rw [hT]; rfl)
  have w0 : p71_w0 n xs = fourK (frmB n xs) (restX xs) := by
   unfold p71_w0
   simp only [AV.elems,List.drop_drop,Nat.reduceAdd,e1,e2,e3,e4,e11,v12,v14,v16,o1,o2,vR,oR,e8,u0,uT,ty,rr,fb]
  have w2 : p71_w2 n xs = sixK (frmB n xs) (restX xs) := by
   unfold p71_w2
   simp only [AV.elems,List.drop_drop,Nat.reduceAdd,e1,e2,e3,e4,e11,v12,v14,v16,o1,o2,vR,oR,e8,u0,uT,ty,rr,fb]
  have w4 : p71_w4 n xs = arpK (frmB n xs) (restX xs) := by
   unfold p71_w4
   simp only [AV.elems,List.drop_drop,Nat.reduceAdd,e1,e2,e3,e4,e11,v12,v14,v16,o1,o2,vR,oR,e8,u0,uT,ty,rr,fb]
  refine gr_calls (e := parE n xs) (K := parK n xs) (book_ok.pthX (by kernel_rfl) spR3_ok (p71 n xs _ ?_ ?_ ?_ ?_ ?_ ?_ ?_ ?_ ?_ ?_ ?_ ?_ ?_ ?_ ?_ ?_ ?_ ?_ ?_ ?_ ?_ ?_ ?_ ?_ ?_ ?_ ?_ ?_ ?_ ?_ ?_ ?_ ?_ ?_ ?_ ?_ ?_ ?_ ?_ ?_ ?_ ?_ ?_ ?_ ?_ ?_ ?_ ?_ ?_ ?_ ?_ ?_ ?_ ?_ ?_ ?_ ?_ ?_ ?_ ?_ ?_ ?_ ?_ ?_ ?_))
  all_goals (repeat intro)
  all_goals try simp only [AV.elems,List.drop_drop,Nat.reduceAdd,e1,e2,e3,e4,e11,v12,v14,v16,o1,o2,vR,oR,e8,u0,uT,p1,p2,t1,t2,ty,rr,w0,w2,w4,Bool.false_eq_true,reduceCtorEq] at *
  all_goals first
   |((first | refine need_pre2 h ?_ | refine need_pre3 h ?_ | refine need_pre2 d6 ?_ | refine need_pre3 d6 ?_ | refine need_pre2 d12 ?_ | refine need_pre3 d12 ?_ | refine need_pre2 d14 ?_ | refine need_pre3 d14 ?_ | refine need_pre2 d16 ?_ | refine need_pre3 d16 ?_); simp only [Bool.not_eq_false',ile_iff',ilt_no,List.length_drop] at *; omega)
   | exact need_pre2 dR (by simp only [Bool.not_eq_false',ile_iff',ilt_no,List.length_drop] at *; first | omega | (rw [← rr,List.length_drop]; omega))
   | exact need_pre3 dR (by simp only [Bool.not_eq_false',ile_iff',ilt_no,List.length_drop] at *; first | omega | (rw [← rr,List.length_drop]; omega))
   | exact inR_iff.2 ⟨by omega,by simp only [Bool.not_eq_false',ile_iff',ilt_no,List.length_drop] at *; omega⟩
   | exact dR
   |(have e : parE n xs = 3 := by
      first
       |(have hl : xs.length < 18 := by (simp only [Bool.not_eq_true',Bool.not_eq_false',ile_not,Bool.not_not,ilt_iff,List.length_drop] at *; omega)
         by_cases hl2 : xs.length < 14
         ·have h14 : ilt (xs.length : Int) 14 = true := ilt_iff.2 (by omega)
          unfold parE; rw [hp,h14]; rfl
         ·have h14 : ilt (xs.length : Int) 14 = false := ilt_no.2 (by omega)
          have h18 : ilt (xs.length : Int) 18 = true := ilt_iff.2 (by omega)
          unfold parE; rw [hp,h14,hT,h18]; rfl)
     rw [e]; exact gr_no (by decide))
   |(have hl : 18 ≤ xs.length := by (simp only [Bool.not_eq_false',ile_not,Bool.not_not,ilt_no,List.length_drop] at *; omega)
     have h14 : ilt (xs.length : Int) 14 = false := ilt_no.2 (by omega)
     have h18 : (tagB xs && ilt (xs.length : Int) 18) = false := by (rw [hT]; exact ilt_no.2 (by omega))
     have e : parE n xs = frmE xs := by (unfold parE; rw [hp,h14,h18]; rfl)
     have k : parK n xs = frmK (frmB n xs) xs := rfl
     first
       |(have e2 : frmE xs = fourE (restX xs) := by (unfold frmE; simp_all; done)
         have k2 : frmK (frmB n xs) xs = fourK (frmB n xs) (restX xs) := by (unfold frmK; simp_all; done)
         rw [e,k,e2,k2]
         first
          |(have e0 : fourE (restX xs) = 0 := by simp_all [ieq]
            rw [e0,fb]; exact gr_ok (by kernel_rfl))
          | exact gr_no (by intro h0; simp_all [ieq]))
       |(have e2 : frmE xs = sixE (restX xs) := by (unfold frmE; simp_all; done)
         have k2 : frmK (frmB n xs) xs = sixK (frmB n xs) (restX xs) := by (unfold frmK; simp_all; done)
         rw [e,k,e2,k2]
         first
          |(have e0 : sixE (restX xs) = 0 := by simp_all [ieq]
            rw [e0,fb]; exact gr_ok (by kernel_rfl))
          | exact gr_no (by intro h0; simp_all [ieq]))
       |(have e2 : frmE xs = arpE (restX xs) := by (unfold frmE; simp_all; done)
         have k2 : frmK (frmB n xs) xs = arpK (frmB n xs) (restX xs) := by (unfold frmK; simp_all; done)
         rw [e,k,e2,k2]
         first
          |(have e0 : arpE (restX xs) = 0 := by simp_all [ieq]
            rw [e0,fb]; exact gr_ok (by kernel_rfl))
          | exact gr_no (by intro h0; simp_all [ieq]))
       |(have e2 : frmE xs = labE (restX xs) := by (unfold frmE; simp_all; done)
         have k2 : frmK (frmB n xs) xs = labK (frmB n xs) (restX xs) := by (unfold frmK; simp_all; done)
         rw [e,k,e2,k2]
         first
          |(have e0 : labE (restX xs) = 0 := by simp_all [ieq]
            rw [e0,fb]; exact gr_ok (by kernel_rfl))
          | exact gr_no (by intro h0; simp_all [ieq]))
       |(have e2 : frmE xs = 3 := by (unfold frmE labE; simp_all; done)
         rw [e,e2]; exact gr_no (by decide))
       |(have e2 : frmE xs = 0 := by (unfold frmE labE; simp_all; done)
         have k2 : frmK (frmB n xs) xs = labK (frmB n xs) (restX xs) := by (unfold frmK; simp_all; done)
         rw [e,k,e2,k2,fb]; exact gr_ok (by kernel_rfl))
       |(have e2 : frmE xs = 0 := by (unfold frmE; simp_all; done)
         have k2 : frmK (frmB n xs) xs = baseK (frmB n xs) := by (unfold frmK; simp_all; done)
         rw [e,k,e2,k2,fb]; exact gr_ok (by kernel_rfl)))
 | false =>
  have hT : tagB xs = false := by (unfold tagB; rw [t1,t2]; rfl)
  have ty : nv xs 12 2 = typN xs := by (unfold typN; rw [hT]; rfl)
  have uT : IntKind.u64.wrap (typN xs) = typN xs := by (rw [← ty]; exact wrapU (by omega) (by omega))
  have rr : xs.drop 14 = restX xs := by (unfold restX; rw [hT]; rfl)
  have fb : frmB n xs = (n,(0,nv xs 0 6),(0,nv xs 6 6),(0,typN xs),0,0) := by (unfold frmB; rw [hT]; rfl)
  rw [ty] at t1 t2
  have w1 : p71_w1 n xs = fourK (frmB n xs) (restX xs) := by
   unfold p71_w1
   simp only [AV.elems,List.drop_drop,Nat.reduceAdd,e1,e2,e3,e4,e11,v12,v14,v16,o1,o2,vR,oR,u0,uT,ty,rr,fb]
  have w3 : p71_w3 n xs = sixK (frmB n xs) (restX xs) := by
   unfold p71_w3
   simp only [AV.elems,List.drop_drop,Nat.reduceAdd,e1,e2,e3,e4,e11,v12,v14,v16,o1,o2,vR,oR,u0,uT,ty,rr,fb]
  have w5 : p71_w5 n xs = arpK (frmB n xs) (restX xs) := by
   unfold p71_w5
   simp only [AV.elems,List.drop_drop,Nat.reduceAdd,e1,e2,e3,e4,e11,v12,v14,v16,o1,o2,vR,oR,u0,uT,ty,rr,fb]
  refine gr_calls (e := parE n xs) (K := parK n xs) (book_ok.pthX (by kernel_rfl) spR3_ok (p71 n xs _ ?_ ?_ ?_ ?_ ?_ ?_ ?_ ?_ ?_ ?_ ?_ ?_ ?_ ?_ ?_ ?_ ?_ ?_ ?_ ?_ ?_ ?_ ?_ ?_ ?_ ?_ ?_ ?_ ?_ ?_ ?_ ?_ ?_ ?_ ?_ ?_ ?_ ?_ ?_ ?_ ?_ ?_ ?_ ?_ ?_ ?_ ?_ ?_ ?_ ?_ ?_ ?_ ?_ ?_ ?_ ?_ ?_ ?_ ?_ ?_ ?_ ?_ ?_ ?_ ?_))
  all_goals (repeat intro)
  all_goals try simp only [AV.elems,List.drop_drop,Nat.reduceAdd,e1,e2,e3,e4,e11,v12,v14,v16,o1,o2,vR,oR,u0,uT,p1,p2,t1,t2,ty,rr,w1,w3,w5,Bool.false_eq_true,reduceCtorEq] at *
  all_goals first
   |((first | refine need_pre2 h ?_ | refine need_pre3 h ?_ | refine need_pre2 d6 ?_ | refine need_pre3 d6 ?_ | refine need_pre2 d12 ?_ | refine need_pre3 d12 ?_ | refine need_pre2 d14 ?_ | refine need_pre3 d14 ?_ | refine need_pre2 d16 ?_ | refine need_pre3 d16 ?_); simp only [Bool.not_eq_false',ile_iff',ilt_no,List.length_drop] at *; omega)
   | exact need_pre2 dR (by simp only [Bool.not_eq_false',ile_iff',ilt_no,List.length_drop] at *; first | omega | (rw [← rr,List.length_drop]; omega))
   | exact need_pre3 dR (by simp only [Bool.not_eq_false',ile_iff',ilt_no,List.length_drop] at *; first | omega | (rw [← rr,List.length_drop]; omega))
   | exact inR_iff.2 ⟨by omega,by simp only [Bool.not_eq_false',ile_iff',ilt_no,List.length_drop] at *; omega⟩
   | exact dR
   |(have e : parE n xs = 3 := by
      first
       |(have hl : xs.length < 14 := by (simp only [Bool.not_eq_true',Bool.not_eq_false',ile_not,Bool.not_not,ilt_iff,List.length_drop] at *; omega)
         have h14 : ilt (xs.length : Int) 14 = true := ilt_iff.2 (by omega)
         unfold parE; rw [hp,h14]; rfl)
     rw [e]; exact gr_no (by decide))
   |(have hl : 14 ≤ xs.length := by (simp only [Bool.not_eq_false',ile_not,Bool.not_not,ilt_no,List.length_drop] at *; omega)
     have h14 : ilt (xs.length : Int) 14 = false := ilt_no.2 (by omega)
     have h18 : (tagB xs && ilt (xs.length : Int) 18) = false := by (rw [hT]; rfl)
     have e : parE n xs = frmE xs := by (unfold parE; rw [hp,h14,h18]; rfl)
     have k : parK n xs = frmK (frmB n xs) xs := rfl
     first
       |(have e2 : frmE xs = fourE (restX xs) := by (unfold frmE; simp_all; done)
         have k2 : frmK (frmB n xs) xs = fourK (frmB n xs) (restX xs) := by (unfold frmK; simp_all; done)
         rw [e,k,e2,k2]
         first
          |(have e0 : fourE (restX xs) = 0 := by simp_all [ieq]
            rw [e0,fb]; exact gr_ok (by kernel_rfl))
          | exact gr_no (by intro h0; simp_all [ieq]))
       |(have e2 : frmE xs = sixE (restX xs) := by (unfold frmE; simp_all; done)
         have k2 : frmK (frmB n xs) xs = sixK (frmB n xs) (restX xs) := by (unfold frmK; simp_all; done)
         rw [e,k,e2,k2]
         first
          |(have e0 : sixE (restX xs) = 0 := by simp_all [ieq]
            rw [e0,fb]; exact gr_ok (by kernel_rfl))
          | exact gr_no (by intro h0; simp_all [ieq]))
       |(have e2 : frmE xs = arpE (restX xs) := by (unfold frmE; simp_all; done)
         have k2 : frmK (frmB n xs) xs = arpK (frmB n xs) (restX xs) := by (unfold frmK; simp_all; done)
         rw [e,k,e2,k2]
         first
          |(have e0 : arpE (restX xs) = 0 := by simp_all [ieq]
            rw [e0,fb]; exact gr_ok (by kernel_rfl))
          | exact gr_no (by intro h0; simp_all [ieq]))
       |(have e2 : frmE xs = labE (restX xs) := by (unfold frmE; simp_all; done)
         have k2 : frmK (frmB n xs) xs = labK (frmB n xs) (restX xs) := by (unfold frmK; simp_all; done)
         rw [e,k,e2,k2]
         first
          |(have e0 : labE (restX xs) = 0 := by simp_all [ieq]
            rw [e0,fb]; exact gr_ok (by kernel_rfl))
          | exact gr_no (by intro h0; simp_all [ieq]))
       |(have e2 : frmE xs = 3 := by (unfold frmE labE; simp_all; done)
         rw [e,e2]; exact gr_no (by decide))
       |(have e2 : frmE xs = 0 := by (unfold frmE labE; simp_all; done)
         have k2 : frmK (frmB n xs) xs = labK (frmB n xs) (restX xs) := by (unfold frmK; simp_all; done)
         rw [e,k,e2,k2,fb]; exact gr_ok (by kernel_rfl))
       |(have e2 : frmE xs = 0 := by (unfold frmE; simp_all; done)
         have k2 : frmK (frmB n xs) xs = baseK (frmB n xs) := by (unfold frmK; simp_all; done)
         rw [e,k,e2,k2,fb]; exact gr_ok (by kernel_rfl)))
end Go.Proofs.Ytdcijmigoefnjaa
