import Derived.Test.YtdcijmigoefnjaaP45c
import Derived.Test.YtdcijmigoefnjaaL45b
set_option linter.unusedVariables false
set_option linter.unusedSimpArgs false
set_option maxRecDepth 100000
set_option maxHeartbeats 0
namespace Go.Proofs.Ytdcijmigoefnjaa
open Go Go.Ev
theorem s192l : SumTOk Try.prog 192 (S192l true) := by
 have e : S192l true = S192 := by kernel_rfl
 rw [e]; exact s192
theorem spM2_ok : SpecTL Try.prog (spM2 true) := ⟨s192l,spM0_ok⟩
theorem s173 : SumTOk Try.prog 173 (SW true labE labC) := sumSW_ok fun x hx => by
 obtain ⟨b,xs⟩ := x
 have h : okL xs = true := hx
 have b0 := nv4 h 0
 have c0 : ishr .i64 (nv xs 0 4) 12 = nv xs 0 4 / 4096 := shrM 12 (by omega)
 have u0 : IntKind.u64.wrap (nv xs 0 4 / 4096) = nv xs 0 4 / 4096 := wrapU (by omega) (by omega)
 refine gw_calls (e := labE xs) (K := labK b xs) (book_ok.pthX (by kernel_rfl) spM0_ok (p173 b xs _ ?_ ?_ ?_))
 all_goals (repeat intro)
 all_goals first
  | exact need_pre3 h (by simp only [Bool.not_eq_false',ile_iff'] at *; omega)
  |(have e : labE xs = 3 := by (unfold labE; simp_all [ile_not])
    rw [e]; exact gw_no (by decide) rfl)
  |(have e : labE xs = 0 := by (unfold labE; simp_all [ile_not])
    rw [e,c0,u0]; exact gw_ok (by kernel_rfl) rfl)
theorem take6 {xs : List AV} (i : Nat) (hi : i < 6) : ((xs.take 6).getD i .unk) = xs.getD i .unk := by
 rw [List.getD_eq_getElem?_getD,List.getD_eq_getElem?_getD,List.getElem?_take,if_pos hi]
theorem isK {xs : List AV} (h : okL xs = true) {i : Nat} (hi : i < xs.length) : isIntK .u8 (xs.getD i .unk) = true := by
 obtain ⟨z,hz,e1,e2⟩ := drop_byte (okL_iff.1 h).1 hi
 rw [e2]; rfl
theorem s172 : SumTOk Try.prog 172 (SW true arpE arpC) := sumSW_ok fun x hx => by
 obtain ⟨b,xs⟩ := x
 have h : okL xs = true := hx
 have b0 := nv2 h 6
 have b1 := nv4 h 14
 have b2 := nv4 h 24
 have u0 : IntKind.u64.wrap (nv xs 6 2) = nv xs 6 2 := wrapU (by omega) (by omega)
 have u1 : IntKind.u64.wrap (nv xs 14 4) = nv xs 14 4 := wrapU (by omega) (by omega)
 have u2 : IntKind.u64.wrap (nv xs 24 4) = nv xs 24 4 := wrapU (by omega) (by omega)
 have a : (ieq ((List.take 6 xs).getD 0 AV.unk).asInt 0 && (ieq ((List.take 6 xs).getD 1 AV.unk).asInt 1 && (ieq ((List.take 6 xs).getD 2 AV.unk).asInt 8 && (ieq ((List.take 6 xs).getD 3 AV.unk).asInt 0 && (ieq ((List.take 6 xs).getD 4 AV.unk).asInt 6 && (ieq ((List.take 6 xs).getD 5 AV.unk).asInt 4 && true)))))) = arpHd xs := by
  rw [take6 0 (by omega),take6 1 (by omega),take6 2 (by omega),take6 3 (by omega),take6 4 (by omega),take6 5 (by omega)]
  simp only [Bool.and_true]; rfl
 refine gw_calls (e := arpE xs) (K := arpK b xs) (book_ok.pthX (by kernel_rfl) spM0_ok (p172 b xs _ ?_ ?_ ?_ ?_ ?_ ?_ ?_ ?_ ?_))
 all_goals (repeat intro)
 all_goals try rw [a] at *
 all_goals first
  | exact need_pre3 h (by simp only [Bool.not_eq_false',ile_iff'] at *; omega)
  | exact inR_iff.2 ⟨by omega,by simp only [Bool.not_eq_false',ile_iff'] at *; omega⟩
  |(simp only [Bool.not_eq_false',ile_iff'] at *; rw [Nat.ble_eq,List.length_take]; omega)
  |(have e : arpE xs = 3 := by (unfold arpE; simp_all [ile_not])
    rw [e]; exact gw_no (by decide) rfl)
  |(have e : arpE xs = 4 := by (unfold arpE; simp_all [ile_not])
    rw [e]; exact gw_no (by decide) rfl)
  |(have e : arpE xs = 0 := by (unfold arpE; simp_all [ile_not])
    rw [e,u0,u1,u2]; exact gw_ok (by kernel_rfl) rfl)
  |(simp only [Bool.not_eq_false',ile_iff'] at *
    unfold takeIs takeIs takeIs takeIs takeIs takeIs takeIs
    rw [take6 0 (by omega),take6 (0 + 1) (by omega),take6 (0 + 1 + 1) (by omega),take6 (0 + 1 + 1 + 1) (by omega),take6 (0 + 1 + 1 + 1 + 1) (by omega),take6 (0 + 1 + 1 + 1 + 1 + 1) (by omega)]
    rw [isK h (by omega),isK h (by omega),isK h (by omega),isK h (by omega),isK h (by omega),isK h (by omega)]; rfl)
theorem s171 : SumTOk Try.prog 171 (SW true sixE sixC) := sumSW_ok fun x hx => by
 obtain ⟨b,xs⟩ := x
 have h : okL xs = true := hx
 have b0 := nv1 h 0
 have b1 := nv2 h 0
 have b2 := nv2 h 4
 have b3 := nv1 h 6
 have a0 : ishr .i64 (nv xs 0 1) 4 = nv xs 0 1 / 16 := shrM 4 (by omega)
 have a1 : iadd .i64 40 (nv xs 4 2) = 40 + nv xs 4 2 := wrapS (by omega) (by omega)
 have t1 : nv (xs.take (40 + nv xs 4 2).toNat) 0 2 = nv xs 0 2 := nvT (by omega)
 have t2 : nv (xs.take (40 + nv xs 4 2).toNat) 6 1 = nv xs 6 1 := nvT (by omega)
 have t3 : wvH ((xs.take (40 + nv xs 4 2).toNat).drop 8) 16 = wvH (xs.drop 8) 16 := wvHT (by omega)
 have t4 : wvL ((xs.take (40 + nv xs 4 2).toNat).drop 8) 16 = wvL (xs.drop 8) 16 := wvLT (by omega)
 have t5 : wvH (((xs.take (40 + nv xs 4 2).toNat).drop 8).drop 16) 16 = wvH (xs.drop 24) 16 := by rw [List.drop_drop]; exact wvHT (by omega)
 have t6 : wvL (((xs.take (40 + nv xs 4 2).toNat).drop 8).drop 16) 16 = wvL (xs.drop 24) 16 := by rw [List.drop_drop]; exact wvLT (by omega)
 have t7 : (((xs.take (40 + nv xs 4 2).toNat).drop 8).drop 16).drop 16 = inV6 xs := by
  rw [List.drop_drop,List.drop_drop,List.drop_take]; unfold inV6; congr 1; omega
 have q0 : 0 ≤ clsN xs ∧ clsN xs < 256 := by unfold clsN; omega
 have c1 : ibits .and .i64 (ishr .i64 (nv xs 0 2) 4) 255 = clsN xs := by
  rw [show ishr .i64 (nv xs 0 2) 4 = nv xs 0 2 / 16 from shrM 4 (by omega)]; exact andM (m := 8) (by omega) (by omega) (by omega)
 have c2 : ibits .and .i64 (ishr .i64 (clsN xs) 2) 63 = clsN xs / 4 := by
  rw [show ishr .i64 (clsN xs) 2 = clsN xs / 4 from shrM 2 (by omega),show ibits .and .i64 (clsN xs / 4) 63 = clsN xs / 4 % 64 from andM (m := 6) (by omega) (by omega) (by omega)]; omega
 have c3 : ibits .and .i64 (clsN xs) 3 = clsN xs % 4 := andM (m := 2) (by omega) (by omega) (by omega)
 have u1 : IntKind.u64.wrap (clsN xs / 4) = clsN xs / 4 := wrapU (by omega) (by omega)
 have u2 : IntKind.u64.wrap (clsN xs % 4) = clsN xs % 4 := wrapU (by omega) (by omega)
 have u3 : IntKind.u64.wrap (nv xs 6 1) = nv xs 6 1 := wrapU (by omega) (by omega)
 have d1 := okL_take h (40 + nv xs 4 2).toNat
 have d2 := okL_drop d1 8
 have d3 := okL_drop d2 16
 have d4 := okL_drop d3 16
 refine gw_calls (e := sixE xs) (K := sixK b xs) (book_ok.pthX (by kernel_rfl) spM2_ok (p171 true b xs _ ?_ ?_ ?_ ?_ ?_ ?_ ?_ ?_ ?_ ?_ ?_ ?_ ?_ ?_ ?_ ?_ ?_ ?_))
 all_goals (repeat intro)
 all_goals simp only [AV.elems,Nat.sub_zero,a0,a1,t1,t2,t3,t4,t5,t6,c1,c2,c3,u1,u2,u3] at *
 all_goals first
  | exact need_pre3 h (by simp only [Bool.not_eq_false',ile_iff'] at *; omega)
  | exact need_pre3 d1 (by simp only [Bool.not_eq_false',ile_iff',List.length_take] at *; omega)
  | exact need_pre2 d2 (by simp only [Bool.not_eq_false',ile_iff',List.length_take,List.length_drop] at *; omega)
  | exact need_pre2 d3 (by simp only [Bool.not_eq_false',ile_iff',List.length_take,List.length_drop] at *; omega)
  | exact d4
  | exact inR_iff.2 ⟨by omega,by simp only [Bool.not_eq_false',ile_iff',List.length_take,List.length_drop] at *; omega⟩
  |(rw [Bool.true_and,beq_self_eq_true]; done)
  |(have e : sixE xs = 3 := by (unfold sixE; simp_all [ile_not]; done)
    rw [e]; exact gw_no (by decide) rfl)
  |(have e : sixE xs = 4 := by (unfold sixE; simp_all [ile_not]; done)
    rw [e]; exact gw_no (by decide) rfl)
  |(have e : sixE xs = withinE false (nv xs 6 1) (inV6 xs) := by (unfold sixE; simp_all [ile_not]; done)
    rw [t7] at *
    rw [e]
    first
     |(have e0 : withinE false (nv xs 6 1) (inV6 xs) = 0 := by simp_all [ieq]
       rw [e0]; exact gw_ok (by kernel_rfl) rfl)
     | exact gw_no (by intro h0; simp_all [ieq]) rfl)
theorem short_take {xs : List AV} (h : okL xs = true) {n : Nat} (hn : n ≤ 65536) : (bytB (xs.take n) && shortB (xs.take n)) = true := by
 have h1 := okL_take h n
 have h2 : bytB (xs.take n) = true := bytB_iff.2 (okL_iff.1 h1).1
 have h3 : shortB (xs.take n) = true := by (unfold shortB; rw [Nat.ble_eq,List.length_take]; omega)
 rw [h2,h3]; rfl
theorem s170 : SumTOk Try.prog 170 (SW true fourE fourC) := sumSW_ok fun x hx => by
 obtain ⟨b,xs⟩ := x
 have h : okL xs = true := hx
 have b0 := nv1 h 0
 have b1 := nv2 h 2
 have b2 := nv1 h 1
 have b3 := nv1 h 9
 have b4 := nv4 h 12
 have b5 := nv4 h 16
 have b6 := nv2 h 6
 have hd0 : 0 ≤ hdN xs ∧ hdN xs ≤ 60 := by unfold hdN; omega
 have a0 : ishr .i64 (nv xs 0 1) 4 = nv xs 0 1 / 16 := shrM 4 (by omega)
 have a1 : ishl .i64 (ibits .and .i64 (nv xs 0 1) 15) 2 = hdN xs := by
  rw [show ibits .and .i64 (nv xs 0 1) 15 = nv xs 0 1 % 16 from andM (m := 4) (by omega) (by omega) (by omega)]; exact shl2 (by omega) (by omega)
 have c1 : ibits .and .i64 (ishr .i64 (nv xs 1 1) 2) 63 = nv xs 1 1 / 4 := by
  rw [show ishr .i64 (nv xs 1 1) 2 = nv xs 1 1 / 4 from shrM 2 (by omega),show ibits .and .i64 (nv xs 1 1 / 4) 63 = nv xs 1 1 / 4 % 64 from andM (m := 6) (by omega) (by omega) (by omega)]; omega
 have c2 : ibits .and .i64 (nv xs 1 1) 3 = nv xs 1 1 % 4 := andM (m := 2) (by omega) (by omega) (by omega)
 have c3 : (!ieq (ibits .and .i64 (nv xs 6 2) 8191) 0) = pieceB xs := by
  rw [show ibits .and .i64 (nv xs 6 2) 8191 = nv xs 6 2 % 8192 from andM (m := 13) (by omega) (by omega) (by omega)]; rfl
 have u1 : IntKind.u64.wrap (nv xs 1 1 / 4) = nv xs 1 1 / 4 := wrapU (by omega) (by omega)
 have u2 : IntKind.u64.wrap (nv xs 1 1 % 4) = nv xs 1 1 % 4 := wrapU (by omega) (by omega)
 have u3 : IntKind.u64.wrap (nv xs 9 1) = nv xs 9 1 := wrapU (by omega) (by omega)
 have u4 : IntKind.u64.wrap (nv xs 12 4) = nv xs 12 4 := wrapU (by omega) (by omega)
 have u5 : IntKind.u64.wrap (nv xs 16 4) = nv xs 16 4 := wrapU (by omega) (by omega)
 have d1 := okL_take h (nv xs 2 2).toNat
 have d2 := okL_drop d1 (hdN xs).toNat
 have d0 := short_take h (n := (hdN xs).toNat) (by omega)
 have t7 : ((xs.take (nv xs 2 2).toNat).drop (hdN xs).toNat) = inV4 xs := by
  rw [List.drop_take]; unfold inV4; congr 1; omega
 refine gw_calls (e := fourE xs) (K := fourK b xs) (book_ok.pthX (by kernel_rfl) spM2_ok (p170 true b xs _ ?_ ?_ ?_ ?_ ?_ ?_ ?_ ?_ ?_ ?_ ?_ ?_ ?_ ?_ ?_ ?_ ?_ ?_ ?_ ?_ ?_ ?_ ?_ ?_))
 all_goals (repeat intro)
 all_goals by_cases hT : 20 ≤ nv xs 2 2
 all_goals try (
  have t1 : nv (xs.take (nv xs 2 2).toNat) 1 1 = nv xs 1 1 := nvT (by omega)
  have t2 : nv (xs.take (nv xs 2 2).toNat) 9 1 = nv xs 9 1 := nvT (by omega)
  have t3 : nv (xs.take (nv xs 2 2).toNat) 12 4 = nv xs 12 4 := nvT (by omega)
  have t4 : nv (xs.take (nv xs 2 2).toNat) 16 4 = nv xs 16 4 := nvT (by omega)
  have t5 : nv (xs.take (nv xs 2 2).toNat) 6 2 = nv xs 6 2 := nvT (by omega)
  simp only [AV.elems,Nat.sub_zero,t1,t2,t3,t4,t5] at *)
 all_goals simp only [AV.elems,Nat.sub_zero,a0,a1,c1,c2,c3,u1,u2,u3,u4,u5] at *
 all_goals first
  | exact need_pre3 h (by simp only [Bool.not_eq_false',ile_iff'] at *; omega)
  | exact need_pre3 d1 (by simp only [Bool.not_eq_false',ile_iff',ilt_no,List.length_take] at *; omega)
  | exact d2
  | exact d0
  | exact inR_iff.2 ⟨by omega,by simp only [Bool.not_eq_false',ile_iff',ilt_no,List.length_take,List.length_drop] at *; omega⟩
  |(rw [Bool.true_and,beq_self_eq_true]; done)
  |(have e : fourE xs = 3 := by (unfold fourE; simp_all [ile_not]; done)
    rw [e]; exact gw_no (by decide) rfl)
  |(have e : fourE xs = 4 := by (unfold fourE; simp_all [ile_not]; done)
    rw [e]; exact gw_no (by decide) rfl)
  |(exfalso; simp only [Bool.not_eq_false',ile_iff',ilt_no] at *; omega)
  |(have e : fourE xs = 0 := by (unfold fourE; simp_all [ile_not]; done)
    have k : fourK b xs = ipK b true (fourP xs) := by (unfold fourK; simp_all; done)
    rw [e,k]; exact gw_ok (by kernel_rfl) rfl)
  |(have e : fourE xs = withinE true (nv xs 9 1) (inV4 xs) := by (unfold fourE; simp_all [ile_not]; done)
    have k : fourK b xs = withinK (ipK b true (fourP xs)) true (nv xs 9 1) (inV4 xs) := by (unfold fourK; simp_all; done)
    rw [t7] at *
    rw [e,k]
    first
     |(have e0 : withinE true (nv xs 9 1) (inV4 xs) = 0 := by simp_all [ieq]
       rw [e0]; exact gw_ok (by kernel_rfl) rfl)
     | exact gw_no (by intro h0; simp_all [ieq]) rfl)
end Go.Proofs.Ytdcijmigoefnjaa
