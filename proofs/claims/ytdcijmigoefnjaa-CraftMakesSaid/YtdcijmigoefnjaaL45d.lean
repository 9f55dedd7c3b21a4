import Derived.Test.YtdcijmigoefnjaaP45d
import Derived.Test.YtdcijmigoefnjaaL45b
set_option linter.unusedVariables false
set_option linter.unusedSimpArgs false
set_option maxRecDepth 100000
set_option maxHeartbeats 0
namespace Go.Proofs.Ytdcijmigoefnjaa
open Go Go.Ev
theorem spR0_ok : SpecTL Try.prog spR0 := ⟨s174,s115v s116,s73,trivial⟩
theorem s175 : SumTOk Try.prog 175 (S175 true) := sumW_ok fun x hx => by
 obtain ⟨four,b,p,xs⟩ := x
 have h : okL xs = true := hx
 have b0 := nv2 h 0
 have b1 := nv2 h 2
 have u0 : IntKind.u64.wrap (nv xs 0 2) = nv xs 0 2 := wrapU (by omega) (by omega)
 have u1 : IntKind.u64.wrap (nv xs 2 2) = nv xs 2 2 := wrapU (by omega) (by omega)
 have b2 := nv1 h 0
 have b3 := nv1 h 1
 have u2 : IntKind.u64.wrap (nv xs 0 1) = nv xs 0 1 := wrapU (by omega) (by omega)
 have u3 : IntKind.u64.wrap (nv xs 1 1) = nv xs 1 1 := wrapU (by omega) (by omega)
 have g0 : ¬ xs.length < 8 → (xs.getD 0 .unk).asInt = nv xs 0 1 := fun hl => getN h (by omega)
 have g1 : ¬ xs.length < 8 → (xs.getD 1 .unk).asInt = nv xs 1 1 := fun hl => getN h (by omega)
 cases four with
 | true =>
  refine gr_calls (e := withinE true p.2.2.1 xs) (K := withinK (ipK b true p) true p.2.2.1 xs) (book_ok.pthX (by kernel_rfl) spR0_ok (p175t b p xs _ ?_ ?_ ?_ ?_ ?_ ?_ ?_ ?_ ?_ ?_ ?_ ?_ ?_ ?_ ?_))
  all_goals (repeat intro)
  all_goals first
   | exact need_pre3 h (by simp only [ilt_no] at *; omega)
   | exact inR_iff.2 ⟨by omega,by simp only [ilt_no] at *; omega⟩
   | exact hasN h (by simp only [ilt_no] at *; omega)
   |(have e : withinE true p.2.2.1 xs = 3 := by (unfold withinE needN; simp_all)
     rw [e]; exact gr_no (by decide))
   |(have e : withinE true p.2.2.1 xs = 0 := by (unfold withinE needN; simp_all [ilt0])
     rw [e]
     first
      |(have k : withinK (ipK b true p) true p.2.2.1 xs = setK (setK (ipK b true p) 12 (0,nv xs 0 2)) 13 (0,nv xs 2 2) := by (unfold withinK; simp_all; done)
        rw [k,u0,u1]; exact gr_ok (by kernel_rfl))
      |(have k : withinK (ipK b true p) true p.2.2.1 xs = setK (setK (ipK b true p) 14 (0,nv xs 0 2)) 15 (0,nv xs 2 2) := by (unfold withinK; simp_all; done)
        rw [k,u0,u1]; exact gr_ok (by kernel_rfl))
      |(have k : withinK (ipK b true p) true p.2.2.1 xs = setK (setK (ipK b true p) 16 (0,nv xs 0 1)) 17 (0,nv xs 1 1) := by (unfold withinK; simp_all; done)
        have hl : ¬ xs.length < 8 := by (simp only [ilt_no] at *; omega)
        rw [k,g0 hl,g1 hl,u2,u3]; exact gr_ok (by kernel_rfl))
      |(have k : withinK (ipK b true p) true p.2.2.1 xs = ipK b true p := by (unfold withinK; simp_all; done)
        rw [k]; exact gr_ok (by kernel_rfl)))
 | false =>
  refine gr_calls (e := withinE false p.2.2.1 xs) (K := withinK (ipK b false p) false p.2.2.1 xs) (book_ok.pthX (by kernel_rfl) spR0_ok (p175f b p xs _ ?_ ?_ ?_ ?_ ?_ ?_ ?_ ?_ ?_ ?_))
  all_goals (repeat intro)
  all_goals first
   | exact need_pre3 h (by simp only [ilt_no] at *; omega)
   |(have e : withinE false p.2.2.1 xs = 3 := by (unfold withinE needN; simp_all)
     rw [e]; exact gr_no (by decide))
   |(have e : withinE false p.2.2.1 xs = 0 := by (unfold withinE needN; simp_all [ilt0])
     rw [e]
     first
      |(have k : withinK (ipK b false p) false p.2.2.1 xs = setK (setK (ipK b false p) 12 (0,nv xs 0 2)) 13 (0,nv xs 2 2) := by (unfold withinK; simp_all; done)
        rw [k,u0,u1]; exact gr_ok (by kernel_rfl))
      |(have k : withinK (ipK b false p) false p.2.2.1 xs = setK (setK (ipK b false p) 14 (0,nv xs 0 2)) 15 (0,nv xs 2 2) := by (unfold withinK; simp_all; done)
        rw [k,u0,u1]; exact gr_ok (by kernel_rfl))
      |(have k : withinK (ipK b false p) false p.2.2.1 xs = ipK b false p := by (unfold withinK; simp_all; done)
        rw [k]; exact gr_ok (by kernel_rfl)))
theorem spR2_ok : SpecTL Try.prog (spR2 true) := ⟨s175,spR0_ok⟩
theorem s132 : SumTOk Try.prog 132 (SR true arpE arpC) := sumW_ok fun x hx => by
 obtain ⟨b,xs⟩ := x
 have h : okL xs = true := hx
 have b0 := nv2 h 6
 have b1 := nv4 h 14
 have b2 := nv4 h 24
 have u0 : IntKind.u64.wrap (nv xs 6 2) = nv xs 6 2 := wrapU (by omega) (by omega)
 have u1 : IntKind.u64.wrap (nv xs 14 4) = nv xs 14 4 := wrapU (by omega) (by omega)
 have u2 : IntKind.u64.wrap (nv xs 24 4) = nv xs 24 4 := wrapU (by omega) (by omega)
 have f : ∀ i,(xs.getD i .unk).asInt = byN xs i := fun _ => rfl
 refine gr_calls (e := arpE xs) (K := arpK b xs) (book_ok.pthX (by kernel_rfl) spR0_ok (p132 b xs _ ?_ ?_ ?_ ?_ ?_ ?_ ?_ ?_ ?_ ?_ ?_ ?_ ?_ ?_ ?_ ?_ ?_ ?_ ?_ ?_ ?_ ?_ ?_))
 all_goals (repeat intro)
 all_goals simp only [f] at *
 all_goals first
  | exact need_pre3 h (by simp only [ilt_no] at *; omega)
  | exact inR_iff.2 ⟨by omega,by simp only [ilt_no] at *; omega⟩
  | exact hasN h (by simp only [ilt_no] at *; omega)
  |(have e : arpE xs = 3 := by (unfold arpE; simp_all; done)
    rw [e]; exact gr_no (by decide))
  |(have e : arpE xs = 4 := by (unfold arpE arpHd; simp_all; done)
    rw [e]; exact gr_no (by decide))
  |(have e : arpE xs = 0 := by (unfold arpE arpHd; simp_all; done)
    rw [e,u0,u1,u2]; exact gr_ok (by kernel_rfl))
theorem s131 : SumTOk Try.prog 131 (SR true sixE sixC) := sumW_ok fun x hx => by
 obtain ⟨b,xs⟩ := x
 have h : okL xs = true := hx
 have b0 := nv1 h 0
 have b1 := nv2 h 0
 have b2 := nv2 h 4
 have b3 := nv1 h 6
 have lx := (okL_iff.1 h).2
 have u0 : IntKind.u64.wrap (nv xs 4 2) = nv xs 4 2 := wrapU (by omega) (by omega)
 have s0 : IntKind.i64.wrap (nv xs 4 2) = nv xs 4 2 := wrapS (by omega) (by omega)
 have a1 : iadd .i64 40 (nv xs 4 2) = 40 + nv xs 4 2 := wrapS (by omega) (by omega)
 have a2 : ilt (isub .i64 (xs.length : Int) 40) (nv xs 4 2) = ilt (xs.length : Int) (40 + nv xs 4 2) := by
  have : isub .i64 (xs.length : Int) 40 = (xs.length : Int) - 40 := by (show IntKind.i64.wrap _ = _; rw [IntKind.wrap_i64]; omega)
  rw [this]; unfold ilt; rw [decide_eq_decide]; omega
 have u1 : IntKind.u64.wrap (nv xs 0 2) = nv xs 0 2 := wrapU (by omega) (by omega)
 have q0 : 0 ≤ clsN xs ∧ clsN xs < 256 := by unfold clsN; omega
 have c1 : irem (iquo .u64 (nv xs 0 2) 16) 256 = clsN xs := by
  rw [quoU (by omega) (by omega) (by omega),remM (by omega)]; rfl
 have c2 : iquo .u64 (clsN xs) 4 = clsN xs / 4 := quoU (by omega) (by omega) (by omega)
 have c3 : irem (clsN xs) 4 = clsN xs % 4 := remM (by omega)
 have c4 : iquo .u8 (nv xs 0 1) 16 = nv xs 0 1 / 16 := quoB (by omega) (by omega) (by omega)
 have u3 : IntKind.u64.wrap (nv xs 6 1) = nv xs 6 1 := wrapU (by omega) (by omega)
 have t0 : (40 + nv xs 4 2).toNat - 40 = (nv xs 4 2).toNat := by omega
 have t7 : (xs.drop 40).take (nv xs 4 2).toNat = inV6 xs := rfl
 have d8 := okL_drop h 8
 have d24 := okL_drop h 24
 have d40 := okL_take (okL_drop h 40) (nv xs 4 2).toNat
 rw [t7] at d40
 refine gr_calls (e := sixE xs) (K := sixK b xs) (book_ok.pthX (by kernel_rfl) spR2_ok (p131 b xs _ ?_ ?_ ?_ ?_ ?_ ?_ ?_ ?_ ?_ ?_ ?_ ?_ ?_ ?_ ?_ ?_ ?_ ?_))
 all_goals (repeat intro)
 all_goals by_cases hL : xs.length < 40
 all_goals first
  | (exfalso; simp only [ilt_no] at *; omega)
  | (have e : sixE xs = 3 := by (unfold sixE; simp_all; done)
     rw [e]; exact gr_no (by decide))
  | skip
 all_goals (
  have g0 : (xs.getD 0 .unk).asInt = nv xs 0 1 := getN h (by omega)
  have g6 : (xs.getD 6 .unk).asInt = nv xs 6 1 := getN h (by omega)
  have w : p131_w0 b xs = sixK b xs := by
    unfold p131_w0 sixK
    simp only [AV.elems,g0,g6,u0,s0,a1,u1,c1,c2,c3,u3,t0,t7]
    rfl)
 all_goals simp only [AV.elems,g0,g6,u0,s0,a1,a2,u1,c1,c2,c3,c4,u3,t0,t7,w] at *
 all_goals first
  | exact need_pre3 h (by simp only [ilt_no] at *; omega)
  | exact need_pre2 d8 (by simp only [ilt_no,List.length_drop] at *; omega)
  | exact need_pre2 d24 (by simp only [ilt_no,List.length_drop] at *; omega)
  | exact d40
  | exact inR_iff.2 ⟨by omega,by simp only [ilt_no] at *; omega⟩
  | exact hasN h (by simp only [ilt_no] at *; omega)
  | (have e : sixE xs = 3 := by (unfold sixE; simp_all; done)
     rw [e]; exact gr_no (by decide))
  | (have e : sixE xs = 4 := by (unfold sixE; simp_all; done)
     rw [e]; exact gr_no (by decide))
  | (have e : sixE xs = withinE false (nv xs 6 1) (inV6 xs) := by (unfold sixE; simp_all; done)
     rw [e]
     first
      |(have e0 : withinE false (nv xs 6 1) (inV6 xs) = 0 := by simp_all [ieq]
        rw [e0]; exact gr_ok (by kernel_rfl))
      | exact gr_no (by intro h0; simp_all [ieq]))
theorem short_take' {xs : List AV} (h : okL xs = true) {n : Nat} (hn : n ≤ 65536) : (bytB (xs.take n) && shortB (xs.take n)) = true := by
 have h1 := okL_take h n
 have h2 : bytB (xs.take n) = true := bytB_iff.2 (okL_iff.1 h1).1
 have h3 : shortB (xs.take n) = true := by (unfold shortB; rw [Nat.ble_eq,List.length_take]; omega)
 rw [h2,h3]; rfl
theorem s130 : SumTOk Try.prog 130 (SR true fourE fourC) := sumW_ok fun x hx => by
 obtain ⟨b,xs⟩ := x
 have h : okL xs = true := hx
 have b0 := nv1 h 0
 have b1 := nv2 h 2
 have b2 := nv1 h 1
 have b3 := nv1 h 9
 have b4 := nv4 h 12
 have b5 := nv4 h 16
 have b6 := nv2 h 6
 have lx := (okL_iff.1 h).2
 have hd0 : 0 ≤ hdN xs ∧ hdN xs ≤ 60 := by unfold hdN; omega
 have u0 : IntKind.u64.wrap (nv xs 2 2) = nv xs 2 2 := wrapU (by omega) (by omega)
 have s0 : IntKind.i64.wrap (nv xs 2 2) = nv xs 2 2 := wrapS (by omega) (by omega)
 have a1 : imul .i64 (IntKind.i64.wrap (irem (nv xs 0 1) 16)) 4 = hdN xs := by
  rw [remM (by omega),wrapS (by omega) (by omega)]; exact wrapS (by omega) (by omega)
 have c4 : iquo .u8 (nv xs 0 1) 16 = nv xs 0 1 / 16 := quoB (by omega) (by omega) (by omega)
 have c1 : iquo .u8 (nv xs 1 1) 4 = nv xs 1 1 / 4 := quoB (by omega) (by omega) (by omega)
 have c2 : irem (nv xs 1 1) 4 = nv xs 1 1 % 4 := remM (by omega)
 have u6 : IntKind.u64.wrap (nv xs 6 2) = nv xs 6 2 := wrapU (by omega) (by omega)
 have c3 : (!ieq (irem (nv xs 6 2) 8192) 0) = pieceB xs := by rw [remM (by omega)]; rfl
 have u1 : IntKind.u64.wrap (nv xs 1 1 / 4) = nv xs 1 1 / 4 := wrapU (by omega) (by omega)
 have u2 : IntKind.u64.wrap (nv xs 1 1 % 4) = nv xs 1 1 % 4 := wrapU (by omega) (by omega)
 have u3 : IntKind.u64.wrap (nv xs 9 1) = nv xs 9 1 := wrapU (by omega) (by omega)
 have u4 : IntKind.u64.wrap (nv xs 12 4) = nv xs 12 4 := wrapU (by omega) (by omega)
 have u5 : IntKind.u64.wrap (nv xs 16 4) = nv xs 16 4 := wrapU (by omega) (by omega)
 have t0 : (nv xs 2 2).toNat - (hdN xs).toNat = (nv xs 2 2 - hdN xs).toNat := by omega
 have t7 : (xs.drop (hdN xs).toNat).take (nv xs 2 2 - hdN xs).toNat = inV4 xs := rfl
 have d0 := short_take' h (n := (hdN xs).toNat) (by omega)
 have d1 := okL_take (okL_drop h (hdN xs).toNat) (nv xs 2 2 - hdN xs).toNat
 rw [t7] at d1
 refine gr_calls (e := fourE xs) (K := fourK b xs) (book_ok.pthX (by kernel_rfl) spR2_ok (p130 b xs _ ?_ ?_ ?_ ?_ ?_ ?_ ?_ ?_ ?_ ?_ ?_ ?_ ?_ ?_ ?_ ?_ ?_ ?_ ?_ ?_ ?_ ?_ ?_ ?_ ?_))
 all_goals (repeat intro)
 all_goals by_cases hL : xs.length < 20
 all_goals first
  | (exfalso; simp only [ilt_no] at *; omega)
  | (have e : fourE xs = 3 := by (unfold fourE; simp_all; done)
     rw [e]; exact gr_no (by decide))
  | skip
 all_goals (
  have g0 : (xs.getD 0 .unk).asInt = nv xs 0 1 := getN h (by omega)
  have g1 : (xs.getD 1 .unk).asInt = nv xs 1 1 := getN h (by omega)
  have g9 : (xs.getD 9 .unk).asInt = nv xs 9 1 := getN h (by omega)
  have w : p130_w0 b xs = withinK (ipK b true (fourP xs)) true (nv xs 9 1) (inV4 xs) := by
    unfold p130_w0
    simp only [AV.elems,g0,g1,g9,u0,s0,a1,c1,c2,c3,c4,u1,u2,u3,u4,u5,u6,t0,t7]
    rfl)
 all_goals simp only [AV.elems,Nat.sub_zero,g0,g1,g9,u0,s0,a1,c1,c2,c3,c4,u1,u2,u3,u4,u5,u6,t0,t7,w] at *
 all_goals first
  | exact need_pre3 h (by simp only [ilt_no] at *; omega)
  | exact d0
  | exact d1
  | exact inR_iff.2 ⟨by omega,by simp only [ilt_no] at *; omega⟩
  | exact hasN h (by simp only [ilt_no] at *; omega)
  | (have e : fourE xs = 3 := by (unfold fourE; simp_all; done)
     rw [e]; exact gr_no (by decide))
  | (have e : fourE xs = 4 := by (unfold fourE; simp_all; done)
     rw [e]; exact gr_no (by decide))
  | (have e : fourE xs = 0 := by (unfold fourE; simp_all; done)
     have k : fourK b xs = ipK b true (fourP xs) := by (unfold fourK; simp_all; done)
     rw [e,k]; exact gr_ok (by kernel_rfl))
  | (have e : fourE xs = withinE true (nv xs 9 1) (inV4 xs) := by (unfold fourE; simp_all; done)
     have k : fourK b xs = withinK (ipK b true (fourP xs)) true (nv xs 9 1) (inV4 xs) := by (unfold fourK; simp_all; done)
     rw [e,k]
     first
      |(have e0 : withinE true (nv xs 9 1) (inV4 xs) = 0 := by simp_all [ieq]
        rw [e0]; exact gr_ok (by kernel_rfl))
      | exact gr_no (by intro h0; simp_all [ieq]))
end Go.Proofs.Ytdcijmigoefnjaa
