import Derived.Test.YtdcijmigoefnjaaL10h
set_option linter.unusedVariables false
set_option linter.unusedSimpArgs false
set_option maxRecDepth 100000
set_option maxHeartbeats 0
namespace Go.Proofs.Ytdcijmigoefnjaa
open Go Go.Ev
theorem vfld {k : Nat → Int} (h : FitN k) (i : Int) (n : Nat) (hi : isF i = true) (hm : maskTab.getD (i.toNat * 2) 0 = 0) (hn : n ≤ 8) (hv : maskTab.getD (i.toNat * 2 + 1) 0 < ((256 ^ n : Nat) : Int)) :
 (valB (fldC (hdrC k) i (n : Int)) : Int) = k (i.toNat * 2 + 1) := val_fld h hi (fitZ h (by have := isF_in' hi; omega) hm) hn hv
def ipS (f : Bool) : List Nat := (bif f then 11 else 22) :: (bif f then 10 else 21) :: 9 :: 8 :: 7 :: baseS
theorem ip_set {k : Nat → Int} (h : FitN k) (f : Bool) {p : P5} (a : p.1 = k 15) (b : p.2.1 = k 17) (c : p.2.2.1 = k 19) (d : p.2.2.2.1 = (k (2 * (bif f then 10 else 21)),k (2 * (bif f then 10 else 21) + 1)))
  (e : p.2.2.2.2 = (k (2 * (bif f then 11 else 22)),k (2 * (bif f then 11 else 22) + 1))) :
  SetQ (ipK (k 1,(0,k 5),(0,k 7),(0,k 9),k 11,k 13) f p) k (ipS f) := by
 have z : ∀ c,c < 48 → maskTab.getD c 0 = 0 → 0 = k c := fun c hc hm => (fitZ h hc hm).symm
 unfold ipK
 exact (((((base_set h).set (f := 7) (z 14 (by decide) rfl) a).set (f := 8) (z 16 (by decide) rfl) b).set (f := 9) (z 18 (by decide) rfl) c).set (by rw [d]) (by rw [d])).set (by rw [e]) (by rw [e])
theorem in_len5 (hs : List AV) (f : Bool) : (inL hs f).length ≤ 100 := Nat.le_trans (in_len hs f) (by decide)
theorem back4 {k : Nat → Int} (h : FitN k) (r : Rt k) (e4 : lowH (hdrC k) 4 = 2048) :
  fourE (fourL (hdrC k)) = 0 ∧ hdrC (fourK (k 1,(0,k 5),(0,k 7),(0,k 9),k 11,k 13) (fourL (hdrC k))) = hdrC k := by
 have hF : four46 (hdrC k) = true := by unfold four46; rw [e4]; rfl
 have hS : six46 (hdrC k) = false := by unfold six46; rw [e4]; rfl
 have hN : noIp (hdrC k) = false := by unfold noIp; rw [hF]; rfl
 have hl := in_len5 (hdrC k) true
 obtain ⟨s,hs,e⟩ := four_eq (hdrC k)
 have hz := sum4 (hdrC k) (inL (hdrC k) true).length
 have hlen : (ip4L (hdrC k) (inL (hdrC k) true).length).length = 20 := by rw [e]; rfl
 have f1 : ∀ i,(fldC (hdrC k) i 1).length = 1 := fun _ => rfl
 have f4 : ∀ i,(fldC (hdrC k) i 4).length = 4 := fun _ => rfl
 have c0 := h 15 (by decide); have c1 := h 17 (by decide)
 rw [show maskTab.getD 15 0 = 63 from rfl] at c0
 rw [show maskTab.getD 17 0 = 3 from rfl] at c1
 generalize hb : ip4L (hdrC k) (inL (hdrC k) true).length = b at *
 have eL : fourL (hdrC k) = b ++ inL (hdrC k) true := by unfold fourL; rw [hb]
 rw [eL]
 generalize hI : inL (hdrC k) true = I at *
 have n0 : nv (b ++ I) 0 1 = 69 := by rw [nv_in (by omega),e]; rfl
 have n1 : nv (b ++ I) 1 1 = k 15 * 4 + k 17 := by
  rw [nv_in (by omega),e]
  show nv (bt (IntKind.u8.wrap (clsI (hdrC k))) :: _) 0 1 = _
  rw [cls_of h,nv_b _ (by omega) (by omega)]
 have n2 : nv (b ++ I) 2 2 = 20 + I.length := by
  rw [nv_in (by omega),e,nv_skip (o := 0) (m := 2) rfl rfl,nv_first (n := 2) rfl,show (2 : Int) = ((2 : Nat) : Int) from rfl,val_num (by omega) (.inl rfl) (by omega)]
 have n6 : nv (b ++ I) 6 2 = 0 := by
  rw [nv_in (by omega),e,nv_skip (o := 4) (m := 2) rfl rfl,nv_skip (o := 2) (m := 2) rfl rfl]; rfl
 have n9 : nv (b ++ I) 9 1 = k 19 := by
  rw [nv_in (by omega),e,nv_skip (o := 7) (m := 2) rfl rfl,nv_skip (o := 5) (m := 2) rfl rfl,nv_skip (o := 0) (m := 5) rfl rfl,nv_first (f1 9)]
  exact vfld h 9 1 rfl rfl (by decide) (by decide)
 have n12 : nv (b ++ I) 12 4 = k 21 := by
  rw [nv_in (by omega),e,nv_skip (o := 10) (m := 2) rfl rfl,nv_skip (o := 8) (m := 2) rfl rfl,nv_skip (o := 3) (m := 5) rfl rfl,nv_skip (o := 2) (f1 9) rfl,nv_skip (o := 0) (m := 2) rfl rfl,nv_first (f4 10)]
  exact vfld h 10 4 rfl rfl (by decide) (by decide)
 have n16 : nv (b ++ I) 16 4 = k 23 := by
  rw [nv_in (by omega),e,nv_skip (o := 14) (m := 2) rfl rfl,nv_skip (o := 12) (m := 2) rfl rfl,nv_skip (o := 7) (m := 5) rfl rfl,nv_skip (o := 6) (f1 9) rfl,nv_skip (o := 4) (m := 2) rfl rfl,nv_skip (o := 0) (f4 10) rfl,nv_all (f4 11)]
  exact vfld h 11 4 rfl rfl (by decide) (by decide)
 have hd : hdN (b ++ I) = 20 := by unfold hdN; rw [n0]; rfl
 have t20 : (b ++ I).take 20 = b := by rw [← hlen,List.take_left]
 have hI4 : inV4 (b ++ I) = I := by
  unfold inV4
  rw [hd,n2,show (20 : Int).toNat = 20 from rfl,show ((20 : Int) + I.length - 20).toNat = I.length by omega]
  have : (b ++ I).drop 20 = I := by rw [← hlen,List.drop_left]
  rw [this,List.take_length]
 have hp : pieceB (b ++ I) = false := by unfold pieceB; rw [n6]; rfl
 have hLn : ((b ++ I).length : Int) = 20 + I.length := by rw [List.length_append,hlen]; omega
 have q := ip_set h true (p := fourP (b ++ I)) (by unfold fourP; simp only; rw [n1]; omega) (by unfold fourP; simp only; rw [n1]; omega) (by unfold fourP; exact n9)
  (by unfold fourP; simp only [cond_true]; rw [n12]; exact Prod.ext (fitZ h (c := 20) (by decide) rfl).symm rfl) (by unfold fourP; simp only [cond_true]; rw [n16]; exact Prod.ext (fitZ h (c := 22) (by decide) rfl).symm rfl)
 have z21 := r.f6 hS
 have za := r.a (by rw [e4]; decide)
 have zl := r.l (by rw [e4]; decide) (by rw [e4]; decide)
 obtain ⟨w0,w1⟩ := within_back h r q true hF.symm hN (fun i hi h1 h2 => by
  match i,hi,h1,h2 with
  | 1,_,_,_ => exact r.z1
  | 18,_,_,_ => exact za.1
  | 19,_,_,_ => exact za.2.1
  | 20,_,_,_ => exact za.2.2
  | 21,_,_,_ => exact z21.1
  | 22,_,_,_ => exact z21.2
  | 23,_,_,_ => exact zl
  | 0,_,h,_ | 2,_,h,_ | 3,_,h,_ | 4,_,h,_ | 5,_,h,_ | 6,_,h,_ | 7,_,h,_ | 8,_,h,_ | 9,_,h,_ | 10,_,h,_ | 11,_,h,_ => exact absurd (by decide) h
  | 12,_,_,h | 13,_,_,h | 14,_,_,h | 15,_,_,h | 16,_,_,h | 17,_,_,h => exact absurd (by decide) h
  | n + 24,h,_,_ => omega)
 rw [hI] at w0 w1
 refine ⟨?_,?_⟩
 ·unfold fourE
  rw [hd,n0,n2,n9,hp,hI4,hLn,show (20 : Int).toNat = 20 from rfl,t20,hz,ilt_no.2 (show (20 : Int) ≤ 20 + I.length by omega),ilt_no.2 (show (20 : Int) + I.length ≤ 20 + I.length by omega)]
  exact w0
 ·unfold fourK
  rw [hp,hI4,n9]
  exact w1
theorem nv_byte (n : Int) (s : Nat) (hs : s ≤ 63) (h0 : 0 ≤ n) (r : List AV) : nv (nbyte n (s : Int) :: r) 0 1 = n / 2 ^ s % 256 := by
 unfold nbyte
 rw [shrM s hs,IntKind.wrap_u8]
 have := nv_b (n := n / 2 ^ s % 256) r (by omega) (by omega)
 rw [show IntKind.u8.wrap (n / 2 ^ s % 256) = n / 2 ^ s % 256 by rw [IntKind.wrap_u8]; omega] at this
 exact this
theorem wv_put {hi lo : Int} (h0 : 0 ≤ hi) (h1 : hi < 18446744073709551616) (l0 : 0 ≤ lo) (l1 : lo < 18446744073709551616) (r : List AV) : wv (putL (hi,lo) 16 ++ r) 16 = (hi,lo) := by
 have e := val_put h0 l0 l1 (n := 16) (by decide) (by omega)
 have e : (valB (putL (hi,lo) 16) : Int) = _ := e
 unfold wv wvH wvL
 rw [show (putL (hi,lo) 16 ++ r).take 16 = putL (hi,lo) 16 from rfl]
 refine Prod.ext ?_ ?_
 ·show ((valB (putL (hi,lo) 16) / 18446744073709551616 : Nat) : Int) = hi
  omega
 ·show ((valB (putL (hi,lo) 16) % 18446744073709551616 : Nat) : Int) = lo
  omega
theorem back6 {k : Nat → Int} (h : FitN k) (r : Rt k) (e4 : lowH (hdrC k) 4 = 34525) :
  sixE (sixL (hdrC k)) = 0 ∧ hdrC (sixK (k 1,(0,k 5),(0,k 7),(0,k 9),k 11,k 13) (sixL (hdrC k))) = hdrC k := by
 have hF : four46 (hdrC k) = false := by unfold four46; rw [e4]; rfl
 have hS : six46 (hdrC k) = true := by unfold six46; rw [e4]; rfl
 have hN : noIp (hdrC k) = false := by unfold noIp; rw [hF,hS]; rfl
 have hl := in_len5 (hdrC k) false
 have f1 : ∀ i,(fldC (hdrC k) i 1).length = 1 := fun _ => rfl
 have f16 : ∀ i,(fldC (hdrC k) i 16).length = 16 := fun _ => rfl
 have c0 := h 15 (by decide); have c1 := h 17 (by decide)
 rw [show maskTab.getD 15 0 = 63 from rfl] at c0
 rw [show maskTab.getD 17 0 = 3 from rfl] at c1
 have e : sixL (hdrC k) = numL ((1536 + (k 15 * 4 + k 17)) * 1048576) 4 ++ (numL (inL (hdrC k) false).length 2 ++ (fldC (hdrC k) 9 1 ++ ([bt 64] ++ (fldC (hdrC k) 21 16 ++ (fldC (hdrC k) 22 16 ++ inL (hdrC k) false))))) := by
  unfold sixL
  rw [six_of h]
  simp only [List.append_assoc]; rfl
 rw [e]
 generalize hI : inL (hdrC k) false = I at *
 generalize hv : (1536 + (k 15 * 4 + k 17)) * 1048576 = v at *
 have hx : ∀ T,numL v 4 ++ T = nbyte v ((24 : Nat) : Int) :: nbyte v ((16 : Nat) : Int) :: nbyte v ((8 : Nat) : Int) :: nbyte v ((0 : Nat) : Int) :: T := fun _ => rfl
 generalize hX : numL v 4 ++ (numL I.length 2 ++ (fldC (hdrC k) 9 1 ++ ([bt 64] ++ (fldC (hdrC k) 21 16 ++ (fldC (hdrC k) 22 16 ++ I))))) = X at *
 have n0 : nv X 0 1 = 96 + (k 15 * 4 + k 17) / 16 := by
  rw [← hX,hx,nv_byte _ _ (by decide) (by omega)]; omega
 have n1 : nv X 0 2 = (1536 + (k 15 * 4 + k 17)) * 16 := by
  have a0 : nv X 1 1 = v / 2 ^ 16 % 256 := by
   rw [← hX,hx]
   exact nv_byte v 16 (by decide) (by omega) _
  have a1 : nv X 0 2 = nv X 0 1 * 256 + nv X 1 1 := by
   rw [← hX,hx]
   show ((valB [_,_] : Nat) : Int) = ((valB [_] : Nat) : Int) * 256 + ((valB [_] : Nat) : Int)
   simp [valB]
  rw [a1,a0,n0]; omega
 have n4 : nv X 4 2 = I.length := by
  rw [← hX,nv_skip (o := 0) (m := 4) rfl rfl,nv_first (n := 2) rfl,show (2 : Int) = ((2 : Nat) : Int) from rfl,val_num (by omega) (.inl rfl) (by omega)]
 have n6 : nv X 6 1 = k 19 := by
  rw [← hX,nv_skip (o := 2) (m := 4) rfl rfl,nv_skip (o := 0) (m := 2) rfl rfl,nv_first (f1 9)]
  exact vfld h 9 1 rfl rfl (by decide) (by decide)
 have kc : ∀ c,c < 48 → maskTab.getD c 0 = 18446744073709551615 → 0 ≤ k c ∧ k c < 18446744073709551616 := fun c hc hm => by
  have := h c hc; omega
 have w8 : wv (X.drop 8) 16 = (k 42,k 43) := by
  rw [← hX]
  show wv (fldC (hdrC k) 21 16 ++ _) 16 = _
  rw [fldC_hdr k rfl]
  exact wv_put (kc 42 (by decide) rfl).1 (kc 42 (by decide) rfl).2 (kc 43 (by decide) rfl).1 (kc 43 (by decide) rfl).2 _
 have w24 : wv (X.drop 24) 16 = (k 44,k 45) := by
  rw [← hX]
  show wv (fldC (hdrC k) 22 16 ++ _) 16 = _
  rw [fldC_hdr k rfl]
  exact wv_put (kc 44 (by decide) rfl).1 (kc 44 (by decide) rfl).2 (kc 45 (by decide) rfl).1 (kc 45 (by decide) rfl).2 _
 have hI6 : inV6 X = I := by
  unfold inV6
  rw [n4,Int.toNat_natCast,← hX]
  show List.take I.length I = I
  rw [List.take_length]
 have hLn : ((X.length : Nat) : Int) = 40 + I.length := by
  rw [← hX]
  simp only [List.length_append,f1,f16,List.length_cons,List.length_nil]
  rw [num_len.1,num_len.2]; omega
 have hcl : clsN X = k 15 * 4 + k 17 := by unfold clsN; rw [n1]; omega
 have q := ip_set h false (p := sixP X) (by unfold sixP; simp only; rw [hcl]; omega) (by unfold sixP; simp only; rw [hcl]; omega) (by unfold sixP; exact n6)
  (by unfold sixP; simp only [cond_false]; exact w8) (by unfold sixP; simp only [cond_false]; exact w24)
 have z10 := r.f4 hF
 have za := r.a (by rw [e4]; decide)
 have zl := r.l (by rw [e4]; decide) (by rw [e4]; decide)
 obtain ⟨w0,w1⟩ := within_back h r q false hF.symm hN (fun i hi h1 h2 => by
  match i,hi,h1,h2 with
  | 1,_,_,_ => exact r.z1
  | 18,_,_,_ => exact za.1
  | 19,_,_,_ => exact za.2.1
  | 20,_,_,_ => exact za.2.2
  | 10,_,_,_ => exact z10.1
  | 11,_,_,_ => exact z10.2
  | 23,_,_,_ => exact zl
  | 0,_,h,_ | 2,_,h,_ | 3,_,h,_ | 4,_,h,_ | 5,_,h,_ | 6,_,h,_ | 7,_,h,_ | 8,_,h,_ | 9,_,h,_ | 21,_,h,_ | 22,_,h,_ => exact absurd (by decide) h
  | 12,_,_,h | 13,_,_,h | 14,_,_,h | 15,_,_,h | 16,_,_,h | 17,_,_,h => exact absurd (by decide) h
  | n + 24,h,_,_ => omega)
 rw [hI] at w0 w1
 refine ⟨?_,?_⟩
 ·unfold sixE
  rw [n0,n4,n6,hI6,hLn,ilt_no.2 (show (40 : Int) ≤ 40 + I.length by omega),ilt_no.2 (show (40 : Int) + I.length ≤ 40 + I.length by omega),show (96 + (k 15 * 4 + k 17) / 16) / 16 = 6 by omega]
  exact w0
 ·unfold sixK
  rw [hI6,n6]
  exact w1
theorem no_ip {k : Nat → Int} (r : Rt k) (h1 : lowH (hdrC k) 4 ≠ 2048) (h2 : lowH (hdrC k) 4 ≠ 34525) : ∀ i,7 ≤ i → i < 23 → i ∉ [18,19,20] → ZF k i := by
 have hF : four46 (hdrC k) = false := by unfold four46; rw [ie h1]
 have hS : six46 (hdrC k) = false := by unfold six46; rw [ie h2]
 have hN : noIp (hdrC k) = true := by unfold noIp; rw [hF,hS]; rfl
 have a := r.ip hN; have b := r.f4 hF; have c := r.f6 hS; have d := r.t (.inr hN); have e := r.u (.inr hN); have f := r.i (.inr hF)
 intro i h7 hi hn
 match i,h7,hi,hn with
 | 7,_,_,_ => exact a.1
 | 8,_,_,_ => exact a.2.1
 | 9,_,_,_ => exact a.2.2
 | 10,_,_,_ => exact b.1
 | 11,_,_,_ => exact b.2
 | 21,_,_,_ => exact c.1
 | 22,_,_,_ => exact c.2
 | 12,_,_,_ => exact d.1
 | 13,_,_,_ => exact d.2
 | 14,_,_,_ => exact e.1
 | 15,_,_,_ => exact e.2
 | 16,_,_,_ => exact f.1
 | 17,_,_,_ => exact f.2
 | 18,_,_,h | 19,_,_,h | 20,_,_,h => exact absurd (by decide) h
 | 0,h,_,_ | 1,h,_,_ | 2,h,_,_ | 3,h,_,_ | 4,h,_,_ | 5,h,_,_ | 6,h,_,_ => omega
 | n + 23,_,h,_ => omega
theorem backA {k : Nat → Int} (h : FitN k) (r : Rt k) (e4 : lowH (hdrC k) 4 = 2054) :
  arpE (arpL (hdrC k)) = 0 ∧ hdrC (arpK (k 1,(0,k 5),(0,k 7),(0,k 9),k 11,k 13) (arpL (hdrC k))) = hdrC k := by
 have z : ∀ c,c < 48 → maskTab.getD c 0 = 0 → 0 = k c := fun c hc hm => (fitZ h hc hm).symm
 have f2 : ∀ i,(fldC (hdrC k) i 2).length = 2 := fun _ => rfl
 have f4 : ∀ i,(fldC (hdrC k) i 4).length = 4 := fun _ => rfl
 have e : arpL (hdrC k) = [bt 0,bt 1,bt 8,bt 0,bt 6,bt 4] ++ (fldC (hdrC k) 18 2 ++ (nul 6 ++ (fldC (hdrC k) 19 4 ++ (nul 6 ++ fldC (hdrC k) 20 4)))) := by
  unfold arpL
  simp only [List.append_assoc]; rfl
 have n6 : nv (arpL (hdrC k)) 6 2 = k 37 := by
  rw [e,nv_skip (o := 0) (m := 6) rfl rfl,nv_first (f2 18)]
  exact vfld h 18 2 rfl rfl (by decide) (by decide)
 have n14 : nv (arpL (hdrC k)) 14 4 = k 39 := by
  rw [e,nv_skip (o := 8) (m := 6) rfl rfl,nv_skip (o := 6) (f2 18) rfl,nv_skip (o := 0) (m := 6) rfl rfl,nv_first (f4 19)]
  exact vfld h 19 4 rfl rfl (by decide) (by decide)
 have n24 : nv (arpL (hdrC k)) 24 4 = k 41 := by
  rw [e,nv_skip (o := 18) (m := 6) rfl rfl,nv_skip (o := 16) (f2 18) rfl,nv_skip (o := 10) (m := 6) rfl rfl,nv_skip (o := 6) (f4 19) rfl,nv_skip (o := 0) (m := 6) rfl rfl,nv_all (f4 20)]
  exact vfld h 20 4 rfl rfl (by decide) (by decide)
 have q := ((((base_set h).set (f := 18) (v := (0,nv (arpL (hdrC k)) 6 2)) (z 36 (by decide) rfl) n6).set (f := 19) (v := (0,nv (arpL (hdrC k)) 14 4)) (z 38 (by decide) rfl) n14).set (f := 20) (v := (0,nv (arpL (hdrC k)) 24 4)) (z 40 (by decide) rfl) n24)
 have zi := no_ip r (by rw [e4]; decide) (by rw [e4]; decide)
 have zl := r.l (by rw [e4]; decide) (by rw [e4]; decide)
 refine ⟨?_,q.hdr fun i hi hn => ?_⟩
 ·have hl : (arpL (hdrC k)).length = 28 := rfl
  have hh : arpHd (arpL (hdrC k)) = true := rfl
  unfold arpE
  rw [hl,hh]; rfl
 ·by_cases h23 : i = 23
  ·subst h23; exact zl
  by_cases h1 : i = 1
  ·subst h1; exact r.z1
  by_cases h7 : 7 ≤ i
  ·refine zi i h7 (by omega) fun hm => hn ?_
   simp only [List.mem_cons,List.not_mem_nil,or_false] at hm
   rcases hm with rfl | rfl | rfl <;> simp
  ·refine absurd ?_ hn
   simp only [baseS,List.mem_cons,List.not_mem_nil,or_false]; omega
theorem backL {k : Nat → Int} (h : FitN k) (r : Rt k) (e4 : lowH (hdrC k) 4 = 34887 ∨ lowH (hdrC k) 4 = 34888) :
  labE (numL (labN (hdrC k)) 4) = 0 ∧ hdrC (labK (k 1,(0,k 5),(0,k 7),(0,k 9),k 11,k 13) (numL (labN (hdrC k)) 4)) = hdrC k := by
 have z : ∀ c,c < 48 → maskTab.getD c 0 = 0 → 0 = k c := fun c hc hm => (fitZ h hc hm).symm
 have hb := h 47 (by decide)
 rw [show maskTab.getD 47 0 = 1048575 from rfl] at hb
 have n0 : nv (numL (labN (hdrC k)) 4) 0 4 / 4096 = k 47 := by
  rw [nv_all (n := 4) rfl,show (4 : Int) = ((4 : Nat) : Int) from rfl,val_num (by rw [lab_of h]; omega) (.inr rfl) (by rw [lab_of h]; omega),lab_of h]; omega
 have q := (base_set h).set (f := 23) (v := (0,nv (numL (labN (hdrC k)) 4) 0 4 / 4096)) (z 46 (by decide) rfl) n0
 have zi := no_ip r (by omega) (by omega)
 have za := r.a (by omega)
 refine ⟨rfl,q.hdr fun i hi hn => ?_⟩
 by_cases h23 : i = 23
 ·subst h23; exact absurd (.head _) hn
 by_cases h1 : i = 1
 ·subst h1; exact r.z1
 by_cases h7 : 7 ≤ i
 ·by_cases hm : i ∈ [18,19,20]
  ·simp only [List.mem_cons,List.not_mem_nil,or_false] at hm
   rcases hm with rfl | rfl | rfl
   ·exact za.1
   ·exact za.2.1
   ·exact za.2.2
  ·exact zi i h7 (by omega) hm
 ·refine absurd ?_ hn
  simp only [baseS,List.mem_cons,List.not_mem_nil,or_false]; omega
theorem backO {k : Nat → Int} (h : FitN k) (r : Rt k) (h1 : lowH (hdrC k) 4 ≠ 2048) (h2 : lowH (hdrC k) 4 ≠ 34525) (h3 : lowH (hdrC k) 4 ≠ 2054) (h4 : lowH (hdrC k) 4 ≠ 34887) (h5 : lowH (hdrC k) 4 ≠ 34888) :
  hdrC (baseK (k 1,(0,k 5),(0,k 7),(0,k 9),k 11,k 13)) = hdrC k := by
 have zi := no_ip r h1 h2
 have za := r.a h3
 have zl := r.l h4 h5
 refine (base_set h).hdr fun i hi hn => ?_
 by_cases h23 : i = 23
 ·subst h23; exact zl
 by_cases h1 : i = 1
 ·subst h1; exact r.z1
 by_cases h7 : 7 ≤ i
 ·by_cases hm : i ∈ [18,19,20]
  ·simp only [List.mem_cons,List.not_mem_nil,or_false] at hm
   rcases hm with rfl | rfl | rfl
   ·exact za.1
   ·exact za.2.1
   ·exact za.2.2
  ·exact zi i h7 (by omega) hm
 ·refine absurd ?_ hn
  simp only [baseS,List.mem_cons,List.not_mem_nil,or_false]; omega
theorem back46 {k : Nat → Int} (hu : hdrU (hdrC k) = true) (hr : rightH (hdrC k) = true) : parE (k 1) (layH (hdrC k)) = 0 ∧ parC (k 1) (layH (hdrC k)) = hdrC k := by
 obtain ⟨h,h0,h1,_,_,_,ht,_⟩ := right_inv hu hr
 have r := rt_of hu hr
 have hd := head46 h ht
 have e0 : lowH (hdrC k) 0 = k 1 := lowF_of h rfl (by decide)
 rw [e0] at h0 h1
 have hp : portB (k 1) = false := by unfold portB; rw [h0,h1]; rfl
 unfold parC parK parE frmE frmK
 rw [hp,hd.l1,hd.l2,hd.b,hd.t,hd.r,← low4 h]
 simp only [cond_false]
 unfold bodyH
 cases c1 : ieq (lowH (hdrC k) 4) 2048 with
 | true => rw [low4 h]; exact back4 h r (ie1 c1)
 | false =>
 cases c2 : ieq (lowH (hdrC k) 4) 34525 with
 | true => rw [low4 h]; exact back6 h r (ie1 c2)
 | false =>
 cases c3 : ieq (lowH (hdrC k) 4) 2054 with
 | true => rw [low4 h]; exact backA h r (ie1 c3)
 | false =>
 cases c4 : ieq (lowH (hdrC k) 4) 34887 with
 | true => rw [low4 h]; exact backL h r (.inl (ie1 c4))
 | false =>
 cases c5 : ieq (lowH (hdrC k) 4) 34888 with
 | true => rw [low4 h]; exact backL h r (.inr (ie1 c5))
 | false => rw [low4 h]; exact ⟨rfl,backO h r (ie' c1) (ie' c2) (ie' c3) (ie' c4) (ie' c5)⟩
end Go.Proofs.Ytdcijmigoefnjaa
