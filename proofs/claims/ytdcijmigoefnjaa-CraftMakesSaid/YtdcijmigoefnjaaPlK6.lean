import Derived.Test.YtdcijmigoefnjaaL10h
import Derived.Test.YtdcijmigoefnjaaL46d
import Derived.Test.YtdcijmigoefnjaaL04b
import Derived.Test.YtdcijmigoefnjaaEvLa
set_option linter.unusedVariables false
set_option linter.unusedSimpArgs false
set_option maxRecDepth 100000
set_option maxHeartbeats 0
namespace Go.Proofs.Ytdcijmigoefnjaa
open Go Go.Ev
def OnlyK (g : Nat → Int) (L : List Nat) : Prop := ∀ c,c / 2 ∉ L → g c = 0
theorem OnlyK.zero : OnlyK zeroK [] := fun _ _ => rfl
theorem OnlyK.set {g : Nat → Int} {L : List Nat} (h : OnlyK g L) {f : Nat} {v : Int × Int} : OnlyK (setK g f v) (f :: L) := fun c hc =>
 (setK_other (fun e => hc (by rw [e]; exact List.mem_cons_self))).trans (h c (fun hm => hc (List.mem_cons_of_mem _ hm)))
theorem OnlyK.zf {g : Nat → Int} {L : List Nat} (h : OnlyK g L) {f : Nat} (hf : f ∉ L) : ZF g f := ⟨h _ (by rw [show 2 * f / 2 = f by omega]; exact hf),h _ (by rw [show (2 * f + 1) / 2 = f by omega]; exact hf)⟩
theorem OnlyK.mono {g : Nat → Int} {L M : List Nat} (h : OnlyK g L) (hm : ∀ i,i ∈ L → i ∈ M) : OnlyK g M := fun c hc => h c (fun h => hc (hm _ h))
def baseT : List Nat := [6,5,4,3,2,0]
def ipT (f : Bool) : List Nat := (bif f then 11 else 22) :: (bif f then 10 else 21) :: 9 :: 8 :: 7 :: baseT
def wT (four : Bool) (pr : Int) : List Nat := bif ieq pr 6 then [13,12] else bif ieq pr 17 then [15,14] else bif (bif ieq pr 1 then four else false) then [17,16] else []
theorem only_base (b : B6) : OnlyK (baseK b) baseT := OnlyK.zero.set.set.set.set.set.set
theorem only_ip (b : B6) (f : Bool) (p : P5) : OnlyK (ipK b f p) (ipT f) := (only_base b).set.set.set.set.set
theorem only_within {k : Nat → Int} {L : List Nat} (h : OnlyK k L) (four : Bool) (pr : Int) (xs : List AV) : OnlyK (withinK k four pr xs) (wT four pr ++ L) := by
 unfold withinK wT
 cases ieq pr 6 with
 | true => exact h.set.set
 | false =>
 cases ieq pr 17 with
 | true => exact h.set.set
 | false =>
 cases (bif ieq pr 1 then four else false) with
 | true => exact h.set.set
 | false => exact h
theorem only_four (b : B6) (xs : List AV) : OnlyK (fourK b xs) (wT true (nv xs 9 1) ++ ipT true) := by
 unfold fourK
 cases pieceB xs with
 | true => exact (only_ip b true _).mono fun i hi => List.mem_append_right _ hi
 | false => exact only_within (only_ip b true _) _ _ _
theorem only_six (b : B6) (xs : List AV) : OnlyK (sixK b xs) (wT false (nv xs 6 1) ++ ipT false) := only_within (only_ip b false _) _ _ _
theorem only_arp (b : B6) (xs : List AV) : OnlyK (arpK b xs) (20 :: 19 :: 18 :: baseT) := (only_base b).set.set.set
theorem only_lab (b : B6) (xs : List AV) : OnlyK (labK b xs) (23 :: baseT) := (only_base b).set
theorem keep_within {k : Nat → Int} {four : Bool} {pr : Int} {xs : List AV} {c : Nat} (hc : c < 24) : withinK k four pr xs c = k c := by
 unfold withinK
 cases ieq pr 6 with
 | true => exact (setK_other (by omega)).trans (setK_other (by omega))
 | false =>
 cases ieq pr 17 with
 | true => exact (setK_other (by omega)).trans (setK_other (by omega))
 | false =>
 cases (bif ieq pr 1 then four else false) with
 | true => exact (setK_other (by omega)).trans (setK_other (by omega))
 | false => rfl
theorem pr_ip (b : B6) (f : Bool) (p : P5) : ipK b f p 19 = p.2.2.1 := by cases f <;> rfl
theorem pr_four (b : B6) (xs : List AV) : fourK b xs 19 = nv xs 9 1 := by
 unfold fourK
 cases pieceB xs with
 | true => exact pr_ip ..
 | false => exact (keep_within (by decide)).trans (pr_ip ..)
theorem pr_six (b : B6) (xs : List AV) : sixK b xs 19 = nv xs 6 1 := (keep_within (by decide)).trans (pr_ip ..)
theorem wT_mem {f : Bool} {pr : Int} {i : Nat} (h : i ∈ wT f pr) : (pr = 6 ∧ (i = 12 ∨ i = 13)) ∨ (pr = 17 ∧ (i = 14 ∨ i = 15)) ∨ (pr = 1 ∧ f = true ∧ (i = 16 ∨ i = 17)) := by
 unfold wT at h
 cases h6 : ieq pr 6 with
 | true => rw [h6] at h; have := ie1 h6; simp at h; exact .inl ⟨this,by omega⟩
 | false =>
 rw [h6] at h
 cases h17 : ieq pr 17 with
 | true => rw [h17] at h; have := ie1 h17; simp at h; exact .inr (.inl ⟨this,by omega⟩)
 | false =>
 rw [h17] at h
 cases h1 : ieq pr 1 with
 | true =>
  rw [h1] at h
  cases f with
  | true => have := ie1 h1; simp at h; exact .inr (.inr ⟨this,rfl,by omega⟩)
  | false => simp at h
 | false => rw [h1] at h; simp at h
theorem fitN_fit {k : Nat → Int} (h : Fit k) : FitN k := by
 intro c hc
 have e := h c hc
 have hi : inU (k c) = true := by
  rw [inU_iff,← e,ibits_eq]
  show 0 ≤ IntKind.u64.wrap _ ∧ IntKind.u64.wrap _ < _
  rw [IntKind.wrap_u64]; omega
 obtain ⟨m,hm,hm2⟩ := mask_at hc
 refine ⟨(inU_iff.1 hi).1,?_⟩
 have := and_le hi (m := maskTab.getD c 0) (by rw [hm,inU_iff]; omega)
 rw [e] at this; exact this
theorem hdrU_fit {k : Nat → Int} (h : FitN k) : hdrU (hdrC k) = true := by
 refine hdrU_iff.2 ⟨rfl,fun v hv => ?_⟩
 obtain ⟨c,hc,rfl⟩ := List.mem_iff_getElem.1 hv
 have hc : c < 48 := hc
 have e := hdr_get k hc
 rw [List.getElem?_eq_getElem (show c < (hdrC k).length from hc)] at e
 rw [Option.some.inj e]
 obtain ⟨m,hm,hm2⟩ := mask_at hc
 have := h c hc
 show inU (k c) = true
 rw [inU_iff]; omega
theorem allZ_of {k : Nat → Int} {l : List Int} (h : ∀ i ∈ l,isF i = true ∧ ZF k i.toNat) : allZ (hdrC k) (nI l) = true := by
 unfold allZ nI
 rw [List.all_eq_true]
 intro v hv
 obtain ⟨i,hi,rfl⟩ := List.mem_map.1 hv
 obtain ⟨hf,z1,z2⟩ := h i hi
 unfold zeroH1
 rw [show (AV.int IntKind.i64 i).asInt = i from rfl,getH_hdr k hf,Nat.mul_comm,z1,z2]; rfl
theorem bm {b z x : Bool} (h1 : b = true → z = true) (h2 : x = true) : (bif (bif b then !z else false) then false else x) = true := by
 cases b <;> cases z <;> simp_all
theorem right_of {k : Nat → Int} (hf : FitN k) (hc : fitsC (hdrC k) = true) (r : Rt k) (h0 : ilt (lowH (hdrC k) 0) 1 = false) (h1 : ilt 4294967040 (lowH (hdrC k) 0) = false) (ht : taggedH (hdrC k) = true) : rightH (hdrC k) = true := by
 have one : ∀ {a : Nat} ,isF (a : Int) = true → ZF k a → ∀ i : Int,i = (a : Int) → isF i = true ∧ ZF k i.toNat := fun ha hz i e => by subst e; exact ⟨ha,hz⟩
 have l2 : ∀ {a b : Nat},isF (a : Int) = true → isF (b : Int) = true → ZF k a → ZF k b → allZ (hdrC k) (nI [(a : Int),(b : Int)]) = true := fun ha hb za zb => allZ_of fun i hi => by
  simp only [List.mem_cons,List.not_mem_nil,or_false] at hi
  rcases hi with e | e
  ·exact one ha za i e
  ·exact one hb zb i e
 have l3 : ∀ {a b c : Nat},isF (a : Int) = true → isF (b : Int) = true → isF (c : Int) = true → ZF k a → ZF k b → ZF k c → allZ (hdrC k) (nI [(a : Int),(b : Int),(c : Int)]) = true := fun ha hb hc za zb zc => allZ_of fun i hi => by
  simp only [List.mem_cons,List.not_mem_nil,or_false] at hi
  rcases hi with e | e | e
  ·exact one ha za i e
  ·exact one hb zb i e
  ·exact one hc zc i e
 have l1 : ∀ {a : Nat},isF (a : Int) = true → ZF k a → allZ (hdrC k) (nI [(a : Int)]) = true := fun ha za => allZ_of fun i hi => by
  simp only [List.mem_cons,List.not_mem_nil,or_false] at hi
  exact one ha za i hi
 have ru : routedH (hdrC k) = true := by
  unfold routedH
  refine bm (fun e => ?_) (bm (fun e => ?_) (bm (fun e => ?_) (bm (fun e => ?_) (bm (fun e => ?_) ?_))))
  ·have := r.ip e
   exact l3 (a := 7) (b := 8) (c := 9) rfl rfl rfl this.1 this.2.1 this.2.2
  ·have := r.f4 (by simpa using e)
   exact l2 (a := 10) (b := 11) rfl rfl this.1 this.2
  ·have := r.f6 (by simpa using e)
   exact l2 (a := 21) (b := 22) rfl rfl this.1 this.2
  ·have := r.t (by
    cases h6 : ieq (lowH (hdrC k) 9) 6 with
    | true => rw [h6] at e; exact .inr e
    | false => exact .inl (ie' h6))
   exact l2 (a := 12) (b := 13) rfl rfl this.1 this.2
  ·have := r.u (by
    cases h6 : ieq (lowH (hdrC k) 9) 17 with
    | true => rw [h6] at e; exact .inr e
    | false => exact .inl (ie' h6))
   exact l2 (a := 14) (b := 15) rfl rfl this.1 this.2
  ·cases h6 : ieq (lowH (hdrC k) 9) 1 with
   | true =>
    cases h4 : four46 (hdrC k) with
    | true => rfl
    | false => have := r.i (.inr h4); exact l2 (a := 16) (b := 17) rfl rfl this.1 this.2
   | false => have := r.i (.inl (ie' h6)); exact l2 (a := 16) (b := 17) rfl rfl this.1 this.2
 have z1 : allZ (hdrC k) (nI [1]) = true := l1 (a := 1) rfl r.z1
 unfold rightH
 rw [hc,h0,h1,z1,ht,ru]
 simp only [Bool.not_true,cond_false,cond_true]
 refine bm (fun e => ?_) (bm (fun e => ?_) rfl)
 ·have := r.a (ie' (by simpa using e))
  exact l3 (a := 18) (b := 19) (c := 20) rfl rfl rfl this.1 this.2.1 this.2.2
 ·have hh : ieq (lowH (hdrC k) 4) 34887 = false ∧ ieq (lowH (hdrC k) 4) 34888 = false := by
   generalize ieq (lowH (hdrC k) 4) 34887 = x at e
   generalize ieq (lowH (hdrC k) 4) 34888 = y at e
   cases x <;> cases y <;> first | exact ⟨rfl,rfl⟩ | exact absurd e (by decide)
  have := r.l (ie' hh.1) (ie' hh.2)
  exact l1 (a := 23) rfl this
end Go.Proofs.Ytdcijmigoefnjaa
set_option linter.unusedVariables false
set_option linter.unusedSimpArgs false
set_option maxRecDepth 100000
set_option maxHeartbeats 0
namespace Go.Proofs.Ytdcijmigoefnjaa
open Go Go.Ev
theorem rt_frm {b : B6} {xs : List AV} (hf : FitN (frmK b xs)) (hb : b.2.2.2.1.2 = typN xs) : Rt (frmK b xs) := by
 have e9 : frmK b xs 9 = typN xs := (low_frm (by decide)).trans hb
 have e4 : lowH (hdrC (frmK b xs)) 4 = typN xs := (low4 hf).trans e9
 have eF : four46 (hdrC (frmK b xs)) = ieq (typN xs) 2048 := by unfold four46; rw [e4]
 have eS : six46 (hdrC (frmK b xs)) = ieq (typN xs) 34525 := by unfold six46; rw [e4]
 have eN : noIp (hdrC (frmK b xs)) = (bif !ieq (typN xs) 2048 then !ieq (typN xs) 34525 else false) := by unfold noIp; rw [eF,eS]
 have eP := low9 hf
 have nm : ∀ {L : List Nat},OnlyK (frmK b xs) L → ∀ {f : Nat},f ∉ L → ZF (frmK b xs) f := fun h _ hn => h.zf hn
 cases c1 : ieq (typN xs) 2048 with
 | true =>
  have ek : frmK b xs = fourK b (restX xs) := by unfold frmK; rw [c1]; rfl
  have ho : OnlyK (frmK b xs) (wT true (nv (restX xs) 9 1) ++ ipT true) := by rw [ek]; exact only_four _ _
  have ep : lowH (hdrC (frmK b xs)) 9 = nv (restX xs) 9 1 := by rw [eP,ek]; exact pr_four ..
  have t := ie1 c1
  have wn : ∀ {f : Nat},(∀ p,nv (restX xs) 9 1 = p → f ∉ wT true p) → f ∉ ipT true → ZF (frmK b xs) f := fun h1 h2 => ho.zf fun hm => by
    rcases List.mem_append.1 hm with h | h
    ·exact h1 _ rfl h
    ·exact h2 h
  have w0 : ∀ {f : Nat},f < 12 ∨ 17 < f → f ∉ ipT true → ZF (frmK b xs) f := fun h1 h2 => wn (fun p _ hm => by rcases wT_mem hm with h | h | h <;> omega) h2
  have hno : noIp (hdrC (frmK b xs)) = true → False := fun e => by rw [eN,c1] at e; cases e
  refine ⟨w0 (by omega) (by decide),fun e => (hno e).elim,fun e => ?_,fun e => ⟨w0 (by omega) (by decide),w0 (by omega) (by decide)⟩,fun e => ?_,fun e => ?_,fun e => ?_,fun e => ⟨w0 (by omega) (by decide),w0 (by omega) (by decide),w0 (by omega) (by decide)⟩,fun e e2 => w0 (by omega) (by decide)⟩
  · rw [eF,c1] at e; cases e
  · rcases e with e | e
    ·rw [ep] at e
     exact ⟨wn (fun p hp hm => by rcases wT_mem hm with h | h | h <;> omega) (by decide),wn (fun p hp hm => by rcases wT_mem hm with h | h | h <;> omega) (by decide)⟩
    ·exact (hno e).elim
  · rcases e with e | e
    ·rw [ep] at e
     exact ⟨wn (fun p hp hm => by rcases wT_mem hm with h | h | h <;> omega) (by decide),wn (fun p hp hm => by rcases wT_mem hm with h | h | h <;> omega) (by decide)⟩
    ·exact (hno e).elim
  · rcases e with e | e
    ·rw [ep] at e
     exact ⟨wn (fun p hp hm => by rcases wT_mem hm with h | h | h <;> omega) (by decide),wn (fun p hp hm => by rcases wT_mem hm with h | h | h <;> omega) (by decide)⟩
    ·rw [eF,c1] at e; cases e
 | false =>
 cases c2 : ieq (typN xs) 34525 with
 | true =>
  have ek : frmK b xs = sixK b (restX xs) := by unfold frmK; rw [c1,c2]; rfl
  have ho : OnlyK (frmK b xs) (wT false (nv (restX xs) 6 1) ++ ipT false) := by rw [ek]; exact only_six _ _
  have ep : lowH (hdrC (frmK b xs)) 9 = nv (restX xs) 6 1 := by rw [eP,ek]; exact pr_six ..
  have t := ie1 c2
  have wn : ∀ {f : Nat},(∀ p,nv (restX xs) 6 1 = p → f ∉ wT false p) → f ∉ ipT false → ZF (frmK b xs) f := fun h1 h2 => ho.zf fun hm => by
    rcases List.mem_append.1 hm with h | h
    ·exact h1 _ rfl h
    ·exact h2 h
  have w0 : ∀ {f : Nat},f < 12 ∨ 17 < f → f ∉ ipT false → ZF (frmK b xs) f := fun h1 h2 => wn (fun p _ hm => by rcases wT_mem hm with h | h | h <;> omega) h2
  have hno : noIp (hdrC (frmK b xs)) = true → False := fun e => by rw [eN,c1,c2] at e; cases e
  refine ⟨w0 (by omega) (by decide),fun e => (hno e).elim,fun e => ⟨w0 (by omega) (by decide),w0 (by omega) (by decide)⟩,fun e => ?_,fun e => ?_,fun e => ?_,fun e => ?_,fun e => ⟨w0 (by omega) (by decide),w0 (by omega) (by decide),w0 (by omega) (by decide)⟩,fun e e2 => w0 (by omega) (by decide)⟩
  · rw [eS,c2] at e; cases e
  · rcases e with e | e
    ·rw [ep] at e
     exact ⟨wn (fun p hp hm => by rcases wT_mem hm with h | h | h <;> omega) (by decide),wn (fun p hp hm => by rcases wT_mem hm with h | h | h <;> omega) (by decide)⟩
    ·exact (hno e).elim
  · rcases e with e | e
    ·rw [ep] at e
     exact ⟨wn (fun p hp hm => by rcases wT_mem hm with h | h | h <;> omega) (by decide),wn (fun p hp hm => by rcases wT_mem hm with h | h | h <;> omega) (by decide)⟩
    ·exact (hno e).elim
  · have n16 : ∀ p,16 ∉ wT false p := fun p hm => by rcases wT_mem hm with h | h | h <;> first | omega | exact absurd h.2.1 (by decide)
    have n17 : ∀ p,17 ∉ wT false p := fun p hm => by rcases wT_mem hm with h | h | h <;> first | omega | exact absurd h.2.1 (by decide)
    exact ⟨wn (fun p _ => n16 p) (by decide),wn (fun p _ => n17 p) (by decide)⟩
 | false =>
 have nf := ie' c1
 have ns := ie' c2
 have go : ∀ L : List Nat,OnlyK (frmK b xs) L → (∀ i ∈ [1,7,8,9,10,11,12,13,14,15,16,17,21,22],i ∉ L) → (typN xs ≠ 2054 → 18 ∉ L ∧ 19 ∉ L ∧ 20 ∉ L) → (typN xs ≠ 34887 → typN xs ≠ 34888 → 23 ∉ L) → Rt (frmK b xs) := fun L ho h1 h2 h3 =>
  ⟨ho.zf (h1 1 (by decide)),fun _ => ⟨ho.zf (h1 7 (by decide)),ho.zf (h1 8 (by decide)),ho.zf (h1 9 (by decide))⟩,fun _ => ⟨ho.zf (h1 10 (by decide)),ho.zf (h1 11 (by decide))⟩,fun _ => ⟨ho.zf (h1 21 (by decide)),ho.zf (h1 22 (by decide))⟩,
   fun _ => ⟨ho.zf (h1 12 (by decide)),ho.zf (h1 13 (by decide))⟩,fun _ => ⟨ho.zf (h1 14 (by decide)),ho.zf (h1 15 (by decide))⟩,fun _ => ⟨ho.zf (h1 16 (by decide)),ho.zf (h1 17 (by decide))⟩,
   fun e => by rw [e4] at e; have := h2 e; exact ⟨ho.zf this.1,ho.zf this.2.1,ho.zf this.2.2⟩,fun e e2 => by rw [e4] at e e2; exact ho.zf (h3 e e2)⟩
 cases c3 : ieq (typN xs) 2054 with
 | true =>
  have t := ie1 c3
  have ek : frmK b xs = arpK b (restX xs) := by unfold frmK; rw [c1,c2,c3]; rfl
  exact go _ (by rw [ek]; exact only_arp _ _) (by decide) (fun h => absurd t h) (fun _ _ => by decide)
 | false =>
 cases c4 : (bif ieq (typN xs) 34887 then true else ieq (typN xs) 34888) with
 | true =>
  have ek : frmK b xs = labK b (restX xs) := by unfold frmK; rw [c1,c2,c3,c4]; rfl
  refine go _ (by rw [ek]; exact only_lab _ _) (by decide) (fun _ => by decide) (fun h h2 => ?_)
  rw [ie h,ie h2] at c4; cases c4
 | false =>
  have ek : frmK b xs = baseK b := by unfold frmK; rw [c1,c2,c3,c4]; rfl
  exact go _ (by rw [ek]; exact only_base _) (by decide) (fun _ => by decide) (fun _ _ => by decide)
theorem or4096 (n : Nat) (h : n < 4096) : (n + 4096) &&& 4096 = 4096 := by
 apply Nat.eq_of_testBit_eq
 intro i
 rw [Nat.testBit_and,show (4096 : Nat) = 2 ^ 12 from rfl,Nat.testBit_two_pow]
 by_cases e : 12 = i
 ·subst e
  have : (n + 2 ^ 12).testBit 12 = true := by
   rw [Nat.add_comm,Nat.testBit_two_pow_add_eq,Nat.testBit_lt_two_pow h]; rfl
  rw [this]; rfl
 ·simp [e]
theorem par_right {n : Int} {xs : List AV} (h : okL xs = true) (hz : ieq (parE n xs) 0 = true) : hdrU (parC n xs) = true ∧ rightH (parC n xs) = true ∧ parK n xs 1 = n := by
 have hp := port_ok hz
 have hn := port_in hp
 have hf := fitN_fit (fit_par hp h)
 have a2 := nv2 h 14
 have e1 : parK n xs 1 = n := (low_frm (by decide)).trans rfl
 have e0 : lowH (hdrC (parK n xs)) 0 = n := (lowF_of hf (i := 0) rfl (by decide)).trans e1
 have r : Rt (parK n xs) := rt_frm hf rfl
 have e9 : parK n xs 9 = typN xs := (low_frm (by decide)).trans rfl
 have e10 : parK n xs 10 = 0 := (low_frm (by decide)).trans rfl
 have e11 : parK n xs 11 = bif tagB xs then nv xs 14 2 % 4096 + 4096 else 0 := (low_frm (by decide)).trans rfl
 have e12 : parK n xs 12 = 0 := (low_frm (by decide)).trans rfl
 have e13 : parK n xs 13 = bif tagB xs then nv xs 14 2 / 8192 else 0 := (low_frm (by decide)).trans rfl
 refine ⟨hdrU_fit hf,right_of hf (fits_par h hz) r (by rw [e0]; exact ilt_no.2 (by omega)) (by rw [e0]; exact ilt_no.2 (by omega)) ?_,e1⟩
 have g5 : ∀ i : Int,i = 5 → zeroH1 (hdrC (parK n xs)) (.int .i64 i) = zeroW (parK n xs 10,parK n xs 11) := fun i e => by
  subst e
  unfold zeroH1
  rw [show (AV.int IntKind.i64 5).asInt = 5 from rfl,getH_hdr _ rfl]; rfl
 have z5 : allZ (hdrC (parK n xs)) (nI [5]) = zeroW (parK n xs 10,parK n xs 11) := by
  show (zeroH1 (hdrC (parK n xs)) (.int .i64 5) && true) = _
  rw [g5 5 rfl,Bool.and_true]
 have z6 : allZ (hdrC (parK n xs)) (nI [6]) = zeroW (parK n xs 12,parK n xs 13) := by
  show (zeroH1 (hdrC (parK n xs)) (.int .i64 6) && true) = _
  unfold zeroH1
  rw [show (AV.int IntKind.i64 6).asInt = 6 from rfl,getH_hdr _ rfl,Bool.and_true]; rfl
 have b5 : bit12 (getH (hdrC (parK n xs)) 5) = !zeroW (ibits .and .u64 (parK n xs 10) 0,ibits .and .u64 (parK n xs 11) 4096) := by
  rw [getH_hdr _ rfl]; rfl
 have l4 : lowH (hdrC (parK n xs)) 4 = typN xs := (low4 hf).trans e9
 unfold taggedH
 rw [z5,z6,b5,l4]
 cases ht : tagB xs with
 | true =>
  rw [ht] at e11 e13
  simp only [cond_true] at e11 e13
  have hne : zeroW (parK n xs 10,parK n xs 11) = false := by
   rw [e11]
   unfold zeroW
   simp only
   rw [ie (show nv xs 14 2 % 4096 + 4096 ≠ 0 by omega),Bool.and_false]
  rw [hne]
  obtain ⟨m,hm⟩ : ∃ m : Nat,nv xs 14 2 % 4096 = m := ⟨(nv xs 14 2 % 4096).toNat,by omega⟩
  have z : ibits .and .u64 (parK n xs 11) 4096 = 4096 := by
   rw [e11,hm,ibits_eq]
   show IntKind.u64.wrap ((BitVec.ofInt 64 ((m + 4096 : Nat) : Int) &&& BitVec.ofInt 64 ((4096 : Nat) : Int)).toNat : Int) = _
   rw [BitVec.toNat_and,BitVec.ofInt_natCast,BitVec.ofInt_natCast,BitVec.toNat_ofNat,BitVec.toNat_ofNat,Nat.mod_eq_of_lt (by omega),Nat.mod_eq_of_lt (by omega),or4096 m (by omega)]
   rfl
  rw [z]
  simp only [cond_false]
  unfold zeroW
  simp only
  rw [ie (show (4096 : Int) ≠ 0 by decide),Bool.and_false]; rfl
 | false =>
  rw [ht] at e11 e13
  rw [e10,e11,e12,e13]
  have ty : typN xs = nv xs 12 2 := by unfold typN; rw [ht]; rfl
  unfold tagB at ht
  rw [← ty] at ht
  show (bif !ieq (typN xs) 33024 then !ieq (typN xs) 34984 else false) = true
  cases h1 : ieq (typN xs) 33024 <;> cases h2 : ieq (typN xs) 34984 <;> rw [h1,h2] at ht <;> first | rfl | cases ht
end Go.Proofs.Ytdcijmigoefnjaa
set_option linter.unusedVariables false
set_option maxRecDepth 100000
namespace Go.Proofs.Ytdcijmigoefnjaa
open Go Go.Ev
theorem tyl_ints {k : IntKind} : ∀ {ls : List Lf} {l : List AV},TyL ls l → (∀ x ∈ ls,x = .int k) → intsA k l = true
 | [],[],_,_ => rfl
 | x :: ls,a :: l,h,hk => by
  have e := hk x (by simp)
  subst e
  obtain ⟨⟨n,rfl,_⟩,h2⟩ := h
  have := tyl_ints h2 (fun y hy => hk y (List.mem_cons_of_mem _ hy))
  simp only [intsA,List.all_cons,isI,decide_true,Bool.true_and]
  exact this
 | [],_ :: _,h,_ => h.elim
 | _ :: _,[],h,_ => h.elim
theorem hdr_of {l : List AV} (h : TyL (repL 24 [.int .u64,.int .u64]) l) : isHdr l = true := by
 have h1 := TyL.length h
 have h2 := tyl_ints (k := .u64) h (by decide)
 have h3 : (repL 24 [Lf.int .u64,Lf.int .u64]).length = 48 := rfl
 simp only [isHdr,h2,Bool.and_true,beq_iff_eq]
 omega
end Go.Proofs.Ytdcijmigoefnjaa
set_option linter.unusedVariables false
set_option maxRecDepth 100000
namespace Go.Proofs.Ytdcijmigoefnjaa
open Go Go.Ev
theorem tyl_inU : ∀ {ls : List Lf} {l : List AV},TyL ls l → (∀ x ∈ ls,x = .int .u64) → ∀ v ∈ l,inU v.asInt = true
 | [],[],_,_,v,hv => absurd hv (by simp)
 | x :: ls,a :: l,h,hk,v,hv => by
  have e := hk x (by simp)
  subst e
  obtain ⟨⟨n,rfl,n1,n2⟩,h2⟩ := h
  rcases List.mem_cons.1 hv with rfl | hv
  ·exact tyu n1 n2
  ·exact tyl_inU h2 (fun y hy => hk y (List.mem_cons_of_mem _ hy)) v hv
 | [],_ :: _,h,_,_,_ => h.elim
 | _ :: _,[],h,_,_,_ => h.elim
theorem hdrU_ty {a : List AV} (ha : TyL (repL 24 [.int .u64,.int .u64]) a) : hdrU a = true := hdrU_iff.2 ⟨hdr_of ha,tyl_inU ha (by decide)⟩
end Go.Proofs.Ytdcijmigoefnjaa
set_option linter.unusedVariables false
set_option linter.unusedSimpArgs false
set_option maxRecDepth 100000
set_option maxHeartbeats 0
namespace Go.Proofs.Ytdcijmigoefnjaa
open Go Go.Ev
theorem body_lens (hs : List AV) : (fourL hs).length ≤ 100 ∧ (sixL hs).length ≤ 100 ∧ (arpL hs).length ≤ 100 := by
 have a := in_len hs true; have b := in_len hs false
 refine ⟨?_,?_,by show (28 : Nat) ≤ 100; decide⟩
 ·obtain ⟨s,_,e⟩ := four_eq hs
  unfold fourL
  rw [e,List.length_append]
  show 20 + (inL hs true).length ≤ 100
  omega
 ·unfold sixL
  rw [List.length_append]
  show 40 + (inL hs false).length ≤ 100
  omega
theorem s159 : SumTOk Try.prog 159 (S159 true) := sB fun k hf => by
 have f := fitH_hdr hf
 have e4 : lowH (hdrC k) 4 = k 9 := lowF_of f rfl (by decide)
 have z10 : k 10 = 0 := by
  have h := f 10 (by decide)
  have e : maskTab.getD 10 0 = 0 := rfl
  rw [e] at h; omega
 have ht : allZ (hdrC k) (nI [5]) = ieq (k 11) 0 := by
  have : allZ (hdrC k) (nI [5]) = ((ieq (k 10) 0 && ieq (k 11) 0) && true) := rfl
  rw [this,z10]
  cases ieq (k 11) 0 <;> rfl
 have h13 := f 13 (by decide); have h11 := f 11 (by decide); have h47 := f 47 (by decide)
 have e13 : maskTab.getD 13 0 = 7 := rfl
 have e11 : maskTab.getD 11 0 = 8191 := rfl
 have e47 : maskTab.getD 47 0 = 1048575 := rfl
 rw [e13] at h13; rw [e11] at h11; rw [e47] at h47
 have tq : IntKind.i64.wrap (iadd .u64 (imul .u64 (k 13) 8192) (irem (k 11) 4096)) = tagN (hdrC k) := by
  rw [tag_of f]
  unfold iadd imul irem
  rw [Int.tmod_eq_emod_of_nonneg h11.1,IntKind.wrap_u64,IntKind.wrap_u64,IntKind.wrap_i64]; omega
 have lq : IntKind.i64.wrap (imul .u64 (k 47) 4096) = labN (hdrC k) := by
  rw [lab_of f]
  unfold imul
  rw [IntKind.wrap_u64,IntKind.wrap_i64]; omega
 have hl := body_lens (hdrC k)
 have ble : ∀ m l : Nat,m ≤ 1000 → l ≤ 100 → ((m + l) * 1).ble 140737488355328 = true ∧ (m + l).ble 140737488355328 = true := fun m l hm hl => by
  rw [Nat.ble_eq,Nat.ble_eq]; exact ⟨by omega,by omega⟩
 have T : ∀ b,(!ieq (k 11) 0) = b → allZ (hdrC k) (nI [5]) = !b := fun b e => by rw [ht,← e,Bool.not_not]
 have valT : ∀ l,(!ieq (k 11) 0) = true → bodyH (hdrC k) = l → (AV.sl 1 ((((fldC (hdrC k) 2 6 ++ fldC (hdrC k) 3 6) ++ ([.int .u8 129,.int .u8 0] ++ numL (IntKind.i64.wrap (iadd .u64 (imul .u64 (k 13) 8192) (irem (k 11) 4096))) 2)) ++ fldC (hdrC k) 4 2) ++ l) (.own []),([] : List (List AV))) = (AV.sl 1 (layX true (hdrC k)) (.own []),[]) := by
  intro l t e
  have t := T _ t
  rw [tq,← e]
  have : layX true (hdrC k) = (((fldC (hdrC k) 2 6 ++ fldC (hdrC k) 3 6) ++ tagL (hdrC k)) ++ fldC (hdrC k) 4 2) ++ bodyH (hdrC k) := rfl
  rw [this]
  unfold tagL
  rw [t]; rfl
 have valF : ∀ l,(!ieq (k 11) 0) = false → bodyH (hdrC k) = l → (AV.sl 1 (((fldC (hdrC k) 2 6 ++ fldC (hdrC k) 3 6) ++ fldC (hdrC k) 4 2) ++ l) (.own []),([] : List (List AV))) = (AV.sl 1 (layX true (hdrC k)) (.own []),[]) := by
  intro l t e
  have t := T _ t
  rw [← e]
  have : layX true (hdrC k) = (((fldC (hdrC k) 2 6 ++ fldC (hdrC k) 3 6) ++ tagL (hdrC k)) ++ fldC (hdrC k) 4 2) ++ bodyH (hdrC k) := rfl
  rw [this]
  unfold tagL
  rw [t]; rfl
 have b4 : ieq (k 9) 2048 = true → bodyH (hdrC k) = fourL (hdrC k) := fun c0 => by
  unfold bodyH; rw [e4,c0]; rfl
 have b6 : ieq (k 9) 2048 = false → ieq (k 9) 34525 = true → bodyH (hdrC k) = sixL (hdrC k) := fun c0 c1 => by
  unfold bodyH; rw [e4,c0,c1]; rfl
 have bA : ieq (k 9) 2048 = false → ieq (k 9) 34525 = false → ieq (k 9) 2054 = true → bodyH (hdrC k) = arpL (hdrC k) := fun c0 c1 c2 => by
  unfold bodyH; rw [e4,c0,c1,c2]; rfl
 have bL : ieq (k 9) 2048 = false → ieq (k 9) 34525 = false → ieq (k 9) 2054 = false → ieq (k 9) 34887 = true → bodyH (hdrC k) = numL (IntKind.i64.wrap (imul .u64 (k 47) 4096)) 4 := fun c0 c1 c2 c3 => by
  unfold bodyH; rw [e4,c0,c1,c2,c3,lq]; rfl
 have bM : ieq (k 9) 2048 = false → ieq (k 9) 34525 = false → ieq (k 9) 2054 = false → ieq (k 9) 34887 = false → ieq (k 9) 34888 = true → bodyH (hdrC k) = numL (IntKind.i64.wrap (imul .u64 (k 47) 4096)) 4 := fun c0 c1 c2 c3 c4 => by
  unfold bodyH; rw [e4,c0,c1,c2,c3,c4,lq]; rfl
 have bN : ieq (k 9) 2048 = false → ieq (k 9) 34525 = false → ieq (k 9) 2054 = false → ieq (k 9) 34887 = false → ieq (k 9) 34888 = false → bodyH (hdrC k) = [] := fun c0 c1 c2 c3 c4 => by
  unfold bodyH; rw [e4,c0,c1,c2,c3,c4]; rfl
 have nt : numOk (IntKind.i64.wrap (iadd .u64 (imul .u64 (k 13) 8192) (irem (k 11) 4096))) 2 = true := by rw [tq]; exact tag_ok f
 have nl : numOk (IntKind.i64.wrap (imul .u64 (k 47) 4096)) 4 = true := by rw [lq]; exact lab_ok f
 refine book_ok.goW (by kernel_rfl) spQ3_ok noO_ok (p159 true k _ ?_ ?_ ?_ ?_ ?_ ?_ ?_ ?_ ?_ ?_ ?_ ?_ ?_ ?_ ?_ ?_ ?_ ?_ ?_ ?_ ?_ ?_ ?_ ?_ ?_ ?_ ?_ ?_ ?_ ?_ ?_ ?_ ?_ ?_ ?_ ?_ ?_ ?_ ?_ ?_)
 ·kernel_rfl
 ·kernel_rfl
 ·kernel_rfl
 ·show (numOk (IntKind.i64.wrap (iadd .u64 (imul .u64 (k 13) 8192) (irem (k 11) 4096))) 2 && _) = true; rw [nt]; kernel_rfl
 ·kernel_rfl
 ·exact hf
 ·exact Eq.trans (b := ((18 + (fourL (hdrC k)).length) * 1).ble 140737488355328) (by kernel_rfl) (ble 18 _ (by decide) hl.1).1
 ·exact Eq.trans (b := (18 + (fourL (hdrC k)).length).ble 140737488355328) (by kernel_rfl) (ble 18 _ (by decide) hl.1).2
 ·intro t c0; exact Eq.trans (by kernel_rfl) (valT _ t (b4 c0))
 ·exact hf
 ·exact Eq.trans (b := ((18 + (sixL (hdrC k)).length) * 1).ble 140737488355328) (by kernel_rfl) (ble 18 _ (by decide) hl.2.1).1
 ·exact Eq.trans (b := (18 + (sixL (hdrC k)).length).ble 140737488355328) (by kernel_rfl) (ble 18 _ (by decide) hl.2.1).2
 ·intro t c0 c1; exact Eq.trans (by kernel_rfl) (valT _ t (b6 c0 c1))
 ·exact hf
 ·exact Eq.trans (b := ((18 + (arpL (hdrC k)).length) * 1).ble 140737488355328) (by kernel_rfl) (ble 18 _ (by decide) hl.2.2).1
 ·exact Eq.trans (b := (18 + (arpL (hdrC k)).length).ble 140737488355328) (by kernel_rfl) (ble 18 _ (by decide) hl.2.2).2
 ·intro t c0 c1 c2; exact Eq.trans (by kernel_rfl) (valT _ t (bA c0 c1 c2))
 ·show (numOk (IntKind.i64.wrap (imul .u64 (k 47) 4096)) 4 && _) = true; rw [nl]; kernel_rfl
 ·intro t c0 c1 c2 c3; exact Eq.trans (by kernel_rfl) (valT _ t (bL c0 c1 c2 c3))
 ·show (numOk (IntKind.i64.wrap (imul .u64 (k 47) 4096)) 4 && _) = true; rw [nl]; kernel_rfl
 ·intro t c0 c1 c2 c3 c4; exact Eq.trans (by kernel_rfl) (valT _ t (bM c0 c1 c2 c3 c4))
 ·intro t c0 c1 c2 c3 c4; exact Eq.trans (by kernel_rfl) (valT _ t (bN c0 c1 c2 c3 c4))
 ·kernel_rfl
 ·exact hf
 ·exact Eq.trans (b := ((14 + (fourL (hdrC k)).length) * 1).ble 140737488355328) (by kernel_rfl) (ble 14 _ (by decide) hl.1).1
 ·exact Eq.trans (b := (14 + (fourL (hdrC k)).length).ble 140737488355328) (by kernel_rfl) (ble 14 _ (by decide) hl.1).2
 ·intro t c0; exact Eq.trans (by kernel_rfl) (valF _ t (b4 c0))
 ·exact hf
 ·exact Eq.trans (b := ((14 + (sixL (hdrC k)).length) * 1).ble 140737488355328) (by kernel_rfl) (ble 14 _ (by decide) hl.2.1).1
 ·exact Eq.trans (b := (14 + (sixL (hdrC k)).length).ble 140737488355328) (by kernel_rfl) (ble 14 _ (by decide) hl.2.1).2
 ·intro t c0 c1; exact Eq.trans (by kernel_rfl) (valF _ t (b6 c0 c1))
 ·exact hf
 ·exact Eq.trans (b := ((14 + (arpL (hdrC k)).length) * 1).ble 140737488355328) (by kernel_rfl) (ble 14 _ (by decide) hl.2.2).1
 ·exact Eq.trans (b := (14 + (arpL (hdrC k)).length).ble 140737488355328) (by kernel_rfl) (ble 14 _ (by decide) hl.2.2).2
 ·intro t c0 c1 c2; exact Eq.trans (by kernel_rfl) (valF _ t (bA c0 c1 c2))
 ·show (numOk (IntKind.i64.wrap (imul .u64 (k 47) 4096)) 4 && _) = true; rw [nl]; kernel_rfl
 ·intro t c0 c1 c2 c3; exact Eq.trans (by kernel_rfl) (valF _ t (bL c0 c1 c2 c3))
 ·show (numOk (IntKind.i64.wrap (imul .u64 (k 47) 4096)) 4 && _) = true; rw [nl]; kernel_rfl
 ·intro t c0 c1 c2 c3 c4; exact Eq.trans (by kernel_rfl) (valF _ t (bM c0 c1 c2 c3 c4))
 ·intro t c0 c1 c2 c3 c4; exact Eq.trans (by kernel_rfl) (valF _ t (bN c0 c1 c2 c3 c4))
theorem hdr_cells46 {j k : Nat → Int} (h : pairEq (hdrC j) (hdrC k) = true) : hdrC j = hdrC k := by
 have c := pairEq_cell h rfl (by show 48 % 2 = 0; rfl)
 refine hdrC_congr fun i hi => ?_
 have := c i
 rw [cell_hdr _ hi,cell_hdr _ hi] at this; exact this
theorem right_eq {k : Nat → Int} (hu : hdrU (hdrC k) = true) (hf : fitsC (hdrC k) = true) : (bif ieq (parE (IntKind.i64.wrap (k 1)) (layH (hdrC k))) 0 then pairEq (parC (IntKind.i64.wrap (k 1)) (layH (hdrC k))) (hdrC k) else false) = rightH (hdrC k) := by
 have hw : IntKind.i64.wrap (k 1) = k 1 := wrap1 (fitN_of hu hf)
 rw [hw]
 cases hr : rightH (hdrC k) with
 | true =>
  obtain ⟨a,b⟩ := back46 hu hr
  rw [a,b]
  exact pairEq_same _
 | false =>
  cases hz : ieq (parE (k 1) (layH (hdrC k))) 0 with
  | false => rfl
  | true =>
   cases hp : pairEq (parC (k 1) (layH (hdrC k))) (hdrC k) with
   | false => rfl
   | true =>
    have h1 := (par_right (lay_ok (hdrC k)) hz).2.1
    have h2 : parC (k 1) (layH (hdrC k)) = hdrC k := hdr_cells46 hp
    rw [h2,hr] at h1; cases h1
theorem sp103_ok : SpecTL Try.prog (sp103 true) := ⟨s38,s159,s71,trivial⟩
theorem s103 : SumTOk Try.prog 103 S103 := sum0_ok fun x hx => by
 have hu : hdrU x = true := hx
 show CallsA Try.prog 103 [.agg x] [] (.bool (rightH x)) []
 have hh := (hdrU_iff.1 hu).1
 rw [isHdr_eq hh] at hu ⊢
 generalize (fun j => (x.getD j .unk).asInt) = k at hu ⊢
 refine book_ok.pth (by kernel_rfl) sp103_ok (p103 true k _ ?_ ?_ ?_ ?_ ?_ ?_ ?_ ?_)
 ·intro e
  have e : fitsC (hdrC k) = false := by simpa using e
  cases hr : rightH (hdrC k) with
  | false => rfl
  | true => rw [right_fits hr] at e; cases e
 ·intro e; exact fitH_iff.2 ⟨hu,by simpa using e⟩
 ·exact lay_ok _
 ·kernel_rfl
 ·kernel_rfl
 ·kernel_rfl
 ·intro e hz
  have hf : fitsC (hdrC k) = true := by simpa using e
  have h := right_eq hu hf
  have hz : ieq (parE (IntKind.i64.wrap (k 1)) (layH (hdrC k))) 0 = true := hz
  rw [hz] at h
  have h : pairEq (parC (IntKind.i64.wrap (k 1)) (layH (hdrC k))) (hdrC k) = rightH (hdrC k) := h
  exact Eq.trans (b := (AV.bool (pairEq (parC (IntKind.i64.wrap (k 1)) (layH (hdrC k))) (hdrC k)),([] : List (List AV)))) (by kernel_rfl) (by rw [h])
 ·intro e hz
  have hf : fitsC (hdrC k) = true := by simpa using e
  have h := right_eq hu hf
  have hz : ieq (parE (IntKind.i64.wrap (k 1)) (layH (hdrC k))) 0 = false := hz
  rw [hz] at h
  rw [← h]; rfl
theorem sp101_ok : SpecTL Try.prog (sp101 true) := ⟨s103,s159,trivial⟩
theorem s101 : SumTOk Try.prog 101 (S98 true) := sum0_ok fun x hx => by
 have hu : hdrU x = true := hx
 show CallsA Try.prog 101 [.agg x] [] (Tree.ite (rightH x) (.leaf (.tup [.sl 1 (layH x) .sh,.int .i64 0])) (.leaf (.tup [.sl 0 [] .nil,.int .i64 7]))).val []
 have hh := (hdrU_iff.1 hu).1
 rw [isHdr_eq hh] at hu ⊢
 generalize (fun j => (x.getD j .unk).asInt) = k at hu ⊢
 refine book_ok.pth (by kernel_rfl) sp101_ok (p101 true k _ ?_ ?_ ?_ ?_)
 ·exact hu
 ·intro e
  have e : rightH (hdrC k) = false := by simpa using e
  rw [e]; rfl
 ·intro e
  have e : rightH (hdrC k) = true := by simpa using e
  exact fitH_iff.2 ⟨hu,right_fits e⟩
 ·intro e
  have e : rightH (hdrC k) = true := by simpa using e
  rw [e]; rfl
theorem sp25_ok : SpecTL Try.prog (sp25 true) := ⟨s98,s101,s99,s103,s100,trivial⟩
theorem lay_u8 (hs : List AV) : (layH hs).all (isIntK .u8) = true := by
 have h := (okL_iff.1 (lay_ok hs)).1
 rw [List.all_eq_true]
 intro x hx
 obtain ⟨z,_,rfl⟩ := h x hx; rfl
theorem c25 {k : Nat → Int} (hu : hdrU (hdrC k) = true) : CallsA Try.prog 25 [.agg (hdrC k)] [] (.bool true) [] := by
 have he : ∀ l : List UInt8,(l == l) = true := fun l => beq_self_eq_true l
 suffices h : ∃ r p,(r = .bool true ∧ p = []) ∧ CallsA Try.prog 25 [.agg (hdrC k)] [] r p by
  obtain ⟨r,p,⟨rfl,rfl⟩,h⟩ := h
  exact h
 refine book_ok.pthX (G := fun x => x.1 = .bool true ∧ x.2 = []) (by kernel_rfl) sp25_ok (p25 true k _ ?_ ?_ ?_ ?_ ?_ ?_ ?_)
 ·exact hu
 ·exact lay_u8 _
 ·intro h e; rw [e,h]; exact ⟨rfl,rfl⟩
 ·intro h c; rw [h] at c; cases c
 ·intro c; exact fno c (he _)
 ·intro h; rw [h]; exact ⟨rfl,rfl⟩
 ·intro h c; rw [h] at c; cases c
theorem cCraftMakes {a : List AV} (ha : TyL (repL 24 [.int .u64,.int .u64]) a) : CallsA Try.prog 25 [.agg a] [] (.bool true) [] := by
 have hu := hdrU_ty ha
 rw [isHdr_eq (hdr_of ha)] at hu ⊢
 exact c25 hu
end Go.Proofs.Ytdcijmigoefnjaa
