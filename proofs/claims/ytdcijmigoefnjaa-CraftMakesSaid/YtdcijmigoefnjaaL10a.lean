import Derived.Test.YtdcijmigoefnjaaP10a
import Derived.Test.YtdcijmigoefnjaaD03
import Derived.Test.YtdcijmigoefnjaaD04q
import Derived.Test.YtdcijmigoefnjaaP03
import Derived.Test.YtdcijmigoefnjaaEv3
import Derived.Test.YtdcijmigoefnjaaP46a
import Derived.Test.YtdcijmigoefnjaaL04b
set_option linter.unusedVariables false
set_option linter.unusedSimpArgs false
set_option maxRecDepth 100000
set_option maxHeartbeats 0
namespace Go.Proofs.Ytdcijmigoefnjaa
open Go Go.Ev
theorem zero_or {a b : Int} (h : inW (a,b) = true) : ieq (ibits .or .u64 a b) 0 = zeroW (a,b) := by
 simp only [inW,Bool.and_eq_true,inU_iff] at h
 obtain ⟨⟨a0,a1⟩,b0,b1⟩ := h
 obtain ⟨m,rfl⟩ : ∃ m : Nat,a = m := ⟨a.toNat,by omega⟩
 obtain ⟨n,rfl⟩ : ∃ n : Nat,b = n := ⟨b.toNat,by omega⟩
 have hm : m < 2 ^ 64 := by omega
 have hn : n < 2 ^ 64 := by omega
 rw [ibits_or m n hm hn (Nat.or_lt_two_pow hm hn)]
 have e : (m ||| n = 0) ↔ (m = 0 ∧ n = 0) := Nat.or_eq_zero_iff
 simp only [zeroW,ieq]
 cases h1 : ((m : Int) == 0) <;> cases h2 : ((n : Int) == 0) <;> simp_all <;> omega
theorem s125 : SumTOk Try.prog 125 S125u := sum0_ok fun x h => book_ok.pth (by kernel_rfl) noSpec_ok (p125 x.1 x.2 _ (by
 have h : inW (x.1,x.2) = true := h
 rw [zero_or h]; rfl))
theorem numOk_size {n s : Int} (h : numOk n s = true) : (numNs.any fun m => ieq s m) = true := by
 simp only [numOk,Bool.and_eq_true,Bool.or_eq_true] at h
 simp only [numNs,List.any_cons,List.any_nil,Bool.or_false,Bool.or_eq_true]
 rcases h.2 with h | h | h
 ·exact .inl h.1
 ·exact .inr (.inl h.1)
 ·exact .inr (.inr h.1)
theorem sp176_ok : SpecTL Try.prog sp176 := ⟨Sum.T_ok (Book.all_ok book_ok 100 3 193),trivial⟩
theorem shr_zero {n : Int} (h : 0 ≤ n) (k : Nat) (hk : k ≤ 64) : ieq (ishr .i64 n (k : Int)) 0 = ilt n ((2 ^ k : Nat) : Int) := by
 have e : ishr .i64 n (k : Int) = n / ((2 ^ k : Nat) : Int) := by
  unfold ishr
  have e : min ((k : Int).toNat) IntKind.i64.bits = k := by simp [IntKind.bits]; omega
  rw [e,Int.fdiv_eq_ediv_of_nonneg _ (by exact_mod_cast Nat.zero_le _)]
  congr 1
 obtain ⟨m,rfl⟩ : ∃ m : Nat,n = m := ⟨n.toNat,by omega⟩
 have e2 : ((m : Int) / ((2 ^ k : Nat) : Int)) = ((m / 2 ^ k : Nat) : Int) := rfl
 have hp := Nat.two_pow_pos k
 rw [e,e2]
 by_cases hl : m < 2 ^ k
 ·rw [Nat.div_eq_of_lt hl]
  have : ((m : Int) < ((2 ^ k : Nat) : Int)) := by exact_mod_cast hl
  simp only [ieq,ilt,this,decide_true]; rfl
 ·have h1 : 0 < m / 2 ^ k := Nat.div_pos (by omega) hp
  have h2 : ¬ ((m : Int) < ((2 ^ k : Nat) : Int)) := by intro h; exact hl (by exact_mod_cast h)
  have h3 : ¬ (((m / 2 ^ k : Nat) : Int) = 0) := by omega
  simp only [ieq,ilt,h2,decide_false,beq_eq_false_iff_ne]; exact h3
theorem ile_lt {a b c : Int} (h : c = b + 1) : ile a b = ilt a c := by
 unfold ile ilt; rw [h]; exact decide_eq_decide.2 (by omega)
theorem s176 : SumTOk Try.prog 176 S176 := sum0_ok fun x hx => by
 obtain ⟨n,s⟩ := x
 show CallsA Try.prog 176 [.int .i64 n,.int .i64 s] [] (.bool (numOk n s)) []
 have e1 := fun h : ile 0 n = true => shr_zero (ile_iff'.1 h) 8 (by omega)
 have e2 := fun h : ile 0 n = true => shr_zero (ile_iff'.1 h) 16 (by omega)
 have e4 := fun h : ile 0 n = true => shr_zero (ile_iff'.1 h) 32 (by omega)
 refine num_cases (P := fun s => CallsA Try.prog 176 [.int .i64 n,.int .i64 s] [] (.bool (numOk n s)) []) ?_ ?_ ?_ hx
 ·refine book_ok.pth (by kernel_rfl) sp176_ok (p176_1 n _ (fun h => ?_) (fun h => ?_))
  ·refine congrArg (fun b => (AV.bool b,([] : List (List AV)))) ?_
   show (bif ile 0 n then ieq (ishr .i64 n ((8 : Nat) : Int)) 0 else false) = _
   rw [e1 h,h]; unfold numOk; rw [h]; simp [ieq]
  ·refine congrArg (fun b => (AV.bool b,([] : List (List AV)))) ?_
   unfold numOk; rw [h]; rfl
 ·refine book_ok.pth (by kernel_rfl) sp176_ok (p176_2 n _ (fun h => ?_) (fun h => ?_))
  ·refine congrArg (fun b => (AV.bool b,([] : List (List AV)))) ?_
   show (bif ile 0 n then ieq (ishr .i64 n ((16 : Nat) : Int)) 0 else false) = _
   rw [e2 h,h]; unfold numOk; rw [h]; simp [ieq]
  ·refine congrArg (fun b => (AV.bool b,([] : List (List AV)))) ?_
   unfold numOk; rw [h]; rfl
 ·refine book_ok.pth (by kernel_rfl) sp176_ok (p176_4 n _ (fun h => ?_) (fun h => ?_))
  ·refine congrArg (fun b => (AV.bool b,([] : List (List AV)))) ?_
   show (bif ile 0 n then ieq (ishr .i64 n ((32 : Nat) : Int)) 0 else false) = _
   rw [e4 h,h]; unfold numOk; rw [h]; simp [ieq]
  ·refine congrArg (fun b => (AV.bool b,([] : List (List AV)))) ?_
   unfold numOk; rw [h]; rfl
theorem s177 : SumTOk Try.prog 177 S176 := sum0_ok fun x hx => by
 obtain ⟨n,s⟩ := x
 show CallsA Try.prog 177 [.int .i64 n,.int .i64 s] [] (.bool (numOk n s)) []
 refine num_cases (P := fun s => CallsA Try.prog 177 [.int .i64 n,.int .i64 s] [] (.bool (numOk n s)) []) ?_ ?_ ?_ hx
 ·refine book_ok.pth (by kernel_rfl) sp176_ok (p177_1 n _ (fun h => ?_) (fun h => ?_))
  ·refine congrArg (fun b => (AV.bool b,([] : List (List AV)))) ?_
   rw [ile_lt (a := n) (b := 255) (c := 256) (by omega),h]; unfold numOk; rw [h]; simp [ieq]
  ·refine congrArg (fun b => (AV.bool b,([] : List (List AV)))) ?_
   unfold numOk; rw [h]; rfl
 ·refine book_ok.pth (by kernel_rfl) sp176_ok (p177_2 n _ (fun h => ?_) (fun h => ?_))
  ·refine congrArg (fun b => (AV.bool b,([] : List (List AV)))) ?_
   rw [ile_lt (a := n) (b := 65535) (c := 65536) (by omega),h]; unfold numOk; rw [h]; simp [ieq]
  ·refine congrArg (fun b => (AV.bool b,([] : List (List AV)))) ?_
   unfold numOk; rw [h]; rfl
 ·refine book_ok.pth (by kernel_rfl) sp176_ok (p177_4 n _ (fun h => ?_) (fun h => ?_))
  ·refine congrArg (fun b => (AV.bool b,([] : List (List AV)))) ?_
   rw [ile_lt (a := n) (b := 4294967295) (c := 4294967296) (by omega),h]; unfold numOk; rw [h]; simp [ieq]
  ·refine congrArg (fun b => (AV.bool b,([] : List (List AV)))) ?_
   unfold numOk; rw [h]; rfl
theorem spN_ok : SpecTL Try.prog spN := ⟨s176,s177,trivial⟩
theorem bleB' {a : Nat} (h : a ≤ 140737488355328) : Nat.ble a 140737488355328 = true := by rw [Nat.ble_eq]; exact h
theorem num_of {f : FuncId} (h : ∀ (xs : List AV) (n s : Int),xs.length ≤ 70368744177664 → numOk n s = true → (numNs.any fun m => ieq s m) = true → CallsA Try.prog f [.sl 1 xs .sh,.int .i64 n,.int .i64 s] [] (.sl 1 (xs ++ numL n s) (.own [])) []) : SumTOk Try.prog f S133 := by
 refine sumW_ok fun x hx => ?_
 obtain ⟨xs,n,s⟩ := x
 simp only [Bool.and_eq_true,smallB,Nat.ble_eq] at hx
 exact h xs n s hx.2 hx.1 (numOk_size hx.1)
theorem s133 : SumTOk Try.prog 133 S133 := num_of fun xs n s hl hn hs => by
 have tk : List.take ((xs.length : Int).toNat - 0) xs = xs := by rw [Int.toNat_natCast,Nat.sub_zero,List.take_length]
 have i1 : inR (xs.length : Int) (xs.length + 1) = true := inR_iff.2 ⟨by omega,by omega⟩
 have i2 : inR (xs.length : Int) ((xs.length : Int).toNat + 1) = true := inR_iff.2 ⟨by omega,by omega⟩
 have i3 : (true && (xs.length : Int).toNat == (xs.length : Int).toNat) = true := by simp
 revert hn
 refine num_cases (P := fun s => numOk n s = true → CallsA Try.prog 133 [.sl 1 xs .sh,.int .i64 n,.int .i64 s] [] (.sl 1 (xs ++ numL n s) (.own [])) []) (fun hn => ?_) (fun hn => ?_) (fun hn => ?_) hs
 ·exact book_ok.pth (by kernel_rfl) spN_ok (p133_1 xs n _ (by rw [hn]; rfl) i1 i2 i3 (bleB' (by rw [tk]; omega)) (bleB' (by rw [tk]; omega)) (by rw [tk]; rfl))
 ·exact book_ok.pth (by kernel_rfl) spN_ok (p133_2 xs n _ (by rw [hn]; rfl) i1 i2 i3 (bleB' (by rw [tk]; omega)) (bleB' (by rw [tk]; omega)) (by rw [tk]; rfl))
 ·exact book_ok.pth (by kernel_rfl) spN_ok (p133_4 xs n _ (by rw [hn]; rfl) i1 i2 i3 (bleB' (by rw [tk]; omega)) (bleB' (by rw [tk]; omega)) (by rw [tk]; rfl))
theorem s134 : SumTOk Try.prog 134 S133 := num_of fun xs n s hl hn hs => by
 revert hn
 refine num_cases (P := fun s => numOk n s = true → CallsA Try.prog 134 [.sl 1 xs .sh,.int .i64 n,.int .i64 s] [] (.sl 1 (xs ++ numL n s) (.own [])) []) (fun hn => ?_) (fun hn => ?_) (fun hn => ?_) hs
 ·refine book_ok.pth (by kernel_rfl) spN_ok (p134_1 xs n _ ?_ ?_ ?_ ?_ ?_ ?_ ?_ ?_)
  all_goals ((repeat intro); first
   |(exfalso; rename_i h; rw [hn] at h; cases h; done)
   |(refine bleB' ?_; (try simp only [List.length_append,List.length_cons,List.length_nil]); omega)
   |(have e := nil_of ‹_›; subst e; rfl)
   |(simp only [List.append_assoc]; rfl)
   | rfl)
 ·refine book_ok.pth (by kernel_rfl) spN_ok (p134_2 xs n _ ?_ ?_ ?_ ?_ ?_ ?_ ?_ ?_ ?_ ?_)
  all_goals ((repeat intro); first
   |(exfalso; rename_i h; rw [hn] at h; cases h; done)
   |(refine bleB' ?_; (try simp only [List.length_append,List.length_cons,List.length_nil]); omega)
   |(have e := nil_of ‹_›; subst e; rfl)
   |(simp only [List.append_assoc]; rfl)
   | rfl)
 ·refine book_ok.pth (by kernel_rfl) spN_ok (p134_4 xs n _ ?_ ?_ ?_ ?_ ?_ ?_ ?_ ?_ ?_ ?_ ?_ ?_ ?_ ?_)
  all_goals ((repeat intro); first
   |(exfalso; rename_i h; rw [hn] at h; cases h; done)
   |(refine bleB' ?_; (try simp only [List.length_append,List.length_cons,List.length_nil]); omega)
   |(have e := nil_of ‹_›; subst e; rfl)
   |(simp only [List.append_assoc]; rfl)
   | rfl)
end Go.Proofs.Ytdcijmigoefnjaa
set_option linter.unusedVariables false
set_option maxRecDepth 100000
namespace Go.Proofs.Ytdcijmigoefnjaa
open Go Go.Ev
def ox (v : AV) : XO := oxOf v.cells
end Go.Proofs.Ytdcijmigoefnjaa
set_option linter.unusedVariables false
set_option linter.unusedSimpArgs false
set_option maxRecDepth 100000
set_option maxHeartbeats 0
namespace Go.Proofs.Ytdcijmigoefnjaa
open Go Go.Ev
theorem lenB_iff {xs : List AV} : lenB xs = true ↔ xs.length ≤ 9223372036854775807 := by unfold lenB; rw [Nat.ble_eq]
theorem getD_mem {xs : List AV} {i : Nat} (h : i < xs.length) : xs.getD i .unk ∈ xs := by
 rw [List.getD_eq_getElem?_getD,List.getElem?_eq_getElem h]; exact List.getElem_mem h
end Go.Proofs.Ytdcijmigoefnjaa
set_option linter.unusedVariables false
set_option linter.unusedSimpArgs false
set_option maxRecDepth 100000
set_option maxHeartbeats 0
namespace Go.Proofs.Ytdcijmigoefnjaa
open Go Go.Ev
theorem isF_in' {f : Int} (h : isF f = true) : 0 ≤ f ∧ f < 24 := by
 unfold isF at h
 cases h1 : ile 0 f <;> rw [h1] at h <;> simp only [cond_true,cond_false] at h
 ·cases h
 ·simp only [ile,decide_eq_true_eq] at h1
  exact ⟨h1,ilt_iff.1 h⟩
theorem getH_hdr (h : Nat → Int) {i : Int} (hi : isF i = true) : getH (hdrC h) i = (h (i.toNat * 2),h (i.toNat * 2 + 1)) := by
 have := isF_in' hi
 unfold getH
 rw [hi]
 simp only [cond_true]
 rw [cell_hdr h (by omega),cell_hdr h (by omega)]
theorem one_at (h : Nat → Int) {j : Nat} (hj : j < 48) : List.take 1 (List.drop (0 + j) (hdrC h)) = [.int .u64 (h j)] := by
 have h1 := cell_hdr h hj
 have hl : (hdrC h).length = 48 := rfl
 have h2 : (hdrC h)[j]? = some ((hdrC h)[j]'(by rw [hl]; exact hj)) := List.getElem?_eq_getElem _
 rw [Nat.zero_add,List.drop_eq_getElem_cons (by rw [hl]; exact hj),List.take_succ_cons,List.take_zero]
 have hi : isI .u64 ((hdrC h)[j]'(by rw [hl]; exact hj)) = true := by
  have : (hdrC h).all (isI .u64) = true := rfl
  exact List.all_eq_true.1 this _ (List.getElem_mem _)
 unfold cell at h1
 rw [List.getD_eq_getElem?_getD,h2] at h1
 simp only [Option.getD_some] at h1
 generalize (hdrC h)[j]'(by rw [hl]; exact hj) = v at hi h1
 cases v <;> try (cases hi; done)
 simp only [isI,decide_eq_true_eq] at hi
 subst hi
 rename_i n
 rw [← (show n = h j from h1)]
theorem s153 : SumTOk Try.prog 153 S153 := sum0_ok fun x hx => by
 obtain ⟨cs,i⟩ := x
 simp only [Bool.and_eq_true] at hx
 obtain ⟨hh,hi⟩ := hx
 have hb := isF_in' hi
 show CallsA Try.prog 153 [.agg cs,.int .i64 i] [] (.int .i64 (lowH cs i)) []
 rw [isHdr_eq hh]
 generalize (fun j => (cs.getD j .unk).asInt) = h
 refine book_ok.pth (by kernel_rfl) noSpec_ok (p153 h i _ (inR_iff.2 ⟨hb.1,hb.2⟩) ?_ ?_ ?_)
 ·show (List.take 1 (List.drop (0 + i.toNat * 2 + 1) (hdrC h))).length == 1
  rw [show 0 + i.toNat * 2 + 1 = 0 + (i.toNat * 2 + 1) by omega,one_at h (by omega)]; rfl
 ·show AV.has _ ((List.take 1 (List.drop (0 + i.toNat * 2 + 1) (hdrC h))).headD AV.unk) = true
  rw [show 0 + i.toNat * 2 + 1 = 0 + (i.toNat * 2 + 1) by omega,one_at h (by omega)]; rfl
 ·rw [show 0 + i.toNat * 2 + 1 = 0 + (i.toNat * 2 + 1) by omega,one_at h (by omega)]
  unfold lowH
  rw [getH_hdr h hi]; rfl
theorem hdrU_iff {hs : List AV} : hdrU hs = true ↔ isHdr hs = true ∧ ∀ v ∈ hs,inU v.asInt = true := by
 unfold hdrU; rw [Bool.and_eq_true,List.all_eq_true]
theorem hdrU_in {h : Nat → Int} (hu : hdrU (hdrC h) = true) {j : Nat} (hj : j < 48) : inU (h j) = true := by
 have h1 := cell_hdr h hj
 have hl : (hdrC h).length = 48 := rfl
 have := (hdrU_iff.1 hu).2 ((hdrC h)[j]'(by rw [hl]; exact hj)) (List.getElem_mem _)
 unfold cell at h1
 rw [List.getD_eq_getElem?_getD,List.getElem?_eq_getElem (by rw [hl]; exact hj)] at h1
 simp only [Option.getD_some] at h1
 rw [h1] at this; exact this
theorem sp182_ok : SpecTL Try.prog sp182 := ⟨s125,trivial⟩
theorem s182 : SumTOk Try.prog 182 S182 := sumS_ok fun x hx => by
 obtain ⟨i,cs⟩ := x
 simp only [Bool.and_eq_true] at hx
 obtain ⟨hi,hu⟩ := hx
 have hb := isF_in' hi
 show CallsA Try.prog 182 [.int .i64 i,.ptr 1000 0] [cs] (.bool (!zeroW (getH cs i))) [cs]
 have hh := (hdrU_iff.1 hu).1
 rw [isHdr_eq hh] at hu ⊢
 generalize (fun j => (cs.getD j .unk).asInt) = h at hu ⊢
 have e : List.map AV.flat (List.take 2 (List.drop (0 + i.toNat * 2) (hdrC h))) = [.int .u64 (h (i.toNat * 2)),.int .u64 (h (i.toNat * 2 + 1))] := pair_at h i.toNat (by omega)
 refine book_ok.pth (by kernel_rfl) sp182_ok (p182 i h _ (inR_iff.2 ⟨hb.1,hb.2⟩) (len_at h (by omega)) ?_ ?_ ?_)
 ·show AV.has _ (AV.agg (List.map AV.flat (List.take 2 (List.drop (0 + i.toNat * 2) (hdrC h))))) = true
  rw [e]; rfl
 ·show inW (((AV.agg (List.map AV.flat (List.take 2 (List.drop (0 + i.toNat * 2) (hdrC h))))).cells.getD 0 AV.unk).asInt,((AV.agg (List.map AV.flat (List.take 2 (List.drop (0 + i.toNat * 2) (hdrC h))))).cells.getD 1 AV.unk).asInt) = true
  rw [e]
  show (inU (h (i.toNat * 2)) && inU (h (i.toNat * 2 + 1))) = true
  rw [hdrU_in hu (show i.toNat * 2 < 48 by omega),hdrU_in hu (show i.toNat * 2 + 1 < 48 by omega)]; rfl
 ·rw [e,getH_hdr h hi]; rfl
theorem sp195_ok : SpecTL Try.prog sp195 := ⟨s182,trivial⟩
theorem okIs_iff {is : List AV} : okIs is = true ↔ is.all isFi = true ∧ is.length ≤ 9223372036854775807 := by unfold okIs; rw [Bool.and_eq_true,lenB_iff]
theorem isFi_inv {v : AV} (h : isFi v = true) : ∃ n,v = .int .i64 n ∧ isF n = true := by
 unfold isFi at h
 split at h
 ·exact ⟨_,rfl,h⟩
 ·cases h
theorem okIs_get {is : List AV} (h : okIs is = true) {i : Nat} (hi : i < is.length) : isFi (is.getD i .unk) = true := List.all_eq_true.1 (okIs_iff.1 h).1 _ (getD_mem hi)
theorem good195 (h : Nat → Int) : (L195 h).Good := FL.good_any (fun r => r) (fun _ v => !zeroH1 (hdrC h) v) (fun _ => rfl) (fun _ _ => rfl) (fun _ _ => rfl) (.inr fun _ _ => rfl)
theorem step195 {h : Nat → Int} (hu : hdrU (hdrC h) = true) (x : Int × List AV) (hp : (L195 h).P x) : Round (book.envP 195 sp195 big noLoops) (loopBody Try.f195 2) (book.clean 195 2) (book.clean 195 (2 + 500)) (st195 h) pr195 (L195 h).P (fun x => ((L195 h).tr x).val) (L195 h).m x := by
 have hk := hp.ok
 obtain ⟨i,is⟩ := x
 have hk : okIs is = true := hk
 refine r195 h i is _ _ _ (fun k => hp.in_ k) (fun k => ?_) (fun k => ?_) (fun k e => ?_) (fun k e => hp.on (good195 h) k e) (fun k => hp.fin_ (good195 h) k)
 ·obtain ⟨n,e,_⟩ := isFi_inv (okIs_get hk (hp.lt k))
  rw [e]; rfl
 ·obtain ⟨n,e,hn⟩ := isFi_inv (okIs_get hk (hp.lt k))
  show (isF (is.getD i.toNat AV.unk).asInt && hdrU (hdrC h)) = true
  rw [hu,e,Bool.and_true]; exact hn
 ·refine (hp.found (good195 h) k e).trans ?_
  show (Ex.ret,stA 19 [(4,.int .i64 ((i.toNat : Nat) : Int))] [(1000,hdrC h)]) = _
  rw [hp.cast]; rfl
theorem lok195 {h : Nat → Int} (hu : hdrU (hdrC h) = true) {loops} : LoopOk (book.envP 195 sp195 big loops) (loopBody Try.f195 2) (lp195 h) := FL.loop (loops' := noLoops) (noInner (by kernel_rfl)) (by kernel_rfl) (step195 hu)
theorem s195 : SumTOk Try.prog 195 S195 := sumWS_ok fun x hx => by
 obtain ⟨is,cs⟩ := x
 simp only [Bool.and_eq_true] at hx
 obtain ⟨hi,hu⟩ := hx
 have key : ∀ b,anyZ cs is = b → CallsA Try.prog 195 [.sl 1 is .sh,.fn 182 [.ptr 1000 0]] [cs] (bif b then .int .i64 (ixZ cs is 0) else .int .i64 (-1)) [cs] := by
  have hh := (hdrU_iff.1 hu).1
  rw [isHdr_eq hh] at hu ⊢
  generalize (fun j => (cs.getD j .unk).asInt) = h at hu ⊢
  intro b hb
  refine book_ok.run1 (by kernel_rfl) sp195_ok (by kernel_rfl) (lok195 hu) (p195 is h _ (FL.pre_of (i := 0) (Nat.zero_le _) (okIs_iff.1 hi).2 hi) (fun e => ?_) (fun e => ?_)) <;> rw [e] at hb <;> subst hb <;> rfl
 have := key _ rfl
 cases hb : anyZ cs is <;> simp only [hb,Tree.val,cond_true,cond_false] at this ⊢ <;> exact this
theorem sp181_ok : SpecTL Try.prog sp181 := ⟨s195,trivial⟩
theorem s181 : SumTOk Try.prog 181 S181 := sumWS_ok fun x hx => by
 obtain ⟨is,cs⟩ := x
 simp only [Bool.and_eq_true] at hx
 obtain ⟨hi,hu⟩ := hx
 show CallsA Try.prog 181 [.sl 1 is .sh,.fn 182 [.ptr 1000 0]] [cs] (.bool (anyZ cs is)) [cs]
 have hh := (hdrU_iff.1 hu).1
 rw [isHdr_eq hh] at hu ⊢
 generalize (fun j => (cs.getD j .unk).asInt) = h at hu ⊢
 refine book_ok.pth (by kernel_rfl) sp181_ok (p181 is h _ ?_ (fun e => ?_) (fun e => ?_))
 ·show (okIs is && hdrU (hdrC h)) = true
  rw [show okIs is = true from hi,hu]; rfl
 all_goals rw [e]
theorem sp150_ok : SpecTL Try.prog sp150 := ⟨s181,trivial⟩
theorem allZ_not (hs is : List AV) : allZ hs is = !anyZ hs is := by
 unfold allZ anyZ
 rw [List.all_eq_not_any_not]
theorem s150 : SumTOk Try.prog 150 S150 := sumW_ok fun x hx => by
 obtain ⟨cs,is⟩ := x
 simp only [Bool.and_eq_true] at hx
 obtain ⟨hu,hi⟩ := hx
 show CallsA Try.prog 150 [.agg cs,.sl 1 is .sh] [] (.bool (allZ cs is)) []
 have hh := (hdrU_iff.1 hu).1
 rw [isHdr_eq hh] at hu ⊢
 generalize (fun j => (cs.getD j .unk).asInt) = h at hu ⊢
 refine book_ok.pth (by kernel_rfl) sp150_ok (p150 h is _ ?_ ?_)
 ·show (okIs is && hdrU (hdrC h)) = true
  rw [show okIs is = true from hi,hu]; rfl
 ·rw [allZ_not]
theorem sp186_ok : SpecTL Try.prog sp186 := ⟨s125,s68,trivial⟩
theorem s186 : SumTOk Try.prog 186 S186 := sum0_ok fun x _ => by
 obtain ⟨a,b⟩ := x
 have hi : inW (ibits .and .u64 a 0,ibits .and .u64 b 4096) = true := by
  show (inU (ibits .and .u64 _ _) && inU (ibits .and .u64 _ _)) = true
  rw [inU_bits,inU_bits]; rfl
 obtain ⟨r,p,e,h⟩ := book_ok.pthX (by kernel_rfl) sp186_ok (p186 a b (fun x => x = (AV.bool (bit12 (a,b)),[])) hi rfl)
 cases e
 exact h
theorem sp157_ok : SpecTL Try.prog sp157 := ⟨s153,s150,s186,trivial⟩
theorem s157 : SumTOk Try.prog 157 S157 := sum0_ok fun cs hx => by
 have hu : hdrU cs = true := hx
 show CallsA Try.prog 157 [.agg cs] [] (.bool (taggedH cs)) []
 have hh := (hdrU_iff.1 hu).1
 rw [isHdr_eq hh] at hu ⊢
 generalize (fun j => (cs.getD j .unk).asInt) = h at hu ⊢
 refine book_ok.pth (by kernel_rfl) sp157_ok (p157 h _ ?_ ?_ ?_ ?_ ?_)
 ·show (hdrU (hdrC h) && true) = true
  rw [hu]; rfl
 ·intro e1 e2 e3
  have e1' : allZ (hdrC h) (nI [5]) = true := e1
  have e2' : allZ (hdrC h) (nI [6]) = true := e2
  unfold taggedH
  rw [e1',e2,e2',e3]; rfl
 ·intro e1 e2 e3
  have e1' : allZ (hdrC h) (nI [5]) = true := e1
  have e2' : allZ (hdrC h) (nI [6]) = true := e2
  unfold taggedH
  rw [e1',e2',e3]; rfl
 ·intro e1 e2
  have e1' : allZ (hdrC h) (nI [5]) = true := e1
  have e2' : allZ (hdrC h) (nI [6]) = false := e2
  unfold taggedH
  rw [e1',e2']; rfl
 ·intro e1
  have e1' : allZ (hdrC h) (nI [5]) = false := e1
  unfold taggedH
  rw [e1']; rfl
theorem nI1 (a : Int) : nI [a] = [.int .i64 a] := rfl
theorem nI2 (a b : Int) : nI [a,b] = [.int .i64 a,.int .i64 b] := rfl
theorem nI3 (a b c : Int) : nI [a,b,c] = [.int .i64 a,.int .i64 b,.int .i64 c] := rfl
theorem s158 : SumTOk Try.prog 158 S158 := sum0_ok fun cs hx => by
 have hu : hdrU cs = true := hx
 show CallsA Try.prog 158 [.agg cs] [] (.bool (routedH cs)) []
 have hh := (hdrU_iff.1 hu).1
 rw [isHdr_eq hh] at hu ⊢
 generalize (fun j => (cs.getD j .unk).asInt) = h at hu ⊢
 refine book_ok.pth (by kernel_rfl) sp157_ok (p158 h _ ?_ ?_ ?_ ?_ ?_ ?_ ?_ ?_ ?_ ?_ ?_ ?_ ?_ ?_ ?_ ?_ ?_ ?_ ?_ ?_ ?_ ?_ ?_ ?_ ?_ ?_ ?_ ?_ ?_ ?_ ?_ ?_ ?_ ?_ ?_ ?_ ?_ ?_ ?_ ?_ ?_ ?_ ?_ ?_ ?_ ?_ ?_ ?_ ?_ ?_ ?_ ?_ ?_ ?_ ?_ ?_ ?_ ?_ ?_ ?_ ?_ ?_ ?_ ?_ ?_ ?_ ?_ ?_ ?_ ?_ ?_ ?_ ?_ ?_ ?_)
 all_goals repeat intro
 all_goals first
  |(show (hdrU (hdrC h) && true) = true; rw [hu]; rfl)
  |(unfold routedH noIp four46 six46; simp only [nI1,nI2,nI3]; simp_all; done)
theorem sp99_ok : SpecTL Try.prog sp99 := ⟨s157,s158,s37,sp157_ok⟩
theorem s99 : SumTOk Try.prog 99 S99 := sum0_ok fun cs hx => by
 have hu : hdrU cs = true := hx
 show CallsA Try.prog 99 [.agg cs] [] (.bool (rightH cs)) []
 have hh := (hdrU_iff.1 hu).1
 rw [isHdr_eq hh] at hu ⊢
 generalize (fun j => (cs.getD j .unk).asInt) = h at hu ⊢
 refine book_ok.pth (by kernel_rfl) sp99_ok (p99 h _ ?_ ?_ ?_ ?_ ?_ ?_ ?_ ?_ ?_ ?_ ?_ ?_ ?_ ?_ ?_ ?_ ?_ ?_ ?_ ?_ ?_ ?_ ?_ ?_ ?_ ?_)
 all_goals repeat intro
 all_goals first
  | rfl
  |(show (hdrU (hdrC h)) = true; exact hu)
  |(show (hdrU (hdrC h) && true) = true; rw [hu]; rfl)
  |(unfold rightH; simp only [nI1,nI2,nI3]; simp_all; done)
end Go.Proofs.Ytdcijmigoefnjaa
set_option linter.unusedVariables false
set_option maxRecDepth 100000
set_option maxHeartbeats 0
namespace Go.Proofs.Ytdcijmigoefnjaa
open Go Go.Ev
def r72a_o0 (xs : List AV) (i n : Int) : AS := AS.mk [zN,zN,zN,zI n,zN,zN,zN,zN,zN,zN,zN,zN,zN,zN,zN,zN,zN,zN,zN,zN,zN,zN,zN,zN,zN,zN,zN,zN,zN,zN,zN,zN] []
def r72a_c0 (xs : List AV) (i n : Int) : Bool := AV.has (TI.mk (TD.int zk) 1 1 [zB 0]) (xs.getD i.toNat zN)
theorem r72a (xs : List AV) (i n : Int) (Pr : _ → Prop) (F : _ → Ex × AS) (m : _ → Nat) (k0 : (ilt i (↑xs.length : Int)) = true → (inR i xs.length) = true) (k1 : (ilt i (↑xs.length : Int)) = true → (AV.has (TI.mk (TD.int zk) 1 1 [zB 0]) (xs.getD i.toNat zN)) = true) (k2 : (ile 0 (isub IntKind.i64 8 (imul IntKind.i64 (irem i 2) 8))) = true) (k3 : (ilt i (↑xs.length : Int)) = true → OnOk Pr F m (i,n) ((iadd IntKind.i64 i 1,iadd IntKind.i64 n (ishl IntKind.i64 (IntKind.i64.wrap (xs.getD i.toNat zN).asInt) (isub IntKind.i64 8 (imul IntKind.i64 (irem i 2) 8)))))) (k4 : (ilt i (↑xs.length : Int)) = false → F (i,n) = (Ex.exit 0,r72a_o0 xs i n)) : Round (book.envP 72 noSpec big noLoops) (loopBody Try.f72 3) (book.clean 72 3) (book.clean 72 (3 + 500)) (st72 xs) pr72 Pr F m (i,n) :=
 Round.of (Bool.rec (motive := fun _ => TE) (.ret (Ex.exit 0,r72a_o0 xs i n)) (Bool.rec (motive := fun _ => TE) .no (Bool.rec (motive := fun _ => TE) .no (Bool.rec (motive := fun _ => TE) .no (.must (Same (st72 xs (iadd IntKind.i64 i 1,iadd IntKind.i64 n (ishl IntKind.i64 (IntKind.i64.wrap (xs.getD i.toNat zN).asInt) (isub IntKind.i64 8 (imul IntKind.i64 (irem i 2) 8)))))) (.ret (.normal,st72 xs ((iadd IntKind.i64 i 1,iadd IntKind.i64 n (ishl IntKind.i64 (IntKind.i64.wrap (xs.getD i.toNat zN).asInt) (isub IntKind.i64 8 (imul IntKind.i64 (irem i 2) 8)))))))) (ile 0 (isub IntKind.i64 8 (imul IntKind.i64 (irem i 2) 8)))) ((r72a_c0 xs i n))) (inR i xs.length)) (ilt i (↑xs.length : Int))) (.s .z .z) (by kernel_rfl) (.ite (fun h0_0 => .step (k0 h0_0) (.step (k1 h0_0) (.step k2 (.must (same_ok _) (.next (k3 h0_0)))))) (fun h0_0 => .exit (k4 h0_0)))
def r72b_o0 (n : Int) : AS := AS.mk [zN,zN,zN,zI n,zN,zN,zN,zN,zN,zN,zN,zN,zN,zN,zN,zN,zN,zN,zN,zN,zN,zN,zN,zN,zN,zN,zN,zN,zN,zN,zN,zN] []
abbrev z45s1_0 (n : Int) := (prB (AS.mk [zN,zN,zN,zI (iadd IntKind.i64 (iA n 65535) (ishr IntKind.i64 n 16)),zN,zN,zN,zN,zN,zN,zN,zN,zN,zN,zN,zN,zN,zN,zN,zN,zN,zN,zN,zN,zN,zN,zN,zN,zN,zN,zN,zN] []))
theorem r72b (n : Int) (Pr : _ → Prop) (F : _ → Ex × AS) (m : _ → Nat) (k0 : (ilt 65535 n) = true → OnOk Pr F m n (prB (AS.mk [zN,zN,zN,zI (iadd IntKind.i64 (iA n 65535) (ishr IntKind.i64 n 16)),zN,zN,zN,zN,zN,zN,zN,zN,zN,zN,zN,zN,zN,zN,zN,zN,zN,zN,zN,zN,zN,zN,zN,zN,zN,zN,zN,zN] []))) (k1 : (ilt 65535 n) = false → F n = (Ex.exit 2,r72b_o0 n)) : Round (book.envP 72 noSpec big noLoops) (loopBody Try.f72 7) (book.clean 72 7) (book.clean 72 (7 + 500)) stB prB Pr F m n :=
 Round.of (Bool.rec (motive := fun _ => TE) (.ret (Ex.exit 2,r72b_o0 n)) (.must (Same (stB (z45s1_0 n))) (.ret (.normal,stB (z45s1_0 n)))) (ilt 65535 n)) (.s .z .z) (by kernel_rfl) (.ite (fun h0_0 => .must (same_ok _) (.next (k0 h0_0))) (fun h0_0 => .exit (k1 h0_0)))
def r73_o0 (xs : List AV) (i n : Int) : AS := AS.mk [zN,zN,zN,zI n,zN,zN,zN,zN,zN,zN,zN,zN,zN,zN,zN,zN,zN,zN,zN,zN,zN,zN,zN,zN,zN,zN,zN,zN,zN,zN,zN,zN,zN,zN,zN,zN,zN,zN] []
def r73_c0 (xs : List AV) (i n : Int) : Bool := AV.has (TI.mk (TD.int zk) 1 1 [zB 0]) (xs.getD i.toNat zN)
abbrev z45s2_0 (xs : List AV) (i : Int) := (IntKind.i64.wrap (xs.getD i.toNat zN).asInt)
abbrev z45s2_1 (xs : List AV) (i : Int) (n : Int) := (iadd IntKind.i64 n (imul IntKind.i64 (z45s2_0 xs i) 256))
def r73_c1 (xs : List AV) (i n : Int) : Bool := ilt 65535 (z45s2_1 xs i n)
def r73_c2 (xs : List AV) (i n : Int) : Bool := ilt 65535 (iadd IntKind.i64 n (z45s2_0 xs i))
theorem r73 (xs : List AV) (i n : Int) (Pr : _ → Prop) (F : _ → Ex × AS) (m : _ → Nat) (k0 : (ilt i (↑xs.length : Int)) = true → (inR i xs.length) = true) (k1 : (ilt i (↑xs.length : Int)) = true → (AV.has (TI.mk (TD.int zk) 1 1 [zB 0]) (xs.getD i.toNat zN)) = true) (k2 : (ilt i (↑xs.length : Int)) = true → (ieq (irem i 2) 0) = true → (ilt 65535 (iadd IntKind.i64 n (imul IntKind.i64 (IntKind.i64.wrap (xs.getD i.toNat zN).asInt) 256))) = true → OnOk Pr F m (i,n) ((iadd IntKind.i64 i 1,iadd IntKind.i64 (irem (iadd IntKind.i64 n (imul IntKind.i64 (IntKind.i64.wrap (xs.getD i.toNat zN).asInt) 256)) 65536) (iquo IntKind.i64 (iadd IntKind.i64 n (imul IntKind.i64 (IntKind.i64.wrap (xs.getD i.toNat zN).asInt) 256)) 65536)))) (k3 : (ilt i (↑xs.length : Int)) = true → (ieq (irem i 2) 0) = true → (ilt 65535 (iadd IntKind.i64 n (imul IntKind.i64 (IntKind.i64.wrap (xs.getD i.toNat zN).asInt) 256))) = false → OnOk Pr F m (i,n) ((iadd IntKind.i64 i 1,iadd IntKind.i64 n (imul IntKind.i64 (IntKind.i64.wrap (xs.getD i.toNat zN).asInt) 256)))) (k4 : (ilt i (↑xs.length : Int)) = true → (inR i xs.length) = true) (k5 : (ilt i (↑xs.length : Int)) = true → (AV.has (TI.mk (TD.int zk) 1 1 [zB 0]) (xs.getD i.toNat zN)) = true) (k6 : (ilt i (↑xs.length : Int)) = true → (ieq (irem i 2) 0) = false → (ilt 65535 (iadd IntKind.i64 n (IntKind.i64.wrap (xs.getD i.toNat zN).asInt))) = true → OnOk Pr F m (i,n) ((iadd IntKind.i64 i 1,iadd IntKind.i64 (irem (iadd IntKind.i64 n (IntKind.i64.wrap (xs.getD i.toNat zN).asInt)) 65536) (iquo IntKind.i64 (iadd IntKind.i64 n (IntKind.i64.wrap (xs.getD i.toNat zN).asInt)) 65536)))) (k7 : (ilt i (↑xs.length : Int)) = true → (ieq (irem i 2) 0) = false → (ilt 65535 (iadd IntKind.i64 n (IntKind.i64.wrap (xs.getD i.toNat zN).asInt))) = false → OnOk Pr F m (i,n) ((iadd IntKind.i64 i 1,iadd IntKind.i64 n (IntKind.i64.wrap (xs.getD i.toNat zN).asInt)))) (k8 : (ilt i (↑xs.length : Int)) = false → F (i,n) = (Ex.exit 0,r73_o0 xs i n)) : Round (book.envP 73 noSpec big noLoops) (loopBody Try.f73 3) (book.clean 73 3) (book.clean 73 (3 + 500)) (st73 xs) pr73 Pr F m (i,n) :=
 Round.of (Bool.rec (motive := fun _ => TE) (.ret (Ex.exit 0,r73_o0 xs i n)) (Bool.rec (motive := fun _ => TE) (Bool.rec (motive := fun _ => TE) .no (Bool.rec (motive := fun _ => TE) .no (Bool.rec (motive := fun _ => TE) (.must (Same (st73 xs (iadd IntKind.i64 i 1,iadd IntKind.i64 n (z45s2_0 xs i)))) (.ret (.normal,st73 xs ((iadd IntKind.i64 i 1,iadd IntKind.i64 n (z45s2_0 xs i)))))) (.must (Same (st73 xs (iadd IntKind.i64 i 1,iadd IntKind.i64 (irem (iadd IntKind.i64 n (z45s2_0 xs i)) 65536) (iquo IntKind.i64 (iadd IntKind.i64 n (z45s2_0 xs i)) 65536)))) (.ret (.normal,st73 xs ((iadd IntKind.i64 i 1,iadd IntKind.i64 (irem (iadd IntKind.i64 n (z45s2_0 xs i)) 65536) (iquo IntKind.i64 (iadd IntKind.i64 n (z45s2_0 xs i)) 65536)))))) ((r73_c2 xs i n))) ((r73_c0 xs i n))) (inR i xs.length)) (Bool.rec (motive := fun _ => TE) .no (Bool.rec (motive := fun _ => TE) .no (Bool.rec (motive := fun _ => TE) (.must (Same (st73 xs (iadd IntKind.i64 i 1,iadd IntKind.i64 n (imul IntKind.i64 (z45s2_0 xs i) 256)))) (.ret (.normal,st73 xs ((iadd IntKind.i64 i 1,iadd IntKind.i64 n (imul IntKind.i64 (z45s2_0 xs i) 256)))))) (.must (Same (st73 xs (iadd IntKind.i64 i 1,iadd IntKind.i64 (irem (z45s2_1 xs i n) 65536) (iquo IntKind.i64 (z45s2_1 xs i n) 65536)))) (.ret (.normal,st73 xs ((iadd IntKind.i64 i 1,iadd IntKind.i64 (irem (z45s2_1 xs i n) 65536) (iquo IntKind.i64 (z45s2_1 xs i n) 65536)))))) ((r73_c1 xs i n))) ((r73_c0 xs i n))) (inR i xs.length)) (ieq (irem i 2) 0)) (ilt i (↑xs.length : Int))) (.s (.s (.s .z .z) (.s .z .z)) .z) (by kernel_rfl) (.ite (fun h0_0 => .ite (fun h0_1 => .step (k0 h0_0) (.step (k1 h0_0) (.ite (fun h2_4 => .must (same_ok _) (.next (k2 h0_0 h0_1 h2_4))) (fun h2_4 => .must (same_ok _) (.next (k3 h0_0 h0_1 h2_4)))))) (fun h0_1 => .step (k4 h0_0) (.step (k5 h0_0) (.ite (fun h6_4 => .must (same_ok _) (.next (k6 h0_0 h0_1 h6_4))) (fun h6_4 => .must (same_ok _) (.next (k7 h0_0 h0_1 h6_4))))))) (fun h0_0 => .exit (k8 h0_0)))
abbrev z45s3_0 (xs : List AV) := (prB (AS.mk [zN,zN,zN,zI (↑(sumN xs 0) : Int),zN,zN,zN,zN,zN,zN,zN,zN,zN,zN,zN,zN,zN,zN,zN,zN,zN,zN,zN,zN,zN,zN,zN,zN,zN,zN,zN,zN] []))
def p72_c0 (xs : List AV) : Bool := preB (z45s3_0 xs)
theorem p72 (xs : List AV) (r : zR) (k0 : (pre72 xs (0,0)) = true) (k1 : (preB (prB (AS.mk [zN,zN,zN,zI (↑(sumN xs 0) : Int),zN,zN,zN,zN,zN,zN,zN,zN,zN,zN,zN,zN,zN,zN,zN,zN,zN,zN,zN,zN,zN,zN,zN,zN,zN,zN,zN,zN] []))) = true) (k2 : ((zI (isub IntKind.i64 65535 (ocI (prB (AS.mk [zN,zN,zN,zI (↑(sumN xs 0) : Int),zN,zN,zN,zN,zN,zN,zN,zN,zN,zN,zN,zN,zN,zN,zN,zN,zN,zN,zN,zN,zN,zN,zN,zN,zN,zN,zN,zN] [])))),[])) = r) : Goes (runP (book.envP 72 noSpec big (loopsAt [(3,lp72 xs),(7,lpB)])) Try.f72 [.sl 1 xs .sh] [] .z) r :=
 Goes.of_eq (t' := bM (Same (st72 xs (0,0))) (bN (bM (Same (stB (z45s3_0 xs))) (bN (bR ((zI (isub zJ 65535 (ocI (z45s3_0 xs))),[]))) ((p72_c0 xs)))) (pre72 xs (0,0)))) (by kernel_rfl) (.mo (.step k0 (.mo (.step k1 (.leafE k2)))))
theorem p73 (xs : List AV) (r : zR) (k0 : (pre72 xs (0,0)) = true) (k1 : ((zI (isub IntKind.i64 65535 (ocI (↑(sumN xs 0) : Int))),[])) = r) : Goes (runP (book.envP 73 noSpec big (loopsAt [(3,lp73 xs)])) Try.f73 [.sl 1 xs .sh] [] .z) r :=
 Goes.of_eq (t' := bM (Same (st73 xs (0,0))) (bN (bR ((zI (isub zJ 65535 (ocI (↑(sumN xs 0) : Int))),[]))) (pre72 xs (0,0)))) (by kernel_rfl) (.mo (.step k0 (.leafE k1)))
end Go.Proofs.Ytdcijmigoefnjaa
