import Derived.Test.YtdcijmigoefnjaaP46a
import Derived.Test.YtdcijmigoefnjaaL04b
import Derived.Test.YtdcijmigoefnjaaL04g
import Derived.Test.YtdcijmigoefnjaaD03
/- Chapter 46: may a header be: contracts. -/
set_option linter.unusedVariables false
set_option linter.unusedSimpArgs false
set_option maxRecDepth 100000
set_option maxHeartbeats 0
namespace Go.Proofs.Ytdcijmigoefnjaa
open Go Go.Ev

theorem isF_in' {f : Int} (h : isF f = true) : 0 ≤ f ∧ f < 24 := by
  unfold isF at h
  cases h1 : ile 0 f <;> rw [h1] at h <;> simp only [cond_true, cond_false] at h
  · cases h
  · simp only [ile, decide_eq_true_eq] at h1
    exact ⟨h1, ilt_iff.1 h⟩
theorem getH_hdr (h : Nat → Int) {i : Int} (hi : isF i = true) : getH (hdrC h) i = (h (i.toNat * 2), h (i.toNat * 2 + 1)) := by
  have := isF_in' hi
  unfold getH
  rw [hi]
  simp only [cond_true]
  rw [cell_hdr h (by omega), cell_hdr h (by omega)]
theorem one_at (h : Nat → Int) {j : Nat} (hj : j < 48) : List.take 1 (List.drop (0 + j) (hdrC h)) = [.int .u64 (h j)] := by
  have h1 := cell_hdr h hj
  have hl : (hdrC h).length = 48 := rfl
  have h2 : (hdrC h)[j]? = some ((hdrC h)[j]'(by rw [hl]; exact hj)) := List.getElem?_eq_getElem _
  rw [Nat.zero_add, List.drop_eq_getElem_cons (by rw [hl]; exact hj), List.take_succ_cons, List.take_zero]
  have hi : isI .u64 ((hdrC h)[j]'(by rw [hl]; exact hj)) = true := by
    have : (hdrC h).all (isI .u64) = true := rfl
    exact List.all_eq_true.1 this _ (List.getElem_mem _)
  unfold cell at h1
  rw [List.getD_eq_getElem?_getD, h2] at h1
  simp only [Option.getD_some] at h1
  generalize (hdrC h)[j]'(by rw [hl]; exact hj) = v at hi h1
  cases v <;> try (cases hi; done)
  simp only [isI, decide_eq_true_eq] at hi
  subst hi
  rename_i n
  rw [← (show n = h j from h1)]
theorem s153 : SumTOk Try.prog 153 S153 := sum0_ok fun x hx => by
  obtain ⟨cs, i⟩ := x
  simp only [Bool.and_eq_true] at hx
  obtain ⟨hh, hi⟩ := hx
  have hb := isF_in' hi
  show CallsA Try.prog 153 [.agg cs, .int .i64 i] [] (.int .i64 (lowH cs i)) []
  rw [isHdr_eq hh]
  generalize (fun j => (cs.getD j .unk).asInt) = h
  refine book_ok.pth (by kernel_rfl) noSpec_ok (p153 h i _ (inR_iff.2 ⟨hb.1, hb.2⟩) ?_ ?_ ?_)
  · show (List.take 1 (List.drop (0 + i.toNat * 2 + 1) (hdrC h))).length == 1
    rw [show 0 + i.toNat * 2 + 1 = 0 + (i.toNat * 2 + 1) by omega, one_at h (by omega)]; rfl
  · show AV.has _ ((List.take 1 (List.drop (0 + i.toNat * 2 + 1) (hdrC h))).headD AV.unk) = true
    rw [show 0 + i.toNat * 2 + 1 = 0 + (i.toNat * 2 + 1) by omega, one_at h (by omega)]; rfl
  · rw [show 0 + i.toNat * 2 + 1 = 0 + (i.toNat * 2 + 1) by omega, one_at h (by omega)]
    unfold lowH
    rw [getH_hdr h hi]; rfl
theorem hdrU_iff {hs : List AV} : hdrU hs = true ↔ isHdr hs = true ∧ ∀ v ∈ hs, inU v.asInt = true := by
  unfold hdrU; rw [Bool.and_eq_true, List.all_eq_true]
theorem hdrU_in {h : Nat → Int} (hu : hdrU (hdrC h) = true) {j : Nat} (hj : j < 48) : inU (h j) = true := by
  have h1 := cell_hdr h hj
  have hl : (hdrC h).length = 48 := rfl
  have := (hdrU_iff.1 hu).2 ((hdrC h)[j]'(by rw [hl]; exact hj)) (List.getElem_mem _)
  unfold cell at h1
  rw [List.getD_eq_getElem?_getD, List.getElem?_eq_getElem (by rw [hl]; exact hj)] at h1
  simp only [Option.getD_some] at h1
  rw [h1] at this; exact this
theorem sp182_ok : SpecTL Try.prog sp182 := ⟨s125, trivial⟩
theorem s182 : SumTOk Try.prog 182 S182 := sumS_ok fun x hx => by
  obtain ⟨i, cs⟩ := x
  simp only [Bool.and_eq_true] at hx
  obtain ⟨hi, hu⟩ := hx
  have hb := isF_in' hi
  show CallsA Try.prog 182 [.int .i64 i, .ptr 1000 0] [cs] (.bool (!zeroW (getH cs i))) [cs]
  have hh := (hdrU_iff.1 hu).1
  rw [isHdr_eq hh] at hu ⊢
  generalize (fun j => (cs.getD j .unk).asInt) = h at hu ⊢
  have e : List.map AV.flat (List.take 2 (List.drop (0 + i.toNat * 2) (hdrC h))) = [.int .u64 (h (i.toNat * 2)), .int .u64 (h (i.toNat * 2 + 1))] := pair_at h i.toNat (by omega)
  refine book_ok.pth (by kernel_rfl) sp182_ok (p182 i h _ (inR_iff.2 ⟨hb.1, hb.2⟩) (len_at h (by omega)) ?_ ?_ ?_)
  · show AV.has _ (AV.agg (List.map AV.flat (List.take 2 (List.drop (0 + i.toNat * 2) (hdrC h))))) = true
    rw [e]; rfl
  · show inW (((AV.agg (List.map AV.flat (List.take 2 (List.drop (0 + i.toNat * 2) (hdrC h))))).cells.getD 0 AV.unk).asInt, ((AV.agg (List.map AV.flat (List.take 2 (List.drop (0 + i.toNat * 2) (hdrC h))))).cells.getD 1 AV.unk).asInt) = true
    rw [e]
    show (inU (h (i.toNat * 2)) && inU (h (i.toNat * 2 + 1))) = true
    rw [hdrU_in hu (show i.toNat * 2 < 48 by omega), hdrU_in hu (show i.toNat * 2 + 1 < 48 by omega)]; rfl
  · rw [e, getH_hdr h hi]; rfl
theorem sp195_ok : SpecTL Try.prog sp195 := ⟨s182, trivial⟩
theorem okIs_iff {is : List AV} : okIs is = true ↔ is.all isFi = true ∧ is.length ≤ 9223372036854775807 := by unfold okIs; rw [Bool.and_eq_true, lenB_iff]
theorem isFi_inv {v : AV} (h : isFi v = true) : ∃ n, v = .int .i64 n ∧ isF n = true := by
  unfold isFi at h
  split at h
  · exact ⟨_, rfl, h⟩
  · cases h
theorem okIs_get {is : List AV} (h : okIs is = true) {i : Nat} (hi : i < is.length) : isFi (is.getD i .unk) = true := List.all_eq_true.1 (okIs_iff.1 h).1 _ (getD_mem hi)
theorem good195 (h : Nat → Int) : (L195 h).Good := FL.good_any (fun r => r) (fun _ v => !zeroH1 (hdrC h) v) (fun _ => rfl) (fun _ _ => rfl) (fun _ _ => rfl) (.inr fun _ _ => rfl)
theorem step195 {h : Nat → Int} (hu : hdrU (hdrC h) = true) (x : Int × List AV) (hp : (L195 h).P x) : Round (book.envP 195 sp195 big noLoops) (loopBody Try.f195 2) (book.clean 195 2) (book.clean 195 (2 + 500)) (st195 h) pr195 (L195 h).P (fun x => ((L195 h).tr x).val) (L195 h).m x := by
  have hk := hp.ok
  obtain ⟨i, is⟩ := x
  have hk : okIs is = true := hk
  refine r195 h i is _ _ _ (fun k => hp.in_ k) (fun k => ?_) (fun k => ?_) (fun k e => ?_) (fun k e => hp.on (good195 h) k e) (fun k => hp.fin_ (good195 h) k)
  · obtain ⟨n, e, _⟩ := isFi_inv (okIs_get hk (hp.lt k))
    rw [e]; rfl
  · obtain ⟨n, e, hn⟩ := isFi_inv (okIs_get hk (hp.lt k))
    show (isF (is.getD i.toNat AV.unk).asInt && hdrU (hdrC h)) = true
    rw [hu, e, Bool.and_true]; exact hn
  · refine (hp.found (good195 h) k e).trans ?_
    show (Ex.ret, stA 19 [(4, .int .i64 ((i.toNat : Nat) : Int))] [(1000, hdrC h)]) = _
    rw [hp.cast]; rfl
theorem lok195 {h : Nat → Int} (hu : hdrU (hdrC h) = true) {loops} : LoopOk (book.envP 195 sp195 big loops) (loopBody Try.f195 2) (lp195 h) := FL.loop (loops' := noLoops) (noInner (by kernel_rfl)) (by kernel_rfl) (step195 hu)
theorem s195 : SumTOk Try.prog 195 S195 := sumWS_ok fun x hx => by
  obtain ⟨is, cs⟩ := x
  simp only [Bool.and_eq_true] at hx
  obtain ⟨hi, hu⟩ := hx
  have key : ∀ b, anyZ cs is = b → CallsA Try.prog 195 [.sl 1 is .sh, .fn 182 [.ptr 1000 0]] [cs] (bif b then .int .i64 (ixZ cs is 0) else .int .i64 (-1)) [cs] := by
    have hh := (hdrU_iff.1 hu).1
    rw [isHdr_eq hh] at hu ⊢
    generalize (fun j => (cs.getD j .unk).asInt) = h at hu ⊢
    intro b hb
    refine book_ok.run1 (by kernel_rfl) sp195_ok (by kernel_rfl) (lok195 hu) (p195 is h _ (FL.pre_of (i := 0) (Nat.zero_le _) (okIs_iff.1 hi).2 hi) (fun e => ?_) (fun e => ?_)) <;> rw [e] at hb <;> subst hb <;> rfl
  have := key _ rfl
  cases hb : anyZ cs is <;> simp only [hb, Tree.val, cond_true, cond_false] at this ⊢ <;> exact this
theorem sp181_ok : SpecTL Try.prog sp181 := ⟨s195, trivial⟩
theorem s181 : SumTOk Try.prog 181 S181 := sumWS_ok fun x hx => by
  obtain ⟨is, cs⟩ := x
  simp only [Bool.and_eq_true] at hx
  obtain ⟨hi, hu⟩ := hx
  show CallsA Try.prog 181 [.sl 1 is .sh, .fn 182 [.ptr 1000 0]] [cs] (.bool (anyZ cs is)) [cs]
  have hh := (hdrU_iff.1 hu).1
  rw [isHdr_eq hh] at hu ⊢
  generalize (fun j => (cs.getD j .unk).asInt) = h at hu ⊢
  refine book_ok.pth (by kernel_rfl) sp181_ok (p181 is h _ ?_ (fun e => ?_) (fun e => ?_))
  · show (okIs is && hdrU (hdrC h)) = true
    rw [show okIs is = true from hi, hu]; rfl
  all_goals rw [e]
theorem sp150_ok : SpecTL Try.prog sp150 := ⟨s181, trivial⟩
theorem allZ_not (hs is : List AV) : allZ hs is = !anyZ hs is := by
  unfold allZ anyZ
  rw [List.all_eq_not_any_not]
theorem s150 : SumTOk Try.prog 150 S150 := sumW_ok fun x hx => by
  obtain ⟨cs, is⟩ := x
  simp only [Bool.and_eq_true] at hx
  obtain ⟨hu, hi⟩ := hx
  show CallsA Try.prog 150 [.agg cs, .sl 1 is .sh] [] (.bool (allZ cs is)) []
  have hh := (hdrU_iff.1 hu).1
  rw [isHdr_eq hh] at hu ⊢
  generalize (fun j => (cs.getD j .unk).asInt) = h at hu ⊢
  refine book_ok.pth (by kernel_rfl) sp150_ok (p150 h is _ ?_ ?_)
  · show (okIs is && hdrU (hdrC h)) = true
    rw [show okIs is = true from hi, hu]; rfl
  · rw [allZ_not]
theorem sp186_ok : SpecTL Try.prog sp186 := ⟨s125, s68, trivial⟩
theorem s186 : SumTOk Try.prog 186 S186 := sum0_ok fun x _ => by
  obtain ⟨a, b⟩ := x
  have hi : inW (ibits .and .u64 a 0, ibits .and .u64 b 4096) = true := by
    show (inU (ibits .and .u64 _ _) && inU (ibits .and .u64 _ _)) = true
    rw [inU_bits, inU_bits]; rfl
  obtain ⟨r, p, e, h⟩ := book_ok.pthX (by kernel_rfl) sp186_ok (p186 a b (fun x => x = (AV.bool (bit12 (a, b)), [])) hi rfl)
  cases e
  exact h

/-! ### the three -/
theorem sp157_ok : SpecTL Try.prog sp157 := ⟨s153, s150, s186, trivial⟩
theorem s157 : SumTOk Try.prog 157 S157 := sum0_ok fun cs hx => by
  have hu : hdrU cs = true := hx
  show CallsA Try.prog 157 [.agg cs] [] (.bool (taggedH cs)) []
  have hh := (hdrU_iff.1 hu).1
  rw [isHdr_eq hh] at hu ⊢
  generalize (fun j => (cs.getD j .unk).asInt) = h at hu ⊢
  refine book_ok.pth (by kernel_rfl) sp157_ok (p157 h _ ?_ ?_ ?_ ?_ ?_)
  · show (hdrU (hdrC h) && true) = true
    rw [hu]; rfl
  · intro e1 e2 e3
    have e1' : allZ (hdrC h) (nI [5]) = true := e1
    have e2' : allZ (hdrC h) (nI [6]) = true := e2
    unfold taggedH
    rw [e1', e2, e2', e3]; rfl
  · intro e1 e2 e3
    have e1' : allZ (hdrC h) (nI [5]) = true := e1
    have e2' : allZ (hdrC h) (nI [6]) = true := e2
    unfold taggedH
    rw [e1', e2', e3]; rfl
  · intro e1 e2
    have e1' : allZ (hdrC h) (nI [5]) = true := e1
    have e2' : allZ (hdrC h) (nI [6]) = false := e2
    unfold taggedH
    rw [e1', e2']; rfl
  · intro e1
    have e1' : allZ (hdrC h) (nI [5]) = false := e1
    unfold taggedH
    rw [e1']; rfl
theorem nI1 (a : Int) : nI [a] = [.int .i64 a] := rfl
theorem nI2 (a b : Int) : nI [a, b] = [.int .i64 a, .int .i64 b] := rfl
theorem nI3 (a b c : Int) : nI [a, b, c] = [.int .i64 a, .int .i64 b, .int .i64 c] := rfl
theorem s158 : SumTOk Try.prog 158 S158 := sum0_ok fun cs hx => by
  have hu : hdrU cs = true := hx
  show CallsA Try.prog 158 [.agg cs] [] (.bool (routedH cs)) []
  have hh := (hdrU_iff.1 hu).1
  rw [isHdr_eq hh] at hu ⊢
  generalize (fun j => (cs.getD j .unk).asInt) = h at hu ⊢
  refine book_ok.pth (by kernel_rfl) sp157_ok (p158 h _ ?_ ?_ ?_ ?_ ?_ ?_ ?_ ?_ ?_ ?_ ?_ ?_ ?_ ?_ ?_ ?_ ?_ ?_ ?_ ?_ ?_ ?_ ?_ ?_ ?_ ?_ ?_ ?_ ?_ ?_ ?_ ?_ ?_ ?_ ?_ ?_ ?_ ?_ ?_ ?_ ?_ ?_ ?_ ?_ ?_ ?_ ?_ ?_ ?_ ?_ ?_ ?_ ?_ ?_ ?_ ?_ ?_ ?_ ?_ ?_ ?_ ?_ ?_ ?_ ?_ ?_ ?_ ?_ ?_ ?_ ?_ ?_ ?_ ?_ ?_)
  all_goals repeat intro
  all_goals first
    | (show (hdrU (hdrC h) && true) = true; rw [hu]; rfl)
    | (unfold routedH noIp four46 six46; simp only [nI1, nI2, nI3]; simp_all; done)
theorem sp99_ok : SpecTL Try.prog sp99 := ⟨s157, s158, s37, sp157_ok⟩
theorem s99 : SumTOk Try.prog 99 S99 := sum0_ok fun cs hx => by
  have hu : hdrU cs = true := hx
  show CallsA Try.prog 99 [.agg cs] [] (.bool (rightH cs)) []
  have hh := (hdrU_iff.1 hu).1
  rw [isHdr_eq hh] at hu ⊢
  generalize (fun j => (cs.getD j .unk).asInt) = h at hu ⊢
  refine book_ok.pth (by kernel_rfl) sp99_ok (p99 h _ ?_ ?_ ?_ ?_ ?_ ?_ ?_ ?_ ?_ ?_ ?_ ?_ ?_ ?_ ?_ ?_ ?_ ?_ ?_ ?_ ?_ ?_ ?_ ?_ ?_ ?_)
  all_goals repeat intro
  all_goals first
    | rfl
    | (show (hdrU (hdrC h)) = true; exact hu)
    | (show (hdrU (hdrC h) && true) = true; rw [hu]; rfl)
    | (unfold rightH; simp only [nI1, nI2, nI3]; simp_all; done)
end Go.Proofs.Ytdcijmigoefnjaa

/- Chapter 45: sums of bytes (printed by program). -/
set_option linter.unusedVariables false
set_option maxRecDepth 100000
set_option maxHeartbeats 0
namespace Go.Proofs.Ytdcijmigoefnjaa
open Go Go.Ev

def r72a_o0 (xs : List AV) (i n : Int) : AS := AS.mk [zN, zN, zN, zI n, zN, zN, zN, zN, zN, zN, zN, zN, zN, zN, zN, zN, zN, zN, zN, zN, zN, zN, zN, zN, zN, zN, zN, zN, zN, zN, zN, zN] []
def r72a_c0 (xs : List AV) (i n : Int) : Bool := AV.has (TI.mk (TD.int zk) 1 1 [zB 0]) (xs.getD i.toNat zN)
theorem r72a (xs : List AV) (i n : Int) (Pr : _ → Prop) (F : _ → Ex × AS) (m : _ → Nat) (k0 : (ilt i (↑xs.length : Int)) = true → (inR i xs.length) = true) (k1 : (ilt i (↑xs.length : Int)) = true → (AV.has (TI.mk (TD.int zk) 1 1 [zB 0]) (xs.getD i.toNat zN)) = true) (k2 : (ilt i (↑xs.length : Int)) = true → (ile 0 (isub IntKind.i64 8 (imul IntKind.i64 (irem i 2) 8))) = true) (k3 : (ilt i (↑xs.length : Int)) = true → OnOk Pr F m (i, n) ((iadd IntKind.i64 i 1, iadd IntKind.i64 n (ishl IntKind.i64 (IntKind.i64.wrap (xs.getD i.toNat zN).asInt) (isub IntKind.i64 8 (imul IntKind.i64 (irem i 2) 8)))))) (k4 : (ilt i (↑xs.length : Int)) = false → F (i, n) = (Ex.exit 0, r72a_o0 xs i n)) : Round (book.envP 72 noSpec big noLoops) (loopBody Try.f72 3) (book.clean 72 3) (book.clean 72 (3 + 500)) (st72 xs) pr72 Pr F m (i, n) :=
  Round.of (Bool.rec (motive := fun _ => TE) (.ret (Ex.exit 0, r72a_o0 xs i n)) (Bool.rec (motive := fun _ => TE) .no (Bool.rec (motive := fun _ => TE) .no (Bool.rec (motive := fun _ => TE) .no (.must (Same (st72 xs (iadd IntKind.i64 i 1, iadd IntKind.i64 n (ishl IntKind.i64 (IntKind.i64.wrap (xs.getD i.toNat zN).asInt) (isub IntKind.i64 8 (imul IntKind.i64 (irem i 2) 8)))))) (.ret (.normal, st72 xs ((iadd IntKind.i64 i 1, iadd IntKind.i64 n (ishl IntKind.i64 (IntKind.i64.wrap (xs.getD i.toNat zN).asInt) (isub IntKind.i64 8 (imul IntKind.i64 (irem i 2) 8)))))))) (ile 0 (isub IntKind.i64 8 (imul IntKind.i64 (irem i 2) 8)))) ((r72a_c0 xs i n))) (inR i xs.length)) (ilt i (↑xs.length : Int))) (.s .z .z) (by kernel_rfl) (.ite (fun h0_0 => .step (k0 h0_0) (.step (k1 h0_0) (.step (k2 h0_0) (.must (same_ok _) (.next (k3 h0_0)))))) (fun h0_0 => .exit (k4 h0_0)))
def r72b_o0 (n : Int) : AS := AS.mk [zN, zN, zN, zI n, zN, zN, zN, zN, zN, zN, zN, zN, zN, zN, zN, zN, zN, zN, zN, zN, zN, zN, zN, zN, zN, zN, zN, zN, zN, zN, zN, zN] []
abbrev z45s1_0 (n : Int) := (prB (AS.mk [zN, zN, zN, zI (iadd IntKind.i64 (ibits BinOp.and IntKind.i64 n 65535) (ishr IntKind.i64 n 16)), zN, zN, zN, zN, zN, zN, zN, zN, zN, zN, zN, zN, zN, zN, zN, zN, zN, zN, zN, zN, zN, zN, zN, zN, zN, zN, zN, zN] []))
theorem r72b (n : Int) (Pr : _ → Prop) (F : _ → Ex × AS) (m : _ → Nat) (k0 : (ilt 65535 n) = true → OnOk Pr F m n (prB (AS.mk [zN, zN, zN, zI (iadd IntKind.i64 (ibits BinOp.and IntKind.i64 n 65535) (ishr IntKind.i64 n 16)), zN, zN, zN, zN, zN, zN, zN, zN, zN, zN, zN, zN, zN, zN, zN, zN, zN, zN, zN, zN, zN, zN, zN, zN, zN, zN, zN, zN] []))) (k1 : (ilt 65535 n) = false → F n = (Ex.exit 2, r72b_o0 n)) : Round (book.envP 72 noSpec big noLoops) (loopBody Try.f72 7) (book.clean 72 7) (book.clean 72 (7 + 500)) stB prB Pr F m n :=
  Round.of (Bool.rec (motive := fun _ => TE) (.ret (Ex.exit 2, r72b_o0 n)) (.must (Same (stB (z45s1_0 n))) (.ret (.normal, stB (z45s1_0 n)))) (ilt 65535 n)) (.s .z .z) (by kernel_rfl) (.ite (fun h0_0 => .must (same_ok _) (.next (k0 h0_0))) (fun h0_0 => .exit (k1 h0_0)))
abbrev z45s2_0 (xs : List AV) := (prB (AS.mk [zN, zN, zN, zI (↑(sumN xs 0) : Int), zN, zN, zN, zN, zN, zN, zN, zN, zN, zN, zN, zN, zN, zN, zN, zN, zN, zN, zN, zN, zN, zN, zN, zN, zN, zN, zN, zN] []))
def p72_c0 (xs : List AV) : Bool := preB (z45s2_0 xs)
theorem p72 (xs : List AV) (r : AV × List (List AV)) (k0 : (pre72 xs (0, 0)) = true) (k1 : (preB (prB (AS.mk [zN, zN, zN, zI (↑(sumN xs 0) : Int), zN, zN, zN, zN, zN, zN, zN, zN, zN, zN, zN, zN, zN, zN, zN, zN, zN, zN, zN, zN, zN, zN, zN, zN, zN, zN, zN, zN] []))) = true) (k2 : ((zI (isub IntKind.i64 65535 (ocI (prB (AS.mk [zN, zN, zN, zI (↑(sumN xs 0) : Int), zN, zN, zN, zN, zN, zN, zN, zN, zN, zN, zN, zN, zN, zN, zN, zN, zN, zN, zN, zN, zN, zN, zN, zN, zN, zN, zN, zN] [])))), [])) = r) : Goes (runP (book.envP 72 noSpec big (loopsAt [(3, lp72 xs), (7, lpB)])) Try.f72 [.sl 1 xs .sh] [] .z) r :=
  Goes.of_eq (t' := .must (Same (st72 xs (0, 0))) (bN (.must (Same (stB (z45s2_0 xs))) (bN (.ret ((zI (isub IntKind.i64 65535 (ocI (z45s2_0 xs))), []))) ((p72_c0 xs)))) (pre72 xs (0, 0)))) (by kernel_rfl) (.must (same_ok _) (.step (k0) (.must (same_ok _) (.step (k1) (Goes.leafE (k2))))))
end Go.Proofs.Ytdcijmigoefnjaa

/- Chapter 45: numbers of bytes (printed by program). -/
set_option linter.unusedVariables false
set_option maxRecDepth 100000
set_option maxHeartbeats 0
namespace Go.Proofs.Ytdcijmigoefnjaa
open Go Go.Ev

abbrev z45a0_0 (xs : List AV) (at_ : Int) := (List.take ((iadd IntKind.i64 at_ 1).toNat - at_.toNat) (List.drop at_.toNat xs))
def p178_1_c0 (xs : List AV) (at_ : Int) : Bool := ilt 0 (↑(z45a0_0 xs at_).length : Int)
def p178_1_c1 (xs : List AV) (at_ : Int) : Bool := inR 0 (z45a0_0 xs at_).length
def p178_1_c2 (xs : List AV) (at_ : Int) : Bool := AV.has (TI.mk (TD.int zk) 1 1 [zB 0]) ((z45a0_0 xs at_).getD 0 zN)
def p178_1_c3 (xs : List AV) (at_ : Int) : Bool := ilt 1 (↑(z45a0_0 xs at_).length : Int)
theorem p178_1 (xs : List AV) (at_ : Int) (r : AV × List (List AV)) (k0 : (ilt at_ 0) = false) (k1 : (ilt (isub IntKind.i64 (↑xs.length : Int) at_) 1) = false) (k2 : (inR (iadd IntKind.i64 at_ 1) (xs.length + 1)) = true) (k3 : (inR at_ ((iadd IntKind.i64 at_ 1).toNat + 1)) = true) (k4 : (ilt 0 (↑(List.take ((iadd IntKind.i64 at_ 1).toNat - at_.toNat) (List.drop at_.toNat xs)).length : Int)) = true) (k5 : (inR 0 (List.take ((iadd IntKind.i64 at_ 1).toNat - at_.toNat) (List.drop at_.toNat xs)).length) = true) (k6 : (AV.has (TI.mk (TD.int zk) 1 1 [zB 0]) ((List.take ((iadd IntKind.i64 at_ 1).toNat - at_.toNat) (List.drop at_.toNat xs)).getD 0 zN)) = true) (k7 : (ilt 1 (↑(List.take ((iadd IntKind.i64 at_ 1).toNat - at_.toNat) (List.drop at_.toNat xs)).length : Int)) = false) (k8 : ((AV.tup [zI (ibits BinOp.or IntKind.i64 0 (IntKind.i64.wrap ((List.take ((iadd IntKind.i64 at_ 1).toNat - at_.toNat) (List.drop at_.toNat xs)).getD 0 zN).asInt)), zI 0], [])) = r) : Goes (runP (book.envP 178 spNG 100 noLoops) Try.f178 [.sl 1 xs .sh, .int .i64 at_, .int .i64 1] [] (.f (.f (.f (.f (.t (.f .z))))))) r :=
  Goes.of_eq (t' := bN (bN (bN (bN (bN (bN (bN (bN (.ret ((AV.tup [zI (ibits BinOp.or IntKind.i64 0 (IntKind.i64.wrap ((z45a0_0 xs at_).getD 0 zN).asInt)), zI 0], []))) (asTold ((p178_1_c3 xs at_)) false)) ((p178_1_c2 xs at_))) ((p178_1_c1 xs at_))) (asTold ((p178_1_c0 xs at_)) true)) (inR at_ ((iadd IntKind.i64 at_ 1).toNat + 1))) (inR (iadd IntKind.i64 at_ 1) (xs.length + 1))) (asTold (ilt (isub IntKind.i64 (↑xs.length : Int) at_) 1) false)) (asTold (ilt at_ 0) false)) (by kernel_rfl) (.step (told (k0)) (.step (told (k1)) (.step (k2) (.step (k3) (.step (told (k4)) (.step (k5) (.step (k6) (.step (told (k7)) (Goes.leafE (k8))))))))))
abbrev z45a1_0 (xs : List AV) (at_ : Int) := (List.take ((iadd IntKind.i64 at_ 2).toNat - at_.toNat) (List.drop at_.toNat xs))
def p178_2_c0 (xs : List AV) (at_ : Int) : Bool := ilt 0 (↑(z45a1_0 xs at_).length : Int)
def p178_2_c1 (xs : List AV) (at_ : Int) : Bool := inR 0 (z45a1_0 xs at_).length
def p178_2_c2 (xs : List AV) (at_ : Int) : Bool := AV.has (TI.mk (TD.int zk) 1 1 [zB 0]) ((z45a1_0 xs at_).getD 0 zN)
def p178_2_c3 (xs : List AV) (at_ : Int) : Bool := ilt 1 (↑(z45a1_0 xs at_).length : Int)
def p178_2_c4 (xs : List AV) (at_ : Int) : Bool := inR 1 (z45a1_0 xs at_).length
def p178_2_c5 (xs : List AV) (at_ : Int) : Bool := AV.has (TI.mk (TD.int zk) 1 1 [zB 0]) ((z45a1_0 xs at_).getD 1 zN)
def p178_2_c6 (xs : List AV) (at_ : Int) : Bool := ilt 2 (↑(z45a1_0 xs at_).length : Int)
theorem p178_2 (xs : List AV) (at_ : Int) (r : AV × List (List AV)) (k0 : (ilt at_ 0) = false) (k1 : (ilt (isub IntKind.i64 (↑xs.length : Int) at_) 2) = false) (k2 : (inR (iadd IntKind.i64 at_ 2) (xs.length + 1)) = true) (k3 : (inR at_ ((iadd IntKind.i64 at_ 2).toNat + 1)) = true) (k4 : (ilt 0 (↑(List.take ((iadd IntKind.i64 at_ 2).toNat - at_.toNat) (List.drop at_.toNat xs)).length : Int)) = true) (k5 : (inR 0 (List.take ((iadd IntKind.i64 at_ 2).toNat - at_.toNat) (List.drop at_.toNat xs)).length) = true) (k6 : (AV.has (TI.mk (TD.int zk) 1 1 [zB 0]) ((List.take ((iadd IntKind.i64 at_ 2).toNat - at_.toNat) (List.drop at_.toNat xs)).getD 0 zN)) = true) (k7 : (ilt 1 (↑(List.take ((iadd IntKind.i64 at_ 2).toNat - at_.toNat) (List.drop at_.toNat xs)).length : Int)) = true) (k8 : (inR 1 (List.take ((iadd IntKind.i64 at_ 2).toNat - at_.toNat) (List.drop at_.toNat xs)).length) = true) (k9 : (AV.has (TI.mk (TD.int zk) 1 1 [zB 0]) ((List.take ((iadd IntKind.i64 at_ 2).toNat - at_.toNat) (List.drop at_.toNat xs)).getD 1 zN)) = true) (k10 : (ilt 2 (↑(List.take ((iadd IntKind.i64 at_ 2).toNat - at_.toNat) (List.drop at_.toNat xs)).length : Int)) = false) (k11 : ((AV.tup [zI (ibits BinOp.or IntKind.i64 (ishl IntKind.i64 (ibits BinOp.or IntKind.i64 0 (IntKind.i64.wrap ((List.take ((iadd IntKind.i64 at_ 2).toNat - at_.toNat) (List.drop at_.toNat xs)).getD 0 zN).asInt)) 8) (IntKind.i64.wrap ((List.take ((iadd IntKind.i64 at_ 2).toNat - at_.toNat) (List.drop at_.toNat xs)).getD 1 zN).asInt)), zI 0], [])) = r) : Goes (runP (book.envP 178 spNG 100 noLoops) Try.f178 [.sl 1 xs .sh, .int .i64 at_, .int .i64 2] [] (.f (.f (.f (.f (.t (.t (.f .z)))))))) r :=
  Goes.of_eq (t' := bN (bN (bN (bN (bN (bN (bN (bN (bN (bN (bN (.ret ((AV.tup [zI (ibits BinOp.or IntKind.i64 (ishl IntKind.i64 (ibits BinOp.or IntKind.i64 0 (IntKind.i64.wrap ((z45a1_0 xs at_).getD 0 zN).asInt)) 8) (IntKind.i64.wrap ((z45a1_0 xs at_).getD 1 zN).asInt)), zI 0], []))) (asTold ((p178_2_c6 xs at_)) false)) ((p178_2_c5 xs at_))) ((p178_2_c4 xs at_))) (asTold ((p178_2_c3 xs at_)) true)) ((p178_2_c2 xs at_))) ((p178_2_c1 xs at_))) (asTold ((p178_2_c0 xs at_)) true)) (inR at_ ((iadd IntKind.i64 at_ 2).toNat + 1))) (inR (iadd IntKind.i64 at_ 2) (xs.length + 1))) (asTold (ilt (isub IntKind.i64 (↑xs.length : Int) at_) 2) false)) (asTold (ilt at_ 0) false)) (by kernel_rfl) (.step (told (k0)) (.step (told (k1)) (.step (k2) (.step (k3) (.step (told (k4)) (.step (k5) (.step (k6) (.step (told (k7)) (.step (k8) (.step (k9) (.step (told (k10)) (Goes.leafE (k11)))))))))))))
abbrev z45a2_0 (xs : List AV) (at_ : Int) := (List.take ((iadd IntKind.i64 at_ 4).toNat - at_.toNat) (List.drop at_.toNat xs))
def p178_4_c0 (xs : List AV) (at_ : Int) : Bool := ilt 0 (↑(z45a2_0 xs at_).length : Int)
def p178_4_c1 (xs : List AV) (at_ : Int) : Bool := inR 0 (z45a2_0 xs at_).length
abbrev z45a2_1 := (TI.mk (TD.int zk) 1 1 [zB 0])
def p178_4_c2 (xs : List AV) (at_ : Int) : Bool := AV.has z45a2_1 ((z45a2_0 xs at_).getD 0 zN)
def p178_4_c3 (xs : List AV) (at_ : Int) : Bool := ilt 1 (↑(z45a2_0 xs at_).length : Int)
def p178_4_c4 (xs : List AV) (at_ : Int) : Bool := inR 1 (z45a2_0 xs at_).length
def p178_4_c5 (xs : List AV) (at_ : Int) : Bool := AV.has z45a2_1 ((z45a2_0 xs at_).getD 1 zN)
def p178_4_c6 (xs : List AV) (at_ : Int) : Bool := ilt 2 (↑(z45a2_0 xs at_).length : Int)
def p178_4_c7 (xs : List AV) (at_ : Int) : Bool := inR 2 (z45a2_0 xs at_).length
def p178_4_c8 (xs : List AV) (at_ : Int) : Bool := AV.has z45a2_1 ((z45a2_0 xs at_).getD 2 zN)
def p178_4_c9 (xs : List AV) (at_ : Int) : Bool := ilt 3 (↑(z45a2_0 xs at_).length : Int)
def p178_4_c10 (xs : List AV) (at_ : Int) : Bool := inR 3 (z45a2_0 xs at_).length
def p178_4_c11 (xs : List AV) (at_ : Int) : Bool := AV.has z45a2_1 ((z45a2_0 xs at_).getD 3 zN)
def p178_4_c12 (xs : List AV) (at_ : Int) : Bool := ilt 4 (↑(z45a2_0 xs at_).length : Int)
theorem p178_4 (xs : List AV) (at_ : Int) (r : AV × List (List AV)) (k0 : (ilt at_ 0) = false) (k1 : (ilt (isub IntKind.i64 (↑xs.length : Int) at_) 4) = false) (k2 : (inR (iadd IntKind.i64 at_ 4) (xs.length + 1)) = true) (k3 : (inR at_ ((iadd IntKind.i64 at_ 4).toNat + 1)) = true) (k4 : (ilt 0 (↑(List.take ((iadd IntKind.i64 at_ 4).toNat - at_.toNat) (List.drop at_.toNat xs)).length : Int)) = true) (k5 : (inR 0 (List.take ((iadd IntKind.i64 at_ 4).toNat - at_.toNat) (List.drop at_.toNat xs)).length) = true) (k6 : (AV.has (TI.mk (TD.int zk) 1 1 [zB 0]) ((List.take ((iadd IntKind.i64 at_ 4).toNat - at_.toNat) (List.drop at_.toNat xs)).getD 0 zN)) = true) (k7 : (ilt 1 (↑(List.take ((iadd IntKind.i64 at_ 4).toNat - at_.toNat) (List.drop at_.toNat xs)).length : Int)) = true) (k8 : (inR 1 (List.take ((iadd IntKind.i64 at_ 4).toNat - at_.toNat) (List.drop at_.toNat xs)).length) = true) (k9 : (AV.has (TI.mk (TD.int zk) 1 1 [zB 0]) ((List.take ((iadd IntKind.i64 at_ 4).toNat - at_.toNat) (List.drop at_.toNat xs)).getD 1 zN)) = true) (k10 : (ilt 2 (↑(List.take ((iadd IntKind.i64 at_ 4).toNat - at_.toNat) (List.drop at_.toNat xs)).length : Int)) = true) (k11 : (inR 2 (List.take ((iadd IntKind.i64 at_ 4).toNat - at_.toNat) (List.drop at_.toNat xs)).length) = true) (k12 : (AV.has (TI.mk (TD.int zk) 1 1 [zB 0]) ((List.take ((iadd IntKind.i64 at_ 4).toNat - at_.toNat) (List.drop at_.toNat xs)).getD 2 zN)) = true) (k13 : (ilt 3 (↑(List.take ((iadd IntKind.i64 at_ 4).toNat - at_.toNat) (List.drop at_.toNat xs)).length : Int)) = true) (k14 : (inR 3 (List.take ((iadd IntKind.i64 at_ 4).toNat - at_.toNat) (List.drop at_.toNat xs)).length) = true) (k15 : (AV.has (TI.mk (TD.int zk) 1 1 [zB 0]) ((List.take ((iadd IntKind.i64 at_ 4).toNat - at_.toNat) (List.drop at_.toNat xs)).getD 3 zN)) = true) (k16 : (ilt 4 (↑(List.take ((iadd IntKind.i64 at_ 4).toNat - at_.toNat) (List.drop at_.toNat xs)).length : Int)) = false) (k17 : ((AV.tup [zI (ibits BinOp.or IntKind.i64 (ishl IntKind.i64 (ibits BinOp.or IntKind.i64 (ishl IntKind.i64 (ibits BinOp.or IntKind.i64 (ishl IntKind.i64 (ibits BinOp.or IntKind.i64 0 (IntKind.i64.wrap ((List.take ((iadd IntKind.i64 at_ 4).toNat - at_.toNat) (List.drop at_.toNat xs)).getD 0 zN).asInt)) 8) (IntKind.i64.wrap ((List.take ((iadd IntKind.i64 at_ 4).toNat - at_.toNat) (List.drop at_.toNat xs)).getD 1 zN).asInt)) 8) (IntKind.i64.wrap ((List.take ((iadd IntKind.i64 at_ 4).toNat - at_.toNat) (List.drop at_.toNat xs)).getD 2 zN).asInt)) 8) (IntKind.i64.wrap ((List.take ((iadd IntKind.i64 at_ 4).toNat - at_.toNat) (List.drop at_.toNat xs)).getD 3 zN).asInt)), zI 0], [])) = r) : Goes (runP (book.envP 178 spNG 100 noLoops) Try.f178 [.sl 1 xs .sh, .int .i64 at_, .int .i64 4] [] (.f (.f (.f (.f (.t (.t (.t (.t (.f .z)))))))))) r :=
  Goes.of_eq (t' := bN (bN (bN (bN (bN (bN (bN (bN (bN (bN (bN (bN (bN (bN (bN (bN (bN (.ret ((AV.tup [zI (ibits BinOp.or IntKind.i64 (ishl IntKind.i64 (ibits BinOp.or IntKind.i64 (ishl IntKind.i64 (ibits BinOp.or IntKind.i64 (ishl IntKind.i64 (ibits BinOp.or IntKind.i64 0 (IntKind.i64.wrap ((z45a2_0 xs at_).getD 0 zN).asInt)) 8) (IntKind.i64.wrap ((z45a2_0 xs at_).getD 1 zN).asInt)) 8) (IntKind.i64.wrap ((z45a2_0 xs at_).getD 2 zN).asInt)) 8) (IntKind.i64.wrap ((z45a2_0 xs at_).getD 3 zN).asInt)), zI 0], []))) (asTold ((p178_4_c12 xs at_)) false)) ((p178_4_c11 xs at_))) ((p178_4_c10 xs at_))) (asTold ((p178_4_c9 xs at_)) true)) ((p178_4_c8 xs at_))) ((p178_4_c7 xs at_))) (asTold ((p178_4_c6 xs at_)) true)) ((p178_4_c5 xs at_))) ((p178_4_c4 xs at_))) (asTold ((p178_4_c3 xs at_)) true)) ((p178_4_c2 xs at_))) ((p178_4_c1 xs at_))) (asTold ((p178_4_c0 xs at_)) true)) (inR at_ ((iadd IntKind.i64 at_ 4).toNat + 1))) (inR (iadd IntKind.i64 at_ 4) (xs.length + 1))) (asTold (ilt (isub IntKind.i64 (↑xs.length : Int) at_) 4) false)) (asTold (ilt at_ 0) false)) (by kernel_rfl) (.step (told (k0)) (.step (told (k1)) (.step (k2) (.step (k3) (.step (told (k4)) (.step (k5) (.step (k6) (.step (told (k7)) (.step (k8) (.step (k9) (.step (told (k10)) (.step (k11) (.step (k12) (.step (told (k13)) (.step (k14) (.step (k15) (.step (told (k16)) (Goes.leafE (k17)))))))))))))))))))
end Go.Proofs.Ytdcijmigoefnjaa

/- Chapter 45: numbers of bytes: contracts. -/
set_option linter.unusedVariables false
set_option linter.unusedSimpArgs false
set_option maxRecDepth 100000
set_option maxHeartbeats 0
namespace Go.Proofs.Ytdcijmigoefnjaa
open Go Go.Ev

theorem okL_iff {xs : List AV} : okL xs = true ↔ byteL xs ∧ xs.length ≤ 9223372036854775807 := by
  unfold okL; rw [Bool.and_eq_true, bytB_iff]; unfold lenB; rw [Nat.ble_eq]
theorem spNG_ok : SpecTL Try.prog spNG := ⟨Sum.T_ok (Book.all_ok book_ok 100 3 193), trivial⟩
theorem drop_byte {xs : List AV} (hb : byteL xs) {o : Nat} (h : o < xs.length) : ∃ z : Nat, z < 256 ∧ xs.drop o = .int .u8 (z : Int) :: xs.drop (o + 1) ∧ xs.getD o .unk = .int .u8 (z : Int) := by
  obtain ⟨z, hz, e⟩ := byteL_get hb h
  refine ⟨z, hz, ?_, e⟩
  rw [drop_getD (d := AV.unk) h, e]
theorem or8 (a b : Nat) (ha : a < 36028797018963968) (hb : b < 256) : ibits .or .i64 (ishl .i64 (a : Int) 8) (IntKind.i64.wrap (b : Int)) = ((a * 256 + b : Nat) : Int) := by
  have e1 : ishl .i64 (a : Int) 8 = ((a * 256 : Nat) : Int) := by
    unfold ishl
    rw [IntKind.wrap_i64]
    simp [IntKind.bits]; omega
  have e2 : IntKind.i64.wrap (b : Int) = (b : Int) := by rw [IntKind.wrap_i64]; omega
  have e4 : (a * 256) ||| b = a * 256 + b := or_add _ _ hb
  rw [e1, e2, ibits_eq]
  show IntKind.i64.wrap _ = _
  have e : (BitVec.ofInt IntKind.i64.bits ((a * 256 : Nat) : Int) ||| BitVec.ofInt IntKind.i64.bits (b : Int)).toNat = (a * 256) ||| b := by
    show (BitVec.ofInt 64 ((a * 256 : Nat) : Int) ||| BitVec.ofInt 64 (b : Int)).toNat = _
    rw [BitVec.toNat_or, BitVec.ofInt_natCast, BitVec.ofInt_natCast, BitVec.toNat_ofNat, BitVec.toNat_ofNat, Nat.mod_eq_of_lt (by omega), Nat.mod_eq_of_lt (by omega)]
  rw [e, e4, IntKind.wrap_i64]; omega
theorem c178 (x : List AV × Int × Int) (hx : (okL x.1 && ((numNs.any fun m => ieq x.2.2 m) && (ile 0 x.2.1 && ile (x.2.1 + x.2.2) x.1.length))) = true) : CallsA Try.prog 178 [.sl 1 x.1 .sh, .int .i64 x.2.1, .int .i64 x.2.2] [] (Tree.leaf (.tup [.int .i64 (nv x.1 x.2.1.toNat x.2.2.toNat), .int .i64 0])).val [] := by
  obtain ⟨xs, at_, n⟩ := x
  simp only [Bool.and_eq_true, okL_iff, ile_iff'] at hx
  obtain ⟨⟨hb, hl⟩, hn, h0, h1⟩ := hx
  obtain ⟨o, rfl⟩ : ∃ o : Nat, at_ = o := ⟨at_.toNat, by omega⟩
  have ia1 : (o : Int) + 1 ≤ xs.length → iadd .i64 (o : Int) 1 = ((o + 1 : Nat) : Int) := fun h => by rw [iadd_small (by omega) (by omega)]; omega
  have ia2 : (o : Int) + 2 ≤ xs.length → iadd .i64 (o : Int) 2 = ((o + 2 : Nat) : Int) := fun h => by rw [iadd_small (by omega) (by omega)]; omega
  have ia3 : (o : Int) + 3 ≤ xs.length → iadd .i64 (o : Int) 3 = ((o + 3 : Nat) : Int) := fun h => by rw [iadd_small (by omega) (by omega)]; omega
  have ia4 : (o : Int) + 4 ≤ xs.length → iadd .i64 (o : Int) 4 = ((o + 4 : Nat) : Int) := fun h => by rw [iadd_small (by omega) (by omega)]; omega
  have isb : isub .i64 (xs.length : Int) (o : Int) = (xs.length : Int) - o ∨ (xs.length : Int) < o := by
    by_cases h : (xs.length : Int) < o
    · exact .inr h
    · left; unfold isub; rw [IntKind.wrap_i64]; omega
  revert h1
  refine num_cases (P := fun n => (o : Int) + n ≤ xs.length → CallsA Try.prog 178 [.sl 1 xs .sh, .int .i64 (o : Int), .int .i64 n] [] (.tup [.int .i64 (nv xs (o : Int).toNat n.toNat), .int .i64 0]) []) (fun h1 => ?_) (fun h1 => ?_) (fun h1 => ?_) hn
  · obtain ⟨z0, a0, b0, _⟩ := drop_byte hb (o := o) (by omega)
    have e : List.take ((iadd .i64 (o : Int) 1).toNat - (o : Int).toNat) (List.drop (o : Int).toNat xs) = [.int .u8 (z0 : Int)] := by
      rw [ia1 h1, Int.toNat_natCast, Int.toNat_natCast, show o + 1 - o = 1 by omega, b0]; rfl
    have v : nv xs (o : Int).toNat (1 : Int).toNat = (z0 : Int) := by unfold nv; rw [Int.toNat_natCast, b0]; simp [valB, AV.asInt]
    refine book_ok.pth (by kernel_rfl) spNG_ok (p178_1 xs o _ ?_ ?_ ?_ ?_ ?_ ?_ ?_ ?_ ?_)
    · rw [ilt_no]; omega
    · rcases isb with h | h <;> rw [ilt_no] <;> omega
    · rw [ia1 h1]; exact inR_iff.2 ⟨by omega, by omega⟩
    · rw [ia1 h1]; exact inR_iff.2 ⟨by omega, by omega⟩
    all_goals rw [e]
    · rfl
    · rfl
    · rfl
    · rfl
    · have := or8 0 z0 (by omega) a0
      rw [v]
      show (AV.tup [.int .i64 (ibits .or .i64 (ishl .i64 ((0 : Nat) : Int) 8) (IntKind.i64.wrap (z0 : Int))), .int .i64 0], _) = _
      rw [this]; simp
  · obtain ⟨z0, a0, b0, _⟩ := drop_byte hb (o := o) (by omega)
    obtain ⟨z1, a1, b1, _⟩ := drop_byte hb (o := o + 1) (by omega)
    have e : List.take ((iadd .i64 (o : Int) 2).toNat - (o : Int).toNat) (List.drop (o : Int).toNat xs) = [.int .u8 (z0 : Int), .int .u8 (z1 : Int)] := by
      rw [ia2 h1, Int.toNat_natCast, Int.toNat_natCast, show o + 2 - o = 2 by omega, b0, b1]; rfl
    have v : nv xs (o : Int).toNat (2 : Int).toNat = ((z0 * 256 + z1 : Nat) : Int) := by unfold nv; rw [Int.toNat_natCast, b0, b1]; simp [valB, AV.asInt]
    refine book_ok.pth (by kernel_rfl) spNG_ok (p178_2 xs o _ ?_ ?_ ?_ ?_ ?_ ?_ ?_ ?_ ?_ ?_ ?_ ?_)
    · rw [ilt_no]; omega
    · rcases isb with h | h <;> rw [ilt_no] <;> omega
    · rw [ia2 h1]; exact inR_iff.2 ⟨by omega, by omega⟩
    · rw [ia2 h1]; exact inR_iff.2 ⟨by omega, by omega⟩
    all_goals rw [e]
    iterate 7 rfl
    · have q0 := or8 0 z0 (by omega) a0
      have q1 := or8 z0 z1 (by omega) a1
      rw [v]
      show (AV.tup [.int .i64 (ibits .or .i64 (ishl .i64 (ibits .or .i64 (ishl .i64 ((0 : Nat) : Int) 8) (IntKind.i64.wrap (z0 : Int))) 8) (IntKind.i64.wrap (z1 : Int))), .int .i64 0], _) = _
      rw [q0, Nat.zero_mul, Nat.zero_add, q1]
  · obtain ⟨z0, a0, b0, _⟩ := drop_byte hb (o := o) (by omega)
    obtain ⟨z1, a1, b1, _⟩ := drop_byte hb (o := o + 1) (by omega)
    obtain ⟨z2, a2, b2, _⟩ := drop_byte hb (o := o + 1 + 1) (by omega)
    obtain ⟨z3, a3, b3, _⟩ := drop_byte hb (o := o + 1 + 1 + 1) (by omega)
    have e : List.take ((iadd .i64 (o : Int) 4).toNat - (o : Int).toNat) (List.drop (o : Int).toNat xs) = [.int .u8 (z0 : Int), .int .u8 (z1 : Int), .int .u8 (z2 : Int), .int .u8 (z3 : Int)] := by
      rw [ia4 h1, Int.toNat_natCast, Int.toNat_natCast, show o + 4 - o = 4 by omega, b0, b1, b2, b3]; rfl
    have v : nv xs (o : Int).toNat (4 : Int).toNat = ((((z0 * 256 + z1) * 256 + z2) * 256 + z3 : Nat) : Int) := by unfold nv; rw [Int.toNat_natCast, b0, b1, b2, b3]; simp [valB, AV.asInt]
    refine book_ok.pth (by kernel_rfl) spNG_ok (p178_4 xs o _ ?_ ?_ ?_ ?_ ?_ ?_ ?_ ?_ ?_ ?_ ?_ ?_ ?_ ?_ ?_ ?_ ?_ ?_)
    · rw [ilt_no]; omega
    · rcases isb with h | h <;> rw [ilt_no] <;> omega
    · rw [ia4 h1]; exact inR_iff.2 ⟨by omega, by omega⟩
    · rw [ia4 h1]; exact inR_iff.2 ⟨by omega, by omega⟩
    all_goals rw [e]
    iterate 13 rfl
    · have q0 := or8 0 z0 (by omega) a0
      have q1 := or8 z0 z1 (by omega) a1
      have q2 := or8 (z0 * 256 + z1) z2 (by omega) a2
      have q3 := or8 ((z0 * 256 + z1) * 256 + z2) z3 (by omega) a3
      rw [v]
      show (AV.tup [.int .i64 (ibits .or .i64 (ishl .i64 (ibits .or .i64 (ishl .i64 (ibits .or .i64 (ishl .i64 (ibits .or .i64 (ishl .i64 ((0 : Nat) : Int) 8) (IntKind.i64.wrap (z0 : Int))) 8) (IntKind.i64.wrap (z1 : Int))) 8) (IntKind.i64.wrap (z2 : Int))) 8) (IntKind.i64.wrap (z3 : Int))), .int .i64 0], _) = _
      rw [q0, Nat.zero_mul, Nat.zero_add, q1, q2, q3]

theorem s178 : SumTOk Try.prog 178 S178 := sumW_ok c178
theorem s115v {f : FuncId} (h : SumTOk Try.prog f S115) : SumTOk Try.prog f S115v := by
  refine sumW_ok fun x hx => ?_
  obtain ⟨xs, n⟩ := x
  simp only [Bool.and_eq_true, okL_iff] at hx
  obtain ⟨⟨hb, hl⟩, hn, hle⟩ := hx
  have h4 : lenB xs = true := by unfold lenB; rw [Nat.ble_eq]; exact hl
  have := (s115t h) [.sl 1 xs .sh, .int .i64 n] [] _ (show ((S115t [.sl 1 xs .sh, .int .i64 n] []).Ret _) from ⟨rfl, by simp only [Bool.and_eq_true]; exact ⟨hn, byteL_int hb, h4, hle⟩, rfl⟩)
  rw [treeMap_val] at this
  have t : CallsA Try.prog f [.sl 1 xs .sh, .int .i64 n] [] (.tup [wA (getHi xs n, getLo xs n), .bool true]) [] := this
  have e : (getHi xs n, getLo xs n) = wv xs n.toNat := by
    rw [ile_iff'] at hle
    have hz : 0 ≤ n ∧ n ≤ 16 := by
      simp only [sizeOk, sizeNs, List.any_cons, List.any_nil, Bool.or_false, Bool.or_eq_true, ieq, beq_iff_eq] at hn
      omega
    obtain ⟨hi, lo, e1, e2, e3⟩ := getW_eq xs hb n.toNat (by omega) (by omega)
    unfold getHi getLo wv wvH wvL
    rw [e1, ← e3]
    apply Prod.ext <;> simp only <;> congr 1 <;> omega
  rw [e] at t
  exact t

end Go.Proofs.Ytdcijmigoefnjaa

/- Chapter 45: sums of bytes: contracts. -/
set_option linter.unusedVariables false
set_option linter.unusedSimpArgs false
set_option maxRecDepth 100000
set_option maxHeartbeats 0
namespace Go.Proofs.Ytdcijmigoefnjaa
open Go Go.Ev

def wt (j : Nat) : Nat := bif Nat.beq (j % 2) 0 then 256 else 1
theorem wt_even {j : Nat} (h : j % 2 = 0) : wt j = 256 := by unfold wt; rw [h]; rfl
theorem wt_odd {j : Nat} (h : j % 2 = 1) : wt j = 1 := by unfold wt; rw [h]; rfl
theorem sumN_snoc (x : AV) : ∀ (xs : List AV) (j : Nat), sumN (xs ++ [x]) j = sumN xs j + x.asInt.toNat * wt (j + xs.length)
  | [], j => by simp [sumN, wt]
  | y :: ys, j => by
    simp only [List.cons_append, sumN, sumN_snoc x ys (j + 1), List.length_cons]
    rw [show j + 1 + ys.length = j + (ys.length + 1) by omega]; omega
theorem sumN_le : ∀ {xs : List AV} (j : Nat), byteL xs → sumN xs j ≤ 65280 * xs.length
  | [], _, _ => by simp [sumN]
  | x :: xs, j, h => by
    have h1 := sumN_le (xs := xs) (j + 1) (fun y hy => h y (List.mem_cons_of_mem _ hy))
    obtain ⟨z, hz, rfl⟩ := h x (by simp)
    simp only [sumN, AV.asInt, Int.toNat_natCast, List.length_cons]
    have : z * (bif Nat.beq (j % 2) 0 then 256 else 1) ≤ 65280 := by
      cases Nat.beq (j % 2) 0
      · simp only [cond_false]; omega
      · simp only [cond_true]; omega
    omega
theorem sumN_take {xs : List AV} {j : Nat} {z : Nat} (hj : j < xs.length) (hz : xs.getD j .unk = .int .u8 (z : Int)) : sumN (xs.take (j + 1)) 0 = sumN (xs.take j) 0 + z * wt j := by
  have e : xs.take (j + 1) = xs.take j ++ [xs.getD j .unk] := by
    rw [List.take_add_one, List.getD_eq_getElem?_getD, List.getElem?_eq_getElem hj]; rfl
  rw [e, sumN_snoc, hz, List.length_take, Nat.min_eq_left (by omega), Nat.zero_add]; simp [AV.asInt]
theorem irem2 (j : Nat) : irem (j : Int) 2 = ((j % 2 : Nat) : Int) := by rw [rem2]; omega

theorem pre72_ok {xs : List AV} {x : X72} (h : pre72 xs x = true) : x = (0, 0) ∧ byteL xs ∧ xs.length ≤ 65536 := by
  obtain ⟨i, n⟩ := x
  simp only [pre72, Bool.and_eq_true, ieq, beq_iff_eq, bytB_iff, shortB, Nat.ble_eq] at h
  obtain ⟨rfl, rfl, h1, h2⟩ := h
  exact ⟨rfl, h1, h2⟩
structure P72 (xs : List AV) (x : X72) : Prop where
  at_ : ∃ j : Nat, j ≤ xs.length ∧ x = ((j : Int), ((sumN (xs.take j) 0 : Nat) : Int))
theorem shl8 {z : Nat} (h : z < 256) : ishl .i64 (z : Int) 8 = ((z * 256 : Nat) : Int) ∧ ishl .i64 (z : Int) 0 = (z : Int) := by
  unfold ishl
  rw [IntKind.wrap_i64, IntKind.wrap_i64]
  simp [IntKind.bits]; omega
theorem step72 {xs : List AV} (hb : byteL xs) (hl : xs.length ≤ 65536) (x : X72) (hp : P72 xs x) : Round (book.envP 72 noSpec big noLoops) (loopBody Try.f72 3) (book.clean 72 3) (book.clean 72 (3 + 500)) (st72 xs) pr72 (P72 xs) (fun x => (F72 xs x).val) (fun x => (xs.length - x.1).toNat) x := by
  obtain ⟨j, hj, rfl⟩ := hp
  have fac : ∀ h : ilt (j : Int) (xs.length : Int) = true, ∃ z : Nat, z < 256 ∧ xs.getD (j : Int).toNat .unk = .int .u8 (z : Int) ∧ xs.getD j .unk = .int .u8 (z : Int) ∧ j < xs.length := fun h => by
    rw [ilt_iff] at h
    obtain ⟨z, hz, e⟩ := byteL_get hb (i := j) (by omega)
    exact ⟨z, hz, by rw [Int.toNat_natCast]; exact e, e, by omega⟩
  have sh : isub .i64 8 (imul .i64 (irem (j : Int) 2) 8) = if j % 2 = 0 then 8 else 0 := by
    rw [irem2]
    rcases Nat.mod_two_eq_zero_or_one j with h | h <;> rw [h] <;> rfl
  have bd := sumN_le 0 (fun y hy => hb y (List.mem_of_mem_take hy) : byteL (xs.take j))
  rw [List.length_take, Nat.min_eq_left hj] at bd
  refine r72a xs j _ _ _ _ (fun h => ?_) (fun h => ?_) (fun h => ?_) (fun h => ?_) (fun h => ?_)
  · rw [ilt_iff] at h; exact inR_iff.2 ⟨by omega, by omega⟩
  · obtain ⟨z, hz, e, _, _⟩ := fac h
    rw [e]; rfl
  · rw [sh]; split <;> rfl
  · obtain ⟨z, hz, e, e2, hlt⟩ := fac h
    rw [e]
    simp only [AV.asInt, wrapI hz, sh]
    have e3 : iadd .i64 (j : Int) 1 = ((j + 1 : Nat) : Int) := by rw [iadd_small (by omega) (by omega)]; omega
    have e4 : iadd .i64 ((sumN (xs.take j) 0 : Nat) : Int) (ishl .i64 (z : Int) (if j % 2 = 0 then 8 else 0)) = ((sumN (xs.take (j + 1)) 0 : Nat) : Int) := by
      rw [sumN_take hlt e2]
      rcases Nat.mod_two_eq_zero_or_one j with h | h
      · rw [if_pos h, (shl8 hz).1, wt_even h, iadd_small (by omega) (by omega)]; omega
      · rw [if_neg (by omega), (shl8 hz).2, wt_odd h, iadd_small (by omega) (by omega)]; omega
    rw [e3, e4]
    exact ⟨⟨j + 1, by omega, rfl⟩, rfl, by simp only; omega⟩
  · rw [ilt_no] at h
    have : j = xs.length := by omega
    subst this
    show _ = (Ex.exit 0, r72a_o0 xs _ _)
    rw [List.take_length]; rfl
theorem lok72 {xs : List AV} (hb : byteL xs) (hl : xs.length ≤ 65536) {loops} : LoopOk (book.envP 72 noSpec big loops) (loopBody Try.f72 3) (lp72 xs) :=
  Book.loop_ok (loops' := noLoops) (noInner (by kernel_rfl)) (by kernel_rfl) (fun x hx => by
    obtain ⟨rfl, _, _⟩ := pre72_ok hx
    exact ⟨⟨0, by omega, rfl⟩, by unfold big; simp only; omega⟩) (step72 hb hl)

structure PB (n : Int) : Prop where
  a : 0 ≤ n
  b : n ≤ 4611686018427387904
theorem andB {n : Int} (h0 : 0 ≤ n) (h1 : n ≤ 4611686018427387904) : ibits .and .i64 n 65535 = n % 65536 := by
  obtain ⟨m, rfl⟩ : ∃ m : Nat, n = m := ⟨n.toNat, by omega⟩
  rw [ibits_eq]
  show IntKind.i64.wrap _ = _
  have e : (BitVec.ofInt IntKind.i64.bits (m : Int) &&& BitVec.ofInt IntKind.i64.bits 65535).toNat = m % 65536 := by
    show (BitVec.ofInt 64 (m : Int) &&& BitVec.ofInt 64 ((65535 : Nat) : Int)).toNat = _
    rw [BitVec.toNat_and, BitVec.ofInt_natCast, BitVec.ofInt_natCast, BitVec.toNat_ofNat, BitVec.toNat_ofNat, Nat.mod_eq_of_lt (by omega), Nat.mod_eq_of_lt (by omega)]
    exact Nat.and_two_pow_sub_one_eq_mod m 16
  rw [e, IntKind.wrap_i64]; omega
theorem shrB {n : Int} (h0 : 0 ≤ n) : ishr .i64 n 16 = n / 65536 := by
  unfold ishr; rw [Int.fdiv_eq_ediv_of_nonneg _ (by decide)]; simp [IntKind.bits]
theorem ocI_pos {n : Int} (h : n ≠ 0) : ocI n = (n - 1) % 65535 + 1 := by
  unfold ocI
  have : ieq n 0 = false := by simp [ieq, h]
  rw [this]; rfl
theorem stepB (n : Int) (hp : PB n) : Round (book.envP 72 noSpec big noLoops) (loopBody Try.f72 7) (book.clean 72 7) (book.clean 72 (7 + 500)) stB prB PB (fun x => (FB x).val) (fun x => x.toNat) n := by
  obtain ⟨h0, h1⟩ := hp
  refine r72b n _ _ _ (fun h => ?_) (fun h => ?_)
  · rw [ilt_iff] at h
    show OnOk PB _ _ n (iadd .i64 (ibits .and .i64 n 65535) (ishr .i64 n 16))
    have e : iadd .i64 (ibits .and .i64 n 65535) (ishr .i64 n 16) = n % 65536 + n / 65536 := by
      rw [andB h0 h1, shrB h0, iadd_small (by omega) (by omega)]
    rw [e]
    refine ⟨⟨by omega, by omega⟩, ?_, by omega⟩
    have : ocI (n % 65536 + n / 65536) = ocI n := by
      rw [ocI_pos (by omega), ocI_pos (by omega)]; omega
    simp only [FB, Tree.val, this]
  · rw [ilt_no] at h
    have : ocI n = n := by
      by_cases hz : n = 0
      · subst hz; rfl
      · rw [ocI_pos hz]; omega
    simp only [FB, Tree.val, this]; rfl
theorem lokB {loops} : LoopOk (book.envP 72 noSpec big loops) (loopBody Try.f72 7) lpB :=
  Book.loop_ok (loops' := noLoops) (noInner (by kernel_rfl)) (by kernel_rfl) (fun x hx => by
    simp only [preB, Bool.and_eq_true, ile_iff'] at hx
    exact ⟨⟨hx.1, hx.2⟩, by unfold big; omega⟩) stepB

structure P73 (xs : List AV) (x : X72) : Prop where
  at_ : ∃ j : Nat, j ≤ xs.length ∧ x = ((j : Int), ocI ((sumN (xs.take j) 0 : Nat) : Int))
theorem oc_range (s : Nat) : 0 ≤ ocI (s : Int) ∧ ocI (s : Int) ≤ 65535 := by
  by_cases h : (s : Int) = 0
  · rw [h]; exact ⟨by decide, by decide⟩
  · rw [ocI_pos h]; omega
theorem run2 {P : Program} {K : Book} (hK : K.Ok P) {f : FuncId} {fn : Func} (hf : K.fn.get f = some fn) {spec : List (FuncId × SumT)} (hs : SpecTL P spec) {fuel k k2 : Nat} {l l2 : AS → T (Tree (Ex × AS))}
    (hn : nodupB ((bodyLoops fn).map firstKey) = true) (hl : LoopOk (K.envP f spec fuel (loopsAt [(k, l), (k2, l2)])) (loopBody fn k) l) (hl2 : LoopOk (K.envP f spec fuel (loopsAt [(k, l), (k2, l2)])) (loopBody fn k2) l2) {args : List AV} {passed : List (List AV)} {q : Q} {r : AV} {passed' : List (List AV)}
    (h : Goes (runP (K.envP f spec fuel (loopsAt [(k, l), (k2, l2)])) fn args passed q) (r, passed')) : CallsA P f args passed r passed' :=
  hK.path hf hs fuel _ (fun _ hb => loops_ok hb hn (loopsAt_cons hl (loopsAt_one hl2))) q h.ret

theorem sum_end (xs : List AV) : (AV.int .i64 (isub .i64 65535 (ocI ((sumN xs 0 : Nat) : Int))), ([] : List (List AV))) = (AV.int .i64 (sumV xs), []) := by
  have := oc_range (sumN xs 0)
  have e : isub .i64 65535 (ocI ((sumN xs 0 : Nat) : Int)) = sumV xs := by
    unfold isub sumV; rw [IntKind.wrap_i64]; omega
  rw [e]
theorem s72 : SumTOk Try.prog 72 S72 := sumW_ok fun xs h => by
  simp only [Bool.and_eq_true, bytB_iff, shortB, Nat.ble_eq] at h
  have hp : pre72 xs (0, 0) = true := by
    simp only [pre72, Bool.and_eq_true, bytB_iff, shortB, Nat.ble_eq]; exact ⟨rfl, rfl, h.1, h.2⟩
  have bd := sumN_le 0 h.1
  exact run2 book_ok (by kernel_rfl) noSpec_ok (by kernel_rfl) (lok72 h.1 h.2) lokB (p72 xs _ hp (by
    show preB ((sumN xs 0 : Nat) : Int) = true
    simp only [preB, Bool.and_eq_true, ile_iff']; omega) (sum_end xs))
end Go.Proofs.Ytdcijmigoefnjaa
