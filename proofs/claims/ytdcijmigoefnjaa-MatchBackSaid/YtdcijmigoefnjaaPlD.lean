import Derived.Test.YtdcijmigoefnjaaL11x
import Derived.Test.YtdcijmigoefnjaaP45a
import Derived.Test.YtdcijmigoefnjaaPlB
import Derived.Test.YtdcijmigoefnjaaPlO
import Derived.Test.YtdcijmigoefnjaaL11w
import Derived.Test.YtdcijmigoefnjaaD03
import Derived.Test.YtdcijmigoefnjaaP11m
/- Chapter 11: a match's bytes and back, plain. -/
set_option linter.unusedVariables false
set_option linter.unusedSimpArgs false
set_option maxRecDepth 100000
set_option maxHeartbeats 0
namespace Go.Proofs.Ytdcijmigoefnjaa
open Go Go.Ev

theorem encL_ne2 {x : XO} (h : rightO x = true) (t : List AV) : encL x ++ t ≠ [] := by
  rw [encL_eq (right_f h)]; simp
/-- parts' bytes give the parts -/
theorem dec_of_enc : ∀ (xs : List AV), xs.all isOx = true → rightsB xs = true → decL (encsL xs) = xs ∧ decC (encsL xs) = 0
  | [], _, _ => ⟨rfl, rfl⟩
  | v :: xs, ho, hr => by
    simp only [List.all_cons, Bool.and_eq_true] at ho
    have hr : (rightO (ox v) && rightsB xs) = true := hr
    rw [Bool.and_eq_true] at hr
    obtain ⟨a, b⟩ := dec_of_enc xs ho.2 hr.2
    obtain ⟨ev, hi⟩ := ox_of ho.1
    have hb := encs_bytes xs ho.2 hr.2
    obtain ⟨d1, d2, d3⟩ := dec_enc hr.1 hi hb
    have e : encsL (v :: xs) = encL (ox v) ++ encsL xs := rfl
    have hbb : byteL (encL (ox v) ++ encsL xs) := fun y hy => (List.mem_append.1 hy).elim ((enc_bytes hr.1 hi).1 y) (hb y)
    obtain ⟨s1, s2⟩ := dec_step hbb (encL_ne2 hr.1 _) (by rw [d1]; rfl)
    have dr : List.drop (4 + byN (encL (ox v) ++ encsL xs) 3).toNat (encL (ox v) ++ encsL xs) = encsL xs := by
      rw [d3, Int.toNat_natCast, List.drop_left]
    rw [dr] at s1 s2
    rw [e, s1, s2, a, b, d2, ← ev]
    exact ⟨rfl, rfl⟩
theorem ox_oxA (x : XO) : ox (oxA x) = x := rfl
/-- bytes that give parts are the parts' bytes -/
theorem enc_of_dec : ∀ (k : Nat) (ys : List AV), ys.length ≤ k → byteL ys → decC ys = 0 → encsL (decL ys) = ys ∧ rightsB (decL ys) = true
  | 0, ys, hk, _, _ => by
    obtain rfl : ys = [] := List.length_eq_zero_iff.1 (by omega)
    exact ⟨rfl, rfl⟩
  | k + 1, ys, hk, hb, h => by
    by_cases hn : ys = []
    · subst hn; exact ⟨rfl, rfl⟩
    cases hq : ieq (decCode ys) 0 with
    | false =>
      have := (dec_stop hn hq).2
      rw [h] at this; rw [← this] at hq; cases hq
    | true =>
      obtain ⟨s1, s2⟩ := dec_step hb hn hq
      obtain ⟨_, _, h4, h5⟩ := dec_ok hb hq
      obtain ⟨r1, r2, _, _⟩ := enc_dec hb (by simpa [ieq] using hq : decCode ys = 0)
      obtain ⟨a, b⟩ := enc_of_dec k (ys.drop (4 + byN ys 3).toNat) (by rw [List.length_drop]; omega) (fun z hz => hb z (List.mem_of_mem_drop hz)) (by rw [← s2]; exact h)
      rw [s1]
      constructor
      · show encL (ox (oxA (decX ys))) ++ encsL (decL (ys.drop (4 + byN ys 3).toNat)) = ys
        rw [a, ox_oxA, r2, List.take_append_drop]
      · show (rightO (ox (oxA (decX ys))) && rightsB (decL (ys.drop (4 + byN ys 3).toNat))) = true
        rw [b, ox_oxA, r1]; rfl
/-- a number's two bytes -/
theorem nbyte8 {n : Nat} (h : n < 65536) : nbyte (n : Int) 8 = .int .u8 ((n / 256 : Nat) : Int) := by
  unfold nbyte ishr
  rw [Int.fdiv_eq_ediv_of_nonneg _ (by decide), IntKind.wrap_u8]
  rw [show (2 : Int) ^ (min (8 : Int).toNat (IntKind.bits .i64)) = 256 by decide]
  congr 1; omega
theorem nbyte0 {n : Nat} : nbyte (n : Int) 0 = .int .u8 ((n % 256 : Nat) : Int) := by
  unfold nbyte ishr
  rw [Int.fdiv_eq_ediv_of_nonneg _ (by decide), IntKind.wrap_u8]
  rw [show (2 : Int) ^ (min (0 : Int).toNat (IntKind.bits .i64)) = 1 by decide]
  congr 1; omega
theorem nv_head {n : Nat} (h : n < 65536) (r : List AV) : nv (.int .u8 0 :: .int .u8 1 :: nbyte (n : Int) 8 :: nbyte (n : Int) 0 :: r) 2 2 = n := by
  rw [nbyte8 h, nbyte0]
  unfold nv
  simp only [List.drop_succ_cons, List.drop_zero, List.take_succ_cons, List.take_zero, valB, AV.asInt, Int.toNat_natCast, List.foldl_cons, List.foldl_nil]
  omega
theorem nv_ver (r : List AV) : nv (.int .u8 0 :: .int .u8 1 :: r) 0 2 = 1 := by
  unfold nv; rfl
theorem nz_rep (n : Nat) : nzB (List.replicate n (.int .u8 0)) = false := by
  induction n with
  | zero => rfl
  | succ n ih => rw [List.replicate_succ]; unfold nzB at ih ⊢; rw [List.any_cons, ih]; rfl
theorem nz_all : ∀ {l : List AV}, byteL l → nzB l = false → l = List.replicate l.length (.int .u8 0)
  | [], _, _ => rfl
  | x :: l, hb, h => by
    obtain ⟨z, _, rfl⟩ := hb x (List.mem_cons_self ..)
    unfold nzB at h
    rw [List.any_cons, Bool.or_eq_false_iff] at h
    have hz : z = 0 := by
      have := h.1
      simp only [AV.asInt, ieq, Bool.not_eq_false', beq_iff_eq] at this
      omega
    subst hz
    rw [List.length_cons, List.replicate_succ, ← nz_all (fun y hy => hb y (List.mem_cons_of_mem _ hy)) h.2]
    rfl
theorem back1 {xs t : List AV} (ho : okX xs = true) (he : okEnc xs = true) (ht : byteL t) :
    okD (enc11 xs ++ t) = true ∧ decL (bdL (enc11 xs ++ t)) = xs ∧ padI (nv (enc11 xs ++ t) 2 2) = ((enc11 xs).length : Int) := by
  have he' := he
  simp only [okEnc, Bool.and_eq_true, Nat.ble_eq] at he'
  obtain ⟨hc, hr, hl⟩ := he'
  obtain ⟨d1, d2⟩ := dec_of_enc xs (okX_iff.1 ho).1 hr
  have p := padI_ge (n := ((4 + (encsL xs).length : Nat) : Int)) (by omega)
  have len : (enc11 xs).length = (padI ((4 + (encsL xs).length : Nat) : Int)).toNat := by
    unfold enc11; simp only [List.length_cons, List.length_append, List.length_replicate]; omega
  have hZ : enc11 xs ++ t = .int .u8 0 :: .int .u8 1 :: nbyte ((4 + (encsL xs).length : Nat) : Int) 8 :: nbyte ((4 + (encsL xs).length : Nat) : Int) 0 :: (encsL xs ++ (List.replicate ((padI ((4 + (encsL xs).length : Nat) : Int)).toNat - (4 + (encsL xs).length)) (.int .u8 0) ++ t)) := by
    unfold enc11; simp only [List.cons_append, List.append_assoc]
  have n2 : nv (enc11 xs ++ t) 2 2 = ((4 + (encsL xs).length : Nat) : Int) := by rw [hZ]; exact nv_head (by omega) _
  have n0 : nv (enc11 xs ++ t) 0 2 = 1 := by rw [hZ]; exact nv_ver _
  have bd : bdL (enc11 xs ++ t) = encsL xs := by
    unfold bdL
    rw [n2, hZ, Int.toNat_natCast, show 4 + (encsL xs).length - 4 = (encsL xs).length by omega]
    exact List.take_left
  have pd : pdL (enc11 xs ++ t) = List.replicate ((padI ((4 + (encsL xs).length : Nat) : Int)).toNat - (4 + (encsL xs).length)) (.int .u8 0) := by
    unfold pdL
    rw [n2, hZ, Int.toNat_natCast, show 4 + (encsL xs).length = (encsL xs).length + 1 + 1 + 1 + 1 by omega]
    simp only [List.drop_succ_cons]
    rw [List.drop_left]
    exact List.take_left' (by rw [List.length_replicate])
  have hd : hdC (enc11 xs ++ t) = -1 := by
    unfold hdC
    rw [n2, n0]
    have z : ((enc11 xs ++ t).length : Int) = (padI ((4 + (encsL xs).length : Nat) : Int)) + t.length := by rw [List.length_append, len]; omega
    rw [show ilt ((enc11 xs ++ t).length : Int) 4 = false by rw [ilt_no]; omega, show ilt (((4 + (encsL xs).length : Nat)) : Int) 4 = false by rw [ilt_no]; omega,
      show ilt ((enc11 xs ++ t).length : Int) (padI ((4 + (encsL xs).length : Nat) : Int)) = false by rw [ilt_no]; omega, show ilt 1004 ((4 + (encsL xs).length : Nat) : Int) = false by rw [ilt_no]; omega]
    rfl
  refine ⟨?_, by rw [bd, d1], by rw [n2, len]; omega⟩
  unfold okD
  rw [hd, bd, d1, d2, hc, pd, nz_rep]; rfl
theorem take4 {n : Nat} {a b c d : AV} {r : List AV} (h : 4 ≤ n) : List.take n (a :: b :: c :: d :: r) = a :: b :: c :: d :: List.take (n - 4) r := by
  obtain ⟨k, rfl⟩ : ∃ k, n = k + 1 + 1 + 1 + 1 := ⟨n - 4, by omega⟩
  rfl
theorem back2 {ys : List AV} (hy : okL ys = true) (h : okD ys = true) :
    okEnc (decL (bdL ys)) = true ∧ enc11 (decL (bdL ys)) = ys.take (padI (nv ys 2 2)).toNat ∧ padI (nv ys 2 2) ≤ ys.length := by
  have hb := (okL_iff.1 hy).1
  unfold okD at h
  simp only [Bool.and_eq_true] at h
  obtain ⟨hm, hc, hk, hz⟩ := h
  obtain ⟨f1, f2, f3, f4⟩ := hd_facts hm
  have p := padI_ge (n := nv ys 2 2) (by omega)
  obtain ⟨x1, x2⟩ := bdL_ok hb f2
  obtain ⟨e1, e2⟩ := enc_of_dec (bdL ys).length (bdL ys) (Nat.le_refl _) x1 (by simpa [ieq] using hc)
  have bl : (bdL ys).length = (nv ys 2 2).toNat - 4 := by unfold bdL; rw [List.length_take, List.length_drop]; omega
  obtain ⟨z0, z1, l0, l1, g0, g1, w0⟩ := nv_two hb (o := 0) (by omega)
  obtain ⟨z2, z3, l2, l3, g2, g3, w2⟩ := nv_two hb (o := 2) (by omega)
  refine ⟨?_, ?_, f3⟩
  · unfold okEnc; rw [hk, e2, e1, show Nat.ble (bdL ys).length 1000 = true by rw [Nat.ble_eq]; exact x2]; rfl
  · have hs : ys = .int .u8 0 :: .int .u8 1 :: .int .u8 (z2 : Int) :: .int .u8 (z3 : Int) :: ys.drop 4 := by
      have a0 := getD_drop (xs := ys) (j := 0) (by omega)
      have a1 := getD_drop (xs := ys) (j := 1) (by omega)
      have a2 := getD_drop (xs := ys) (j := 2) (by omega)
      have a3 := getD_drop (xs := ys) (j := 3) (by omega)
      have g1 : ys.getD 1 .unk = .int .u8 (z1 : Int) := g1
      have g3 : ys.getD 3 .unk = .int .u8 (z3 : Int) := g3
      rw [f4] at w0
      obtain rfl : z0 = 0 := by omega
      obtain rfl : z1 = 1 := by omega
      rw [g0] at a0; rw [g1] at a1; rw [g2] at a2; rw [g3] at a3
      rw [List.drop_zero] at a0
      conv => lhs; rw [a0, a1, a2, a3]
      rfl
    have ln : ((4 + (bdL ys).length : Nat) : Int) = nv ys 2 2 := by rw [bl]; omega
    have ln' : 4 + (bdL ys).length = (nv ys 2 2).toNat := by rw [bl]; omega
    have pz := nz_all (l := pdL ys) (fun y hy => hb y (List.mem_of_mem_drop (List.mem_of_mem_take hy))) (by simpa using hz)
    have pl : (pdL ys).length = (padI (nv ys 2 2)).toNat - (nv ys 2 2).toNat := by unfold pdL; rw [List.length_take, List.length_drop]; omega
    unfold enc11
    rw [e1, ln, ln']
    have nb8 : nbyte (nv ys 2 2) 8 = .int .u8 (z2 : Int) := by
      rw [w2, nbyte8 (by omega)]; congr 2; omega
    have nb0 : nbyte (nv ys 2 2) 0 = .int .u8 (z3 : Int) := by
      rw [w2, nbyte0]; congr 2; omega
    rw [nb8, nb0]
    have tk : List.take (padI (nv ys 2 2)).toNat ys = .int .u8 0 :: .int .u8 1 :: .int .u8 (z2 : Int) :: .int .u8 (z3 : Int) :: List.take ((padI (nv ys 2 2)).toNat - 4) (ys.drop 4) := by
      exact (congrArg (List.take _) hs).trans (take4 (by omega))
    rw [tk]
    have sp : List.take ((padI (nv ys 2 2)).toNat - 4) (ys.drop 4) = bdL ys ++ pdL ys := by
      rw [show (padI (nv ys 2 2)).toNat - 4 = ((nv ys 2 2).toNat - 4) + ((padI (nv ys 2 2)).toNat - (nv ys 2 2).toNat) by omega, List.take_add]
      unfold bdL pdL
      rw [List.drop_drop, show 4 + ((nv ys 2 2).toNat - 4) = (nv ys 2 2).toNat by omega]
    rw [sp, ← pl, ← pz]
end Go.Proofs.Ytdcijmigoefnjaa

/- Chapter 11: a match out of bytes: the law's call. -/
set_option linter.unusedVariables false
set_option linter.unusedSimpArgs false
set_option maxRecDepth 100000
set_option maxHeartbeats 0
namespace Go.Proofs.Ytdcijmigoefnjaa
open Go Go.Ev

theorem sameO_self (x : XO) : sameO x x = true := by
  unfold sameO; simp [ieq_self, sameW]
theorem eqO_self : ∀ xs : List AV, eqO xs xs = true
  | [] => rfl
  | x :: xs => by simp only [eqO, sameO_self, eqO_self xs, Bool.and_true]
end Go.Proofs.Ytdcijmigoefnjaa

/- Chapter 10: the laws' calls (printed by program). -/
set_option linter.unusedVariables false
set_option maxRecDepth 100000
set_option maxHeartbeats 0
namespace Go.Proofs.Ytdcijmigoefnjaa
open Go Go.Ev

theorem p80 (v : AV) (xs : List AV) (r : AV × List (List AV)) (k0 : (((0 + (v :: xs).length) * 1).ble 140737488355328) = true) (k1 : ((0 + (v :: xs).length).ble 140737488355328) = true) (k2 : ((AV.sl 1 (v :: xs) (St.own []), [])) = r) : Goes (runP (book.envP 80 noSpec 100 noLoops) Try.f80 [.sl 1 (v :: xs) .sh] [] (.f (.f .z))) r :=
  Goes.of_eq (t' := Bool.rec (motive := fun _ => TR) .no (Bool.rec (motive := fun _ => TR) .no (.ret ((AV.sl 1 (v :: xs) (St.own []), []))) ((0 + (v :: xs).length).ble 140737488355328)) (((0 + (v :: xs).length) * 1).ble 140737488355328)) (by kernel_rfl) (.step (k0) (.step (k1) (Goes.leafE (k2))))
end Go.Proofs.Ytdcijmigoefnjaa

/- Chapter 11: a match's bytes and back: the law's call (printed by gen11q.py). -/
set_option linter.unusedVariables false
set_option linter.unusedSimpArgs false
set_option maxRecDepth 100000
set_option maxHeartbeats 0
namespace Go.Proofs.Ytdcijmigoefnjaa
open Go Go.Ev

theorem nf {b : Bool} {p : Prop} (h : b = true) (k : b = false) : p := by rw [h] at k; cases k
theorem nt {b : Bool} {p : Prop} (h : b = true) (k : (!b) = true) : p := by rw [h] at k; cases k
theorem s80b : SumTOk Try.prog 80 S80 := sumW_ok fun x hx => by
  simp only [Bool.and_eq_true, smallB, Nat.ble_eq, Bool.not_eq_true'] at hx
  cases x with
  | nil => exact (by simp at hx)
  | cons v xs =>
    have hl : (v :: xs).length ≤ 70368744177664 := hx.1
    exact book_ok.pth (by kernel_rfl) noSpec_ok (p80 v xs _ (bleB' (by omega)) (bleB' (by omega)) rfl)
theorem sp22_ok : SpecTL Try.prog (sp22 true) := ⟨s89, s80b, s86, s93, s59, s81, trivial⟩
structure Sec (ys : List AV) : Prop where
  le : ile (padI (nv ys 2 2)) (ys.length : Int) = true
  inr : inR (padI (nv ys 2 2)) (ys.length + 1) = true
  ok : (okX (decL (bdL ys)) && shortX (decL (bdL ys))) = true
  en : okEnc (decL (bdL ys)) = true
  ints : (intsA .u8 (enc11 (decL (bdL ys))) && (intsA .u8 (List.take ((padI (nv ys 2 2)).toNat - 0) ys) && (lenB (enc11 (decL (bdL ys))) && lenB (List.take ((padI (nv ys 2 2)).toNat - 0) ys)))) = true
  eq : eqA (enc11 (decL (bdL ys))) (List.take ((padI (nv ys 2 2)).toNat - 0) ys) = true
  val : (AV.bool (bif bif ile (padI (nv ys 2 2)) (ys.length : Int) then eqA (enc11 (decL (bdL ys))) (List.take ((padI (nv ys 2 2)).toNat - 0) ys) else false then true else false), ([] : List (List AV))) = (AV.bool true, [])
theorem sec_of {ys : List AV} (hy : okL ys = true) (h : okD ys = true) : Sec ys := by
  have hb := (okL_iff.1 hy).1
  have hm : ieq (hdC ys) (-1) = true := by unfold okD at h; simp only [Bool.and_eq_true] at h; exact h.1
  obtain ⟨f1, f2, f3, _⟩ := hd_facts hm
  obtain ⟨x1, x2⟩ := bdL_ok hb f2
  obtain ⟨e1, e2, e3⟩ := back2 hy h
  have p := padI_ge (n := nv ys 2 2) (by omega)
  have ok := decL_ok x1 (by omega)
  have e2' : enc11 (decL (bdL ys)) = List.take ((padI (nv ys 2 2)).toNat - 0) ys := e2
  have le : ile (padI (nv ys 2 2)) (ys.length : Int) = true := ile_iff'.2 e3
  have q : eqA (enc11 (decL (bdL ys))) (List.take ((padI (nv ys 2 2)).toNat - 0) ys) = true := by rw [e2']; exact eqA_self _
  obtain ⟨b1, b2⟩ := enc11_bytes ok e1
  have l : lenB (enc11 (decL (bdL ys))) = true := lenB_small (by omega)
  have i : intsA IntKind.u8 (enc11 (decL (bdL ys))) = true := byteL_int b1
  refine ⟨le, inR_iff.2 ⟨by omega, by omega⟩, ?_, e1, ?_, q, ?_⟩
  · have : (decL (bdL ys)).length ≤ (bdL ys).length := (decAll_ox (bdL ys).length (bdL ys) x1).2
    rw [ok, Bool.true_and]; unfold shortX; rw [Nat.ble_eq]; omega
  · rw [← e2', l, i]; rfl
  · rw [le, q]; rfl
theorem c22 {xs ys : List AV} (hx : okX xs = true) (hy : okL ys = true) : CallsA Try.prog 22 [.sl 6 xs .sh, .sl 1 ys .sh] [] (.bool true) [] := by
  obtain ⟨hb, hl⟩ := okL_iff.1 hy
  have sx : ilt 60 (xs.length : Int) = false → (okX xs && shortX xs) = true := fun e => by
    rw [ilt_no] at e; rw [hx, Bool.true_and]; unfold shortX; rw [Nat.ble_eq]; omega
  have mn : inR (bif ilt 8 (ys.length : Int) then 8 else (ys.length : Int)) (ys.length + 1) = true := by
    cases hq : ilt 8 (ys.length : Int)
    · exact inR_iff.2 ⟨by simp only [cond_false]; omega, by simp only [cond_false]; omega⟩
    · rw [ilt_iff] at hq; exact inR_iff.2 ⟨by simp, by simp only [cond_true]; omega⟩
  have m8 : ((bif ilt 8 (ys.length : Int) then 8 else (ys.length : Int)).toNat - 0) ≤ 8 := by
    cases hq : ilt 8 (ys.length : Int)
    · rw [ilt_no] at hq; simp only [cond_false]; omega
    · simp
  have tl : (List.take ((bif ilt 8 (ys.length : Int) then 8 else (ys.length : Int)).toNat - 0) ys).length ≤ 8 := by rw [List.length_take]; omega
  have tb : byteL (List.take ((bif ilt 8 (ys.length : Int) then 8 else (ys.length : Int)).toNat - 0) ys) := fun y h => hb y (List.mem_of_mem_take h)
  have q3 : okEnc xs = true → (smallB (enc11 xs) && !(enc11 xs).isEmpty) = true := fun e => by
    have := (enc11_bytes hx e).2
    rw [show (enc11 xs).isEmpty = false from rfl]; simp only [smallB, Bool.not_false, Bool.and_true, Nat.ble_eq]; omega
  have q5 : okEnc xs = true → Nat.ble (((enc11 xs).length + (List.take ((bif ilt 8 (ys.length : Int) then 8 else (ys.length : Int)).toNat - 0) ys).length) * 1) 140737488355328 = true := fun e => bleB' (by have := (enc11_bytes hx e).2; omega)
  have q6 : okEnc xs = true → Nat.ble ((enc11 xs).length + (List.take ((bif ilt 8 (ys.length : Int) then 8 else (ys.length : Int)).toNat - 0) ys).length) 140737488355328 = true := fun e => bleB' (by have := (enc11_bytes hx e).2; omega)
  have q7 : okEnc xs = true → okL (enc11 xs ++ List.take ((bif ilt 8 (ys.length : Int) then 8 else (ys.length : Int)).toNat - 0) ys) = true := fun e => by
    obtain ⟨a, b⟩ := enc11_bytes hx e
    exact okL_iff.2 ⟨fun y h => (List.mem_append.1 h).elim (a y) (tb y), by rw [List.length_append]; omega⟩
  have b1 : okEnc xs = true → _ := fun e => back1 (t := List.take ((bif ilt 8 (ys.length : Int) then 8 else (ys.length : Int)).toNat - 0) ys) hx e tb
  have ez : okEnc xs = true → (decL (bdL (enc11 xs ++ List.take ((bif ilt 8 (ys.length : Int) then 8 else (ys.length : Int)).toNat - 0) ys))).isEmpty = true → eqO [] xs = true := fun e h => by
    rw [(b1 e).2.1] at h; rw [emp_nil h]; rfl
  have zl : okEnc xs = true → ieq (padI (nv (enc11 xs ++ List.take ((bif ilt 8 (ys.length : Int) then 8 else (ys.length : Int)).toNat - 0) ys) 2 2)) ((enc11 xs).length : Int) = true := fun e => by rw [(b1 e).2.2]; exact ieq_self _
  have zr : ieq (irem (padI (nv (enc11 xs ++ List.take ((bif ilt 8 (ys.length : Int) then 8 else (ys.length : Int)).toNat - 0) ys) 2 2)) 8) 0 = true := by
    unfold irem padI; rw [Int.mul_tmod_left]; rfl
  have zx : okEnc xs = true → (okX (decL (bdL (enc11 xs ++ List.take ((bif ilt 8 (ys.length : Int) then 8 else (ys.length : Int)).toNat - 0) ys))) && okX xs) = true := fun e => by rw [(b1 e).2.1, hx]; rfl
  have zs : okEnc xs = true → eqO (decL (bdL (enc11 xs ++ List.take ((bif ilt 8 (ys.length : Int) then 8 else (ys.length : Int)).toNat - 0) ys))) xs = true := fun e => by rw [(b1 e).2.1]; exact eqO_self _
  have sc : okD ys = true → Sec ys := fun o => sec_of hy o
  have se : okD ys = true → (decL (bdL ys)).isEmpty = true → (intsA .u8 (enc11 []) && (intsA .u8 (List.take ((padI (nv ys 2 2)).toNat - 0) ys) && (lenB (enc11 []) && lenB (List.take ((padI (nv ys 2 2)).toNat - 0) ys)))) = true ∧ eqA (enc11 []) (List.take ((padI (nv ys 2 2)).toNat - 0) ys) = true ∧ (AV.bool (bif bif ile (padI (nv ys 2 2)) (ys.length : Int) then eqA (enc11 []) (List.take ((padI (nv ys 2 2)).toNat - 0) ys) else false then true else false), ([] : List (List AV))) = (AV.bool true, []) := fun o e => by
    have h := sc o
    have h1 := h.ints; have h2 := h.eq; have h3 := h.val
    rw [emp_nil e] at h1 h2 h3
    exact ⟨h1, h2, h3⟩
  exact book_ok.pth (by kernel_rfl) sp22_ok (p22 true xs ys _
    (fun _ => rfl)
    (fun _ _ => rfl)
    (fun a _ => sx a)
    (fun _ _ c => q3 c)
    (fun _ _ _ => mn)
    (fun _ _ c => q5 c)
    (fun _ _ c => q6 c)
    (fun _ _ c => q7 c)
    (fun _ _ _ _ _ => hx)
    (fun _ _ c _ e h => nt (ez c e) h)
    (fun _ _ c _ _ _ h => nt (zl c) h)
    (fun _ _ c _ _ _ _ h => nt zr h)
    (fun _ _ _ _ _ _ _ _ => hy)
    (fun _ _ _ _ _ _ _ _ o _ _ => (sc o).inr)
    (fun _ _ _ _ _ _ _ _ o e _ => (se o e).1)
    (fun _ _ _ _ _ _ _ _ o e _ _ => (se o e).2.2)
    (fun _ _ _ _ _ _ _ _ o e _ h => nf (se o e).2.1 h)
    (fun _ _ _ _ _ _ _ _ o _ h => nf (sc o).le h)
    (fun _ _ _ _ _ _ _ _ o _ => (sc o).ok)
    (fun _ _ _ _ _ _ _ _ o _ _ _ => (sc o).inr)
    (fun _ _ _ _ _ _ _ _ o _ _ _ => (sc o).ints)
    (fun _ _ _ _ _ _ _ _ o _ _ _ _ => (sc o).val)
    (fun _ _ _ _ _ _ _ _ o _ _ _ h => nf (sc o).eq h)
    (fun _ _ _ _ _ _ _ _ o _ _ h => nf (sc o).le h)
    (fun _ _ _ _ _ _ _ _ o _ h => nf (sc o).en h)
    (fun _ _ _ _ _ _ _ _ _ => rfl)
    (fun _ _ c _ _ => zx c)
    (fun _ _ c _ _ h => nt (zs c) h)
    (fun _ _ c _ _ _ h => nt (zl c) h)
    (fun _ _ c _ _ _ _ h => nt zr h)
    (fun _ _ _ _ _ _ _ _ => hy)
    (fun _ _ _ _ _ _ _ _ o _ _ => (sc o).inr)
    (fun _ _ _ _ _ _ _ _ o e _ => (se o e).1)
    (fun _ _ _ _ _ _ _ _ o e _ _ => (se o e).2.2)
    (fun _ _ _ _ _ _ _ _ o e _ h => nf (se o e).2.1 h)
    (fun _ _ _ _ _ _ _ _ o _ h => nf (sc o).le h)
    (fun _ _ _ _ _ _ _ _ o _ => (sc o).ok)
    (fun _ _ _ _ _ _ _ _ o _ _ _ => (sc o).inr)
    (fun _ _ _ _ _ _ _ _ o _ _ _ => (sc o).ints)
    (fun _ _ _ _ _ _ _ _ o _ _ _ _ => (sc o).val)
    (fun _ _ _ _ _ _ _ _ o _ _ _ h => nf (sc o).eq h)
    (fun _ _ _ _ _ _ _ _ o _ _ h => nf (sc o).le h)
    (fun _ _ _ _ _ _ _ _ o _ h => nf (sc o).en h)
    (fun _ _ _ _ _ _ _ _ _ => rfl)
    (fun _ _ c d => nf (b1 c).1 d)
    (fun _ _ c d _ => nf (b1 c).1 d)
    (fun _ _ c d _ _ => nf (b1 c).1 d)
    (fun _ _ c d _ _ => nf (b1 c).1 d)
    (fun _ _ _ => hy)
    (fun _ _ _ o _ _ => (sc o).inr)
    (fun _ _ _ o e _ => (se o e).1)
    (fun _ _ _ o e _ _ => (se o e).2.2)
    (fun _ _ _ o e _ h => nf (se o e).2.1 h)
    (fun _ _ _ o _ h => nf (sc o).le h)
    (fun _ _ _ o _ => (sc o).ok)
    (fun _ _ _ o _ _ _ => (sc o).inr)
    (fun _ _ _ o _ _ _ => (sc o).ints)
    (fun _ _ _ o _ _ _ _ => (sc o).val)
    (fun _ _ _ o _ _ _ h => nf (sc o).eq h)
    (fun _ _ _ o _ _ h => nf (sc o).le h)
    (fun _ _ _ o _ h => nf (sc o).en h)
    (fun _ _ _ _ => rfl))
theorem cMatchBack {xs ys : List AV} (hx : ∀ x ∈ xs, TyE true [.int .i64, .bool, .int .u64, .int .u64, .int .u64, .int .u64] x) (hl : xs.length ≤ maxLen) (hy : ∀ x ∈ ys, TyE false [.int .u8] x) (hm : ys.length ≤ maxLen) :
    CallsA Try.prog 22 [.sl 6 xs .sh, .sl 1 ys .sh] [] (.bool true) [] := c22 (tyx hx hl) (by
  unfold okL; rw [bytB_iff.2 (tyb_bytes hy), tyb_len hm]; rfl)
end Go.Proofs.Ytdcijmigoefnjaa
