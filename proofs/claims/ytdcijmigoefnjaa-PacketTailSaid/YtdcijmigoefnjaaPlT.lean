/- Chapter 45: what follows a frame changes nothing: plain laws. -/
import Derived.Test.YtdcijmigoefnjaaL45e
import Derived.Test.YtdcijmigoefnjaaL10h
set_option linter.unusedVariables false
set_option linter.unusedSimpArgs false
set_option maxRecDepth 100000
set_option maxHeartbeats 0
namespace Go.Proofs.Ytdcijmigoefnjaa
open Go Go.Ev

theorem drop_ap {xs ys : List AV} {o : Nat} (h : o ≤ xs.length) : (xs ++ ys).drop o = xs.drop o ++ ys := List.drop_append_of_le_length h
theorem take_ap {xs ys : List AV} {n : Nat} (h : n ≤ xs.length) : (xs ++ ys).take n = xs.take n := List.take_append_of_le_length h
theorem nv_ap {xs : List AV} (ys : List AV) {o n : Nat} (h : o + n ≤ xs.length) : nv (xs ++ ys) o n = nv xs o n := by
  unfold nv; rw [drop_ap (by omega), take_ap (by rw [List.length_drop]; omega)]
theorem wv_ap {xs : List AV} (ys : List AV) {n : Nat} (h : n ≤ xs.length) : wv (xs ++ ys) n = wv xs n := by
  unfold wv wvH wvL; rw [take_ap h]
theorem byN_ap {xs : List AV} (ys : List AV) {i : Nat} (h : i < xs.length) : byN (xs ++ ys) i = byN xs i := by
  unfold byN; rw [List.getD_eq_getElem?_getD, List.getD_eq_getElem?_getD, List.getElem?_append_left h]
theorem ieq0 {a : Int} : ieq a 0 = true ↔ a = 0 := by simp [ieq]
theorem ilt_ap {xs ys : List AV} {n : Int} (h : ilt (xs.length : Int) n = false) : ilt ((xs ++ ys).length : Int) n = false := by
  rw [ilt_no] at h ⊢; rw [List.length_append]; omega

/-- what is told of a frame's part is told of it with more behind -/
structure Same2 (E : List AV → Int) (K : List AV → Nat → Int) (xs ys : List AV) : Prop where
  e : E (xs ++ ys) = 0
  k : K (xs ++ ys) = K xs
theorem tail_lab {b : B6} {xs : List AV} (ys : List AV) (h : labE xs = 0) : Same2 labE (labK b) xs ys := by
  unfold labE at h
  cases h1 : ilt (xs.length : Int) 4 with
  | true => rw [h1] at h; cases h
  | false =>
    have hl := ilt_no.1 h1
    refine ⟨?_, ?_⟩
    · unfold labE; rw [ilt_ap h1]; rfl
    · unfold labK; rw [nv_ap ys (by omega)]
theorem tail_arp {b : B6} {xs : List AV} (ys : List AV) (h : arpE xs = 0) : Same2 arpE (arpK b) xs ys := by
  unfold arpE at h
  cases h1 : ilt (xs.length : Int) 28 with
  | true => rw [h1] at h; cases h
  | false =>
    rw [h1] at h
    have hl := ilt_no.1 h1
    have e : arpHd (xs ++ ys) = arpHd xs := by
      unfold arpHd
      rw [byN_ap ys (by omega), byN_ap ys (by omega), byN_ap ys (by omega), byN_ap ys (by omega), byN_ap ys (by omega), byN_ap ys (by omega)]
    refine ⟨?_, ?_⟩
    · unfold arpE; rw [ilt_ap h1, e]; exact h
    · unfold arpK; rw [nv_ap ys (by omega), nv_ap ys (by omega), nv_ap ys (by omega)]
theorem tail_six {b : B6} {xs : List AV} (ys : List AV) (hx : okL xs = true) (h : sixE xs = 0) : Same2 sixE (sixK b) xs ys := by
  unfold sixE at h
  have b2 := nv2 hx 4
  cases h1 : ilt (xs.length : Int) 40 with
  | true => rw [h1] at h; cases h
  | false =>
  rw [h1] at h
  have hl := ilt_no.1 h1
  cases h2 : (!ieq (nv xs 0 1 / 16) 6) with
  | true => rw [h2] at h; cases h
  | false =>
  rw [h2] at h
  cases h3 : ilt (xs.length : Int) (40 + nv xs 4 2) with
  | true => rw [h3] at h; cases h
  | false =>
  rw [h3] at h
  have hl3 := ilt_no.1 h3
  have n1 : nv (xs ++ ys) 0 1 = nv xs 0 1 := nv_ap ys (by omega)
  have n2 : nv (xs ++ ys) 4 2 = nv xs 4 2 := nv_ap ys (by omega)
  have n3 : nv (xs ++ ys) 6 1 = nv xs 6 1 := nv_ap ys (by omega)
  have n4 : nv (xs ++ ys) 0 2 = nv xs 0 2 := nv_ap ys (by omega)
  have i : inV6 (xs ++ ys) = inV6 xs := by
    unfold inV6; rw [n2, drop_ap (by omega), take_ap (by rw [List.length_drop]; omega)]
  have p : sixP (xs ++ ys) = sixP xs := by
    unfold sixP clsN; rw [n3, n4, drop_ap (by omega), drop_ap (by omega), wv_ap ys (by rw [List.length_drop]; omega), wv_ap ys (by rw [List.length_drop]; omega)]
  refine ⟨?_, ?_⟩
  · unfold sixE; rw [ilt_ap h1, n1, h2, n2, ilt_ap h3, n3, i]; exact h
  · unfold sixK; rw [n3, i, p]
theorem tail_four {b : B6} {xs : List AV} (ys : List AV) (hx : okL xs = true) (h : fourE xs = 0) : Same2 fourE (fourK b) xs ys := by
  unfold fourE at h
  have b0 := nv1 hx 0
  have b2 := nv2 hx 2
  have hd0 : 0 ≤ hdN xs ∧ hdN xs ≤ 60 := by unfold hdN; omega
  cases h1 : ilt (xs.length : Int) 20 with
  | true => rw [h1] at h; cases h
  | false =>
  rw [h1] at h
  have hl := ilt_no.1 h1
  cases h2 : (bif !ieq (nv xs 0 1 / 16) 4 then true else ilt (hdN xs) 20) with
  | true => rw [h2] at h; cases h
  | false =>
  rw [h2] at h
  cases h3 : ilt (xs.length : Int) (hdN xs) with
  | true => rw [h3] at h; cases h
  | false =>
  rw [h3] at h
  have hl3 := ilt_no.1 h3
  cases h4 : (bif !ieq (sumV (xs.take (hdN xs).toNat)) 0 then true else ilt (nv xs 2 2) (hdN xs)) with
  | true => rw [h4] at h; cases h
  | false =>
  rw [h4] at h
  cases h5 : ilt (xs.length : Int) (nv xs 2 2) with
  | true => rw [h5] at h; cases h
  | false =>
  rw [h5] at h
  have hl5 := ilt_no.1 h5
  have n1 : nv (xs ++ ys) 0 1 = nv xs 0 1 := nv_ap ys (by omega)
  have n2 : nv (xs ++ ys) 2 2 = nv xs 2 2 := nv_ap ys (by omega)
  have n3 : nv (xs ++ ys) 9 1 = nv xs 9 1 := nv_ap ys (by omega)
  have n4 : nv (xs ++ ys) 1 1 = nv xs 1 1 := nv_ap ys (by omega)
  have n5 : nv (xs ++ ys) 12 4 = nv xs 12 4 := nv_ap ys (by omega)
  have n6 : nv (xs ++ ys) 16 4 = nv xs 16 4 := nv_ap ys (by omega)
  have n7 : nv (xs ++ ys) 6 2 = nv xs 6 2 := nv_ap ys (by omega)
  have hd : hdN (xs ++ ys) = hdN xs := by unfold hdN; rw [n1]
  have t : (xs ++ ys).take (hdN xs).toNat = xs.take (hdN xs).toNat := take_ap (by omega)
  have pc : pieceB (xs ++ ys) = pieceB xs := by unfold pieceB; rw [n7]
  have i : inV4 (xs ++ ys) = inV4 xs := by
    unfold inV4; rw [hd, n2, drop_ap (by omega), take_ap (by rw [List.length_drop]; omega)]
  have p : fourP (xs ++ ys) = fourP xs := by unfold fourP; rw [n3, n4, n5, n6]
  refine ⟨?_, ?_⟩
  · unfold fourE; rw [ilt_ap h1, n1, hd, h2, ilt_ap h3, t, n2, h4, ilt_ap h5, pc, n3, i]; exact h
  · unfold fourK; rw [pc, n3, i, p]
theorem tail_frm {n : Int} {xs : List AV} (ys : List AV) (hx : okL xs = true) (h : parE n xs = 0) : parE n (xs ++ ys) = 0 ∧ parK n (xs ++ ys) = parK n xs := by
  unfold parE at h
  cases hp : portB n with
  | true => rw [hp] at h; cases h
  | false =>
  rw [hp] at h
  cases h1 : ilt (xs.length : Int) 14 with
  | true => rw [h1] at h; cases h
  | false =>
  rw [h1] at h
  have hl := ilt_no.1 h1
  cases h2 : (tagB xs && ilt (xs.length : Int) 18) with
  | true => rw [h2] at h; cases h
  | false =>
  rw [h2] at h
  have h : frmE xs = 0 := h
  have tg : tagB (xs ++ ys) = tagB xs := by unfold tagB; rw [nv_ap ys (by omega)]
  have hl2 : tagB xs = true → 18 ≤ xs.length := fun ht => by
    rw [ht] at h2
    have := ilt_no.1 (show ilt (xs.length : Int) 18 = false from h2); omega
  have h2' : (tagB (xs ++ ys) && ilt ((xs ++ ys).length : Int) 18) = false := by
    rw [tg]
    cases ht : tagB xs with
    | false => rfl
    | true => rw [ht] at h2; exact ilt_ap h2
  have rs : restX (xs ++ ys) = restX xs ++ ys := by
    unfold restX; rw [tg]
    cases ht : tagB xs with
    | true => exact drop_ap (hl2 ht)
    | false => exact drop_ap (by simp only [cond_false]; omega)
  have ty : typN (xs ++ ys) = typN xs := by
    unfold typN; rw [tg]
    cases ht : tagB xs with
    | true => exact nv_ap ys (by have := hl2 ht; simp only [cond_true]; omega)
    | false => exact nv_ap ys (by simp only [cond_false]; omega)
  have fb : frmB n (xs ++ ys) = frmB n xs := by
    unfold frmB; rw [ty, tg, nv_ap ys (by omega), nv_ap ys (by omega)]
    cases ht : tagB xs with
    | true => have := hl2 ht; rw [nv_ap ys (by omega)]
    | false => rfl
  have hr : okL (restX xs) = true := okL_drop hx _
  have go : frmE (xs ++ ys) = 0 ∧ frmK (frmB n xs) (xs ++ ys) = frmK (frmB n xs) xs := by
    unfold frmE at h ⊢
    unfold frmK
    rw [ty, rs]
    cases a1 : ieq (typN xs) 2048 with
    | true => rw [a1] at h; have t := tail_four (b := frmB n xs) ys hr h; exact ⟨t.e, t.k⟩
    | false =>
    rw [a1] at h
    cases a2 : ieq (typN xs) 34525 with
    | true => rw [a2] at h; have t := tail_six (b := frmB n xs) ys hr h; exact ⟨t.e, t.k⟩
    | false =>
    rw [a2] at h
    cases a3 : ieq (typN xs) 2054 with
    | true => rw [a3] at h; have t := tail_arp (b := frmB n xs) ys h; exact ⟨t.e, t.k⟩
    | false =>
    rw [a3] at h
    cases a4 : (bif ieq (typN xs) 34887 then true else ieq (typN xs) 34888) with
    | true => rw [a4] at h; have t := tail_lab (b := frmB n xs) ys h; exact ⟨t.e, t.k⟩
    | false => exact ⟨rfl, rfl⟩
  refine ⟨?_, ?_⟩
  · unfold parE; rw [hp, ilt_ap h1, h2']; exact go.1
  · unfold parK; rw [fb]; exact go.2
end Go.Proofs.Ytdcijmigoefnjaa
