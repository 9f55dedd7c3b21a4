/- Headers, cell by cell. -/
import Derived.Test.YtdcijmigoefnjaaBk2
set_option linter.unusedVariables false
set_option maxRecDepth 100000
namespace Go.Proofs.Ytdcijmigoefnjaa
open Go Go.Ev

theorem hdr_get (h : Nat → Int) {i : Nat} (hi : i < 48) : (hdrC h)[i]? = some (.int .u64 (h i)) := by
  match i, hi with
  | 0, _ => rfl
  | 1, _ => rfl
  | 2, _ => rfl
  | 3, _ => rfl
  | 4, _ => rfl
  | 5, _ => rfl
  | 6, _ => rfl
  | 7, _ => rfl
  | 8, _ => rfl
  | 9, _ => rfl
  | 10, _ => rfl
  | 11, _ => rfl
  | 12, _ => rfl
  | 13, _ => rfl
  | 14, _ => rfl
  | 15, _ => rfl
  | 16, _ => rfl
  | 17, _ => rfl
  | 18, _ => rfl
  | 19, _ => rfl
  | 20, _ => rfl
  | 21, _ => rfl
  | 22, _ => rfl
  | 23, _ => rfl
  | 24, _ => rfl
  | 25, _ => rfl
  | 26, _ => rfl
  | 27, _ => rfl
  | 28, _ => rfl
  | 29, _ => rfl
  | 30, _ => rfl
  | 31, _ => rfl
  | 32, _ => rfl
  | 33, _ => rfl
  | 34, _ => rfl
  | 35, _ => rfl
  | 36, _ => rfl
  | 37, _ => rfl
  | 38, _ => rfl
  | 39, _ => rfl
  | 40, _ => rfl
  | 41, _ => rfl
  | 42, _ => rfl
  | 43, _ => rfl
  | 44, _ => rfl
  | 45, _ => rfl
  | 46, _ => rfl
  | 47, _ => rfl
  | i + 48, h => omega

theorem hdrC_congr {h g : Nat → Int} (e : ∀ c, c < 48 → h c = g c) : hdrC h = hdrC g := by
  apply List.ext_getElem?
  intro i
  by_cases hi : i < 48
  · rw [hdr_get h hi, hdr_get g hi, e i hi]
  · rw [List.getElem?_eq_none (by show 48 ≤ i; omega), List.getElem?_eq_none (by show 48 ≤ i; omega)]

theorem pairEq_get : ∀ {cs ds : List AV}, cs.length = ds.length → cs.length % 2 = 0 → pairEq cs ds = true → ∀ i : Nat, (cs.getD i .unk).asInt = (ds.getD i .unk).asInt
  | [], [], _, _, _, i => rfl
  | [_], _, _, h, _, _ => by simp at h
  | a :: b :: cs, [], h, _, _, _ => by simp at h
  | a :: b :: cs, [_], h, _, _, _ => by simp at h
  | [], _ :: _, h, _, _, _ => by simp at h
  | a :: b :: cs, c :: d :: ds, hl, he, hp, i => by
    simp only [pairEq, Bool.and_eq_true, ieq, beq_iff_eq, Bool.and_true] at hp
    match i with
    | 0 => exact hp.1.1
    | 1 => exact hp.1.2
    | i + 2 =>
      have := pairEq_get (cs := cs) (ds := ds) (by simpa using hl) (by simp at he; omega) hp.2 i
      simpa using this

theorem pairEq_hdr {k h : Nat → Int} (e : pairEq (hdrC k) (hdrC h) = true) : hdrC k = hdrC h := by
  refine hdrC_congr fun c hc => ?_
  have h48 : (hdrC k).length = 48 := rfl
  have := pairEq_get (cs := hdrC k) (ds := hdrC h) rfl (by rw [h48]) e c
  rw [List.getD_eq_getElem?_getD, List.getD_eq_getElem?_getD, hdr_get k hc, hdr_get h hc] at this
  exact this

end Go.Proofs.Ytdcijmigoefnjaa
