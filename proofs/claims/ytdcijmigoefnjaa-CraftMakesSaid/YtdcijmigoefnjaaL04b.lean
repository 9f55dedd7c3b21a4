import Derived.Test.YtdcijmigoefnjaaP03
import Derived.Test.YtdcijmigoefnjaaP04c
set_option linter.unusedVariables false
set_option linter.unusedSimpArgs false
set_option maxRecDepth 100000
set_option maxHeartbeats 0
namespace Go.Proofs.Ytdcijmigoefnjaa
open Go Go.Ev
theorem sp39_ok : SpecTL Try.prog sp39 := ⟨s68,s109,s32,s47,s108,s110,trivial⟩
theorem s39 : SumTOk Try.prog 39 (S39 true) := sum0_ok fun x hx => by
 have hx : isHdr x = true := hx
 show CallsA Try.prog 39 [.agg x] [] (.agg (clipC x)) []
 rw [isHdr_eq hx]
 exact book_ok.pth (by kernel_rfl) sp39_ok (p39 _ _ rfl)
theorem s40 : SumTOk Try.prog 40 (S39 true) := sum0_ok fun x hx => by
 have hx : isHdr x = true := hx
 show CallsA Try.prog 40 [.agg x] [] (.agg (clipC x)) []
 rw [isHdr_eq hx]
 exact book_ok.pth (by kernel_rfl) sp39_ok (p40 _ _ rfl)
theorem pairEq_comm : ∀ cs ds : List AV,pairEq cs ds = pairEq ds cs
 | [],[] => rfl
 | [],[_] => rfl
 | [],_ :: _ :: _ => rfl
 | [_],[] => rfl
 | [_],[_] => rfl
 | [_],_ :: _ :: _ => rfl
 | _ :: _ :: _,[] => rfl
 | _ :: _ :: _,[_] => rfl
 | a :: b :: cs,c :: d :: ds => by
  have e : ∀ x y : Int,ieq x y = ieq y x := fun x y => by
   unfold ieq
   by_cases h : x = y
   ·subst h; rfl
   ·rw [beq_eq_false_iff_ne.2 h,beq_eq_false_iff_ne.2 (Ne.symm h)]
  simp only [pairEq,e a.asInt,e b.asInt,pairEq_comm cs ds]
theorem sp37_ok : SpecTL Try.prog (sp37 true) := ⟨s39,s40,trivial⟩
theorem s37 : SumTOk Try.prog 37 S37 := sum0_ok fun x hx => by
 have hx : isHdr x = true := hx
 show CallsA Try.prog 37 [.agg x] [] (.bool (fitsC x)) []
 rw [isHdr_eq hx]
 exact book_ok.pth (by kernel_rfl) sp37_ok (p37 true _ _ rfl rfl)
theorem s38 : SumTOk Try.prog 38 S37 := sum0_ok fun x hx => by
 have hx : isHdr x = true := hx
 show CallsA Try.prog 38 [.agg x] [] (.bool (fitsC x)) []
 rw [isHdr_eq hx]
 exact book_ok.pth (by kernel_rfl) sp37_ok (p38 true _ _ rfl (congrArg (fun b => (AV.bool b,[])) (pairEq_comm _ _)))
theorem pair_at (h : Nat → Int) : ∀ j,j < 24 → List.map AV.flat (List.take 2 (List.drop (0 + j * 2) (hdrC h))) = [.int .u64 (h (j * 2)),.int .u64 (h (j * 2 + 1))] := by
 intro j hj
 match j,hj with
 | 0,_ => rfl
 | 1,_ => rfl
 | 2,_ => rfl
 | 3,_ => rfl
 | 4,_ => rfl
 | 5,_ => rfl
 | 6,_ => rfl
 | 7,_ => rfl
 | 8,_ => rfl
 | 9,_ => rfl
 | 10,_ => rfl
 | 11,_ => rfl
 | 12,_ => rfl
 | 13,_ => rfl
 | 14,_ => rfl
 | 15,_ => rfl
 | 16,_ => rfl
 | 17,_ => rfl
 | 18,_ => rfl
 | 19,_ => rfl
 | 20,_ => rfl
 | 21,_ => rfl
 | 22,_ => rfl
 | 23,_ => rfl
 | j + 24,h => omega
structure P42 (x : X2) : Prop where
 i0 : 0 ≤ x.1
 i1 : x.1 ≤ 24
 len : (x.2.length : Int) ≤ x.1
theorem len_at (h : Nat → Int) {j : Nat} (hj : j < 24) : ((List.take 2 (List.drop (0 + j * 2) (hdrC h))).length == 2) = true := by
 have := congrArg List.length (pair_at h j hj)
 rw [List.length_map] at this
 rw [this]; rfl
theorem cell_hdr (h : Nat → Int) {j : Nat} (hj : j < 48) : cell (hdrC h) j = h j := by
 have all : ∀ (i : Nat),i < 48 → (hdrC h)[i]? = some (.int .u64 (h i)) := by
  intro i hi
  match i,hi with
  | 0,_ => rfl
  | 1,_ => rfl
  | 2,_ => rfl
  | 3,_ => rfl
  | 4,_ => rfl
  | 5,_ => rfl
  | 6,_ => rfl
  | 7,_ => rfl
  | 8,_ => rfl
  | 9,_ => rfl
  | 10,_ => rfl
  | 11,_ => rfl
  | 12,_ => rfl
  | 13,_ => rfl
  | 14,_ => rfl
  | 15,_ => rfl
  | 16,_ => rfl
  | 17,_ => rfl
  | 18,_ => rfl
  | 19,_ => rfl
  | 20,_ => rfl
  | 21,_ => rfl
  | 22,_ => rfl
  | 23,_ => rfl
  | 24,_ => rfl
  | 25,_ => rfl
  | 26,_ => rfl
  | 27,_ => rfl
  | 28,_ => rfl
  | 29,_ => rfl
  | 30,_ => rfl
  | 31,_ => rfl
  | 32,_ => rfl
  | 33,_ => rfl
  | 34,_ => rfl
  | 35,_ => rfl
  | 36,_ => rfl
  | 37,_ => rfl
  | 38,_ => rfl
  | 39,_ => rfl
  | 40,_ => rfl
  | 41,_ => rfl
  | 42,_ => rfl
  | 43,_ => rfl
  | 44,_ => rfl
  | 45,_ => rfl
  | 46,_ => rfl
  | 47,_ => rfl
  | i + 48,h => omega
 unfold cell
 rw [List.getD_eq_getElem?_getD,all j hj]; rfl
end Go.Proofs.Ytdcijmigoefnjaa
