import Derived.Test.YtdcijmigoefnjaaD03
set_option linter.unusedVariables false
set_option maxRecDepth 100000
set_option maxHeartbeats 0
namespace Go.Proofs.Ytdcijmigoefnjaa
open Go Go.Ev
theorem p31 (n : Int) (r : zR) (k0 : ((AV.bool (bif ile 0 n then ilt n 24 else false),[])) = r) (k1 : (ile 0 n) = false → ((AV.bool false,[])) = r) : Goes (runP (book.envP 31 noSpec 100 noLoops) Try.f31 [.int .i64 n] [] (.s (.t .z) (.f (.f .z)))) r :=
 Goes.of_eq (t' := bT (bK 2 (bR ((AV.bool false,[]))) (aT (ile 0 n) false)) (bN (bR ((AV.bool (bif ile 0 n then ilt n 24 else false),[]))) (aT (ile 0 n) true)) (ile 0 n)) (by kernel_rfl) (.ite (fun e0 => .tl e0 (.leafE k0)) (fun e0 => .rp e0 (.leafE (k1 e0))))
theorem p105 (n : Int) (r : zR) (k0 : (!isF n) = true) (k1 : ((za [AV.str [],zI (-1),zI 0,AV.bool false],[])) = r) : Goes (runP (book.envP 105 sp105 100 noLoops) Try.f105 [.int .i64 n] [] (.t .z)) r :=
 Goes.of_eq (t' := bN (bR ((za [AV.str [],zI (-1),zI 0,AV.bool false],[]))) (aT (!isF n) true)) (by kernel_rfl) (.tl k0 (.leafE k1))
theorem p32 (n : Int) (r : zR) (k0 : ((zI (rowOf n).snd.snd.fst,[])) = r) : Goes (runP (book.envP 32 spAt 100 noLoops) Try.f32 [.int .i64 n] [] .z) r :=
 Goes.of_eq (t' := bR ((zI (rowOf n).snd.snd.fst,[]))) (by kernel_rfl) (.leafE k0)
theorem p163 (n : Int) (r : zR) (k0 : (ieq n 12) = false) (k1 : (ieq n 13) = false) (k2 : (ieq n 14) = false) (k3 : (ieq n 15) = false) (k4 : (ieq n 16) = false) (k5 : (ieq n 17) = false) (k6 : (ieq n 18) = false) (k7 : (ieq n 19) = false) (k8 : (ieq n 20) = false) (k9 : (ieq n 21) = false) (k10 : (ieq n 22) = false) (k11 : (ieq n 23) = false) (k12 : ((zt [AV.str [],zI (-1),zI 0,AV.bool false],[])) = r) : Goes (runP (book.envP 163 noSpec 100 noLoops) Try.f163 [.int .i64 n] [] (.f (.f (.f (.f (.f (.f (.f (.f (.f (.f (.f (.f .z))))))))))))) r :=
 Goes.of_eq (t' := bN (bN (bN (bN (bN (bN (bN (bN (bN (bN (bN (bN (bR ((zt [AV.str [],zI (-1),zI 0,AV.bool false],[]))) (aT (ieq n 23) false)) (aT (ieq n 22) false)) (aT (ieq n 21) false)) (aT (ieq n 20) false)) (aT (ieq n 19) false)) (aT (ieq n 18) false)) (aT (ieq n 17) false)) (aT (ieq n 16) false)) (aT (ieq n 15) false)) (aT (ieq n 14) false)) (aT (ieq n 13) false)) (aT (ieq n 12) false)) (by kernel_rfl) (.tl k0 (.tl k1 (.tl k2 (.tl k3 (.tl k4 (.tl k5 (.tl k6 (.tl k7 (.tl k8 (.tl k9 (.tl k10 (.tl k11 (.leafE k12)))))))))))))
theorem p111 (n : Int) (r : zR) (k0 : (ieq n 0) = false) (k1 : (ieq n 1) = false) (k2 : (ieq n 2) = false) (k3 : (ieq n 3) = false) (k4 : (ieq n 4) = false) (k5 : (ieq n 5) = false) (k6 : (ieq n 6) = false) (k7 : (ieq n 7) = false) (k8 : (ieq n 8) = false) (k9 : (ieq n 9) = false) (k10 : (ieq n 10) = false) (k11 : (ieq n 11) = false) (k12 : ((zt [AV.str (upOf n).fst,zI (upOf n).snd.fst,zI (upOf n).snd.snd.fst,AV.bool (upOf n).snd.snd.snd],[])) = r) : Goes (runP (book.envP 111 sp163 100 noLoops) Try.f111 [.int .i64 n] [] (.f (.f (.f (.f (.f (.f (.f (.f (.f (.f (.f (.f .z))))))))))))) r :=
 Goes.of_eq (t' := bN (bN (bN (bN (bN (bN (bN (bN (bN (bN (bN (bN (bR ((zt [AV.str (upOf n).fst,zI (upOf n).snd.fst,zI (upOf n).snd.snd.fst,AV.bool (upOf n).snd.snd.snd],[]))) (aT (ieq n 11) false)) (aT (ieq n 10) false)) (aT (ieq n 9) false)) (aT (ieq n 8) false)) (aT (ieq n 7) false)) (aT (ieq n 6) false)) (aT (ieq n 5) false)) (aT (ieq n 4) false)) (aT (ieq n 3) false)) (aT (ieq n 2) false)) (aT (ieq n 1) false)) (aT (ieq n 0) false)) (by kernel_rfl) (.tl k0 (.tl k1 (.tl k2 (.tl k3 (.tl k4 (.tl k5 (.tl k6 (.tl k7 (.tl k8 (.tl k9 (.tl k10 (.tl k11 (.leafE k12)))))))))))))
theorem p47 (n : Int) (r : zR) (k0 : ((zI (rowOf n).snd.snd.fst,[])) = r) : Goes (runP (book.envP 47 sp111 100 noLoops) Try.f47 [.int .i64 n] [] .z) r :=
 Goes.of_eq (t' := bR ((zI (rowOf n).snd.snd.fst,[]))) (by kernel_rfl) (.leafE k0)
abbrev z030_0 (x : Int) := (IntKind.i64.wrap (irem x 24))
abbrev z030_3 (x : Int) := (ixOf (idOf (z030_0 x)))
abbrev z030_2 (y : Int) := (IntKind.i64.wrap (irem y 24))
abbrev z030_1 (x : Int) := (aT (bif (z030_3 x).snd then ieq (z030_3 x).fst (z030_0 x) else false) true)
theorem p3 (x y : Int) (r : zR) (k0 : ((ixOf (idOf (IntKind.i64.wrap (irem x 24)))).snd) = true) (k1 : (ieq (ixOf (idOf (IntKind.i64.wrap (irem x 24)))).fst (IntKind.i64.wrap (irem x 24))) = true) (k2 : (ieq (IntKind.i64.wrap (irem x 24)) (IntKind.i64.wrap (irem y 24))) = true → ((AV.bool (bif bif bif (ixOf (idOf (IntKind.i64.wrap (irem x 24)))).snd then ieq (ixOf (idOf (IntKind.i64.wrap (irem x 24)))).fst (IntKind.i64.wrap (irem x 24)) else false then true else false then true else false),[])) = r) (k3 : (ieq (IntKind.i64.wrap (irem x 24)) (IntKind.i64.wrap (irem y 24))) = false → (!nmOf (IntKind.i64.wrap (irem x 24)) == nmOf (IntKind.i64.wrap (irem y 24))) = true) (k4 : (ieq (IntKind.i64.wrap (irem x 24)) (IntKind.i64.wrap (irem y 24))) = false → ((AV.bool (bif bif bif (ixOf (idOf (IntKind.i64.wrap (irem x 24)))).snd then ieq (ixOf (idOf (IntKind.i64.wrap (irem x 24)))).fst (IntKind.i64.wrap (irem x 24)) else false then bif ieq (IntKind.i64.wrap (irem x 24)) (IntKind.i64.wrap (irem y 24)) then true else !nmOf (IntKind.i64.wrap (irem x 24)) == nmOf (IntKind.i64.wrap (irem y 24)) else false then true else false),[])) = r) : Goes (runP (book.envP 3 sp3 100 noLoops) Try.f3 [.int .u8 x,.int .u8 y] [] (.t (.t (.t (.t (.t (.t (.t (.s (.t (.t (.t (.t (.t (.t (.t .z))))))) (.f (.f (.f (.f (.t (.t .z))))))))))))))) r :=
 Goes.of_eq (t' := bK 3 (bK 4 (bT (bK 4 (bN (bN (bR ((AV.bool (bif bif bif (z030_3 x).snd then ieq (z030_3 x).fst (z030_0 x) else false then bif ieq (z030_0 x) (z030_2 y) then true else !nmOf (z030_0 x) == nmOf (z030_2 y) else false then true else false),[]))) (aT (bif bif (z030_3 x).snd then ieq (z030_3 x).fst (z030_0 x) else false then bif ieq (z030_0 x) (z030_2 y) then true else !nmOf (z030_0 x) == nmOf (z030_2 y) else false) true)) (z030_1 x)) (aT (ieq (z030_0 x) (z030_2 y)) false)) (bK 4 (bN (bN (bN (bR ((AV.bool (bif bif bif (z030_3 x).snd then ieq (z030_3 x).fst (z030_0 x) else false then true else false then true else false),[]))) (aT (bif bif (z030_3 x).snd then ieq (z030_3 x).fst (z030_0 x) else false then true else false) true)) (aT (ieq (z030_0 x) (z030_2 y)) true)) (z030_1 x)) (aT (ieq (z030_0 x) (z030_2 y)) true)) (ieq (z030_0 x) (z030_2 y))) (z030_1 x)) (aT ((z030_3 x).snd) true)) (by kernel_rfl) (.rp k0 (.rp (condT k0 k1) (.ite (fun e0 => .rp e0 (.tl (condT k0 k1) (.tl e0 (.tl (condT (condT k0 k1) rfl) (.leafE (k2 e0)))))) (fun e0 => .rp e0 (.tl (condT k0 k1) (.tl (condT (condT k0 k1) (condF e0 (k3 e0))) (.leafE (k4 e0))))))))
end Go.Proofs.Ytdcijmigoefnjaa
set_option linter.unusedVariables false
set_option linter.unusedSimpArgs false
set_option maxRecDepth 100000
set_option maxHeartbeats 0
namespace Go.Proofs.Ytdcijmigoefnjaa
open Go Go.Ev
theorem allT (f : FuncId) {args : List AV} {r : AV} (h : book.all 100 12 f args [] = some (r,[])) : CallsA Try.prog f args [] r [] := Book.all_ok book_ok 100 12 f args [] r [] h
theorem isF_iff {n : Int} : isF n = true ↔ 0 ≤ n ∧ n < 24 := by
 unfold isF ile ilt
 by_cases h : 0 ≤ n <;> simp [h]
theorem isF_cases {n : Int} (h : isF n = true) : ∃ j : Nat,j < 24 ∧ n = j := by
 rw [isF_iff] at h
 exact ⟨n.toNat,by omega,by omega⟩
theorem isF_not {n : Int} (h : isF n = false) : n < 0 ∨ 24 ≤ n := by
 have : ¬ (0 ≤ n ∧ n < 24) := fun h2 => by rw [isF_iff.2 h2] at h; cases h
 omega
theorem gF {f : FuncId} {g : Int → AV} (h1 : (List.range 24).map (fun (j : Nat) => book.all 100 12 f [.int .i64 (j : Int)] []) = (List.range 24).map (fun (j : Nat) => some (g (j : Int),[]))) (h2 : ∀ n,isF n = false → CallsA Try.prog f [.int .i64 n] [] (g n) []) :
  SumTOk Try.prog f (sumOf (gI .i64 g)) := by
 refine gI_ok fun n => ?_
 cases h : isF n with
 | true =>
  obtain ⟨j,hj,rfl⟩ := isF_cases h
  have := all_of_map h1 j hj
  exact allT f this
 | false => exact h2 n h
theorem rowOf_no {n : Int} (h : isF n = false) : rowOf n = noRow := by
 have e : (bif ile 0 n && ilt n 24 then rowTab.getD n.toNat noRow else noRow) = (bif isF n then rowTab.getD n.toNat noRow else noRow) := by
  unfold isF
  cases ile 0 n <;> rfl
 unfold rowOf
 rw [e,h]; rfl
theorem ieq_no {n : Int} (h : isF n = false) {j : Int} (h1 : 0 ≤ j) (h2 : j < 24) : ieq n j = false := by
 have := isF_not h
 simp only [ieq,beq_eq_false_iff_ne]
 omega
theorem s104 : SumTOk Try.prog 104 (sumOf (g0 rowsA)) := g0_ok (allT 104 (by kernel_rfl))
theorem s31 : SumTOk Try.prog 31 (sumOf G31) := gI_ok fun n => book_ok.pth (by kernel_rfl) noSpec_ok
 (p31 n _ (by rw [isF]) (fun h => by rw [isF,h]; rfl))
theorem sp105_ok : SpecTL Try.prog sp105 := ⟨s104,s31,trivial⟩
theorem s105 : SumTOk Try.prog 105 (sumOf G105) := gF (by kernel_rfl) fun n h => book_ok.pth (by kernel_rfl) sp105_ok
 (p105 n _ (by rw [h]; rfl) (by rw [rowOf_no h]; rfl))
theorem spAt_ok : SpecTL Try.prog spAt := ⟨s105,trivial⟩
theorem s32 : SumTOk Try.prog 32 (sumOf G32) := gI_ok fun n => book_ok.pth (by kernel_rfl) spAt_ok (p32 n _ rfl)
theorem upOf_no {n : Int} (h : isF n = false) : upOf n = noRow := by
 unfold upOf
 rw [rowOf_no h]
 cases ile 12 n <;> rfl
theorem s163 : SumTOk Try.prog 163 (sumOf G163) := by
 refine gI_ok fun n => ?_
 cases h : isF n with
 | true =>
  obtain ⟨j,hj,rfl⟩ := isF_cases h
  have := all_of_map (f := fun (j : Nat) => book.all 100 12 163 [.int .i64 (j : Int)] []) (g := fun (j : Nat) => some (tupR (upOf (j : Int)),[])) (n := 24) (by kernel_rfl) j hj
  exact allT 163 this
 | false =>
  have e := fun (j : Int) (h1 : 0 ≤ j) (h2 : j < 24) => ieq_no h h1 h2
  exact book_ok.pth (by kernel_rfl) noSpec_ok (p163 n _ (e _ (by omega) (by omega)) (e _ (by omega) (by omega)) (e _ (by omega) (by omega)) (e _ (by omega) (by omega)) (e _ (by omega) (by omega)) (e _ (by omega) (by omega)) (e _ (by omega) (by omega)) (e _ (by omega) (by omega)) (e _ (by omega) (by omega)) (e _ (by omega) (by omega)) (e _ (by omega) (by omega)) (e _ (by omega) (by omega)) (by rw [upOf_no h]; rfl))
theorem sp163_ok : SpecTL Try.prog sp163 := ⟨s163,trivial⟩
theorem s111 : SumTOk Try.prog 111 (sumOf G111) := gF (by kernel_rfl) fun n h => by
 have e := fun (j : Int) (h1 : 0 ≤ j) (h2 : j < 24) => ieq_no h h1 h2
 refine book_ok.pth (by kernel_rfl) sp163_ok (p111 n _ (e _ (by omega) (by omega)) (e _ (by omega) (by omega)) (e _ (by omega) (by omega)) (e _ (by omega) (by omega)) (e _ (by omega) (by omega)) (e _ (by omega) (by omega)) (e _ (by omega) (by omega)) (e _ (by omega) (by omega)) (e _ (by omega) (by omega)) (e _ (by omega) (by omega)) (e _ (by omega) (by omega)) (e _ (by omega) (by omega)) ?_)
 rw [upOf_no h,rowOf_no h]; rfl
theorem sp111_ok : SpecTL Try.prog sp111 := ⟨s111,trivial⟩
theorem s47 : SumTOk Try.prog 47 (sumOf G32) := gI_ok fun n => book_ok.pth (by kernel_rfl) sp111_ok (p47 n _ rfl)
end Go.Proofs.Ytdcijmigoefnjaa
set_option linter.unusedVariables false
set_option maxRecDepth 100000
set_option maxHeartbeats 0
namespace Go.Proofs.Ytdcijmigoefnjaa
open Go Go.Ev
theorem p68 (a b c d : Int) (r : zR) (k0 : ((za [zU (ibits BinOp.and zK a c),zU (ibits BinOp.and zK b d)],[])) = r) : Goes (runP (book.envP 68 noSpec 100 noLoops) Try.f68 [wA (a,b),wA (c,d)] [] .z) r :=
 Goes.of_eq (t' := bR ((za [zU (ibits BinOp.and zK a c),zU (ibits BinOp.and zK b d)],[]))) (by kernel_rfl) (.leafE k0)
theorem p109 (a b c d : Int) (r : zR) (k0 : ((za [zU (ibits BinOp.and zK a c),zU (ibits BinOp.and zK b d)],[])) = r) : Goes (runP (book.envP 109 noSpec 100 noLoops) Try.f109 [wA (a,b),wA (c,d)] [] .z) r :=
 Goes.of_eq (t' := bR ((za [zU (ibits BinOp.and zK a c),zU (ibits BinOp.and zK b d)],[]))) (by kernel_rfl) (.leafE k0)
end Go.Proofs.Ytdcijmigoefnjaa
set_option linter.unusedVariables false
set_option linter.unusedSimpArgs false
set_option maxRecDepth 100000
set_option maxHeartbeats 0
namespace Go.Proofs.Ytdcijmigoefnjaa
open Go Go.Ev
theorem s68 : SumTOk Try.prog 68 (S68 (ibits .and .u64)) := sum0_ok fun x _ => book_ok.pth (by kernel_rfl) noSpec_ok (p68 x.1.1 x.1.2 x.2.1 x.2.2 _ rfl)
theorem s109 : SumTOk Try.prog 109 (S68 (ibits .and .u64)) := sum0_ok fun x _ => book_ok.pth (by kernel_rfl) noSpec_ok (p109 x.1.1 x.1.2 x.2.1 x.2.2 _ rfl)
end Go.Proofs.Ytdcijmigoefnjaa
set_option linter.unusedVariables false
set_option maxRecDepth 100000
set_option maxHeartbeats 0
namespace Go.Proofs.Ytdcijmigoefnjaa
open Go Go.Ev
theorem low108 : lowNs.map (fun n => book.all 1000 6 108 [.int .i64 n] []) = lowNs.map (fun n => some (wA (lowW n),[])) := by kernel_rfl
theorem low110_2 : book.all 1000 6 110 [.int .i64 2] [] = some (wA (lowW 2),[]) := by kernel_rfl
theorem low110_3 : book.all 1000 6 110 [.int .i64 3] [] = some (wA (lowW 3),[]) := by kernel_rfl
theorem low110_6 : book.all 1000 6 110 [.int .i64 6] [] = some (wA (lowW 6),[]) := by kernel_rfl
theorem low110_8 : book.all 1000 6 110 [.int .i64 8] [] = some (wA (lowW 8),[]) := by kernel_rfl
theorem low110_13 : book.all 1000 6 110 [.int .i64 13] [] = some (wA (lowW 13),[]) := by kernel_rfl
theorem low110_16 : book.all 1000 6 110 [.int .i64 16] [] = some (wA (lowW 16),[]) := by kernel_rfl
theorem low110_20 : book.all 1000 6 110 [.int .i64 20] [] = some (wA (lowW 20),[]) := by kernel_rfl
theorem low110_32 : book.all 1000 6 110 [.int .i64 32] [] = some (wA (lowW 32),[]) := by kernel_rfl
theorem low110_48 : book.all 1000 6 110 [.int .i64 48] [] = some (wA (lowW 48),[]) := by kernel_rfl
theorem low110_64 : book.all 1000 6 110 [.int .i64 64] [] = some (wA (lowW 64),[]) := by kernel_rfl
theorem low110_128 : book.all 1000 6 110 [.int .i64 128] [] = some (wA (lowW 128),[]) := by kernel_rfl
theorem low_of {f : FuncId} (h : ∀ n ∈ lowNs,CallsA Try.prog f [.int .i64 n] [] (wA (lowW n)) []) : SumTOk Try.prog f S108 := by
 intro a p t ht
 unfold S108 at ht
 split at ht
 ·obtain ⟨h1,h2⟩ := ht
  cases h2
  simp only [Bool.and_eq_true,decide_eq_true_eq,lowOk,List.any_eq_true,ieq,beq_iff_eq] at h1
  obtain ⟨rfl,m,hm,rfl⟩ := h1
  exact h _ hm
 ·exact ht.elim
theorem s108 : SumTOk Try.prog 108 S108 := low_of fun n hn => Book.all_ok book_ok 1000 6 108 _ [] _ [] (List.map_inj_left.1 low108 n hn)
theorem s110 : SumTOk Try.prog 110 S108 := low_of fun n hn => by
 simp only [lowNs,List.mem_cons,List.not_mem_nil,or_false] at hn
 rcases hn with rfl | rfl | rfl | rfl | rfl | rfl | rfl | rfl | rfl | rfl | rfl
 ·exact Book.all_ok book_ok 1000 6 110 _ [] _ [] low110_2
 ·exact Book.all_ok book_ok 1000 6 110 _ [] _ [] low110_3
 ·exact Book.all_ok book_ok 1000 6 110 _ [] _ [] low110_6
 ·exact Book.all_ok book_ok 1000 6 110 _ [] _ [] low110_8
 ·exact Book.all_ok book_ok 1000 6 110 _ [] _ [] low110_13
 ·exact Book.all_ok book_ok 1000 6 110 _ [] _ [] low110_16
 ·exact Book.all_ok book_ok 1000 6 110 _ [] _ [] low110_20
 ·exact Book.all_ok book_ok 1000 6 110 _ [] _ [] low110_32
 ·exact Book.all_ok book_ok 1000 6 110 _ [] _ [] low110_48
 ·exact Book.all_ok book_ok 1000 6 110 _ [] _ [] low110_64
 ·exact Book.all_ok book_ok 1000 6 110 _ [] _ [] low110_128
end Go.Proofs.Ytdcijmigoefnjaa
