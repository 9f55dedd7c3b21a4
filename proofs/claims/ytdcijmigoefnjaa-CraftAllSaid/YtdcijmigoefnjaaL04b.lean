import Derived.Test.YtdcijmigoefnjaaP03
import Derived.Test.YtdcijmigoefnjaaP04c
import Derived.Test.YtdcijmigoefnjaaD03
/- Chapter 04: what two headers have otherwise; the call of HeaderSets. -/
set_option linter.unusedVariables false
set_option linter.unusedSimpArgs false
set_option maxRecDepth 100000
set_option maxHeartbeats 0
namespace Go.Proofs.Ytdcijmigoefnjaa
open Go Go.Ev

theorem sp39_ok : SpecTL Try.prog sp39 := ⟨s68, s109, s32, s47, s108, s110, trivial⟩
theorem s39 : SumTOk Try.prog 39 (S39 true) := sum0_ok fun x hx => by
  have hx : isHdr x = true := hx
  show CallsA Try.prog 39 [.agg x] [] (.agg (clipC x)) []
  rw [isHdr_eq hx]
  exact book_ok.pth (by kernel_rfl) sp39_ok (p39 _ _ rfl)
theorem s40 : SumTOk Try.prog 40 (S39 true) := sum0_ok fun x hx => by
  have hx : isHdr x = true := hx
  show CallsA Try.prog 40 [.agg x] [] (.agg (clipC x)) []
  rw [isHdr_eq hx]
  exact book_ok.pth (by kernel_rfl) sp39_ok (p40 _ _ rfl)

theorem sp37_ok : SpecTL Try.prog (sp37 true) := ⟨s39, s40, trivial⟩
theorem s37 : SumTOk Try.prog 37 S37 := sum0_ok fun x hx => by
  have hx : isHdr x = true := hx
  show CallsA Try.prog 37 [.agg x] [] (.bool (fitsC x)) []
  rw [isHdr_eq hx]
  exact book_ok.pth (by kernel_rfl) sp37_ok (p37 true _ _ rfl rfl)
/-! what two headers have otherwise -/
theorem pair_at (h : Nat → Int) : ∀ j, j < 24 → List.map AV.flat (List.take 2 (List.drop (0 + j * 2) (hdrC h))) = [.int .u64 (h (j * 2)), .int .u64 (h (j * 2 + 1))] := by
  intro j hj
  match j, hj with
  | 0, _ => rfl
  | 1, _ => rfl
  | 2, _ => rfl
  | 3, _ => rfl
  | 4, _ => rfl
  | 5, _ => rfl
  | 6, _ => rfl
  | 7, _ => rfl
  | 8, _ => rfl
  | 9, _ => rfl
  | 10, _ => rfl
  | 11, _ => rfl
  | 12, _ => rfl
  | 13, _ => rfl
  | 14, _ => rfl
  | 15, _ => rfl
  | 16, _ => rfl
  | 17, _ => rfl
  | 18, _ => rfl
  | 19, _ => rfl
  | 20, _ => rfl
  | 21, _ => rfl
  | 22, _ => rfl
  | 23, _ => rfl
  | j + 24, h => omega

structure P42 (x : X2) : Prop where
  i0 : 0 ≤ x.1
  i1 : x.1 ≤ 24
  len : (x.2.length : Int) ≤ x.1

theorem len_at (h : Nat → Int) {j : Nat} (hj : j < 24) : ((List.take 2 (List.drop (0 + j * 2) (hdrC h))).length == 2) = true := by
  have := congrArg List.length (pair_at h j hj)
  rw [List.length_map] at this
  rw [this]; rfl

theorem cell_hdr (h : Nat → Int) {j : Nat} (hj : j < 48) : cell (hdrC h) j = h j := by
  have all : ∀ (i : Nat), i < 48 → (hdrC h)[i]? = some (.int .u64 (h i)) := by
    intro i hi
    match i, hi with
    | 0, _ => rfl
    | 1, _ => rfl
    | 2, _ => rfl
    | 3, _ => rfl
    | 4, _ => rfl
    | 5, _ => rfl
    | 6, _ => rfl
    | 7, _ => rfl
    | 8, _ => rfl
    | 9, _ => rfl
    | 10, _ => rfl
    | 11, _ => rfl
    | 12, _ => rfl
    | 13, _ => rfl
    | 14, _ => rfl
    | 15, _ => rfl
    | 16, _ => rfl
    | 17, _ => rfl
    | 18, _ => rfl
    | 19, _ => rfl
    | 20, _ => rfl
    | 21, _ => rfl
    | 22, _ => rfl
    | 23, _ => rfl
    | 24, _ => rfl
    | 25, _ => rfl
    | 26, _ => rfl
    | 27, _ => rfl
    | 28, _ => rfl
    | 29, _ => rfl
    | 30, _ => rfl
    | 31, _ => rfl
    | 32, _ => rfl
    | 33, _ => rfl
    | 34, _ => rfl
    | 35, _ => rfl
    | 36, _ => rfl
    | 37, _ => rfl
    | 38, _ => rfl
    | 39, _ => rfl
    | 40, _ => rfl
    | 41, _ => rfl
    | 42, _ => rfl
    | 43, _ => rfl
    | 44, _ => rfl
    | 45, _ => rfl
    | 46, _ => rfl
    | 47, _ => rfl
    | i + 48, h => omega
  unfold cell
  rw [List.getD_eq_getElem?_getD, all j hj]; rfl

end Go.Proofs.Ytdcijmigoefnjaa

/- Chapter 10: what its functions do (printed by program). -/
set_option linter.unusedVariables false
set_option maxRecDepth 100000
set_option maxHeartbeats 0
namespace Go.Proofs.Ytdcijmigoefnjaa
open Go Go.Ev

theorem p125 (a b : Int) (r : AV × List (List AV)) (k0 : ((AV.bool (ieq (ibits BinOp.or zK a b) 0), [])) = r) : Goes (runP (book.envP 125 noSpec 100 noLoops) Try.f125 [wA (a, b)] [] .z) r :=
  Goes.of_eq (t' := .ret ((AV.bool (ieq (ibits BinOp.or zK a b) 0), []))) (by kernel_rfl) (Goes.leafE (k0))
theorem p176_1 (n : Int) (r : AV × List (List AV)) (k0 : (ile 0 n) = true → ((AV.bool (bif ile 0 n then ieq (ishr IntKind.i64 n 8) 0 else false), [])) = r) (k1 : (ile 0 n) = false → ((AV.bool false, [])) = r) : Goes (runP (book.envP 176 sp176 100 noLoops) Try.f176 [.int .i64 n, .int .i64 1] [] (.t (.t (.s (.t (.t (.t (.t .z)))) (.f (.f (.f (.f (.f .z))))))))) r :=
  Goes.of_eq (t' := bT (bN (bN (bN (bN (bN (.ret ((AV.bool false, []))) (asTold (ile 0 n) false)) (asTold (ile 0 n) false)) (asTold (ile 0 n) false)) (asTold (ile 0 n) false)) (asTold (ile 0 n) false)) (bN (bN (bN (bN (.ret ((AV.bool (bif ile 0 n then ieq (ishr IntKind.i64 n 8) 0 else false), []))) (asTold (ile 0 n) true)) (asTold (ile 0 n) true)) (asTold (ile 0 n) true)) (asTold (ile 0 n) true)) (ile 0 n)) (by kernel_rfl) (.ite (fun h0_0 => .step (told h0_0) (.step (told h0_0) (.step (told h0_0) (.step (told h0_0) (Goes.leafE (k0 h0_0)))))) (fun h0_0 => .step (told h0_0) (.step (told h0_0) (.step (told h0_0) (.step (told h0_0) (.step (told h0_0) (Goes.leafE (k1 h0_0))))))))
theorem p176_2 (n : Int) (r : AV × List (List AV)) (k0 : (ile 0 n) = true → ((AV.bool (bif ile 0 n then ieq (ishr IntKind.i64 n 16) 0 else false), [])) = r) (k1 : (ile 0 n) = false → ((AV.bool false, [])) = r) : Goes (runP (book.envP 176 sp176 100 noLoops) Try.f176 [.int .i64 n, .int .i64 2] [] (.t (.t (.s (.t (.t (.t (.t .z)))) (.f (.f (.f (.f (.f .z))))))))) r :=
  Goes.of_eq (t' := bT (bN (bN (bN (bN (bN (.ret ((AV.bool false, []))) (asTold (ile 0 n) false)) (asTold (ile 0 n) false)) (asTold (ile 0 n) false)) (asTold (ile 0 n) false)) (asTold (ile 0 n) false)) (bN (bN (bN (bN (.ret ((AV.bool (bif ile 0 n then ieq (ishr IntKind.i64 n 16) 0 else false), []))) (asTold (ile 0 n) true)) (asTold (ile 0 n) true)) (asTold (ile 0 n) true)) (asTold (ile 0 n) true)) (ile 0 n)) (by kernel_rfl) (.ite (fun h0_0 => .step (told h0_0) (.step (told h0_0) (.step (told h0_0) (.step (told h0_0) (Goes.leafE (k0 h0_0)))))) (fun h0_0 => .step (told h0_0) (.step (told h0_0) (.step (told h0_0) (.step (told h0_0) (.step (told h0_0) (Goes.leafE (k1 h0_0))))))))
theorem p176_4 (n : Int) (r : AV × List (List AV)) (k0 : (ile 0 n) = true → ((AV.bool (bif ile 0 n then ieq (ishr IntKind.i64 n 32) 0 else false), [])) = r) (k1 : (ile 0 n) = false → ((AV.bool false, [])) = r) : Goes (runP (book.envP 176 sp176 100 noLoops) Try.f176 [.int .i64 n, .int .i64 4] [] (.t (.t (.s (.t (.t (.t (.t .z)))) (.f (.f (.f (.f (.f .z))))))))) r :=
  Goes.of_eq (t' := bT (bN (bN (bN (bN (bN (.ret ((AV.bool false, []))) (asTold (ile 0 n) false)) (asTold (ile 0 n) false)) (asTold (ile 0 n) false)) (asTold (ile 0 n) false)) (asTold (ile 0 n) false)) (bN (bN (bN (bN (.ret ((AV.bool (bif ile 0 n then ieq (ishr IntKind.i64 n 32) 0 else false), []))) (asTold (ile 0 n) true)) (asTold (ile 0 n) true)) (asTold (ile 0 n) true)) (asTold (ile 0 n) true)) (ile 0 n)) (by kernel_rfl) (.ite (fun h0_0 => .step (told h0_0) (.step (told h0_0) (.step (told h0_0) (.step (told h0_0) (Goes.leafE (k0 h0_0)))))) (fun h0_0 => .step (told h0_0) (.step (told h0_0) (.step (told h0_0) (.step (told h0_0) (.step (told h0_0) (Goes.leafE (k1 h0_0))))))))
theorem p177_1 (n : Int) (r : AV × List (List AV)) (k0 : (ile 0 n) = true → ((AV.bool (bif ile 0 n then ile n 255 else false), [])) = r) (k1 : (ile 0 n) = false → ((AV.bool false, [])) = r) : Goes (runP (book.envP 177 sp176 100 noLoops) Try.f177 [.int .i64 n, .int .i64 1] [] (.t (.s (.t .z) (.f (.f .z))))) r :=
  Goes.of_eq (t' := bT (bN (bN (.ret ((AV.bool false, []))) (asTold (ile 0 n) false)) (asTold (ile 0 n) false)) (bN (.ret ((AV.bool (bif ile 0 n then ile n 255 else false), []))) (asTold (ile 0 n) true)) (ile 0 n)) (by kernel_rfl) (.ite (fun h0_0 => .step (told h0_0) (Goes.leafE (k0 h0_0))) (fun h0_0 => .step (told h0_0) (.step (told h0_0) (Goes.leafE (k1 h0_0)))))
theorem p177_2 (n : Int) (r : AV × List (List AV)) (k0 : (ile 0 n) = true → ((AV.bool (bif ile 0 n then ile n 65535 else false), [])) = r) (k1 : (ile 0 n) = false → ((AV.bool false, [])) = r) : Goes (runP (book.envP 177 sp176 100 noLoops) Try.f177 [.int .i64 n, .int .i64 2] [] (.f (.t (.s (.t .z) (.f (.f .z)))))) r :=
  Goes.of_eq (t' := bT (bN (bN (.ret ((AV.bool false, []))) (asTold (ile 0 n) false)) (asTold (ile 0 n) false)) (bN (.ret ((AV.bool (bif ile 0 n then ile n 65535 else false), []))) (asTold (ile 0 n) true)) (ile 0 n)) (by kernel_rfl) (.ite (fun h0_0 => .step (told h0_0) (Goes.leafE (k0 h0_0))) (fun h0_0 => .step (told h0_0) (.step (told h0_0) (Goes.leafE (k1 h0_0)))))
theorem p177_4 (n : Int) (r : AV × List (List AV)) (k0 : (ile 0 n) = true → ((AV.bool (bif ile 0 n then ile n 4294967295 else false), [])) = r) (k1 : (ile 0 n) = false → ((AV.bool false, [])) = r) : Goes (runP (book.envP 177 sp176 100 noLoops) Try.f177 [.int .i64 n, .int .i64 4] [] (.f (.f (.t (.s (.t .z) (.f (.f .z))))))) r :=
  Goes.of_eq (t' := bT (bN (bN (.ret ((AV.bool false, []))) (asTold (ile 0 n) false)) (asTold (ile 0 n) false)) (bN (.ret ((AV.bool (bif ile 0 n then ile n 4294967295 else false), []))) (asTold (ile 0 n) true)) (ile 0 n)) (by kernel_rfl) (.ite (fun h0_0 => .step (told h0_0) (Goes.leafE (k0 h0_0))) (fun h0_0 => .step (told h0_0) (.step (told h0_0) (Goes.leafE (k1 h0_0)))))
def p133_1_c0 (xs : List AV) (n : Int) : Bool := true && (↑xs.length : Int).toNat == (↑xs.length : Int).toNat
def p133_1_c1 (xs : List AV) (n : Int) : Bool := (((List.take ((↑xs.length : Int).toNat - 0) xs).length + 1) * 1).ble 140737488355328
def p133_1_c2 (xs : List AV) (n : Int) : Bool := ((List.take ((↑xs.length : Int).toNat - 0) xs).length + 1).ble 140737488355328
theorem p133_1 (xs : List AV) (n : Int) (r : AV × List (List AV)) (k0 : (!numOk n 1) = false) (k1 : (inR (↑xs.length : Int) (xs.length + 1)) = true) (k2 : (inR (↑xs.length : Int) ((↑xs.length : Int).toNat + 1)) = true) (k3 : (true && (↑xs.length : Int).toNat == (↑xs.length : Int).toNat) = true) (k4 : ((((List.take ((↑xs.length : Int).toNat - 0) xs).length + 1) * 1).ble 140737488355328) = true) (k5 : (((List.take ((↑xs.length : Int).toNat - 0) xs).length + 1).ble 140737488355328) = true) (k6 : ((AV.sl 1 (List.take ((↑xs.length : Int).toNat - 0) xs ++ [zB (zk.wrap (ishr IntKind.i64 n 0))]) (St.own []), [])) = r) : Goes (runP (book.envP 133 spN big noLoops) Try.f133 [.sl 1 xs .sh, .int .i64 n, .int .i64 1] [] (.f (.t (.t (.t (.t (.f (.f .z)))))))) r :=
  Goes.of_eq (t' := .must (Same ([zI n, zI 1])) (bN (bN (bN (bN (bN (bN (.ret ((AV.sl 1 (List.take ((↑xs.length : Int).toNat - 0) xs ++ [zB (zk.wrap (ishr IntKind.i64 n 0))]) (St.own []), []))) ((p133_1_c2 xs n))) ((p133_1_c1 xs n))) ((p133_1_c0 xs n))) (inR (↑xs.length : Int) ((↑xs.length : Int).toNat + 1))) (inR (↑xs.length : Int) (xs.length + 1))) (asTold (!numOk n 1) false))) (by kernel_rfl) (.must (same_ok _) (.step (told (k0)) (.step (k1) (.step (k2) (.step (k3) (.step (k4) (.step (k5) (Goes.leafE (k6)))))))))
def p133_2_c0 (xs : List AV) (n : Int) : Bool := true && (↑xs.length : Int).toNat == (↑xs.length : Int).toNat
def p133_2_c1 (xs : List AV) (n : Int) : Bool := (((List.take ((↑xs.length : Int).toNat - 0) xs).length + 2) * 1).ble 140737488355328
def p133_2_c2 (xs : List AV) (n : Int) : Bool := ((List.take ((↑xs.length : Int).toNat - 0) xs).length + 2).ble 140737488355328
theorem p133_2 (xs : List AV) (n : Int) (r : AV × List (List AV)) (k0 : (!numOk n 2) = false) (k1 : (inR (↑xs.length : Int) (xs.length + 1)) = true) (k2 : (inR (↑xs.length : Int) ((↑xs.length : Int).toNat + 1)) = true) (k3 : (true && (↑xs.length : Int).toNat == (↑xs.length : Int).toNat) = true) (k4 : ((((List.take ((↑xs.length : Int).toNat - 0) xs).length + 2) * 1).ble 140737488355328) = true) (k5 : (((List.take ((↑xs.length : Int).toNat - 0) xs).length + 2).ble 140737488355328) = true) (k6 : ((AV.sl 1 (List.take ((↑xs.length : Int).toNat - 0) xs ++ [zB (zk.wrap (ishr IntKind.i64 n 8)), zB (zk.wrap (ishr IntKind.i64 n 0))]) (St.own []), [])) = r) : Goes (runP (book.envP 133 spN big noLoops) Try.f133 [.sl 1 xs .sh, .int .i64 n, .int .i64 2] [] (.f (.t (.t (.t (.t (.f (.f .z)))))))) r :=
  Goes.of_eq (t' := .must (Same ([zI n, zI 2])) (bN (bN (bN (bN (bN (bN (.ret ((AV.sl 1 (List.take ((↑xs.length : Int).toNat - 0) xs ++ [zB (zk.wrap (ishr IntKind.i64 n 8)), zB (zk.wrap (ishr IntKind.i64 n 0))]) (St.own []), []))) ((p133_2_c2 xs n))) ((p133_2_c1 xs n))) ((p133_2_c0 xs n))) (inR (↑xs.length : Int) ((↑xs.length : Int).toNat + 1))) (inR (↑xs.length : Int) (xs.length + 1))) (asTold (!numOk n 2) false))) (by kernel_rfl) (.must (same_ok _) (.step (told (k0)) (.step (k1) (.step (k2) (.step (k3) (.step (k4) (.step (k5) (Goes.leafE (k6)))))))))
def p133_4_c0 (xs : List AV) (n : Int) : Bool := true && (↑xs.length : Int).toNat == (↑xs.length : Int).toNat
def p133_4_c1 (xs : List AV) (n : Int) : Bool := (((List.take ((↑xs.length : Int).toNat - 0) xs).length + 4) * 1).ble 140737488355328
def p133_4_c2 (xs : List AV) (n : Int) : Bool := ((List.take ((↑xs.length : Int).toNat - 0) xs).length + 4).ble 140737488355328
theorem p133_4 (xs : List AV) (n : Int) (r : AV × List (List AV)) (k0 : (!numOk n 4) = false) (k1 : (inR (↑xs.length : Int) (xs.length + 1)) = true) (k2 : (inR (↑xs.length : Int) ((↑xs.length : Int).toNat + 1)) = true) (k3 : (true && (↑xs.length : Int).toNat == (↑xs.length : Int).toNat) = true) (k4 : ((((List.take ((↑xs.length : Int).toNat - 0) xs).length + 4) * 1).ble 140737488355328) = true) (k5 : (((List.take ((↑xs.length : Int).toNat - 0) xs).length + 4).ble 140737488355328) = true) (k6 : ((AV.sl 1 (List.take ((↑xs.length : Int).toNat - 0) xs ++ [zB (zk.wrap (ishr IntKind.i64 n 24)), zB (zk.wrap (ishr IntKind.i64 n 16)), zB (zk.wrap (ishr IntKind.i64 n 8)), zB (zk.wrap (ishr IntKind.i64 n 0))]) (St.own []), [])) = r) : Goes (runP (book.envP 133 spN big noLoops) Try.f133 [.sl 1 xs .sh, .int .i64 n, .int .i64 4] [] (.f (.t (.t (.t (.t (.f (.f .z)))))))) r :=
  Goes.of_eq (t' := .must (Same ([zI n, zI 4])) (bN (bN (bN (bN (bN (bN (.ret ((AV.sl 1 (List.take ((↑xs.length : Int).toNat - 0) xs ++ [zB (zk.wrap (ishr IntKind.i64 n 24)), zB (zk.wrap (ishr IntKind.i64 n 16)), zB (zk.wrap (ishr IntKind.i64 n 8)), zB (zk.wrap (ishr IntKind.i64 n 0))]) (St.own []), []))) ((p133_4_c2 xs n))) ((p133_4_c1 xs n))) ((p133_4_c0 xs n))) (inR (↑xs.length : Int) ((↑xs.length : Int).toNat + 1))) (inR (↑xs.length : Int) (xs.length + 1))) (asTold (!numOk n 4) false))) (by kernel_rfl) (.must (same_ok _) (.step (told (k0)) (.step (k1) (.step (k2) (.step (k3) (.step (k4) (.step (k5) (Goes.leafE (k6)))))))))
end Go.Proofs.Ytdcijmigoefnjaa
