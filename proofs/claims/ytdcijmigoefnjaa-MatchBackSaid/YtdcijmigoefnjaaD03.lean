import Derived.Test.YtdcijmigoefnjaaBk2
import Derived.Test.YtdcijmigoefnjaaEv3
/- Chapter 03: what fields are, as functions. -/
set_option linter.unusedVariables false
set_option maxRecDepth 100000
namespace Go.Proofs.Ytdcijmigoefnjaa
open Go Go.Ev

/-- a field: its name, its number, its bits, whether it may be masked -/
abbrev FRow := List UInt8 × Int × Int × Bool

def rowTab : List FRow :=
  [([105, 110, 95, 112, 111, 114, 116], 0, 32, false), ([109, 101, 116, 97, 100, 97, 116, 97], 2, 64, true), ([101, 116, 104, 95, 100, 115, 116], 3, 48, true),
   ([101, 116, 104, 95, 115, 114, 99], 4, 48, true), ([101, 116, 104, 95, 116, 121, 112, 101], 5, 16, false), ([118, 108, 97, 110, 95, 118, 105, 100], 6, 13, true),
   ([118, 108, 97, 110, 95, 112, 99, 112], 7, 3, false), ([105, 112, 95, 100, 115, 99, 112], 8, 6, false), ([105, 112, 95, 101, 99, 110], 9, 2, false),
   ([105, 112, 95, 112, 114, 111, 116, 111], 10, 8, false), ([105, 112, 118, 52, 95, 115, 114, 99], 11, 32, true), ([105, 112, 118, 52, 95, 100, 115, 116], 12, 32, true),
   ([116, 99, 112, 95, 115, 114, 99], 13, 16, false), ([116, 99, 112, 95, 100, 115, 116], 14, 16, false), ([117, 100, 112, 95, 115, 114, 99], 15, 16, false),
   ([117, 100, 112, 95, 100, 115, 116], 16, 16, false), ([105, 99, 109, 112, 118, 52, 95, 116, 121, 112, 101], 19, 8, false), ([105, 99, 109, 112, 118, 52, 95, 99, 111, 100, 101], 20, 8, false),
   ([97, 114, 112, 95, 111, 112], 21, 16, false), ([97, 114, 112, 95, 115, 112, 97], 22, 32, true), ([97, 114, 112, 95, 116, 112, 97], 23, 32, true),
   ([105, 112, 118, 54, 95, 115, 114, 99], 26, 128, true), ([105, 112, 118, 54, 95, 100, 115, 116], 27, 128, true), ([109, 112, 108, 115, 95, 108, 97, 98, 101, 108], 34, 20, false)]

def noRow : FRow := ([], -1, 0, false)

def rowOf (f : Int) : FRow := bif ile 0 f && ilt f 24 then rowTab.getD f.toNat noRow else noRow

def rowAV (r : FRow) : List AV := [.str r.1, .int .i64 r.2.1, .int .i64 r.2.2.1, .bool r.2.2.2]

def rowsA : AV := .agg (rowTab.flatMap rowAV)
/-- is there such a field -/
def isF (n : Int) : Bool := bif ile 0 n then ilt n 24 else false
def idOf (n : Int) : Int := (rowOf n).2.1
def bitsOf (n : Int) : Int := (rowOf n).2.2.1
def sizeOf (n : Int) : Int := ishr .i64 (iadd .i64 (bitsOf n) 7) 3
def masksOf (n : Int) : Bool := (rowOf n).2.2.2
def ixOf (n : Int) : Int × Bool :=
  bif ieq 0 n then (0, true) else
  bif ieq 2 n then (1, true) else
  bif ieq 3 n then (2, true) else
  bif ieq 4 n then (3, true) else
  bif ieq 5 n then (4, true) else
  bif ieq 6 n then (5, true) else
  bif ieq 7 n then (6, true) else
  bif ieq 8 n then (7, true) else
  bif ieq 9 n then (8, true) else
  bif ieq 10 n then (9, true) else
  bif ieq 11 n then (10, true) else
  bif ieq 12 n then (11, true) else
  bif ieq 13 n then (12, true) else
  bif ieq 14 n then (13, true) else
  bif ieq 15 n then (14, true) else
  bif ieq 16 n then (15, true) else
  bif ieq 19 n then (16, true) else
  bif ieq 20 n then (17, true) else
  bif ieq 21 n then (18, true) else
  bif ieq 22 n then (19, true) else
  bif ieq 23 n then (20, true) else
  bif ieq 26 n then (21, true) else
  bif ieq 27 n then (22, true) else
  bif ieq 34 n then (23, true) else
  (0, false)

/-- rows above the first twelve -/
def upOf (n : Int) : FRow := bif ile 12 n then rowOf n else noRow
def tupR (r : FRow) : AV := .tup (rowAV r)

/-- what a field needs: fields, and their values -/
def needTab : List (List (Int × List Int)) :=
  [[], [], [], [], [], [], [(5, [])], [(4, [2048, 34525])], [(4, [2048, 34525])], [(4, [2048, 34525])], [(4, [2048])], [(4, [2048])],
   [(4, [2048, 34525]), (9, [6])], [(4, [2048, 34525]), (9, [6])], [(4, [2048, 34525]), (9, [17])], [(4, [2048, 34525]), (9, [17])], [(4, [2048]), (9, [1])], [(4, [2048]), (9, [1])],
   [(4, [2054])], [(4, [2054])], [(4, [2054])], [(4, [34525])], [(4, [34525])], [(4, [34887, 34888])]]
def needOf (n : Int) : List (Int × List Int) := bif isF n then needTab.getD n.toNat [] else []
def wideA (v : Int) : AV := .agg [.int .u64 0, .int .u64 v]
def needCell (p : Int × List Int) (st : St) : AV := .agg [.int .i64 p.1, match p.2 with | [] => .sl 0 [] .nil | l => .sl 2 (l.map wideA) st]
def needP (l : List (Int × List Int)) : AV := match l with | [] => .sl 0 [] .nil | [p] => .sl 2 [needCell p .sh] .full | l => .sl 2 (l.map fun p => needCell p .sh) (.own [])
def G30 := gI .i64 fun n => needP (needOf n)
def G31 := gI .i64 fun n => .bool (isF n)
def G105 := gI .i64 fun n => .agg (rowAV (rowOf n))
def G27 := gI .i64 fun n => .int .i64 (idOf n)
def G32 := gI .i64 fun n => .int .i64 (bitsOf n)
def G48 := gI .i64 fun n => .int .i64 (sizeOf n)
def G50 := gI .i64 fun n => .bool (masksOf n)
def G26 := gI .i64 fun n => .tup [.int .i64 (ixOf n).1, .bool (ixOf n).2]
def G163 := gI .i64 fun n => tupR (upOf n)
def G111 := gI .i64 fun n => tupR (rowOf n)

def sp105 : List (FuncId × SumT) := [(104, sumOf (g0 rowsA)), (31, sumOf G31)]
def spAt : List (FuncId × SumT) := [(105, sumOf G105)]
def sp104 : List (FuncId × SumT) := [(104, sumOf (g0 rowsA))]
def sp163 : List (FuncId × SumT) := [(163, sumOf G163)]
def sp111 : List (FuncId × SumT) := [(111, sumOf G111)]
def sp47 : List (FuncId × SumT) := [(47, sumOf G32)]
def sp46 : List (FuncId × SumT) := [(46, sumOf G27)]
end Go.Proofs.Ytdcijmigoefnjaa

/- Lists: equal, held one by one. -/
set_option linter.unusedVariables false
namespace Go.Proofs.Ytdcijmigoefnjaa
open Go Go.Ev

abbrev X3 := Int × List AV × List AV
def st41 (x : X3) : AS := stA 26 [(0, .sl 1 x.2.1 .sh), (1, .sl 1 x.2.2 .sh), (12, .int .i64 x.2.1.length), (13, .int .i64 x.1)] []
def pr41 (s : AS) : X3 := ((s.at 13).asInt, (s.at 0).elems, (s.at 1).elems)

end Go.Proofs.Ytdcijmigoefnjaa

/- Lists: rounds of their loops (printed by program). -/
set_option linter.unusedVariables false
set_option maxRecDepth 100000
set_option maxHeartbeats 0
namespace Go.Proofs.Ytdcijmigoefnjaa
open Go Go.Ev

def r41_o0 (i : Int) (xs ys : List AV) : AS := { tmps := [zN, zN, zN, zN, AV.bool false, zN, zN, zN, zN, zN, zN, zN, zN, zN, zN, zN, zN, zN, zN, zN, zN, zN, zN, zN, zN, zN], mem := [] }
def r41_o1 (i : Int) (xs ys : List AV) : AS := { tmps := [zN, zN, zN, zN, zN, zN, zN, zN, zN, zN, zN, zN, zN, zN, zN, zN, zN, zN, zN, zN, zN, zN, zN, zN, zN, zN], mem := [] }
def r59_o0 (i : Int) (xs ys : List AV) : AS := { tmps := [zN, zN, zN, zN, AV.bool false, zN, zN, zN, zN, zN, zN, zN, zN, zN, zN, zN, zN, zN, zN, zN, zN, zN, zN, zN, zN, zN], mem := [] }
def r59_o1 (i : Int) (xs ys : List AV) : AS := { tmps := [zN, zN, zN, zN, zN, zN, zN, zN, zN, zN, zN, zN, zN, zN, zN, zN, zN, zN, zN, zN, zN, zN, zN, zN, zN, zN], mem := [] }
theorem r59 (i : Int) (xs ys : List AV) (Pr : _ → Prop) (F : _ → Ex × AS) (m : _ → Nat) (k0 : (ilt i ↑xs.length) = true → (inR i xs.length) = true) (k1 : (ilt i ↑xs.length) = true → (AV.has { td := TD.int zk, size := 1, bytes := 1, zero := [zB 0] } (xs.getD i.toNat zN)) = true) (k2 : (ilt i ↑xs.length) = true → (inR i ys.length) = true) (k3 : (ilt i ↑xs.length) = true → (AV.has { td := TD.int zk, size := 1, bytes := 1, zero := [zB 0] } (ys.getD i.toNat zN)) = true) (k4 : (ilt i ↑xs.length) = true → (!ieq (xs.getD i.toNat zN).asInt (ys.getD i.toNat zN).asInt) = true → F (i, xs, ys) = (Ex.ret, r59_o0 i xs ys)) (k5 : (ilt i ↑xs.length) = true → (!ieq (xs.getD i.toNat zN).asInt (ys.getD i.toNat zN).asInt) = false → OnOk Pr F m (i, xs, ys) ((iadd IntKind.i64 i 1, xs, ys))) (k6 : (ilt i ↑xs.length) = false → F (i, xs, ys) = (Ex.exit 0, r59_o1 i xs ys)) : Round (book.envP 59 noSpec big noLoops) (loopBody Try.f59 4) (book.clean 59 4) (book.clean 59 (4 + 500)) st41 pr41 Pr F m (i, xs, ys) :=
  Round.of (Bool.rec (motive := fun _ => TE) (.ret (Ex.exit 0, r59_o1 i xs ys)) (Bool.rec (motive := fun _ => TE) .no (Bool.rec (motive := fun _ => TE) .no (Bool.rec (motive := fun _ => TE) .no (Bool.rec (motive := fun _ => TE) .no (Bool.rec (motive := fun _ => TE) (.must (st41 (iadd IntKind.i64 i 1, xs, ys) = st41 (iadd IntKind.i64 i 1, xs, ys)) (.ret (.normal, st41 ((iadd IntKind.i64 i 1, xs, ys))))) (.ret (Ex.ret, r59_o0 i xs ys)) (!ieq (xs.getD i.toNat zN).asInt (ys.getD i.toNat zN).asInt)) (AV.has { td := TD.int zk, size := 1, bytes := 1, zero := [zB 0] } (ys.getD i.toNat zN))) (inR i ys.length)) (AV.has { td := TD.int zk, size := 1, bytes := 1, zero := [zB 0] } (xs.getD i.toNat zN))) (inR i xs.length)) (ilt i ↑xs.length)) (.s (.s .z .z) .z) (by kernel_rfl) (.ite (fun h0_0 => .step (k0 h0_0) (.step (k1 h0_0) (.step (k2 h0_0) (.step (k3 h0_0) (.ite (fun h4_5 => .out (k4 h0_0 h4_5)) (fun h4_5 => .must rfl (.next (k5 h0_0 h4_5)))))))) (fun h0_0 => .exit (k6 h0_0)))

end Go.Proofs.Ytdcijmigoefnjaa

/- Lists: the loops of slices.Equal. -/
set_option linter.unusedVariables false
set_option linter.unusedSimpArgs false
set_option maxRecDepth 100000
namespace Go.Proofs.Ytdcijmigoefnjaa
open Go Go.Ev

def lenB (xs : List AV) : Bool := Nat.ble xs.length 9223372036854775807

/-- the same numbers -/
def eqA : List AV → List AV → Bool
  | [], [] => true
  | x :: xs, y :: ys => ieq x.asInt y.asInt && eqA xs ys
  | _, _ => false

theorem eqA_len : ∀ {xs ys : List AV}, eqA xs ys = true → xs.length = ys.length
  | [], [], _ => rfl
  | x :: xs, y :: ys, h => by
    simp only [eqA, Bool.and_eq_true] at h
    simp [eqA_len h.2]
  | [], _ :: _, h => by cases h
  | _ :: _, [], h => by cases h

theorem eqA_self : ∀ xs : List AV, eqA xs xs = true
  | [] => rfl
  | x :: xs => by simp [eqA, ieq, eqA_self xs]

theorem drop_getD {α : Type} {xs : List α} {n : Nat} {d : α} (h : n < xs.length) : xs.drop n = xs.getD n d :: xs.drop (n + 1) := by
  rw [List.drop_eq_getElem_cons h, List.getD_eq_getElem?_getD, List.getElem?_eq_getElem h]
  rfl

theorem eqA_step {xs ys : List AV} {n : Nat} (h1 : n < xs.length) (h2 : n < ys.length) :
    eqA (xs.drop n) (ys.drop n) = (ieq (xs.getD n .unk).asInt (ys.getD n .unk).asInt && eqA (xs.drop (n + 1)) (ys.drop (n + 1))) := by
  rw [drop_getD (d := AV.unk) h1, drop_getD (d := AV.unk) h2]; rfl

theorem intsA_get {k : IntKind} {xs : List AV} {n : Nat} (h : intsA k xs = true) (hn : n < xs.length) : ∃ z, xs.getD n .unk = .int k z := by
  unfold intsA at h
  rw [List.all_eq_true] at h
  have := h (xs.getD n .unk) (by rw [List.getD_eq_getElem?_getD, List.getElem?_eq_getElem hn]; exact List.getElem_mem hn)
  revert this
  generalize xs.getD n .unk = v
  intro this
  cases v <;> try (cases this; done)
  simp only [isI, decide_eq_true_eq] at this
  exact ⟨_, by rw [this]⟩

theorem ilt_iff {a b : Int} : ilt a b = true ↔ a < b := by simp [ilt]
theorem ilt_no {a b : Int} : ilt a b = false ↔ b ≤ a := by simp [ilt]
theorem inR_iff {i : Int} {n : Nat} : inR i n = true ↔ 0 ≤ i ∧ i < n := by simp [inR]
theorem iadd_small {a b : Int} (h0 : -9223372036854775808 ≤ a + b) (h1 : a + b < 9223372036854775808) : iadd .i64 a b = a + b := by
  unfold iadd; rw [IntKind.wrap_i64]; omega

def F41 (x : X3) : Tree (Ex × AS) := .ite (eqA (x.2.1.drop x.1.toNat) (x.2.2.drop x.1.toNat)) (.leaf (.exit 0, r41_o1 0 [] [])) (.leaf (.ret, r41_o0 0 [] []))
structure P41 (k : IntKind) (x : X3) : Prop where
  i0 : 0 ≤ x.1
  i1 : x.1 ≤ x.2.1.length
  len : x.2.1.length = x.2.2.length
  big : x.2.1.length ≤ 9223372036854775807
  xs : intsA k x.2.1 = true
  ys : intsA k x.2.2 = true
def pre41 (k : IntKind) (x : X3) : Bool := ile 0 x.1 && (ile x.1 x.2.1.length && (x.2.1.length == x.2.2.length && (lenB x.2.1 && (intsA k x.2.1 && intsA k x.2.2))))
theorem pre41_ok {k : IntKind} {x : X3} (h : pre41 k x = true) : P41 k x := by
  simp only [pre41, Bool.and_eq_true, ile, decide_eq_true_eq, beq_iff_eq, lenB, Nat.ble_eq] at h
  exact ⟨h.1, h.2.1, h.2.2.1, h.2.2.2.1, h.2.2.2.2.1, h.2.2.2.2.2⟩

theorem on41 {k : IntKind} {i : Int} {xs ys : List AV} (h : P41 k (i, xs, ys)) (hi : ilt i xs.length = true) (he : (!ieq (xs.getD i.toNat AV.unk).asInt (ys.getD i.toNat AV.unk).asInt) = false) :
    OnOk (P41 k) (fun x => (F41 x).val) (fun x => (x.2.1.length - x.1).toNat) (i, xs, ys) (iadd .i64 i 1, xs, ys) := by
  obtain ⟨h1, h2, h3, h4, h5, h6⟩ := h
  simp only at h1 h2 h3 h4 h5 h6
  rw [ilt_iff] at hi
  have e : iadd .i64 i 1 = i + 1 := iadd_small (by omega) (by omega)
  rw [e]
  refine ⟨⟨by simp only; omega, by simp only; omega, h3, h4, h5, h6⟩, ?_, by simp only; omega⟩
  have e2 : (i + 1).toNat = i.toNat + 1 := by omega
  have := eqA_step (n := i.toNat) (xs := xs) (ys := ys) (by omega) (by omega)
  simp only [Bool.not_eq_false'] at he
  rw [he, Bool.true_and] at this
  simp only [F41, e2, this]

theorem no41 {k : IntKind} {i : Int} {xs ys : List AV} (h : P41 k (i, xs, ys)) (hi : ilt i xs.length = true) (he : (!ieq (xs.getD i.toNat AV.unk).asInt (ys.getD i.toNat AV.unk).asInt) = true) :
    (F41 (i, xs, ys)).val = (.ret, r41_o0 0 [] []) := by
  obtain ⟨h1, h2, h3, h4, h5, h6⟩ := h
  simp only at h1 h2 h3 h4 h5 h6
  rw [ilt_iff] at hi
  have := eqA_step (n := i.toNat) (xs := xs) (ys := ys) (by omega) (by omega)
  simp only [Bool.not_eq_true'] at he
  rw [he, Bool.false_and] at this
  simp only [F41, Tree.val, this, cond_false]

theorem end41 {k : IntKind} {i : Int} {xs ys : List AV} (h : P41 k (i, xs, ys)) (hi : ilt i xs.length = false) : (F41 (i, xs, ys)).val = (.exit 0, r41_o1 0 [] []) := by
  obtain ⟨h1, h2, h3, h4, h5, h6⟩ := h
  simp only at h1 h2 h3 h4 h5 h6
  rw [ilt_no] at hi
  have e1 : xs.drop i.toNat = [] := List.drop_eq_nil_of_le (by omega)
  have e2 : ys.drop i.toNat = [] := List.drop_eq_nil_of_le (by omega)
  simp only [F41, e1, e2, eqA, Tree.val, cond_true]

theorem in41 {k : IntKind} {i : Int} {xs ys : List AV} (h : P41 k (i, xs, ys)) (hi : ilt i xs.length = true) : inR i xs.length = true ∧ inR i ys.length = true ∧ (∃ z, xs.getD i.toNat .unk = .int k z) ∧ ∃ z, ys.getD i.toNat .unk = .int k z := by
  obtain ⟨h1, h2, h3, h4, h5, h6⟩ := h
  simp only at h1 h2 h3 h4 h5 h6
  rw [ilt_iff] at hi
  exact ⟨inR_iff.2 ⟨h1, hi⟩, inR_iff.2 ⟨h1, by omega⟩, intsA_get h5 (by omega), intsA_get h6 (by omega)⟩

theorem step59 (x : X3) (h : P41 .u8 x) : Round (book.envP 59 noSpec big noLoops) (loopBody Try.f59 4) (book.clean 59 4) (book.clean 59 (4 + 500)) st41 pr41 (P41 .u8) (fun x => (F41 x).val) (fun x => (x.2.1.length - x.1).toNat) x := by
  obtain ⟨i, xs, ys⟩ := x
  refine r59 i xs ys _ _ _ (fun a => (in41 h a).1) (fun a => ?_) (fun a => (in41 h a).2.1) (fun a => ?_) (fun a b => no41 h a b) (fun a b => on41 h a b) (fun a => end41 h a)
  · obtain ⟨z, hz⟩ := (in41 h a).2.2.1; show AV.has _ (xs.getD i.toNat .unk) = true; rw [hz]; rfl
  · obtain ⟨z, hz⟩ := (in41 h a).2.2.2; show AV.has _ (ys.getD i.toNat .unk) = true; rw [hz]; rfl

noncomputable def lp59 : AS → T (Tree (Ex × AS)) := loopS (book.clean 59 4) pr41 st41 F41 (pre41 .u8)
theorem lok59 {loops} : LoopOk (book.envP 59 noSpec big loops) (loopBody Try.f59 4) lp59 :=
  Book.loop_ok (loops' := noLoops) (noInner (by kernel_rfl)) (by kernel_rfl) (fun x h => ⟨pre41_ok h, by have := (pre41_ok h).big; have := (pre41_ok h).i0; unfold big; omega⟩) step59

end Go.Proofs.Ytdcijmigoefnjaa

/- Chapter 04: headers, as functions. -/
set_option linter.unusedVariables false
set_option maxRecDepth 100000
namespace Go.Proofs.Ytdcijmigoefnjaa
open Go Go.Ev

def wA (v : Int × Int) : AV := .agg [.int .u64 v.1, .int .u64 v.2]
def wideOf (a : AV) : Int × Int := ((a.cells.getD 0 .unk).asInt, (a.cells.getD 1 .unk).asInt)
def cell (cs : List AV) (j : Nat) : Int := (cs.getD j .unk).asInt
def arg (a : List AV) (i : Nat) : AV := a.getD i .unk

def S41 (k : IntKind) : SumT := sumW (σ := List AV × List AV) [1, 1] (fun a => ((arg a 0).elems, (arg a 1).elems)) (fun x => [.sl 1 x.1 .sh, .sl 1 x.2 .sh]) (fun x => intsA k x.1 && (intsA k x.2 && (lenB x.1 && lenB x.2))) (fun x => .leaf (.bool (eqA x.1 x.2)))
def S68 (g : Int → Int → Int) : SumT := sum0 (σ := (Int × Int) × Int × Int) (fun a => (wideOf (arg a 0), wideOf (arg a 1))) (fun x => [wA x.1, wA x.2]) (fun _ => true) (fun x => .leaf (wA (g x.1.1 x.2.1, g x.1.2 x.2.2)))
/-- the lowest bits, as 64 and 64 -/
def lowc (n : Int) : Int := bif ile 64 n then 18446744073709551615 else bif ile n 0 then 0 else 2 ^ (n.toNat) - 1
def lowW (n : Int) : Int × Int := (lowc (n - 64), lowc n)
def lowNs : List Int := [2, 3, 6, 8, 13, 16, 20, 32, 48, 64, 128]
def lowOk (n : Int) : Bool := lowNs.any fun m => ieq n m
def S108 : SumT := fun a p => match a, p with
  | [.int k n], [] => .need (decide (k = .i64) && lowOk n) (.ret (.leaf (wA (lowW n), [])))
  | _, _ => .no

abbrev X2 := Int × List AV
end Go.Proofs.Ytdcijmigoefnjaa

/- Chapter 02 and 04: numbers of 128 bits as bytes. -/
set_option linter.unusedVariables false
set_option maxRecDepth 100000
namespace Go.Proofs.Ytdcijmigoefnjaa
open Go Go.Ev

/-- a byte of a half -/
def byteAt (v : Int) (s : Int) : AV := .int .u8 (IntKind.u8.wrap (ishr .u64 v s))
def all16 (v : Int × Int) : List AV := [byteAt v.1 56, byteAt v.1 48, byteAt v.1 40, byteAt v.1 32, byteAt v.1 24, byteAt v.1 16, byteAt v.1 8, byteAt v.1 0, byteAt v.2 56, byteAt v.2 48, byteAt v.2 40, byteAt v.2 32, byteAt v.2 24, byteAt v.2 16, byteAt v.2 8, byteAt v.2 0]
def putL (v : Int × Int) (n : Int) : List AV := (all16 v).drop (16 - n.toNat)
end Go.Proofs.Ytdcijmigoefnjaa

/- Numbers of 128 bits as bytes: contracts. -/
set_option linter.unusedVariables false
set_option maxRecDepth 100000
namespace Go.Proofs.Ytdcijmigoefnjaa
open Go Go.Ev

def sizeNs : List Int := [1, 2, 3, 4, 6, 8, 16]
def sizeOk (n : Int) : Bool := sizeNs.any fun m => ieq n m
def smallB (xs : List AV) : Bool := Nat.ble xs.length 70368744177664

/-- the number that bytes are, in its halves -/
def getW (xs : List AV) : Nat → Int × Int
  | 0 => (0, 0)
  | n + 1 => (ibits .or .u64 (ishl .u64 (getW xs n).1 8) (ishr .u64 (getW xs n).2 56), ibits .or .u64 (ishl .u64 (getW xs n).2 8) (IntKind.u64.wrap (xs.getD n .unk).asInt))
def getHi (xs : List AV) (n : Int) : Int := (getW xs n.toNat).1
def getLo (xs : List AV) (n : Int) : Int := (getW xs n.toNat).2

abbrev XP := List AV × (Int × Int) × Int
def S115 : SumT := sumW (σ := List AV × Int) [1] (fun a => ((arg a 0).elems, (arg a 1).asInt)) (fun x => [.sl 1 x.1 .sh, .int .i64 x.2]) (fun x => sizeOk x.2 && (intsA .u8 x.1 && lenB x.1))
  (fun x => .ite (ile x.2 x.1.length) (.leaf (.tup [wA (getHi x.1 x.2, getLo x.1 x.2), .bool true])) (.leaf (.tup [wA (0, 0), .bool false])))

end Go.Proofs.Ytdcijmigoefnjaa

/- Chapter 10: parts of a match, as functions. -/
set_option linter.unusedVariables false
set_option maxRecDepth 100000
namespace Go.Proofs.Ytdcijmigoefnjaa
open Go Go.Ev

def inU (n : Int) : Bool := ile 0 n && ilt n 18446744073709551616
def inW (v : Int × Int) : Bool := inU v.1 && inU v.2
def zeroW (v : Int × Int) : Bool := ieq v.1 0 && ieq v.2 0
def lessW (a b : Int × Int) : Int × Int := (ibits .andNot .u64 a.1 b.1, ibits .andNot .u64 a.2 b.2)
def S125u : SumT := sum0 (σ := Int × Int) (fun a => wideOf (arg a 0)) (fun x => [wA x]) (fun x => inW x) (fun x => .leaf (.bool (zeroW x)))

/-- a part: its field, whether it is masked, its value, its mask -/
abbrev XO := Int × Bool × (Int × Int) × (Int × Int)
def oxC (x : XO) : List AV := [.int .i64 x.1, .bool x.2.1, .int .u64 x.2.2.1.1, .int .u64 x.2.2.1.2, .int .u64 x.2.2.2.1, .int .u64 x.2.2.2.2]
def oxA (x : XO) : AV := .agg (oxC x)
def oxOf (cs : List AV) : XO := ((cs.getD 0 .unk).asInt, (cs.getD 1 .unk).asBool, ((cs.getD 2 .unk).asInt, (cs.getD 3 .unk).asInt), ((cs.getD 4 .unk).asInt, (cs.getD 5 .unk).asInt))
def inO (x : XO) : Bool := inW x.2.2.1 && inW x.2.2.2
def allW (f : Int) : Int × Int := lowW (bitsOf f)
def beyond (f : Int) (w : Int × Int) : Bool := !zeroW (lessW w (allW f))
/-- what is wrong with a part's bits -/
def formO (x : XO) : Int :=
  bif beyond x.1 x.2.2.1 then 7 else bif !x.2.1 then 0 else bif (bif beyond x.1 x.2.2.2 then true else zeroW x.2.2.2) then 8 else bif !zeroW (lessW x.2.2.1 x.2.2.2) then 5 else 0
def rightO (x : XO) : Bool := isF x.1 && ((bif x.2.1 then masksOf x.1 else zeroW x.2.2.2) && ieq (formO x) 0)

def S165 : SumT := sumS (σ := (Int × Int) × XO) (fun a p => (wideOf (arg a 0), oxOf (p.getD 0 []))) (fun x => [wA x.1, .ptr 1000 0]) (fun x => [oxC x.2]) (fun x => isF x.2.1 && inW x.1) (fun x => .leaf (.bool (beyond x.2.1 x.1), [oxC x.2]))
def S121 : SumT := sum0 (σ := XO) (fun a => oxOf (arg a 0).cells) (fun x => [oxA x]) (fun x => isF x.1 && inO x) (fun x => .leaf (.int .i64 (formO x)))
def S65 : SumT := sum0 (σ := XO) (fun a => oxOf (arg a 0).cells) (fun x => [oxA x]) (fun x => inO x) (fun x => .leaf (.bool (rightO x)))

def numNs : List Int := [1, 2, 4]
def numOk (n size : Int) : Bool := ile 0 n && ((ieq size 1 && ilt n 256) || ((ieq size 2 && ilt n 65536) || (ieq size 4 && ilt n 4294967296)))
/-- a number's bytes -/
def nbyte (n s : Int) : AV := .int .u8 (IntKind.u8.wrap (ishr .i64 n s))
def numL (n size : Int) : List AV := [nbyte n 24, nbyte n 16, nbyte n 8, nbyte n 0].drop (4 - size.toNat)
def S133 : SumT := sumW (σ := List AV × Int × Int) [1] (fun a => ((arg a 0).elems, (arg a 1).asInt, (arg a 2).asInt)) (fun x => [.sl 1 x.1 .sh, .int .i64 x.2.1, .int .i64 x.2.2]) (fun x => numOk x.2.1 x.2.2 && smallB x.1) (fun x => .leaf (.sl 1 (x.1 ++ numL x.2.1 x.2.2) (.own [])))
def S117o : SumT := sumW (σ := XP) [1] (fun a => ((arg a 0).elems, wideOf (arg a 1), (arg a 2).asInt)) (fun x => [.sl 1 x.1 .sh, wA x.2.1, .int .i64 x.2.2]) (fun x => sizeOk x.2.2 && smallB x.1) (fun x => .leaf (.sl 1 (x.1 ++ putL x.2.1 x.2.2) (.own [])))

def spW : List (FuncId × SumT) := [(67, S68 (ibits .andNot .u64)), (124, S68 (ibits .andNot .u64)), (125, S125u), (123, S125u), (108, S108), (110, S108), (31, sumOf G31), (53, sumOf G31), (32, sumOf G32), (47, sumOf G32), (48, sumOf G48), (49, sumOf G48), (50, sumOf G50), (51, sumOf G50), (27, sumOf G27), (46, sumOf G27), (26, sumOf G26), (45, sumOf G26)]
def sp121 : List (FuncId × SumT) := (165, S165) :: spW
def sp65 : List (FuncId × SumT) := (121, S121) :: spW
def S176 : SumT := sum0 (σ := Int × Int) (fun a => ((arg a 0).asInt, (arg a 1).asInt)) (fun x => [.int .i64 x.1, .int .i64 x.2]) (fun x => numNs.any fun m => ieq x.2 m) (fun x => .leaf (.bool (numOk x.1 x.2)))
noncomputable def sp176 : List (FuncId × SumT) := [(193, (book.all 100 3 193).T)]
def spN : List (FuncId × SumT) := [(176, S176), (177, S176)]

end Go.Proofs.Ytdcijmigoefnjaa

/- Chapter 10: parts as bytes, and back. -/
set_option linter.unusedVariables false
set_option maxRecDepth 100000
namespace Go.Proofs.Ytdcijmigoefnjaa
open Go Go.Ev

def idNum (f : Int) (m : Bool) : Int := 2 * idOf f + (bif m then 1 else 0)
def bodyN (f : Int) (m : Bool) : Int := bif m then 2 * sizeOf f else sizeOf f
def bodyL (x : XO) : List AV := putL x.2.2.1 (sizeOf x.1) ++ (bif x.2.1 then putL x.2.2.2 (sizeOf x.1) else [])
/-- a part's bytes -/
def encL (x : XO) : List AV := numL 32768 2 ++ (numL (idNum x.1 x.2.1) 1 ++ (numL (bodyN x.1 x.2.1) 1 ++ bodyL x))
def encR (x : XO) : Tree AV := .ite (rightO x) (.leaf (.tup [.sl 1 (encL x) .sh, .int .i64 0])) (.leaf (.tup [.sl 0 [] .nil, .int .i64 1]))
def S74 : SumT := sum0 (σ := XO) (fun a => oxOf (arg a 0).cells) (fun x => [oxA x]) (fun x => inO x) (fun x => encR x)

def isB : AV → Bool
  | .int .u8 n => inR n 256
  | _ => false
/-- bytes -/
def bytB (xs : List AV) : Bool := xs.all isB
/-- a byte of some, as a number -/
def byN (xs : List AV) (i : Nat) : Int := (xs.getD i .unk).asInt
def hdF (xs : List AV) : Int := (ixOf (byN xs 2 / 2)).1
def hdIs (xs : List AV) : Bool := (ixOf (byN xs 2 / 2)).2
def hdM (xs : List AV) : Bool := ieq (byN xs 2 % 2) 1
/-- what is wrong with the first bytes -/
def hdCode (xs : List AV) : Int :=
  bif ilt xs.length 4 then 1 else bif ilt xs.length (4 + byN xs 3) then 1 else
  bif (bif !ieq (byN xs 0) 128 then true else bif !ieq (byN xs 1) 0 then true else !hdIs xs) then 6 else
  bif (bif hdM xs then !masksOf (hdF xs) else false) then 8 else bif !ieq (byN xs 3) (bodyN (hdF xs) (hdM xs)) then 1 else 0
def valX (xs : List AV) (o n : Int) : Int × Int := (getHi (xs.drop o.toNat) n, getLo (xs.drop o.toNat) n)
def decX (xs : List AV) : XO := (hdF xs, hdM xs, valX xs 4 (sizeOf (hdF xs)), bif hdM xs then valX xs (4 + sizeOf (hdF xs)) (sizeOf (hdF xs)) else (0, 0))
def decCode (xs : List AV) : Int := bif ieq (hdCode xs) 0 then formO (decX xs) else hdCode xs
def noX : XO := (0, false, (0, 0), (0, 0))
def decR (xs : List AV) : Tree AV := .ite (ieq (decCode xs) 0) (.leaf (.tup [oxA (decX xs), .int .i64 (4 + byN xs 3), .agg [.bool false, .int .i64 0, .int .i64 0]]))
  (.leaf (.tup [oxA noX, .int .i64 0, .agg [.bool true, .int .i64 4, .int .i64 (decCode xs)]]))
def S62 : SumT := sumW (σ := List AV) [1] (fun a => (arg a 0).elems) (fun x => [.sl 1 x .sh]) (fun x => bytB x && lenB x) (fun x => decR x)

def sameO (x y : XO) : Bool := ieq x.1 y.1 && (x.2.1 == y.2.1 && (ieq x.2.2.1.1 y.2.2.1.1 && (ieq x.2.2.1.2 y.2.2.1.2 && (ieq x.2.2.2.1 y.2.2.2.1 && ieq x.2.2.2.2 y.2.2.2.2))))
def S78 : SumT := sum0 (σ := XO × XO) (fun a => (oxOf (arg a 0).cells, oxOf (arg a 1).cells)) (fun x => [oxA x.1, oxA x.2]) (fun _ => true) (fun x => .leaf (.bool (sameO x.1 x.2)))

def S119 : SumT := sumW (σ := List AV) [1] (fun a => (arg a 0).elems) (fun x => [.sl 1 x .sh]) (fun x => bytB x && lenB x)
  (fun x => .ite (ieq (hdCode x) 0) (.leaf (.tup [.int .i64 (hdF x), .bool (hdM x), .int .i64 (byN x 3), .int .i64 0])) (.leaf (.tup [.int .i64 0, .bool false, .int .i64 0, .int .i64 (hdCode x)])))
/-- a number is there -/
def S115t : SumT := sumW (σ := List AV × Int) [1] (fun a => ((arg a 0).elems, (arg a 1).asInt)) (fun x => [.sl 1 x.1 .sh, .int .i64 x.2]) (fun x => sizeOk x.2 && (intsA .u8 x.1 && (lenB x.1 && ile x.2 x.1.length)))
  (fun x => .leaf (.tup [wA (getHi x.1 x.2, getLo x.1 x.2), .bool true]))
noncomputable def spD : List (FuncId × SumT) := (119, S119) :: (121, S121) :: (115, S115t) :: (116, S115t) :: (120, (book.all 100 3 120).T) :: (122, (book.all 100 3 122).T) :: spW
def spE : List (FuncId × SumT) := (65, S65) :: (76, S65) :: (117, S117o) :: (118, S117o) :: (133, S133) :: (134, S133) :: spW
end Go.Proofs.Ytdcijmigoefnjaa

/- Chapter 10: the laws' calls. -/
set_option linter.unusedVariables false
set_option maxRecDepth 100000
namespace Go.Proofs.Ytdcijmigoefnjaa
open Go Go.Ev
def encT (lk : Bool) (x : XO) : Tree AV := .ite (rightO x) (.leaf (.tup [.sl 1 (lockL lk (encL x)) .sh, .int .i64 0])) (.leaf (.tup [.sl 0 [] .nil, .int .i64 1]))
def S74l (lk : Bool) : SumT := sum0 (σ := XO) (fun a => oxOf (arg a 0).cells) (fun x => [oxA x]) (fun x => inO x) (fun x => encT lk x)
/-- a list, copied -/
def S80 : SumT := sumW (σ := List AV) [1] (fun a => (arg a 0).elems) (fun x => [.sl 1 x .sh]) (fun x => smallB x && !x.isEmpty) (fun x => .leaf (.sl 1 x (.own [])))
/-- what is read, behind a door -/
def dX (lk : Bool) (xs : List AV) : XO := bif lk then decX xs else noX
def decT (lk : Bool) (xs : List AV) : Tree AV := .ite (ieq (decCode xs) 0) (.leaf (.tup [oxA (dX lk xs), .int .i64 (4 + byN xs 3), .agg [.bool false, .int .i64 0, .int .i64 0]]))
  (.leaf (.tup [oxA noX, .int .i64 0, .agg [.bool true, .int .i64 4, .int .i64 (decCode xs)]]))
def S62l (lk : Bool) : SumT := sumW (σ := List AV) [1] (fun a => (arg a 0).elems) (fun x => [.sl 1 x .sh]) (fun x => bytB x && lenB x) (fun x => decT lk x)
end Go.Proofs.Ytdcijmigoefnjaa

/- Chapter 11: matches, as functions. -/
set_option linter.unusedVariables false
set_option maxRecDepth 100000
namespace Go.Proofs.Ytdcijmigoefnjaa
open Go Go.Ev

def ox (v : AV) : XO := oxOf v.cells
def isOx : AV → Bool
  | .agg [.int .i64 _, .bool _, .int .u64 a, .int .u64 b, .int .u64 c, .int .u64 d] => inU a && (inU b && (inU c && inU d))
  | _ => false
/-- a match: parts -/
def oxsB (xs : List AV) : Bool := xs.all isOx
def okX (xs : List AV) : Bool := oxsB xs && lenB xs
def isWd : AV → Bool
  | .agg [.int .u64 _, .int .u64 _] => true
  | _ => false
def okW (vs : List AV) : Bool := vs.all isWd && lenB vs
def sameW (v w : Int × Int) : Bool := ieq v.1 w.1 && ieq v.2 w.2
def hasW (vs : List AV) (w : Int × Int) : Bool := vs.any fun v => sameW (wideOf v) w
/-- does a part give what is needed -/
def givesF (x : XO) (n : Int) (vs : List AV) : Bool := ieq x.1 n && (vs.isEmpty || (!x.2.1 && hasW vs x.2.2.1))
def anyG (xs : List AV) (n : Int) (vs : List AV) : Bool := xs.any fun v => givesF (ox v) n vs
/-- is all there that a field needs -/
def metF (xs : List AV) (f : Int) : Bool := (needOf f).all fun p => anyG xs p.1 (p.2.map wideA)

/-! ### is a value among some -/
abbrev XW := Int × List AV × (Int × Int)
def wM (w : Int × Int) : List AV := [.int .u64 w.1, .int .u64 w.2]
def st148 (x : XW) : AS := stA 19 [(0, .sl 2 x.2.1 .sh), (3, .ptr 3 0), (7, .int .i64 x.2.1.length), (8, .int .i64 x.1)] [(3, wM x.2.2)]
def pr148 (s : AS) : XW := ((s.at 8).asInt, (s.at 0).elems, wideOf (.agg ((Ev.look s.mem 3).getD [])))
def hasV (vs : List AV) (w : Int × Int) : Bool := vs.any fun v => sameW w (wideOf v)
def ixV (vs : List AV) (w : Int × Int) (j : Nat) : Nat := firstI (fun j => sameW w (wideOf (vs.getD j .unk))) (vs.length - j) j
def L148 : FL (List AV × (Int × Int)) := ⟨fun r => r.1.length, fun r j => sameW r.2 (wideOf (r.1.getD j .unk)), fun r j => hasV (r.1.drop j) r.2, fun r j => ixV r.1 r.2 j, fun _ k => (.ret, stA 19 [(4, .int .i64 k)] []), fun _ => (.exit 0, stA 19 [] []), fun r => okW r.1⟩
noncomputable def lp148 : AS → T (Tree (Ex × AS)) := loopS (book.clean 148 2) pr148 st148 L148.tr L148.pre
def S148 : SumT := sumWD (σ := List AV × (Int × Int)) [2] (fun a => ((arg a 0).elems, wideOf (arg a 1))) (fun x => [.sl 2 x.1 .sh, wA x.2]) (fun x => okW x.1)
  (fun x => .ite (hasV x.1 x.2) (.leaf (.int .i64 (ixV x.1 x.2 0))) (.leaf (.int .i64 (-1))))
def S97 : SumT := sumWD (σ := List AV × (Int × Int)) [2] (fun a => ((arg a 0).elems, wideOf (arg a 1))) (fun x => [.sl 2 x.1 .sh, wA x.2]) (fun x => okW x.1) (fun x => .leaf (.bool (hasW x.1 x.2)))
def S136 : SumT := sumWD (σ := XO × Int × List AV) [0, 2] (fun a => (oxOf (arg a 0).cells, ((arg a 1).cells.getD 0 .unk).asInt, ((arg a 1).cells.getD 1 .unk).elems))
  (fun x => [oxA x.1, .agg [.int .i64 x.2.1, .sl 2 x.2.2 .sh]]) (fun x => okW x.2.2) (fun x => .leaf (.bool (givesF x.1 x.2.1 x.2.2)))
def sp97 : List (FuncId × SumT) := [(148, S148)]
def sp136 : List (FuncId × SumT) := [(97, S97)]

/-- what a field needs, at one field -/
def S30a (f : Int) (L : AV) : SumT := sum0 (σ := Int) (fun a => (arg a 0).asInt) (fun n => [.int .i64 n]) (fun n => ieq n f) (fun _ => .leaf L)
def sp84 (f : Int) (L : AV) : List (FuncId × SumT) := [(30, S30a f L), (136, S136)]
def ndC (n : Int) (vs : List AV) (st : St) : AV := .agg [.int .i64 n, .sl 2 vs st]
def ndN (n : Int) : AV := .agg [.int .i64 n, .sl 0 [] .nil]

abbrev X84 := List AV × Int × List AV × List AV × Int × Int
def m84 (n : Int) (c : AV) : Mem := [(6, [.int .i64 n, c])]
def st84 (c : List AV → AV) (st : St) (x : Int × X84) : AS := stA 27 [(0, .sl 6 x.2.1 .sh), (6, .ptr 6 0), (10, .sl 2 x.2.2.2.2.1 st), (11, .int .i64 x.2.2.2.2.2.1), (12, .int .i64 x.2.2.2.2.2.2), (16, .sl 6 x.2.1 .sh), (17, .int .i64 x.2.1.length), (18, .int .i64 x.1)] (m84 x.2.2.1 (c x.2.2.2.1))
def nd84 (s : AS) : List AV := (Ev.look s.mem 6).getD []
def pr84 (s : AS) : Int × X84 := ((s.at 18).asInt, (s.at 16).elems, ((nd84 s).getD 0 .unk).asInt, ((nd84 s).getD 1 .unk).elems, (s.at 10).elems, (s.at 11).asInt, (s.at 12).asInt)
def o84 (st : St) (r : X84) : AS := stA 27 [(0, .sl 6 r.1 .sh), (10, .sl 2 r.2.2.2.1 st), (11, .int .i64 r.2.2.2.2.1), (12, .int .i64 r.2.2.2.2.2)] []
def L84 (st : St) : FL X84 := ⟨fun r => r.1.length, fun r j => givesF (ox (r.1.getD j .unk)) r.2.1 r.2.2.1, fun r j => anyG (r.1.drop j) r.2.1 r.2.2.1, fun _ _ => 0, fun r _ => (.exit 1, o84 st r), fun r => (.exit 2, o84 st r), fun r => okX r.1 && okW r.2.2.1⟩
def cSh (vs : List AV) : AV := .sl 2 vs .sh
def cNil (_ : List AV) : AV := .sl 0 [] .nil
noncomputable def lp84 (c : List AV → AV) (st : St) : AS → T (Tree (Ex × AS)) := loopS (book.clean 84 5) pr84 (st84 c st) (L84 st).tr (L84 st).pre
def L84n : FL X84 := ⟨fun r => r.1.length, fun r j => givesF (ox (r.1.getD j .unk)) r.2.1 r.2.2.1, fun r j => anyG (r.1.drop j) r.2.1 r.2.2.1, fun _ _ => 0, fun r _ => (.exit 1, o84 .full r), fun r => (.exit 2, o84 .full r), fun r => okX r.1 && r.2.2.1.isEmpty⟩
noncomputable def lp84n : AS → T (Tree (Ex × AS)) := loopS (book.clean 84 5) pr84 (st84 cNil .full) L84n.tr L84n.pre
def S84 : SumT := sumW (σ := List AV × Int) [6] (fun a => ((arg a 0).elems, (arg a 1).asInt)) (fun x => [.sl 6 x.1 .sh, .int .i64 x.2]) (fun x => okX x.1) (fun x => .leaf (.bool (metF x.1 x.2)))

/-- what is wrong with a match -/
def sameF (xs : List AV) (f : Int) : Bool := xs.any fun v => ieq (ox v).1 f
def chkAt (xs : List AV) (i : Nat) : Int :=
  let x := ox (xs.getD i .unk)
  bif sameF (xs.take i) x.1 then 10 else bif !metF (xs.take i) x.1 then 9 else 0
/-- the first that is wrong, from a place on -/
def chkFrom (xs : List AV) : Nat → Nat → Int
  | 0, _ => 0
  | n + 1, i => bif ieq (chkAt xs i) 0 then chkFrom xs n (i + 1) else chkAt xs i
def chk11 (xs : List AV) : Int := chkFrom xs xs.length 0

def badA (c : Int) : AV := .agg [.bool true, .int .i64 4, .int .i64 c]
def S142 : SumT := sum0 (σ := Int) (fun a => (arg a 0).asInt) (fun c => [.int .i64 c]) (fun _ => true) (fun c => .leaf (badA c))
def S144 : SumT := sumS (σ := XO × XO) (fun a p => (oxOf (arg a 0).cells, oxOf (p.getD 0 []))) (fun x => [oxA x.1, .ptr 1000 0]) (fun x => [oxC x.2]) (fun _ => true) (fun x => .leaf (.bool (ieq x.1.1 x.2.1), [oxC x.2]))
def sp146 : List (FuncId × SumT) := [(144, S144)]
def st146 (x : Int × List AV × XO) : AS := stA 19 [(0, .sl 6 x.2.1 .sh), (1, .fn 144 [.ptr 1000 0]), (7, .int .i64 x.2.1.length), (8, .int .i64 x.1)] [(1000, oxC x.2.2)]
def pr146 (s : AS) : Int × List AV × XO := ((s.at 8).asInt, (s.at 0).elems, oxOf ((Ev.look s.mem 1000).getD []))
def ixF (xs : List AV) (f : Int) (j : Nat) : Nat := firstI (fun j => ieq (ox (xs.getD j .unk)).1 f) (xs.length - j) j
def L146 : FL (List AV × XO) := ⟨fun r => r.1.length, fun r j => ieq (ox (r.1.getD j .unk)).1 r.2.1, fun r j => sameF (r.1.drop j) r.2.1, fun r j => ixF r.1 r.2.1 j, fun r k => (.ret, stA 19 [(4, .int .i64 k)] [(1000, oxC r.2)]), fun r => (.exit 0, stA 19 [] [(1000, oxC r.2)]), fun r => okX r.1⟩
noncomputable def lp146 : AS → T (Tree (Ex × AS)) := loopS (book.clean 146 2) pr146 st146 L146.tr L146.pre
def S146 : SumT := sumWS (σ := List AV × XO) [6] (fun a p => ((arg a 0).elems, oxOf (p.getD 0 []))) (fun x => [.sl 6 x.1 .sh, .fn 144 [.ptr 1000 0]]) (fun x => [oxC x.2]) (fun x => okX x.1)
  (fun x => .ite (sameF x.1 x.2.1) (.leaf (.int .i64 (ixF x.1 x.2.1 0), [oxC x.2])) (.leaf (.int .i64 (-1), [oxC x.2])))
def sp94 : List (FuncId × SumT) := [(146, S146)]
def S94 : SumT := sumWS (σ := List AV × XO) [6] (fun a p => ((arg a 0).elems, oxOf (p.getD 0 []))) (fun x => [.sl 6 x.1 .sh, .fn 144 [.ptr 1000 0]]) (fun x => [oxC x.2]) (fun x => okX x.1) (fun x => .leaf (.bool (sameF x.1 x.2.1), [oxC x.2]))

def noF : List AV := [.bool false, .int .i64 0, .int .i64 0]
def baF (c : Int) : List AV := [.bool true, .int .i64 4, .int .i64 c]
def st91 (x : Int × List AV) : AS := stA 28 [(0, .sl 6 x.2 .sh), (2, .ptr 2 0), (5, .sl 6 x.2 .sh), (6, .int .i64 x.2.length), (7, .int .i64 x.1)] [(2, noF)]
def pr91 (s : AS) : Int × List AV := ((s.at 7).asInt, (s.at 0).elems)
def ixC (xs : List AV) (j : Nat) : Nat := firstI (fun j => !ieq (chkAt xs j) 0) (xs.length - j) j
def chkJ (xs : List AV) (j : Nat) : Int := chkFrom xs (xs.length - j) j
def L91 : FL (List AV) := ⟨fun r => r.length, fun r j => !ieq (chkAt r j) 0, fun r j => !ieq (chkJ r j) 0, ixC, fun r k => (.ret, stA 28 [(2, .ptr 2 0)] [(2, baF (chkAt r k))]), fun _ => (.exit 0, stA 28 [(2, .ptr 2 0)] [(2, noF)]), okX⟩
noncomputable def lp91 : AS → T (Tree (Ex × AS)) := loopS (book.clean 91 2) pr91 st91 L91.tr L91.pre
def sp91 : List (FuncId × SumT) := [(94, S94), (84, S84), (142, S142)]

def S91 : SumT := sumW (σ := List AV) [6] (fun a => (arg a 0).elems) (fun x => [.sl 6 x .sh]) (fun x => okX x) (fun x => .ite (ieq (chk11 x) 0) (.leaf (.agg noF)) (.leaf (.agg (baF (chk11 x)))))

end Go.Proofs.Ytdcijmigoefnjaa

/- Chapter 11: the same, and the cube of a match, as functions. -/
set_option linter.unusedVariables false
set_option maxRecDepth 100000
namespace Go.Proofs.Ytdcijmigoefnjaa
open Go Go.Ev

/-- the same parts -/
def eqO : List AV → List AV → Bool
  | [], [] => true
  | x :: xs, y :: ys => sameO (ox x) (ox y) && eqO xs ys
  | _, _ => false
abbrev X145 := List AV × List AV
def st145 (x : Int × X145) : AS := stA 32 [(1, .sl 6 x.2.2 .sh), (2, .fn 78 []), (15, .sl 6 x.2.1 .sh), (16, .int .i64 x.2.1.length), (17, .int .i64 x.1)] []
def pr145 (s : AS) : Int × X145 := ((s.at 17).asInt, (s.at 15).elems, (s.at 1).elems)
def L145 : FL X145 := ⟨fun r => r.1.length, fun r j => !sameO (ox (r.1.getD j .unk)) (ox (r.2.getD j .unk)), fun r j => !eqO (r.1.drop j) (r.2.drop j), fun _ _ => 0, fun _ _ => (.ret, stA 32 [(6, .bool false)] []), fun _ => (.exit 0, stA 32 [] []), fun r => okX r.1 && (okX r.2 && Nat.beq r.1.length r.2.length)⟩
noncomputable def lp145 : AS → T (Tree (Ex × AS)) := loopS (book.clean 145 4) pr145 st145 L145.tr L145.pre
def sp145 : List (FuncId × SumT) := [(78, S78), (79, S78)]
def S145 : SumT := sumW (σ := X145) [6, 6] (fun a => ((arg a 0).elems, (arg a 1).elems)) (fun x => [.sl 6 x.1 .sh, .sl 6 x.2 .sh, .fn 78 []]) (fun x => okX x.1 && okX x.2) (fun x => .leaf (.bool (eqO x.1 x.2)))
def sp93 : List (FuncId × SumT) := [(145, S145)]
def S93 : SumT := sumW (σ := X145) [6, 6] (fun a => ((arg a 0).elems, (arg a 1).elems)) (fun x => [.sl 6 x.1 .sh, .sl 6 x.2 .sh]) (fun x => okX x.1 && okX x.2) (fun x => .leaf (.bool (eqO x.1 x.2)))
end Go.Proofs.Ytdcijmigoefnjaa
