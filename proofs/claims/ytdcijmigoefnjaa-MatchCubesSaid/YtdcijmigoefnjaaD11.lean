/- Chapter 11: matches, as functions. -/
import Derived.Test.YtdcijmigoefnjaaD10c
import Derived.Test.YtdcijmigoefnjaaEv3
set_option linter.unusedVariables false
set_option maxRecDepth 100000
namespace Go.Proofs.Ytdcijmigoefnjaa
open Go Go.Ev

def ox (v : AV) : XO := oxOf v.cells
def isOx : AV → Bool
  | .agg [.int .i64 _, .bool _, .int .u64 a, .int .u64 b, .int .u64 c, .int .u64 d] => inU a && (inU b && (inU c && inU d))
  | _ => false
/-- a match: parts -/
def oxsB (xs : List AV) : Bool := xs.all isOx
def okX (xs : List AV) : Bool := oxsB xs && lenB xs
def isWd : AV → Bool
  | .agg [.int .u64 _, .int .u64 _] => true
  | _ => false
def okW (vs : List AV) : Bool := vs.all isWd && lenB vs
def sameW (v w : Int × Int) : Bool := ieq v.1 w.1 && ieq v.2 w.2
def hasW (vs : List AV) (w : Int × Int) : Bool := vs.any fun v => sameW (wideOf v) w
/-- does a part give what is needed -/
def givesF (x : XO) (n : Int) (vs : List AV) : Bool := ieq x.1 n && (vs.isEmpty || (!x.2.1 && hasW vs x.2.2.1))
def anyG (xs : List AV) (n : Int) (vs : List AV) : Bool := xs.any fun v => givesF (ox v) n vs
/-- is all there that a field needs -/
def metF (xs : List AV) (f : Int) : Bool := (needOf f).all fun p => anyG xs p.1 (p.2.map wideA)

/-! ### is a value among some -/
abbrev XW := Int × List AV × (Int × Int)
def wM (w : Int × Int) : List AV := [.int .u64 w.1, .int .u64 w.2]
def st148 (x : XW) : AS := stA 19 [(0, .sl 2 x.2.1 .sh), (3, .ptr 3 0), (7, .int .i64 x.2.1.length), (8, .int .i64 x.1)] [(3, wM x.2.2)]
def pr148 (s : AS) : XW := ((s.at 8).asInt, (s.at 0).elems, wideOf (.agg ((Ev.look s.mem 3).getD [])))
def st137 (x : XW) : AS := stA 21 [(1, .sl 2 x.2.1 .sh), (2, .ptr 2 0), (5, .int .i64 x.1)] [(2, wM x.2.2)]
def pr137 (s : AS) : XW := ((s.at 5).asInt, (s.at 1).elems, wideOf (.agg ((Ev.look s.mem 2).getD [])))
def hasV (vs : List AV) (w : Int × Int) : Bool := vs.any fun v => sameW w (wideOf v)
def ixV (vs : List AV) (w : Int × Int) (j : Nat) : Nat := firstI (fun j => sameW w (wideOf (vs.getD j .unk))) (vs.length - j) j
def L148 : FL (List AV × (Int × Int)) := ⟨fun r => r.1.length, fun r j => sameW r.2 (wideOf (r.1.getD j .unk)), fun r j => hasV (r.1.drop j) r.2, fun r j => ixV r.1 r.2 j, fun _ k => (.ret, stA 19 [(4, .int .i64 k)] []), fun _ => (.exit 0, stA 19 [] []), fun r => okW r.1⟩
noncomputable def lp148 : AS → T (Tree (Ex × AS)) := loopS (book.clean 148 2) pr148 st148 L148.tr L148.pre
def L137 : FL (List AV × (Int × Int)) := ⟨fun r => r.1.length, fun r j => sameW (wideOf (r.1.getD j .unk)) r.2, fun r j => hasW (r.1.drop j) r.2, fun _ _ => 0, fun r _ => (.ret, stA 21 [(1, .sl 2 r.1 .sh), (4, .bool true)] []), fun r => (.exit 0, stA 21 [(1, .sl 2 r.1 .sh)] []), fun r => okW r.1⟩
noncomputable def lp137 : AS → T (Tree (Ex × AS)) := loopS (book.clean 137 2) pr137 st137 L137.tr L137.pre
def S148 : SumT := sumWD (σ := List AV × (Int × Int)) [2] (fun a => ((arg a 0).elems, wideOf (arg a 1))) (fun x => [.sl 2 x.1 .sh, wA x.2]) (fun x => okW x.1)
  (fun x => .ite (hasV x.1 x.2) (.leaf (.int .i64 (ixV x.1 x.2 0))) (.leaf (.int .i64 (-1))))
def S97 : SumT := sumWD (σ := List AV × (Int × Int)) [2] (fun a => ((arg a 0).elems, wideOf (arg a 1))) (fun x => [.sl 2 x.1 .sh, wA x.2]) (fun x => okW x.1) (fun x => .leaf (.bool (hasW x.1 x.2)))
def S137 : SumT := sumWD (σ := (Int × Int) × List AV) [0, 2] (fun a => (wideOf (arg a 0), (arg a 1).elems)) (fun x => [wA x.1, .sl 2 x.2 .sh]) (fun x => okW x.2) (fun x => .leaf (.bool (x.2.isEmpty || hasW x.2 x.1)))
def S136 : SumT := sumWD (σ := XO × Int × List AV) [0, 2] (fun a => (oxOf (arg a 0).cells, ((arg a 1).cells.getD 0 .unk).asInt, ((arg a 1).cells.getD 1 .unk).elems))
  (fun x => [oxA x.1, .agg [.int .i64 x.2.1, .sl 2 x.2.2 .sh]]) (fun x => okW x.2.2) (fun x => .leaf (.bool (givesF x.1 x.2.1 x.2.2)))
def sp97 : List (FuncId × SumT) := [(148, S148)]
def sp136 : List (FuncId × SumT) := [(97, S97)]

/-- what a field needs, at one field -/
def S30a (f : Int) (L : AV) : SumT := sum0 (σ := Int) (fun a => (arg a 0).asInt) (fun n => [.int .i64 n]) (fun n => ieq n f) (fun _ => .leaf L)
def sp84 (f : Int) (L : AV) : List (FuncId × SumT) := [(30, S30a f L), (136, S136)]
def sp85 (f : Int) (L : AV) : List (FuncId × SumT) := [(55, S30a f L), (137, S137)]
def ndC (n : Int) (vs : List AV) (st : St) : AV := .agg [.int .i64 n, .sl 2 vs st]
def ndN (n : Int) : AV := .agg [.int .i64 n, .sl 0 [] .nil]

abbrev X84 := List AV × Int × List AV × List AV × Int × Int
def m84 (n : Int) (c : AV) : Mem := [(6, [.int .i64 n, c])]
def st84 (c : List AV → AV) (st : St) (x : Int × X84) : AS := stA 27 [(0, .sl 6 x.2.1 .sh), (6, .ptr 6 0), (10, .sl 2 x.2.2.2.2.1 st), (11, .int .i64 x.2.2.2.2.2.1), (12, .int .i64 x.2.2.2.2.2.2), (16, .sl 6 x.2.1 .sh), (17, .int .i64 x.2.1.length), (18, .int .i64 x.1)] (m84 x.2.2.1 (c x.2.2.2.1))
def nd84 (s : AS) : List AV := (Ev.look s.mem 6).getD []
def pr84 (s : AS) : Int × X84 := ((s.at 18).asInt, (s.at 16).elems, ((nd84 s).getD 0 .unk).asInt, ((nd84 s).getD 1 .unk).elems, (s.at 10).elems, (s.at 11).asInt, (s.at 12).asInt)
def o84 (st : St) (r : X84) : AS := stA 27 [(0, .sl 6 r.1 .sh), (10, .sl 2 r.2.2.2.1 st), (11, .int .i64 r.2.2.2.2.1), (12, .int .i64 r.2.2.2.2.2)] []
def L84 (st : St) : FL X84 := ⟨fun r => r.1.length, fun r j => givesF (ox (r.1.getD j .unk)) r.2.1 r.2.2.1, fun r j => anyG (r.1.drop j) r.2.1 r.2.2.1, fun _ _ => 0, fun r _ => (.exit 1, o84 st r), fun r => (.exit 2, o84 st r), fun r => okX r.1 && okW r.2.2.1⟩
def cSh (vs : List AV) : AV := .sl 2 vs .sh
def cNil (_ : List AV) : AV := .sl 0 [] .nil
abbrev X85 := List AV × List AV × Int
def st85 (x : Int × Bool × X85) : AS := stA 69 [(0, .sl 6 x.2.2.1 .sh), (5, .sl 2 x.2.2.2.1 .full), (6, .int .i64 x.2.2.2.2), (7, .bool x.2.1), (8, .int .i64 x.1)] []
def pr85 (s : AS) : Int × Bool × X85 := ((s.at 8).asInt, (s.at 7).asBool, (s.at 0).elems, (s.at 5).elems, (s.at 6).asInt)
def ndNum (c : AV) : Int := (c.cells.getD 0 .unk).asInt
def ndVals (c : AV) : List AV := (c.cells.getD 1 .unk).elems
/-- is it a need -/
def isNd (st : St) : AV → Bool
  | .agg [.int .i64 _, .sl sz vs st'] => Nat.beq sz 2 && (decide (st' = st) && okW vs)
  | _ => false
def isNdN : AV → Bool
  | .agg [.int .i64 _, .sl sz [] st'] => Nat.beq sz 0 && decide (st' = .nil)
  | _ => false
def ok85 (L : List AV) (j : Int) : Bool :=
  match L with
  | [c] => ieq j 0 && (isNd .sh c || isNdN c)
  | [c, d] => (ieq j 0 || ieq j 1) && (isNd .sh c && isNd .full d)
  | _ => false
def o85 (r : X85) (fd : Bool) : AS := stA 69 [(0, .sl 6 r.1 .sh), (5, .sl 2 r.2.1 .full), (6, .int .i64 r.2.2), (7, .bool fd)] []
def nd85 (r : X85) : AV := r.2.1.getD r.2.2.toNat .unk
def L85 : GL X85 Bool := ⟨fun r => r.1.length, fun _ _ _ => false, fun r j fd => fd || givesF (ox (r.1.getD j .unk)) (ndNum (nd85 r)) (ndVals (nd85 r)), fun _ _ _ => false, fun _ _ _ => 0,
  fun r j fd => fd || anyG (r.1.drop j) (ndNum (nd85 r)) (ndVals (nd85 r)), fun r _ fd => (.exit 2, o85 r fd), fun r fd => (.exit 2, o85 r fd), fun r => okX r.1 && ok85 r.2.1 r.2.2, fun _ _ => true⟩
noncomputable def lp84 (c : List AV → AV) (st : St) : AS → T (Tree (Ex × AS)) := loopS (book.clean 84 5) pr84 (st84 c st) (L84 st).tr (L84 st).pre
def L84n : FL X84 := ⟨fun r => r.1.length, fun r j => givesF (ox (r.1.getD j .unk)) r.2.1 r.2.2.1, fun r j => anyG (r.1.drop j) r.2.1 r.2.2.1, fun _ _ => 0, fun r _ => (.exit 1, o84 .full r), fun r => (.exit 2, o84 .full r), fun r => okX r.1 && r.2.2.1.isEmpty⟩
noncomputable def lp84n : AS → T (Tree (Ex × AS)) := loopS (book.clean 84 5) pr84 (st84 cNil .full) L84n.tr L84n.pre
noncomputable def lp85 : AS → T (Tree (Ex × AS)) := loopS (book.clean 85 7) pr85 st85 L85.tr0 L85.pre

def S84 : SumT := sumW (σ := List AV × Int) [6] (fun a => ((arg a 0).elems, (arg a 1).asInt)) (fun x => [.sl 6 x.1 .sh, .int .i64 x.2]) (fun x => okX x.1) (fun x => .leaf (.bool (metF x.1 x.2)))

/-- what is wrong with a match -/
def sameF (xs : List AV) (f : Int) : Bool := xs.any fun v => ieq (ox v).1 f
def chkAt (xs : List AV) (i : Nat) : Int :=
  let x := ox (xs.getD i .unk)
  bif sameF (xs.take i) x.1 then 10 else bif !metF (xs.take i) x.1 then 9 else 0
/-- the first that is wrong, from a place on -/
def chkFrom (xs : List AV) : Nat → Nat → Int
  | 0, _ => 0
  | n + 1, i => bif ieq (chkAt xs i) 0 then chkFrom xs n (i + 1) else chkAt xs i
def chk11 (xs : List AV) : Int := chkFrom xs xs.length 0


def badA (c : Int) : AV := .agg [.bool true, .int .i64 4, .int .i64 c]
def S142 : SumT := sum0 (σ := Int) (fun a => (arg a 0).asInt) (fun c => [.int .i64 c]) (fun _ => true) (fun c => .leaf (badA c))
def S144 : SumT := sumS (σ := XO × XO) (fun a p => (oxOf (arg a 0).cells, oxOf (p.getD 0 []))) (fun x => [oxA x.1, .ptr 1000 0]) (fun x => [oxC x.2]) (fun _ => true) (fun x => .leaf (.bool (ieq x.1.1 x.2.1), [oxC x.2]))
def sp146 : List (FuncId × SumT) := [(144, S144)]
def st146 (x : Int × List AV × XO) : AS := stA 19 [(0, .sl 6 x.2.1 .sh), (1, .fn 144 [.ptr 1000 0]), (7, .int .i64 x.2.1.length), (8, .int .i64 x.1)] [(1000, oxC x.2.2)]
def pr146 (s : AS) : Int × List AV × XO := ((s.at 8).asInt, (s.at 0).elems, oxOf ((Ev.look s.mem 1000).getD []))
def ixF (xs : List AV) (f : Int) (j : Nat) : Nat := firstI (fun j => ieq (ox (xs.getD j .unk)).1 f) (xs.length - j) j
def L146 : FL (List AV × XO) := ⟨fun r => r.1.length, fun r j => ieq (ox (r.1.getD j .unk)).1 r.2.1, fun r j => sameF (r.1.drop j) r.2.1, fun r j => ixF r.1 r.2.1 j, fun r k => (.ret, stA 19 [(4, .int .i64 k)] [(1000, oxC r.2)]), fun r => (.exit 0, stA 19 [] [(1000, oxC r.2)]), fun r => okX r.1⟩
noncomputable def lp146 : AS → T (Tree (Ex × AS)) := loopS (book.clean 146 2) pr146 st146 L146.tr L146.pre
def S146 : SumT := sumWS (σ := List AV × XO) [6] (fun a p => ((arg a 0).elems, oxOf (p.getD 0 []))) (fun x => [.sl 6 x.1 .sh, .fn 144 [.ptr 1000 0]]) (fun x => [oxC x.2]) (fun x => okX x.1)
  (fun x => .ite (sameF x.1 x.2.1) (.leaf (.int .i64 (ixF x.1 x.2.1 0), [oxC x.2])) (.leaf (.int .i64 (-1), [oxC x.2])))
def sp94 : List (FuncId × SumT) := [(146, S146)]
def S94 : SumT := sumWS (σ := List AV × XO) [6] (fun a p => ((arg a 0).elems, oxOf (p.getD 0 []))) (fun x => [.sl 6 x.1 .sh, .fn 144 [.ptr 1000 0]]) (fun x => [oxC x.2]) (fun x => okX x.1) (fun x => .leaf (.bool (sameF x.1 x.2.1), [oxC x.2]))

def noF : List AV := [.bool false, .int .i64 0, .int .i64 0]
def baF (c : Int) : List AV := [.bool true, .int .i64 4, .int .i64 c]
def st91 (x : Int × List AV) : AS := stA 28 [(0, .sl 6 x.2 .sh), (2, .ptr 2 0), (5, .sl 6 x.2 .sh), (6, .int .i64 x.2.length), (7, .int .i64 x.1)] [(2, noF)]
def pr91 (s : AS) : Int × List AV := ((s.at 7).asInt, (s.at 0).elems)
def ixC (xs : List AV) (j : Nat) : Nat := firstI (fun j => !ieq (chkAt xs j) 0) (xs.length - j) j
def chkJ (xs : List AV) (j : Nat) : Int := chkFrom xs (xs.length - j) j
def L91 : FL (List AV) := ⟨fun r => r.length, fun r j => !ieq (chkAt r j) 0, fun r j => !ieq (chkJ r j) 0, ixC, fun r k => (.ret, stA 28 [(2, .ptr 2 0)] [(2, baF (chkAt r k))]), fun _ => (.exit 0, stA 28 [(2, .ptr 2 0)] [(2, noF)]), okX⟩
noncomputable def lp91 : AS → T (Tree (Ex × AS)) := loopS (book.clean 91 2) pr91 st91 L91.tr L91.pre
def sp91 : List (FuncId × SumT) := [(94, S94), (84, S84), (142, S142)]

def st92 (x : Int × List AV) : AS := stA 40 [(0, .sl 6 x.2 .sh), (2, .ptr 2 0), (3, .int .i64 x.1)] [(2, noF)]
def pr92 (s : AS) : Int × List AV := ((s.at 3).asInt, (s.at 0).elems)
def L92 : FL (List AV) := ⟨fun r => r.length, fun r j => !ieq (chkAt r j) 0, fun r j => !ieq (chkJ r j) 0, ixC, fun r k => (.ret, stA 40 [(2, .ptr 2 0)] [(2, baF (chkAt r k))]), fun _ => (.exit 0, stA 40 [(2, .ptr 2 0)] [(2, noF)]), okX⟩
noncomputable def lp92 : AS → T (Tree (Ex × AS)) := loopS (book.clean 92 2) pr92 st92 L92.tr L92.pre
def st92i (x : Int × List AV × Int) : AS := stA 40 [(0, .sl 6 x.2.1 .sh), (2, .ptr 2 0), (3, .int .i64 x.2.2), (4, .int .i64 x.1)] [(2, noF)]
def pr92i (s : AS) : Int × List AV × Int := ((s.at 4).asInt, (s.at 0).elems, (s.at 3).asInt)
def L92i : FL (List AV × Int) := ⟨fun r => r.2.toNat, fun r j => ieq (ox (r.1.getD j .unk)).1 (ox (r.1.getD r.2.toNat .unk)).1, fun r j => sameF ((r.1.take r.2.toNat).drop j) (ox (r.1.getD r.2.toNat .unk)).1, fun _ _ => 0, fun r _ => (.ret, stA 40 [(0, .sl 6 r.1 .sh), (2, .ptr 2 0), (3, .int .i64 r.2)] [(2, baF 10)]),
  fun r => (.exit 2, stA 40 [(0, .sl 6 r.1 .sh), (2, .ptr 2 0), (3, .int .i64 r.2)] [(2, noF)]), fun r => okX r.1 && inR r.2 r.1.length⟩
noncomputable def lp92i : AS → T (Tree (Ex × AS)) := loopS (book.clean 92 5) pr92i st92i L92i.tr L92i.pre
def sp92 : List (FuncId × SumT) := [(85, S84), (143, S142)]
def S91 : SumT := sumW (σ := List AV) [6] (fun a => (arg a 0).elems) (fun x => [.sl 6 x .sh]) (fun x => okX x) (fun x => .ite (ieq (chk11 x) 0) (.leaf (.agg noF)) (.leaf (.agg (baF (chk11 x)))))

end Go.Proofs.Ytdcijmigoefnjaa
