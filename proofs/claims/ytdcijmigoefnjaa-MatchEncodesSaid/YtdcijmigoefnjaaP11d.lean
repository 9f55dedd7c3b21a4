import Derived.Test.YtdcijmigoefnjaaD03
import Derived.Test.YtdcijmigoefnjaaL11c
import Derived.Test.YtdcijmigoefnjaaL10b
/- Chapter 11: the same, and cubes (printed by program; long names). -/
set_option linter.unusedVariables false
set_option maxRecDepth 100000
set_option maxHeartbeats 0
namespace Go.Proofs.Ytdcijmigoefnjaa
open Go Go.Ev

def r145_o0 (i : Int) (xs ys : List AV) : AS := AS.mk [AV.unk, AV.unk, AV.unk, AV.unk, AV.unk, AV.unk, AV.bool false, AV.unk, AV.unk, AV.unk, AV.unk, AV.unk, AV.unk, AV.unk, AV.unk, AV.unk, AV.unk, AV.unk, AV.unk, AV.unk, AV.unk, AV.unk, AV.unk, AV.unk, AV.unk, AV.unk, AV.unk, AV.unk, AV.unk, AV.unk, AV.unk, AV.unk] []
def r145_o1 (i : Int) (xs ys : List AV) : AS := AS.mk [AV.unk, AV.unk, AV.unk, AV.unk, AV.unk, AV.unk, AV.unk, AV.unk, AV.unk, AV.unk, AV.unk, AV.unk, AV.unk, AV.unk, AV.unk, AV.unk, AV.unk, AV.unk, AV.unk, AV.unk, AV.unk, AV.unk, AV.unk, AV.unk, AV.unk, AV.unk, AV.unk, AV.unk, AV.unk, AV.unk, AV.unk, AV.unk] []
def r145_c0 (i : Int) (xs ys : List AV) : Bool := AV.has (TI.mk (TD.struct [(0, 3, false), (1, 4, false), (2, 36, false), (4, 36, false)]) 6 48 [AV.int IntKind.i64 0, AV.bool false, AV.int IntKind.u64 0, AV.int IntKind.u64 0, AV.int IntKind.u64 0, AV.int IntKind.u64 0]) (xs.getD i.toNat AV.unk)
def r145_c1 (i : Int) (xs ys : List AV) : Bool := AV.has (TI.mk (TD.struct [(0, 3, false), (1, 4, false), (2, 36, false), (4, 36, false)]) 6 48 [AV.int IntKind.i64 0, AV.bool false, AV.int IntKind.u64 0, AV.int IntKind.u64 0, AV.int IntKind.u64 0, AV.int IntKind.u64 0]) (ys.getD i.toNat AV.unk)
def r145_c2 (i : Int) (xs ys : List AV) : Bool := !sameO (((xs.getD i.toNat AV.unk).cells.getD 0 AV.unk).asInt, ((xs.getD i.toNat AV.unk).cells.getD 1 AV.unk).asBool, (((xs.getD i.toNat AV.unk).cells.getD 2 AV.unk).asInt, ((xs.getD i.toNat AV.unk).cells.getD 3 AV.unk).asInt), ((xs.getD i.toNat AV.unk).cells.getD 4 AV.unk).asInt, ((xs.getD i.toNat AV.unk).cells.getD 5 AV.unk).asInt) (((ys.getD i.toNat AV.unk).cells.getD 0 AV.unk).asInt, ((ys.getD i.toNat AV.unk).cells.getD 1 AV.unk).asBool, (((ys.getD i.toNat AV.unk).cells.getD 2 AV.unk).asInt, ((ys.getD i.toNat AV.unk).cells.getD 3 AV.unk).asInt), ((ys.getD i.toNat AV.unk).cells.getD 4 AV.unk).asInt, ((ys.getD i.toNat AV.unk).cells.getD 5 AV.unk).asInt)
theorem r145 (i : Int) (xs ys : List AV) (Pr : _ → Prop) (F : _ → Ex × AS) (m : _ → Nat) (k0 : (ilt i (↑xs.length : Int)) = true → (inR i xs.length) = true) (k1 : (ilt i (↑xs.length : Int)) = true → (AV.has (TI.mk (TD.struct [(0, 3, false), (1, 4, false), (2, 36, false), (4, 36, false)]) 6 48 [AV.int IntKind.i64 0, AV.bool false, AV.int IntKind.u64 0, AV.int IntKind.u64 0, AV.int IntKind.u64 0, AV.int IntKind.u64 0]) (xs.getD i.toNat AV.unk)) = true) (k2 : (ilt i (↑xs.length : Int)) = true → (inR i ys.length) = true) (k3 : (ilt i (↑xs.length : Int)) = true → (AV.has (TI.mk (TD.struct [(0, 3, false), (1, 4, false), (2, 36, false), (4, 36, false)]) 6 48 [AV.int IntKind.i64 0, AV.bool false, AV.int IntKind.u64 0, AV.int IntKind.u64 0, AV.int IntKind.u64 0, AV.int IntKind.u64 0]) (ys.getD i.toNat AV.unk)) = true) (k4 : (ilt i (↑xs.length : Int)) = true → (!sameO (((xs.getD i.toNat AV.unk).cells.getD 0 AV.unk).asInt, ((xs.getD i.toNat AV.unk).cells.getD 1 AV.unk).asBool, (((xs.getD i.toNat AV.unk).cells.getD 2 AV.unk).asInt, ((xs.getD i.toNat AV.unk).cells.getD 3 AV.unk).asInt), ((xs.getD i.toNat AV.unk).cells.getD 4 AV.unk).asInt, ((xs.getD i.toNat AV.unk).cells.getD 5 AV.unk).asInt) (((ys.getD i.toNat AV.unk).cells.getD 0 AV.unk).asInt, ((ys.getD i.toNat AV.unk).cells.getD 1 AV.unk).asBool, (((ys.getD i.toNat AV.unk).cells.getD 2 AV.unk).asInt, ((ys.getD i.toNat AV.unk).cells.getD 3 AV.unk).asInt), ((ys.getD i.toNat AV.unk).cells.getD 4 AV.unk).asInt, ((ys.getD i.toNat AV.unk).cells.getD 5 AV.unk).asInt)) = true → F (i, xs, ys) = (Ex.ret, r145_o0 i xs ys)) (k5 : (ilt i (↑xs.length : Int)) = true → (!sameO (((xs.getD i.toNat AV.unk).cells.getD 0 AV.unk).asInt, ((xs.getD i.toNat AV.unk).cells.getD 1 AV.unk).asBool, (((xs.getD i.toNat AV.unk).cells.getD 2 AV.unk).asInt, ((xs.getD i.toNat AV.unk).cells.getD 3 AV.unk).asInt), ((xs.getD i.toNat AV.unk).cells.getD 4 AV.unk).asInt, ((xs.getD i.toNat AV.unk).cells.getD 5 AV.unk).asInt) (((ys.getD i.toNat AV.unk).cells.getD 0 AV.unk).asInt, ((ys.getD i.toNat AV.unk).cells.getD 1 AV.unk).asBool, (((ys.getD i.toNat AV.unk).cells.getD 2 AV.unk).asInt, ((ys.getD i.toNat AV.unk).cells.getD 3 AV.unk).asInt), ((ys.getD i.toNat AV.unk).cells.getD 4 AV.unk).asInt, ((ys.getD i.toNat AV.unk).cells.getD 5 AV.unk).asInt)) = false → OnOk Pr F m (i, xs, ys) ((iadd IntKind.i64 i 1, xs, ys))) (k6 : (ilt i (↑xs.length : Int)) = false → F (i, xs, ys) = (Ex.exit 0, r145_o1 i xs ys)) : Round (book.envP 145 sp145 big noLoops) (loopBody Try.f145 4) (book.clean 145 4) (book.clean 145 (4 + 500)) st145 pr145 Pr F m (i, xs, ys) :=
  Round.of (Bool.rec (motive := fun _ => TE) (.ret (Ex.exit 0, r145_o1 i xs ys)) (Bool.rec (motive := fun _ => TE) .no (Bool.rec (motive := fun _ => TE) .no (Bool.rec (motive := fun _ => TE) .no (Bool.rec (motive := fun _ => TE) .no (.must (Same ([AV.agg [AV.int IntKind.i64 ((xs.getD i.toNat AV.unk).cells.getD 0 AV.unk).asInt, AV.bool ((xs.getD i.toNat AV.unk).cells.getD 1 AV.unk).asBool, AV.int IntKind.u64 ((xs.getD i.toNat AV.unk).cells.getD 2 AV.unk).asInt, AV.int IntKind.u64 ((xs.getD i.toNat AV.unk).cells.getD 3 AV.unk).asInt, AV.int IntKind.u64 ((xs.getD i.toNat AV.unk).cells.getD 4 AV.unk).asInt, AV.int IntKind.u64 ((xs.getD i.toNat AV.unk).cells.getD 5 AV.unk).asInt], AV.agg [AV.int IntKind.i64 ((ys.getD i.toNat AV.unk).cells.getD 0 AV.unk).asInt, AV.bool ((ys.getD i.toNat AV.unk).cells.getD 1 AV.unk).asBool, AV.int IntKind.u64 ((ys.getD i.toNat AV.unk).cells.getD 2 AV.unk).asInt, AV.int IntKind.u64 ((ys.getD i.toNat AV.unk).cells.getD 3 AV.unk).asInt, AV.int IntKind.u64 ((ys.getD i.toNat AV.unk).cells.getD 4 AV.unk).asInt, AV.int IntKind.u64 ((ys.getD i.toNat AV.unk).cells.getD 5 AV.unk).asInt]])) (Bool.rec (motive := fun _ => TE) (.must (Same (st145 (iadd IntKind.i64 i 1, xs, ys))) (.ret (.normal, st145 ((iadd IntKind.i64 i 1, xs, ys))))) (.ret (Ex.ret, r145_o0 i xs ys)) ((r145_c2 i xs ys)))) ((r145_c1 i xs ys))) (inR i ys.length)) ((r145_c0 i xs ys))) (inR i xs.length)) (ilt i (↑xs.length : Int))) (.s (.s .z .z) .z) (by kernel_rfl) (.ite (fun h0_0 => .step (k0 h0_0) (.step (k1 h0_0) (.step (k2 h0_0) (.step (k3 h0_0) (.must (same_ok _) (.ite (fun h4_5 => .out (k4 h0_0 h4_5)) (fun h4_5 => .must (same_ok _) (.next (k5 h0_0 h4_5))))))))) (fun h0_0 => .exit (k6 h0_0)))
theorem p145 (xs ys : List AV) (r : AV × List (List AV)) (k0 : (!ieq (↑xs.length : Int) (↑ys.length : Int)) = true → ((AV.bool false, [])) = r) (k1 : (!ieq (↑xs.length : Int) (↑ys.length : Int)) = false → (L145.pre (0, xs, ys)) = true) (k2 : (!ieq (↑xs.length : Int) (↑ys.length : Int)) = false → (!eqO xs ys) = true → ((AV.bool false, [])) = r) (k3 : (!ieq (↑xs.length : Int) (↑ys.length : Int)) = false → (!eqO xs ys) = false → ((AV.bool true, [])) = r) : Goes (runP (book.envP 145 sp145 big (loopsAt [(4, lp145)])) Try.f145 [.sl 6 xs .sh, .sl 6 ys .sh, .fn 78 []] [] (.s .z (.s .z .z))) r :=
  Goes.of_eq (t' := Bool.rec (motive := fun _ => TR) (.must (Same (st145 (0, xs, ys))) (Bool.rec (motive := fun _ => TR) .no (Bool.rec (motive := fun _ => TR) (.ret ((AV.bool true, []))) (.ret ((AV.bool false, []))) (!eqO xs ys)) (L145.pre (0, xs, ys)))) (.ret ((AV.bool false, []))) (!ieq (↑xs.length : Int) (↑ys.length : Int))) (by kernel_rfl) (.ite (fun h0_0 => Goes.leafE (k0 h0_0)) (fun h0_0 => .must (same_ok _) (.step (k1 h0_0) (.ite (fun h2_2 => Goes.leafE (k2 h0_0 h2_2)) (fun h2_2 => Goes.leafE (k3 h0_0 h2_2))))))
theorem p93 (xs ys : List AV) (r : AV × List (List AV)) (k0 : (okX xs && okX ys) = true) (k1 : ((AV.bool (eqO xs ys), [])) = r) : Goes (runP (book.envP 93 sp93 100 noLoops) Try.f93 [.sl 6 xs .sh, .sl 6 ys .sh] [] .z) r :=
  Goes.of_eq (t' := .must (Same ([AV.sl 6 xs St.sh, AV.sl 6 ys St.sh, AV.fn 78 []])) (Bool.rec (motive := fun _ => TR) .no (.ret ((AV.bool (eqO xs ys), []))) (okX xs && okX ys))) (by kernel_rfl) (.must (same_ok _) (.step (k0) (Goes.leafE (k1))))
def r88_o0 (i : Int) (xs ys : List AV) : AS := AS.mk [AV.unk, AV.unk, AV.unk, AV.unk, AV.bool false, AV.unk, AV.unk, AV.unk, AV.unk, AV.unk, AV.unk, AV.unk, AV.unk, AV.unk, AV.unk, AV.unk, AV.unk, AV.unk, AV.unk, AV.unk, AV.unk, AV.unk, AV.unk, AV.unk, AV.unk, AV.unk, AV.unk] []
def r88_o1 (i : Int) (xs ys : List AV) : AS := AS.mk [AV.unk, AV.unk, AV.unk, AV.unk, AV.unk, AV.unk, AV.unk, AV.unk, AV.unk, AV.unk, AV.unk, AV.unk, AV.unk, AV.unk, AV.unk, AV.unk, AV.unk, AV.unk, AV.unk, AV.unk, AV.unk, AV.unk, AV.unk, AV.unk, AV.unk, AV.unk, AV.unk] []
def r88_c0 (i : Int) (xs ys : List AV) : Bool := AV.has (TI.mk (TD.struct [(0, 3, false), (1, 4, false), (2, 36, false), (4, 36, false)]) 6 48 [AV.int IntKind.i64 0, AV.bool false, AV.int IntKind.u64 0, AV.int IntKind.u64 0, AV.int IntKind.u64 0, AV.int IntKind.u64 0]) (xs.getD i.toNat AV.unk)
def r88_c1 (i : Int) (xs ys : List AV) : Bool := AV.has (TI.mk (TD.struct [(0, 3, false), (1, 4, false), (2, 36, false), (4, 36, false)]) 6 48 [AV.int IntKind.i64 0, AV.bool false, AV.int IntKind.u64 0, AV.int IntKind.u64 0, AV.int IntKind.u64 0, AV.int IntKind.u64 0]) (ys.getD i.toNat AV.unk)
def r88_c2 (i : Int) (xs ys : List AV) : Bool := !sameO (((xs.getD i.toNat AV.unk).cells.getD 0 AV.unk).asInt, ((xs.getD i.toNat AV.unk).cells.getD 1 AV.unk).asBool, (((xs.getD i.toNat AV.unk).cells.getD 2 AV.unk).asInt, ((xs.getD i.toNat AV.unk).cells.getD 3 AV.unk).asInt), ((xs.getD i.toNat AV.unk).cells.getD 4 AV.unk).asInt, ((xs.getD i.toNat AV.unk).cells.getD 5 AV.unk).asInt) (((ys.getD i.toNat AV.unk).cells.getD 0 AV.unk).asInt, ((ys.getD i.toNat AV.unk).cells.getD 1 AV.unk).asBool, (((ys.getD i.toNat AV.unk).cells.getD 2 AV.unk).asInt, ((ys.getD i.toNat AV.unk).cells.getD 3 AV.unk).asInt), ((ys.getD i.toNat AV.unk).cells.getD 4 AV.unk).asInt, ((ys.getD i.toNat AV.unk).cells.getD 5 AV.unk).asInt)
theorem r88 (i : Int) (xs ys : List AV) (Pr : _ → Prop) (F : _ → Ex × AS) (m : _ → Nat) (k0 : (ilt i (↑xs.length : Int)) = true → (inR i xs.length) = true) (k1 : (ilt i (↑xs.length : Int)) = true → (AV.has (TI.mk (TD.struct [(0, 3, false), (1, 4, false), (2, 36, false), (4, 36, false)]) 6 48 [AV.int IntKind.i64 0, AV.bool false, AV.int IntKind.u64 0, AV.int IntKind.u64 0, AV.int IntKind.u64 0, AV.int IntKind.u64 0]) (xs.getD i.toNat AV.unk)) = true) (k2 : (ilt i (↑xs.length : Int)) = true → (inR i ys.length) = true) (k3 : (ilt i (↑xs.length : Int)) = true → (AV.has (TI.mk (TD.struct [(0, 3, false), (1, 4, false), (2, 36, false), (4, 36, false)]) 6 48 [AV.int IntKind.i64 0, AV.bool false, AV.int IntKind.u64 0, AV.int IntKind.u64 0, AV.int IntKind.u64 0, AV.int IntKind.u64 0]) (ys.getD i.toNat AV.unk)) = true) (k4 : (ilt i (↑xs.length : Int)) = true → (!sameO (((xs.getD i.toNat AV.unk).cells.getD 0 AV.unk).asInt, ((xs.getD i.toNat AV.unk).cells.getD 1 AV.unk).asBool, (((xs.getD i.toNat AV.unk).cells.getD 2 AV.unk).asInt, ((xs.getD i.toNat AV.unk).cells.getD 3 AV.unk).asInt), ((xs.getD i.toNat AV.unk).cells.getD 4 AV.unk).asInt, ((xs.getD i.toNat AV.unk).cells.getD 5 AV.unk).asInt) (((ys.getD i.toNat AV.unk).cells.getD 0 AV.unk).asInt, ((ys.getD i.toNat AV.unk).cells.getD 1 AV.unk).asBool, (((ys.getD i.toNat AV.unk).cells.getD 2 AV.unk).asInt, ((ys.getD i.toNat AV.unk).cells.getD 3 AV.unk).asInt), ((ys.getD i.toNat AV.unk).cells.getD 4 AV.unk).asInt, ((ys.getD i.toNat AV.unk).cells.getD 5 AV.unk).asInt)) = true → F (i, xs, ys) = (Ex.ret, r88_o0 i xs ys)) (k5 : (ilt i (↑xs.length : Int)) = true → (!sameO (((xs.getD i.toNat AV.unk).cells.getD 0 AV.unk).asInt, ((xs.getD i.toNat AV.unk).cells.getD 1 AV.unk).asBool, (((xs.getD i.toNat AV.unk).cells.getD 2 AV.unk).asInt, ((xs.getD i.toNat AV.unk).cells.getD 3 AV.unk).asInt), ((xs.getD i.toNat AV.unk).cells.getD 4 AV.unk).asInt, ((xs.getD i.toNat AV.unk).cells.getD 5 AV.unk).asInt) (((ys.getD i.toNat AV.unk).cells.getD 0 AV.unk).asInt, ((ys.getD i.toNat AV.unk).cells.getD 1 AV.unk).asBool, (((ys.getD i.toNat AV.unk).cells.getD 2 AV.unk).asInt, ((ys.getD i.toNat AV.unk).cells.getD 3 AV.unk).asInt), ((ys.getD i.toNat AV.unk).cells.getD 4 AV.unk).asInt, ((ys.getD i.toNat AV.unk).cells.getD 5 AV.unk).asInt)) = false → OnOk Pr F m (i, xs, ys) ((iadd IntKind.i64 i 1, xs, ys))) (k6 : (ilt i (↑xs.length : Int)) = false → F (i, xs, ys) = (Ex.exit 0, r88_o1 i xs ys)) : Round (book.envP 88 sp145 big noLoops) (loopBody Try.f88 4) (book.clean 88 4) (book.clean 88 (4 + 500)) st88 pr88 Pr F m (i, xs, ys) :=
  Round.of (Bool.rec (motive := fun _ => TE) (.ret (Ex.exit 0, r88_o1 i xs ys)) (Bool.rec (motive := fun _ => TE) .no (Bool.rec (motive := fun _ => TE) .no (Bool.rec (motive := fun _ => TE) .no (Bool.rec (motive := fun _ => TE) .no (.must (Same ([AV.agg [AV.int IntKind.i64 ((xs.getD i.toNat AV.unk).cells.getD 0 AV.unk).asInt, AV.bool ((xs.getD i.toNat AV.unk).cells.getD 1 AV.unk).asBool, AV.int IntKind.u64 ((xs.getD i.toNat AV.unk).cells.getD 2 AV.unk).asInt, AV.int IntKind.u64 ((xs.getD i.toNat AV.unk).cells.getD 3 AV.unk).asInt, AV.int IntKind.u64 ((xs.getD i.toNat AV.unk).cells.getD 4 AV.unk).asInt, AV.int IntKind.u64 ((xs.getD i.toNat AV.unk).cells.getD 5 AV.unk).asInt], AV.agg [AV.int IntKind.i64 ((ys.getD i.toNat AV.unk).cells.getD 0 AV.unk).asInt, AV.bool ((ys.getD i.toNat AV.unk).cells.getD 1 AV.unk).asBool, AV.int IntKind.u64 ((ys.getD i.toNat AV.unk).cells.getD 2 AV.unk).asInt, AV.int IntKind.u64 ((ys.getD i.toNat AV.unk).cells.getD 3 AV.unk).asInt, AV.int IntKind.u64 ((ys.getD i.toNat AV.unk).cells.getD 4 AV.unk).asInt, AV.int IntKind.u64 ((ys.getD i.toNat AV.unk).cells.getD 5 AV.unk).asInt]])) (Bool.rec (motive := fun _ => TE) (.must (Same (st88 (iadd IntKind.i64 i 1, xs, ys))) (.ret (.normal, st88 ((iadd IntKind.i64 i 1, xs, ys))))) (.ret (Ex.ret, r88_o0 i xs ys)) ((r88_c2 i xs ys)))) ((r88_c1 i xs ys))) (inR i ys.length)) ((r88_c0 i xs ys))) (inR i xs.length)) (ilt i (↑xs.length : Int))) (.s (.s .z .z) .z) (by kernel_rfl) (.ite (fun h0_0 => .step (k0 h0_0) (.step (k1 h0_0) (.step (k2 h0_0) (.step (k3 h0_0) (.must (same_ok _) (.ite (fun h4_5 => .out (k4 h0_0 h4_5)) (fun h4_5 => .must (same_ok _) (.next (k5 h0_0 h4_5))))))))) (fun h0_0 => .exit (k6 h0_0)))
theorem p88 (xs ys : List AV) (r : AV × List (List AV)) (k0 : (!ieq (↑xs.length : Int) (↑ys.length : Int)) = true → ((AV.bool false, [])) = r) (k1 : (!ieq (↑xs.length : Int) (↑ys.length : Int)) = false → (L88.pre (0, xs, ys)) = true) (k2 : (!ieq (↑xs.length : Int) (↑ys.length : Int)) = false → (!eqO xs ys) = true → ((AV.bool false, [])) = r) (k3 : (!ieq (↑xs.length : Int) (↑ys.length : Int)) = false → (!eqO xs ys) = false → ((AV.bool true, [])) = r) : Goes (runP (book.envP 88 sp145 big (loopsAt [(4, lp88)])) Try.f88 [.sl 6 xs .sh, .sl 6 ys .sh] [] (.s .z (.s .z .z))) r :=
  Goes.of_eq (t' := Bool.rec (motive := fun _ => TR) (.must (Same (st88 (0, xs, ys))) (Bool.rec (motive := fun _ => TR) .no (Bool.rec (motive := fun _ => TR) (.ret ((AV.bool true, []))) (.ret ((AV.bool false, []))) (!eqO xs ys)) (L88.pre (0, xs, ys)))) (.ret ((AV.bool false, []))) (!ieq (↑xs.length : Int) (↑ys.length : Int))) (by kernel_rfl) (.ite (fun h0_0 => Goes.leafE (k0 h0_0)) (fun h0_0 => .must (same_ok _) (.step (k1 h0_0) (.ite (fun h2_2 => Goes.leafE (k2 h0_0 h2_2)) (fun h2_2 => Goes.leafE (k3 h0_0 h2_2))))))
end Go.Proofs.Ytdcijmigoefnjaa

/- Chapter 11: the same, and cubes: contracts. -/
set_option linter.unusedVariables false
set_option linter.unusedSimpArgs false
set_option maxRecDepth 100000
set_option maxHeartbeats 0
namespace Go.Proofs.Ytdcijmigoefnjaa
open Go Go.Ev

theorem eqO_step {xs ys : List AV} {n : Nat} (h1 : n < xs.length) (h2 : n < ys.length) : eqO (xs.drop n) (ys.drop n) = (sameO (ox (xs.getD n .unk)) (ox (ys.getD n .unk)) && eqO (xs.drop (n + 1)) (ys.drop (n + 1))) := by
  rw [getD_drop h1, getD_drop h2]; rfl
theorem eqO_len : ∀ {xs ys : List AV}, eqO xs ys = true → xs.length = ys.length
  | [], [], _ => rfl
  | x :: xs, y :: ys, h => by
    simp only [eqO, Bool.and_eq_true] at h
    simp [eqO_len h.2]
  | [], _ :: _, h => by cases h
  | _ :: _, [], h => by cases h
theorem ok145 {r : X145} (h : (okX r.1 && (okX r.2 && Nat.beq r.1.length r.2.length)) = true) : okX r.1 = true ∧ okX r.2 = true ∧ r.1.length = r.2.length := by
  simp only [Bool.and_eq_true] at h
  exact ⟨h.1, h.2.1, Nat.eq_of_beq_eq_true h.2.2⟩
theorem good145 : L145.Good := by
  refine ⟨fun r j ho hj h => ⟨?_, rfl⟩, fun r j ho hj h => ⟨?_, rfl⟩, fun r j ho hj => ?_⟩
  all_goals
    obtain ⟨h1, h2, h3⟩ := ok145 (r := r) ho
  · have hj : j < r.1.length := hj
    have h : (!sameO (ox (r.1.getD j .unk)) (ox (r.2.getD j .unk))) = true := h
    show (!eqO (r.1.drop j) (r.2.drop j)) = true
    rw [eqO_step hj (by omega)]
    cases hs : sameO (ox (r.1.getD j .unk)) (ox (r.2.getD j .unk)) <;> rw [hs] at h
    · rfl
    · cases h
  · have hj : j < r.1.length := hj
    have h : (!sameO (ox (r.1.getD j .unk)) (ox (r.2.getD j .unk))) = false := h
    show (!eqO (r.1.drop j) (r.2.drop j)) = !eqO (r.1.drop (j + 1)) (r.2.drop (j + 1))
    rw [eqO_step hj (by omega)]
    cases hs : sameO (ox (r.1.getD j .unk)) (ox (r.2.getD j .unk)) <;> rw [hs] at h
    · cases h
    · rfl
  · have hj : r.1.length ≤ j := hj
    show (!eqO (r.1.drop j) (r.2.drop j)) = false
    rw [List.drop_eq_nil_of_le hj, List.drop_eq_nil_of_le (by omega)]; rfl
theorem good88 : L88.Good := ⟨fun r j a b c => ⟨(good145.yes r j a b c).1, rfl⟩, good145.no, good145.end_⟩
theorem sp145_ok : SpecTL Try.prog sp145 := ⟨s78, s79, trivial⟩
theorem step145 (x : Int × X145) (h : L145.P x) : Round (book.envP 145 sp145 big noLoops) (loopBody Try.f145 4) (book.clean 145 4) (book.clean 145 (4 + 500)) st145 pr145 L145.P (fun x => (L145.tr x).val) L145.m x := by
  obtain ⟨i, xs, ys⟩ := x
  obtain ⟨h1, h2, h3⟩ := ok145 (r := (xs, ys)) h.ok
  have h3 : xs.length = ys.length := h3
  exact r145 i xs ys _ _ _ (fun k => h.in_ k) (fun k => okX_has h1 (h.lt k)) (fun k => h3 ▸ h.in_ k) (fun k => okX_has h2 (h3 ▸ h.lt k)) (fun k e => h.found good145 k e) (fun k e => h.on good145 k e) (fun k => h.fin_ good145 k)
theorem lok145 {loops} : LoopOk (book.envP 145 sp145 big loops) (loopBody Try.f145 4) lp145 := FL.loop (loops' := noLoops) (noInner (by kernel_rfl)) (by kernel_rfl) step145
theorem step88 (x : Int × X145) (h : L88.P x) : Round (book.envP 88 sp145 big noLoops) (loopBody Try.f88 4) (book.clean 88 4) (book.clean 88 (4 + 500)) st88 pr88 L88.P (fun x => (L88.tr x).val) L88.m x := by
  obtain ⟨i, xs, ys⟩ := x
  obtain ⟨h1, h2, h3⟩ := ok145 (r := (xs, ys)) h.ok
  have h3 : xs.length = ys.length := h3
  exact r88 i xs ys _ _ _ (fun k => h.in_ k) (fun k => okX_has h1 (h.lt k)) (fun k => h3 ▸ h.in_ k) (fun k => okX_has h2 (h3 ▸ h.lt k)) (fun k e => h.found good88 k e) (fun k e => h.on good88 k e) (fun k => h.fin_ good88 k)
theorem lok88 {loops} : LoopOk (book.envP 88 sp145 big loops) (loopBody Try.f88 4) lp88 := FL.loop (loops' := noLoops) (noInner (by kernel_rfl)) (by kernel_rfl) step88
theorem len_ne {xs ys : List AV} (e : (!ieq (xs.length : Int) (ys.length : Int)) = true) : eqO xs ys = false := by
  cases hq : eqO xs ys
  · rfl
  · rw [eqO_len hq] at e; simp [ieq] at e
theorem len_eq {xs ys : List AV} (e : (!ieq (xs.length : Int) (ys.length : Int)) = false) : xs.length = ys.length := by
  simp only [Bool.not_eq_false', ieq, beq_iff_eq] at e; omega
theorem pre145 {xs ys : List AV} (h : (okX xs && okX ys) = true) (e : xs.length = ys.length) : (okX xs && (okX ys && Nat.beq xs.length ys.length)) = true := by
  simp only [Bool.and_eq_true] at h
  rw [h.1, h.2, e]; simp
theorem s145 : SumTOk Try.prog 145 S145 := sumW_ok fun x h => by
  obtain ⟨xs, ys⟩ := x
  have h : (okX xs && okX ys) = true := h
  have hx : okX xs = true := by simp only [Bool.and_eq_true] at h; exact h.1
  refine book_ok.run1 (by kernel_rfl) sp145_ok (by kernel_rfl) lok145 (p145 xs ys _ (fun e => ?_) (fun e => FL.pre_of (i := 0) (Nat.zero_le _) (okX_iff.1 hx).2 (pre145 h (len_eq e))) (fun e e2 => ?_) (fun e e2 => ?_)) <;> show _ = (AV.bool (eqO xs ys), _)
  · rw [len_ne e]
  · rw [show eqO xs ys = false by simpa using e2]
  · rw [show eqO xs ys = true by simpa using e2]
theorem sp93_ok : SpecTL Try.prog sp93 := ⟨s145, trivial⟩
theorem s93 : SumTOk Try.prog 93 S93 := sumW_ok fun x h => by
  obtain ⟨xs, ys⟩ := x
  exact book_ok.pth (by kernel_rfl) sp93_ok (p93 xs ys _ h rfl)
theorem s88 : SumTOk Try.prog 88 S93 := sumW_ok fun x h => by
  obtain ⟨xs, ys⟩ := x
  have h : (okX xs && okX ys) = true := h
  have hx : okX xs = true := by simp only [Bool.and_eq_true] at h; exact h.1
  refine book_ok.run1 (by kernel_rfl) sp145_ok (by kernel_rfl) lok88 (p88 xs ys _ (fun e => ?_) (fun e => FL.pre_of (i := 0) (Nat.zero_le _) (okX_iff.1 hx).2 (pre145 h (len_eq e))) (fun e e2 => ?_) (fun e e2 => ?_)) <;> show _ = (AV.bool (eqO xs ys), _)
  · rw [len_ne e]
  · rw [show eqO xs ys = false by simpa using e2]
  · rw [show eqO xs ys = true by simpa using e2]

end Go.Proofs.Ytdcijmigoefnjaa
