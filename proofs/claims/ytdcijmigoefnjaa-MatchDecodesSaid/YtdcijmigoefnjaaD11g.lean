import Derived.Test.YtdcijmigoefnjaaD03
/- Chapter 11: is there a byte that is not nought. -/
set_option linter.unusedVariables false
set_option maxRecDepth 100000
namespace Go.Proofs.Ytdcijmigoefnjaa
open Go Go.Ev

def nz (v : AV) : Bool := !ieq v.asInt 0
def st179 (x : Int × List AV) : AS := stA 19 [(0, .sl 1 x.2 .sh), (1, .fn 141 []), (7, .int .i64 x.2.length), (8, .int .i64 x.1)] []
def pr179 (s : AS) : Int × List AV := ((s.at 8).asInt, (s.at 0).elems)
def ixN (xs : List AV) (j : Nat) : Nat := firstI (fun k => nz (xs.getD k .unk)) (xs.length - j) j
def L179 : FL (List AV) := ⟨fun r => r.length, fun r j => nz (r.getD j .unk), fun r j => nzB (r.drop j), fun r j => ixN r j, fun _ k => (.ret, stA 19 [(4, .int .i64 k)] []), fun _ => (.exit 0, stA 19 [] []), fun r => okL r⟩
noncomputable def lp179 : AS → T (Tree (Ex × AS)) := loopS (book.clean 179 2) pr179 st179 L179.tr L179.pre
def S141z : SumT := sum0 (σ := Int) (fun a => (arg a 0).asInt) (fun n => [.int .u8 n]) (fun _ => true) (fun n => .leaf (.bool (!ieq n 0)))
def sp179 : List (FuncId × SumT) := [(141, S141z)]
def S179 : SumT := sumW (σ := List AV) [1] (fun a => (arg a 0).elems) (fun x => [.sl 1 x .sh, .fn 141 []]) (fun x => okL x) (fun x => .ite (nzB x) (.leaf (.int .i64 (ixN x 0))) (.leaf (.int .i64 (-1))))
def sp139 : List (FuncId × SumT) := [(179, S179)]
/-- a match's parts, as bytes -/
def bdL (xs : List AV) : List AV := List.take ((nv xs 2 2).toNat - 4) (List.drop 4 xs)
/-- what fills it up -/
def pdL (xs : List AV) : List AV := List.take ((padI (nv xs 2 2)).toNat - (nv xs 2 2).toNat) (List.drop (nv xs 2 2).toNat xs)
def okD (xs : List AV) : Bool := ieq (hdC xs) (-1) && (ieq (decC (bdL xs)) 0 && (ieq (chk11 (decL (bdL xs))) 0 && !nzB (pdL xs)))
def cdD (xs : List AV) : Int := bif !ieq (hdC xs) (-1) then hdC xs else bif !ieq (decC (bdL xs)) 0 then decC (bdL xs) else bif !ieq (chk11 (decL (bdL xs))) 0 then chk11 (decL (bdL xs)) else 1
def decT11 (e : AV) (lk : Bool) (xs : List AV) : Tree AV := .ite (okD xs) (.ite (decL (bdL xs)).isEmpty (.leaf (.tup [e, .int .i64 (padI (nv xs 2 2)), .agg noF])) (.leaf (.tup [.sl 6 (lockL lk (decL (bdL xs))) .sh, .int .i64 (padI (nv xs 2 2)), .agg noF])))
  (.leaf (.tup [.sl 0 [] .nil, .int .i64 0, .agg (baF (cdD xs))]))
def S86 (e : AV) (lk : Bool) : SumT := sumW (σ := List AV) [1] (fun a => (arg a 0).elems) (fun x => [.sl 1 x .sh]) (fun x => okL x) (fun x => decT11 e lk x)
def sp87 (lk : Bool) : List (FuncId × SumT) := [(63, S62l lk), (92, S91), (143, S142)]
end Go.Proofs.Ytdcijmigoefnjaa

/- Chapter 11: a match out of bytes: the reference. -/
set_option linter.unusedVariables false
set_option maxRecDepth 100000
namespace Go.Proofs.Ytdcijmigoefnjaa
open Go Go.Ev

abbrev D87 := (Bool × List AV) × Int × List AV × Int × Int
def ac87 (a : Bool × List AV) : AV := bif a.1 then .sl 6 [] .full else .sl 6 a.2 (.own [77, 1])
def st87 (x : D87) : AS := stA 101 [(0, .sl 1 x.2.2.1 .sh), (4, .ptr 4 0), (5, .int .i64 x.2.2.2.1), (6, .int .i64 x.2.2.2.2), (7, ac87 x.1), (8, .int .i64 x.2.1)] [(4, noF)]
def pr87 (s : AS) : D87 := ((isFull (s.at 7), (s.at 7).elems), (s.at 8).asInt, (s.at 0).elems, (s.at 5).asInt, (s.at 6).asInt)
/-- the bytes still to be read -/
def ys87 (x : D87) : List AV := List.take (x.2.2.2.1.toNat - x.2.1.toNat) (List.drop x.2.1.toNat x.2.2.1)
def out87 (a : Bool × List AV) (xs : List AV) (n t c : Int) : Ex × AS := (.ret, stA 101 [(0, .sl 1 xs .sh), (2, .sl 0 [] .nil), (3, .int .i64 0), (4, .ptr 4 0), (5, .int .i64 n), (6, .int .i64 t), (7, ac87 a)] [(4, baF c)])
def fin87 (a : Bool × List AV) (xs : List AV) (n t : Int) : Ex × AS := (.exit 1, stA 101 [(0, .sl 1 xs .sh), (4, .ptr 4 0), (5, .int .i64 n), (6, .int .i64 t), (7, ac87 a)] [(4, noF)])
def ac3 (lk : Bool) (x : D87) : List AV := lockL lk (x.1.2 ++ decL (ys87 x))
def fl3 (x : D87) : Bool := x.1.1 && (decL (ys87 x)).isEmpty
def tr87 (lk : Bool) (x : D87) : Tree (Ex × AS) :=
  .ite (ieq (decC (ys87 x)) 0) (.ite (fl3 x) (.leaf (fin87 (true, []) x.2.2.1 x.2.2.2.1 x.2.2.2.2)) (.leaf (fin87 (false, ac3 lk x) x.2.2.1 x.2.2.2.1 x.2.2.2.2)))
    (.ite (fl3 x) (.leaf (out87 (true, []) x.2.2.1 x.2.2.2.1 x.2.2.2.2 (decC (ys87 x)))) (.leaf (out87 (false, ac3 lk x) x.2.2.1 x.2.2.2.1 x.2.2.2.2 (decC (ys87 x)))))
def pre87 (x : D87) : Bool := bytB x.2.2.1 && ((ile 0 x.2.1 && (ile x.2.1 x.2.2.2.1 && (ile x.2.2.2.1 1004 && ile x.2.2.2.1 x.2.2.1.length))) && (Nat.ble x.1.2.length x.2.1.toNat && (bif x.1.1 then x.1.2.isEmpty else true)))
noncomputable def lp87 (lk : Bool) : AS → T (Tree (Ex × AS)) := loopS (book.clean 87 13) pr87 st87 (tr87 lk) pre87

abbrev E87 := Int × List AV × Int × (Bool × List AV)
def st87b (x : E87) : AS := stA 101 [(0, .sl 1 x.2.1 .sh), (4, .ptr 4 0), (6, .int .i64 x.2.2.1), (7, ac87 x.2.2.2), (13, .int .i64 x.1)] [(4, noF)]
def pr87b (s : AS) : E87 := ((s.at 13).asInt, (s.at 0).elems, (s.at 6).asInt, (isFull (s.at 7), (s.at 7).elems))
def pd87 (x : E87) : List AV := List.take (x.2.2.1.toNat - x.1.toNat) (List.drop x.1.toNat x.2.1)
def out87b (a : Bool × List AV) (t : Int) : Ex × AS := (.ret, stA 101 [(2, .sl 0 [] .nil), (3, .int .i64 0), (4, .ptr 4 0), (6, .int .i64 t), (7, ac87 a)] [(4, baF 1)])
def fin87b (a : Bool × List AV) (t : Int) : Ex × AS := (.exit 3, stA 101 [(4, .ptr 4 0), (6, .int .i64 t), (7, ac87 a)] [(4, noF)])
def tr87b (x : E87) : Tree (Ex × AS) := .ite (nzB (pd87 x)) (.leaf (out87b x.2.2.2 x.2.2.1)) (.leaf (fin87b x.2.2.2 x.2.2.1))
def pre87b (x : E87) : Bool := okL x.2.1 && (ile 0 x.1 && (ile x.1 x.2.2.1 && (ile x.2.2.1 x.2.1.length && (bif x.2.2.2.1 then x.2.2.2.2.isEmpty else true))))
noncomputable def lp87b : AS → T (Tree (Ex × AS)) := loopS (book.clean 87 23) pr87b st87b tr87b pre87b
def sp19 (lk : Bool) : List (FuncId × SumT) := [(86, S86 (.sl 0 [] .nil) lk), (87, S86 (.sl 6 [] .full) lk), (88, S93), (81, sumOf (g0 (.bool true)))]
end Go.Proofs.Ytdcijmigoefnjaa

/- Chapter 11: a match out of bytes: the law's walk (printed by program; long names). -/
set_option linter.unusedVariables false
set_option maxRecDepth 100000
set_option maxHeartbeats 0
namespace Go.Proofs.Ytdcijmigoefnjaa
open Go Go.Ev

def p19_c0 (lk : Bool) (xs : List AV) : Bool := bif ieq (padI (nv xs 2 2)) (padI (nv xs 2 2)) then true else false
def p19_c1 (lk : Bool) (xs : List AV) : Bool := okX (AV.sl 6 (lockL lk (decL (bdL xs))) St.sh).elems && okX (AV.sl 6 (lockL lk (decL (bdL xs))) St.sh).elems
def p19_c2 (lk : Bool) (xs : List AV) : Bool := eqO (AV.sl 6 (lockL lk (decL (bdL xs))) St.sh).elems (AV.sl 6 (lockL lk (decL (bdL xs))) St.sh).elems
def p19_c3 (lk : Bool) (xs : List AV) : Bool := bif (p19_c2 lk xs) then ieq (padI (nv xs 2 2)) (padI (nv xs 2 2)) else false
def p19_c4 (lk : Bool) (xs : List AV) : Bool := bif (p19_c3 lk xs) then true else false
theorem p19 (lk : Bool) (xs : List AV) (r : AV × List (List AV)) (k0 : (ilt 2000 (↑xs.length : Int)) = true → ((AV.bool true, [])) = r) (k1 : (ilt 2000 (↑xs.length : Int)) = false → (okL xs) = true) (k2 : (ilt 2000 (↑xs.length : Int)) = false → (okD xs) = true → ((decL (bdL xs)).isEmpty) = true → (ieq (padI (nv xs 2 2)) (padI (nv xs 2 2))) = true → ((AV.bool (bif bif ieq (padI (nv xs 2 2)) (padI (nv xs 2 2)) then true else false then true else false), [])) = r) (k3 : (ilt 2000 (↑xs.length : Int)) = false → (okD xs) = true → ((decL (bdL xs)).isEmpty) = true → (ieq (padI (nv xs 2 2)) (padI (nv xs 2 2))) = false → ((AV.bool false, [])) = r) (k4 : (ilt 2000 (↑xs.length : Int)) = false → (okD xs) = true → ((decL (bdL xs)).isEmpty) = false → (okX (AV.sl 6 (lockL lk (decL (bdL xs))) St.sh).elems && okX (AV.sl 6 (lockL lk (decL (bdL xs))) St.sh).elems) = true) (k5 : (ilt 2000 (↑xs.length : Int)) = false → (okD xs) = true → ((decL (bdL xs)).isEmpty) = false → (eqO (AV.sl 6 (lockL lk (decL (bdL xs))) St.sh).elems (AV.sl 6 (lockL lk (decL (bdL xs))) St.sh).elems) = true → (ieq (padI (nv xs 2 2)) (padI (nv xs 2 2))) = true → ((AV.bool (bif bif bif eqO (AV.sl 6 (lockL lk (decL (bdL xs))) St.sh).elems (AV.sl 6 (lockL lk (decL (bdL xs))) St.sh).elems then ieq (padI (nv xs 2 2)) (padI (nv xs 2 2)) else false then true else false then true else false), [])) = r) (k6 : (ilt 2000 (↑xs.length : Int)) = false → (okD xs) = true → ((decL (bdL xs)).isEmpty) = false → (eqO (AV.sl 6 (lockL lk (decL (bdL xs))) St.sh).elems (AV.sl 6 (lockL lk (decL (bdL xs))) St.sh).elems) = true → (ieq (padI (nv xs 2 2)) (padI (nv xs 2 2))) = false → ((AV.bool false, [])) = r) (k7 : (ilt 2000 (↑xs.length : Int)) = false → (okD xs) = true → ((decL (bdL xs)).isEmpty) = false → (eqO (AV.sl 6 (lockL lk (decL (bdL xs))) St.sh).elems (AV.sl 6 (lockL lk (decL (bdL xs))) St.sh).elems) = false → ((AV.bool false, [])) = r) (k8 : (ilt 2000 (↑xs.length : Int)) = false → (okD xs) = false → (true && (true && (ieq (cdD xs) (cdD xs) && true))) = true → ((AV.bool (bif true && (true && (ieq (cdD xs) (cdD xs) && true)) then true else false), [])) = r) (k9 : (ilt 2000 (↑xs.length : Int)) = false → (okD xs) = false → (true && (true && (ieq (cdD xs) (cdD xs) && true))) = false → ((AV.bool false, [])) = r) : Goes (runP (book.envP 19 (sp19 lk) 100 noLoops) Try.f19 [.sl 1 xs .sh] [] (.s .z (.s (.s (.t (.t (.t (.t (.t (.s (.t (.t (.t .z))) (.f (.f (.f (.f (.f .z))))))))))) (.t (.f (.s (.t (.t (.s (.t (.t (.t .z))) (.f (.f (.f (.f (.f .z)))))))) (.f (.f (.f (.f (.f (.f (.f (.f (.f .z))))))))))))) (.f (.t (.t (.t (.t (.t (.t (.s .z (.f .z)))))))))))) r :=
  Goes.of_eq (t' := Bool.rec (motive := fun _ => TR) (.must (Same ([AV.sl 1 xs St.sh])) (Bool.rec (motive := fun _ => TR) .no (Bool.rec (motive := fun _ => TR) (.must (Same ([AV.sl 1 xs St.sh])) (Bool.rec (motive := fun _ => TR) .no (Bool.rec (motive := fun _ => TR) .no (.must (Same ([AV.sl 6 [] St.sh, AV.sl 6 [] St.sh])) (Bool.rec (motive := fun _ => TR) (Bool.rec (motive := fun _ => TR) .no (.ret ((AV.bool false, []))) (asTold (true && (true && (ieq (cdD xs) (cdD xs) && true))) false)) (.ret ((AV.bool (bif true && (true && (ieq (cdD xs) (cdD xs) && true)) then true else false), []))) (true && (true && (ieq (cdD xs) (cdD xs) && true))))) (asTold (okD xs) false)) (okL xs))) (Bool.rec (motive := fun _ => TR) (.must (Same ([AV.sl 1 xs St.sh])) (Bool.rec (motive := fun _ => TR) .no (Bool.rec (motive := fun _ => TR) .no (Bool.rec (motive := fun _ => TR) .no (.must (Same ([AV.sl 6 (AV.sl 6 (lockL lk (decL (bdL xs))) St.sh).elems St.sh, AV.sl 6 (AV.sl 6 (lockL lk (decL (bdL xs))) St.sh).elems St.sh])) (Bool.rec (motive := fun _ => TR) .no (Bool.rec (motive := fun _ => TR) (Bool.rec (motive := fun _ => TR) .no (Bool.rec (motive := fun _ => TR) .no (Bool.rec (motive := fun _ => TR) .no (.ret ((AV.bool false, []))) (asTold ((p19_c2 lk xs)) false)) (asTold ((p19_c2 lk xs)) false)) (asTold ((p19_c2 lk xs)) false)) (Bool.rec (motive := fun _ => TR) .no (Bool.rec (motive := fun _ => TR) .no (Bool.rec (motive := fun _ => TR) (Bool.rec (motive := fun _ => TR) .no (Bool.rec (motive := fun _ => TR) .no (Bool.rec (motive := fun _ => TR) .no (.ret ((AV.bool false, []))) (asTold ((p19_c3 lk xs)) false)) (asTold ((p19_c3 lk xs)) false)) (asTold ((p19_c3 lk xs)) false)) (Bool.rec (motive := fun _ => TR) .no (Bool.rec (motive := fun _ => TR) .no (Bool.rec (motive := fun _ => TR) .no (.ret ((AV.bool (bif bif bif eqO (AV.sl 6 (lockL lk (decL (bdL xs))) St.sh).elems (AV.sl 6 (lockL lk (decL (bdL xs))) St.sh).elems then ieq (padI (nv xs 2 2)) (padI (nv xs 2 2)) else false then true else false then true else false), []))) (asTold ((p19_c4 lk xs)) true)) (asTold ((p19_c3 lk xs)) true)) (asTold ((p19_c3 lk xs)) true)) ((p19_c3 lk xs))) (asTold ((p19_c2 lk xs)) true)) (asTold ((p19_c2 lk xs)) true)) ((p19_c2 lk xs))) ((p19_c1 lk xs)))) (asTold ((decL (bdL xs)).isEmpty) false)) (asTold (okD xs) true)) (okL xs))) (.must (Same ([AV.sl 1 xs St.sh])) (Bool.rec (motive := fun _ => TR) .no (Bool.rec (motive := fun _ => TR) .no (Bool.rec (motive := fun _ => TR) .no (.must (Same ([AV.sl 6 [] St.sh, AV.sl 6 [] St.sh])) (Bool.rec (motive := fun _ => TR) (Bool.rec (motive := fun _ => TR) .no (Bool.rec (motive := fun _ => TR) .no (Bool.rec (motive := fun _ => TR) .no (.ret ((AV.bool false, []))) (asTold (ieq (padI (nv xs 2 2)) (padI (nv xs 2 2))) false)) (asTold (ieq (padI (nv xs 2 2)) (padI (nv xs 2 2))) false)) (asTold (ieq (padI (nv xs 2 2)) (padI (nv xs 2 2))) false)) (Bool.rec (motive := fun _ => TR) .no (Bool.rec (motive := fun _ => TR) .no (Bool.rec (motive := fun _ => TR) .no (.ret ((AV.bool (bif bif ieq (padI (nv xs 2 2)) (padI (nv xs 2 2)) then true else false then true else false), []))) (asTold ((p19_c0 lk xs)) true)) (asTold (ieq (padI (nv xs 2 2)) (padI (nv xs 2 2))) true)) (asTold (ieq (padI (nv xs 2 2)) (padI (nv xs 2 2))) true)) (ieq (padI (nv xs 2 2)) (padI (nv xs 2 2))))) (asTold ((decL (bdL xs)).isEmpty) true)) (asTold (okD xs) true)) (okL xs))) ((decL (bdL xs)).isEmpty)) (okD xs)) (okL xs))) (.ret ((AV.bool true, []))) (ilt 2000 (↑xs.length : Int))) (by kernel_rfl) (.ite (fun h0_0 => Goes.leafE (k0 h0_0)) (fun h0_0 => .must (same_ok _) (.step (k1 h0_0) (.ite (fun h2_2 => .ite (fun h2_3 => .must (same_ok _) (.step (k1 h0_0) (.step (told h2_2) (.step (told h2_3) (.must (same_ok _) (.ite (fun h2_4 => .step (told h2_4) (.step (told h2_4) (.step (told (condT h2_4 rfl)) (Goes.leafE (k2 h0_0 h2_2 h2_3 h2_4))))) (fun h2_4 => .step (told h2_4) (.step (told h2_4) (.step (told h2_4) (Goes.leafE (k3 h0_0 h2_2 h2_3 h2_4))))))))))) (fun h2_3 => .must (same_ok _) (.step (k1 h0_0) (.step (told h2_2) (.step (told h2_3) (.must (same_ok _) (.step (k4 h0_0 h2_2 h2_3) (.ite (fun h5_5 => .step (told h5_5) (.step (told h5_5) (.ite (fun h5_6 => .step (told h5_6) (.step (told h5_6) (.step (told (condT h5_6 rfl)) (Goes.leafE (k5 h0_0 h2_2 h2_3 h5_5 (condT' h5_5 h5_6)))))) (fun h5_6 => .step (told h5_6) (.step (told h5_6) (.step (told h5_6) (Goes.leafE (k6 h0_0 h2_2 h2_3 h5_5 (condT' h5_5 h5_6))))))))) (fun h5_5 => .step (told h5_5) (.step (told h5_5) (.step (told h5_5) (Goes.leafE (k7 h0_0 h2_2 h2_3 h5_5))))))))))))) (fun h2_2 => .must (same_ok _) (.step (k1 h0_0) (.step (told h2_2) (.must (same_ok _) (.ite (fun h8_3 => Goes.leafE (k8 h0_0 h2_2 h8_3)) (fun h8_3 => .step (told h8_3) (Goes.leafE (k9 h0_0 h2_2 h8_3))))))))))))

end Go.Proofs.Ytdcijmigoefnjaa
