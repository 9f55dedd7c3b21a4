/- Chapter 11: the same, and the cube of a match, as functions. -/
import Derived.Test.YtdcijmigoefnjaaD11
set_option linter.unusedVariables false
set_option maxRecDepth 100000
namespace Go.Proofs.Ytdcijmigoefnjaa
open Go Go.Ev

/-- the same parts -/
def eqO : List AV → List AV → Bool
  | [], [] => true
  | x :: xs, y :: ys => sameO (ox x) (ox y) && eqO xs ys
  | _, _ => false
abbrev X145 := List AV × List AV
def st145 (x : Int × X145) : AS := stA 32 [(1, .sl 6 x.2.2 .sh), (2, .fn 78 []), (15, .sl 6 x.2.1 .sh), (16, .int .i64 x.2.1.length), (17, .int .i64 x.1)] []
def pr145 (s : AS) : Int × X145 := ((s.at 17).asInt, (s.at 15).elems, (s.at 1).elems)
def L145 : FL X145 := ⟨fun r => r.1.length, fun r j => !sameO (ox (r.1.getD j .unk)) (ox (r.2.getD j .unk)), fun r j => !eqO (r.1.drop j) (r.2.drop j), fun _ _ => 0, fun _ _ => (.ret, stA 32 [(6, .bool false)] []), fun _ => (.exit 0, stA 32 [] []), fun r => okX r.1 && (okX r.2 && Nat.beq r.1.length r.2.length)⟩
noncomputable def lp145 : AS → T (Tree (Ex × AS)) := loopS (book.clean 145 4) pr145 st145 L145.tr L145.pre
def sp145 : List (FuncId × SumT) := [(78, S78), (79, S78)]
def S145 : SumT := sumW (σ := X145) [6, 6] (fun a => ((arg a 0).elems, (arg a 1).elems)) (fun x => [.sl 6 x.1 .sh, .sl 6 x.2 .sh, .fn 78 []]) (fun x => okX x.1 && okX x.2) (fun x => .leaf (.bool (eqO x.1 x.2)))
def sp93 : List (FuncId × SumT) := [(145, S145)]
def S93 : SumT := sumW (σ := X145) [6, 6] (fun a => ((arg a 0).elems, (arg a 1).elems)) (fun x => [.sl 6 x.1 .sh, .sl 6 x.2 .sh]) (fun x => okX x.1 && okX x.2) (fun x => .leaf (.bool (eqO x.1 x.2)))
def st88 (x : Int × X145) : AS := stA 27 [(0, .sl 6 x.2.1 .sh), (1, .sl 6 x.2.2 .sh), (5, .int .i64 x.1)] []
def pr88 (s : AS) : Int × X145 := ((s.at 5).asInt, (s.at 0).elems, (s.at 1).elems)
def L88 : FL X145 := ⟨fun r => r.1.length, fun r j => !sameO (ox (r.1.getD j .unk)) (ox (r.2.getD j .unk)), fun r j => !eqO (r.1.drop j) (r.2.drop j), fun _ _ => 0, fun _ _ => (.ret, stA 27 [(4, .bool false)] []), fun _ => (.exit 0, stA 27 [] []), fun r => okX r.1 && (okX r.2 && Nat.beq r.1.length r.2.length)⟩
noncomputable def lp88 : AS → T (Tree (Ex × AS)) := loopS (book.clean 88 4) pr88 st88 L88.tr L88.pre

/-! ### cubes -/
def ternL (t : (Int × Int) × (Int × Int)) : List AV := [.int .u64 t.1.1, .int .u64 t.1.2, .int .u64 t.2.1, .int .u64 t.2.2]
def zero96 : List AV := List.replicate 96 (.int .u64 0)
/-- a part in a cube -/
def cubS (cs : List AV) (o : XO) : List AV := bif isF o.1 then setAt cs (o.1.toNat * 4) (ternL (ternO o)) else cs
def cubL : List AV → List AV → List AV
  | [], cs => cs
  | x :: xs, cs => cubL xs (cubS cs (ox x))
def st82 (x : Int × List AV × List AV) : AS := stA 23 [(2, .ptr 2 0), (3, .ptr 3 0), (7, .sl 6 x.2.2 .sh), (8, .int .i64 x.2.2.length), (9, .int .i64 x.1)] [(2, zero96), (3, x.2.1)]
def pr82 (s : AS) : Int × List AV × List AV := ((s.at 9).asInt, (Ev.look s.mem 3).getD [], (s.at 7).elems)
def L82 : GL (List AV) (List AV) := ⟨fun r => r.length, fun _ _ _ => false, fun r j cs => cubS cs (ox (r.getD j .unk)), fun _ _ _ => false, fun _ _ _ => 0, fun r j cs => cubL (r.drop j) cs, fun _ _ _ => (.exit 0, stA 23 [] []),
  fun _ cs => (.exit 0, stA 23 [(2, .ptr 2 0), (3, .ptr 3 0)] [(2, zero96), (3, cs)]), okX, fun _ cs => isCub cs⟩
noncomputable def lp82 : AS → T (Tree (Ex × AS)) := loopS (book.clean 82 3) pr82 st82 L82.tr0 L82.pre
def sp82 : List (FuncId × SumT) := [(31, sumOf G31), (53, sumOf G31), (66, S66), (77, S66), (135, sumOf (g0 (.agg zero96)))]
def st83 (x : Int × List AV × List AV) : AS := stA 30 [(0, .sl 6 x.2.2 .sh), (2, .ptr 2 0), (3, .ptr 3 0), (4, .int .i64 x.1)] [(2, zero96), (3, x.2.1)]
def pr83 (s : AS) : Int × List AV × List AV := ((s.at 4).asInt, (Ev.look s.mem 3).getD [], (s.at 0).elems)
def L83 : GL (List AV) (List AV) := ⟨fun r => r.length, fun _ _ _ => false, fun r j cs => cubS cs (ox (r.getD j .unk)), fun _ _ _ => false, fun _ _ _ => 0, fun r j cs => cubL (r.drop j) cs, fun _ _ _ => (.exit 0, stA 30 [] []),
  fun _ cs => (.exit 0, stA 30 [(2, .ptr 2 0), (3, .ptr 3 0)] [(2, zero96), (3, cs)]), okX, fun _ cs => isCub cs⟩
noncomputable def lp83 : AS → T (Tree (Ex × AS)) := loopS (book.clean 83 3) pr83 st83 L83.tr0 L83.pre
/-- a match's cube, behind a door -/
def cub11 (lk : Bool) (xs : List AV) : List AV := lockL lk (cubL xs zero96)
def S82 (lk : Bool) : SumT := sumW (σ := List AV) [6] (fun a => (arg a 0).elems) (fun x => [.sl 6 x .sh]) (fun x => okX x) (fun x => .leaf (.agg (cub11 lk x)))
def sp18 (lk : Bool) : List (FuncId × SumT) := [(82, S82 lk), (83, S82 lk), (84, S84), (85, S84), (81, sumOf (g0 (.bool true)))]
end Go.Proofs.Ytdcijmigoefnjaa
