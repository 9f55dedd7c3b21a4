/- Chapter 03: what fields are, as functions. -/
import Derived.Test.YtdcijmigoefnjaaBk2
set_option linter.unusedVariables false
set_option maxRecDepth 100000
namespace Go.Proofs.Ytdcijmigoefnjaa
open Go Go.Ev

/-- a field: its name, its number, its bits, whether it may be masked -/
abbrev FRow := List UInt8 × Int × Int × Bool

def rowTab : List FRow :=
  [([105, 110, 95, 112, 111, 114, 116], 0, 32, false), ([109, 101, 116, 97, 100, 97, 116, 97], 2, 64, true), ([101, 116, 104, 95, 100, 115, 116], 3, 48, true),
   ([101, 116, 104, 95, 115, 114, 99], 4, 48, true), ([101, 116, 104, 95, 116, 121, 112, 101], 5, 16, false), ([118, 108, 97, 110, 95, 118, 105, 100], 6, 13, true),
   ([118, 108, 97, 110, 95, 112, 99, 112], 7, 3, false), ([105, 112, 95, 100, 115, 99, 112], 8, 6, false), ([105, 112, 95, 101, 99, 110], 9, 2, false),
   ([105, 112, 95, 112, 114, 111, 116, 111], 10, 8, false), ([105, 112, 118, 52, 95, 115, 114, 99], 11, 32, true), ([105, 112, 118, 52, 95, 100, 115, 116], 12, 32, true),
   ([116, 99, 112, 95, 115, 114, 99], 13, 16, false), ([116, 99, 112, 95, 100, 115, 116], 14, 16, false), ([117, 100, 112, 95, 115, 114, 99], 15, 16, false),
   ([117, 100, 112, 95, 100, 115, 116], 16, 16, false), ([105, 99, 109, 112, 118, 52, 95, 116, 121, 112, 101], 19, 8, false), ([105, 99, 109, 112, 118, 52, 95, 99, 111, 100, 101], 20, 8, false),
   ([97, 114, 112, 95, 111, 112], 21, 16, false), ([97, 114, 112, 95, 115, 112, 97], 22, 32, true), ([97, 114, 112, 95, 116, 112, 97], 23, 32, true),
   ([105, 112, 118, 54, 95, 115, 114, 99], 26, 128, true), ([105, 112, 118, 54, 95, 100, 115, 116], 27, 128, true), ([109, 112, 108, 115, 95, 108, 97, 98, 101, 108], 34, 20, false)]

def noRow : FRow := ([], -1, 0, false)

def rowOf (f : Int) : FRow := bif ile 0 f && ilt f 24 then rowTab.getD f.toNat noRow else noRow

def rowAV (r : FRow) : List AV := [.str r.1, .int .i64 r.2.1, .int .i64 r.2.2.1, .bool r.2.2.2]

def rowsA : AV := .agg (rowTab.flatMap rowAV)
/-- is there such a field -/
def isF (n : Int) : Bool := bif ile 0 n then ilt n 24 else false
def idOf (n : Int) : Int := (rowOf n).2.1
def nmOf (n : Int) : List UInt8 := (rowOf n).1
def bitsOf (n : Int) : Int := (rowOf n).2.2.1
def sizeOf (n : Int) : Int := ishr .i64 (iadd .i64 (bitsOf n) 7) 3
def masksOf (n : Int) : Bool := (rowOf n).2.2.2
def ixOf (n : Int) : Int × Bool :=
  bif ieq 0 n then (0, true) else
  bif ieq 2 n then (1, true) else
  bif ieq 3 n then (2, true) else
  bif ieq 4 n then (3, true) else
  bif ieq 5 n then (4, true) else
  bif ieq 6 n then (5, true) else
  bif ieq 7 n then (6, true) else
  bif ieq 8 n then (7, true) else
  bif ieq 9 n then (8, true) else
  bif ieq 10 n then (9, true) else
  bif ieq 11 n then (10, true) else
  bif ieq 12 n then (11, true) else
  bif ieq 13 n then (12, true) else
  bif ieq 14 n then (13, true) else
  bif ieq 15 n then (14, true) else
  bif ieq 16 n then (15, true) else
  bif ieq 19 n then (16, true) else
  bif ieq 20 n then (17, true) else
  bif ieq 21 n then (18, true) else
  bif ieq 22 n then (19, true) else
  bif ieq 23 n then (20, true) else
  bif ieq 26 n then (21, true) else
  bif ieq 27 n then (22, true) else
  bif ieq 34 n then (23, true) else
  (0, false)

/-- rows above the first twelve -/
def upOf (n : Int) : FRow := bif ile 12 n then rowOf n else noRow
def tupR (r : FRow) : AV := .tup (rowAV r)

/-- what a field needs: fields, and their values -/
def needTab : List (List (Int × List Int)) :=
  [[], [], [], [], [], [], [(5, [])], [(4, [2048, 34525])], [(4, [2048, 34525])], [(4, [2048, 34525])], [(4, [2048])], [(4, [2048])],
   [(4, [2048, 34525]), (9, [6])], [(4, [2048, 34525]), (9, [6])], [(4, [2048, 34525]), (9, [17])], [(4, [2048, 34525]), (9, [17])], [(4, [2048]), (9, [1])], [(4, [2048]), (9, [1])],
   [(4, [2054])], [(4, [2054])], [(4, [2054])], [(4, [34525])], [(4, [34525])], [(4, [34887, 34888])]]
def needOf (n : Int) : List (Int × List Int) := bif isF n then needTab.getD n.toNat [] else []
def wideA (v : Int) : AV := .agg [.int .u64 0, .int .u64 v]
def needCell (p : Int × List Int) (st : St) : AV := .agg [.int .i64 p.1, match p.2 with | [] => .sl 0 [] .nil | l => .sl 2 (l.map wideA) st]
def needP (l : List (Int × List Int)) : AV := match l with | [] => .sl 0 [] .nil | [p] => .sl 2 [needCell p .sh] .full | l => .sl 2 (l.map fun p => needCell p .sh) (.own [])
def needR (l : List (Int × List Int)) : AV := match l with | [] => .sl 0 [] .nil | l => .sl 2 (l.map fun p => needCell p (bif ieq p.1 9 then .full else .sh)) .full

def G30 := gI .i64 fun n => needP (needOf n)
def G55 := gI .i64 fun n => needR (needOf n)
def G31 := gI .i64 fun n => .bool (isF n)
def G105 := gI .i64 fun n => .agg (rowAV (rowOf n))
def G27 := gI .i64 fun n => .int .i64 (idOf n)
def G28 := gI .i64 fun n => .str (nmOf n)
def G32 := gI .i64 fun n => .int .i64 (bitsOf n)
def G48 := gI .i64 fun n => .int .i64 (sizeOf n)
def G50 := gI .i64 fun n => .bool (masksOf n)
def G26 := gI .i64 fun n => .tup [.int .i64 (ixOf n).1, .bool (ixOf n).2]
def G163 := gI .i64 fun n => tupR (upOf n)
def G111 := gI .i64 fun n => tupR (rowOf n)

def sp105 : List (FuncId × SumT) := [(104, sumOf (g0 rowsA)), (31, sumOf G31)]
def spAt : List (FuncId × SumT) := [(105, sumOf G105)]
def sp104 : List (FuncId × SumT) := [(104, sumOf (g0 rowsA))]
def sp163 : List (FuncId × SumT) := [(163, sumOf G163)]
def sp111 : List (FuncId × SumT) := [(111, sumOf G111)]
def sp47 : List (FuncId × SumT) := [(47, sumOf G32)]
def sp46 : List (FuncId × SumT) := [(46, sumOf G27)]
def sp3 : List (FuncId × SumT) := [(26, sumOf G26), (27, sumOf G27), (28, sumOf G28), (29, sumOf (g0 (.bool true)))]

def spNil : SumT := fun a p => match a, p with | [.int .i64 n], [] => .need (!isF n) (.ret (.leaf (.sl 0 [] .nil, []))) | _, _ => .no
noncomputable def sp7x : List (FuncId × SumT) := [(26, sumOf G26), (45, sumOf G26), (27, sumOf G27), (46, sumOf G27), (32, sumOf G32), (47, sumOf G32), (48, sumOf G48), (49, sumOf G48), (50, sumOf G50), (51, sumOf G50), (28, sumOf G28), (52, sumOf G28),
  (31, sumOf G31), (53, sumOf G31), (30, spNil), (55, spNil), (54, (book.all 100 12 54).T), (29, sumOf (g0 (.bool true)))]
noncomputable def sp7 : List (FuncId × SumT) := [(26, sumOf G26), (45, sumOf G26), (27, sumOf G27), (46, sumOf G27), (32, sumOf G32), (47, sumOf G32), (48, sumOf G48), (49, sumOf G48), (50, sumOf G50), (51, sumOf G50), (28, sumOf G28), (52, sumOf G28),
  (31, sumOf G31), (53, sumOf G31), (30, sumOf G30), (55, sumOf G55), (54, (book.all 100 12 54).T), (29, sumOf (g0 (.bool true)))]
def sp4 : List (FuncId × SumT) := [(30, sumOf G30), (31, sumOf G31), (32, sumOf G32), (29, sumOf (g0 (.bool true)))]

end Go.Proofs.Ytdcijmigoefnjaa
