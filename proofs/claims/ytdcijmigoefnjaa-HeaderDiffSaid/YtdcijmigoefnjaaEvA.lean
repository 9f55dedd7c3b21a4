/- The evaluator: abstract values, tables of types, what operations do. No program is named here. -/
import Derived.WalkKit
import Derived.Laws.AppendOwn
namespace Go.Ev
open Go

abbrev Tag := List Nat

inductive St where
  | nil
  | full
  | sh
  | own (k : Tag)
  deriving DecidableEq, Inhabited

inductive AV where
  | unk
  | int (k : IntKind) (n : Int)
  | bool (b : Bool)
  | str (s : List UInt8)
  | agg (cs : List AV)
  | tup (vs : List AV)
  | ptr (id off : Nat)
  | nilp
  | ro (e : AV)
  | sl (sz : Nat) (xs : List AV) (st : St)
  | view (id off len : Nat)
  | fn (f : FuncId) (cap : List AV)
  | niliface
  | nilfn
  deriving Inhabited

inductive TD where
  | int (k : IntKind)
  | bool
  | str
  | ptr (e : TypeId)
  | slice (e : TypeId)
  | arr (n : Nat) (e : TypeId)
  | struct (fs : List (Nat × TypeId × Bool))
  | other
  deriving Inhabited

structure TI where
  td : TD
  size : Nat
  bytes : Nat
  zero : List AV
  deriving Inhabited

abbrev Tys := TypeId → Option TI

def TD.agg : TD → Bool
  | .struct _ | .arr _ _ => true
  | _ => false

def AV.cells : AV → List AV
  | .agg cs => cs
  | v => [v]

def AV.isAgg : AV → Bool
  | .agg _ => true
  | _ => false

def AV.isTup : AV → Bool
  | .tup _ => true
  | _ => false

def AV.known : AV → Bool
  | .unk => false
  | _ => true

def AV.share : AV → AV
  | .sl sz xs (.own _) => .sl sz xs .sh
  | v => v

def AV.retag (k : Tag) : AV → AV
  | .sl sz xs (.own k') => if k' = k then .sl sz xs .sh else .sl sz xs (.own k')
  | v => v

/-- without what is a frame's own: pointers to its memory, tails that it may grow -/
def AV.flat : AV → AV
  | .sl sz xs (.own _) => .sl sz xs .sh
  | .ptr _ _ => .unk
  | .view _ _ _ => .unk
  | .fn f [] => .fn f []
  | .fn _ _ => .unk
  | v => v

def ofVal : Value → AV
  | .int k n => .int k n
  | .bool b => .bool b
  | .string s => .str s.data.toList
  | .slice none 0 0 => .sl 0 [] .nil
  | .pointer none => .nilp
  | .nilFunc => .nilfn
  | .nilIface => .niliface
  | _ => .unk

abbrev Mem := List (Nat × List AV)

def look (m : Mem) (i : Nat) : Option (List AV) :=
  match m with
  | [] => none
  | (j, cs) :: r => if j = i then some cs else look r i

def upd (m : Mem) (i : Nat) (cs : List AV) : Mem :=
  match m with
  | [] => []
  | (j, c) :: r => if j = i then (j, cs) :: r else (j, c) :: upd r i cs

structure AS where
  tmps : List AV
  mem : Mem
  deriving Inhabited

def opv (ts : List AV) : Operand → AV
  | .tmp t => ts.getD t .unk
  | .const v => ofVal v
  | .global _ => .unk
  | .func f => .fn f []

def AS.put (s : AS) (dst : Option Nat) (v : AV) : AS :=
  match dst with
  | some d => { s with tmps := s.tmps.set d v }
  | none => s

def setAt (cs : List AV) (o : Nat) : List AV → List AV
  | [] => cs
  | n :: ns => setAt (cs.set o n) (o + 1) ns

/-- a part of cells as a value of a type -/
def partA (ti : TI) (cs : List AV) (off : Nat) : Option AV :=
  if ti.td.agg then some (.agg ((cs.drop off).take ti.size)) else cs[off]?

/-- does a value have a type's shape -/
def fits (ti : TI) : AV → Bool
  | .unk => false
  | .tup _ => false
  | .agg cs => ti.td.agg && cs.length == ti.size
  | _ => !ti.td.agg && ti.size == 1

def iadd (k : IntKind) (a b : Int) : Int := k.wrap (a + b)
def isub (k : IntKind) (a b : Int) : Int := k.wrap (a - b)
def imul (k : IntKind) (a b : Int) : Int := k.wrap (a * b)
def iquo (k : IntKind) (a b : Int) : Int := k.wrap (a.tdiv b)
def irem (a b : Int) : Int := a.tmod b
def ibits0 (op : BinOp) (k : IntKind) (a b : Int) : Int :=
  match op with
  | .and => k.wrap (BitVec.ofInt k.bits a &&& BitVec.ofInt k.bits b).toNat
  | .or => k.wrap (BitVec.ofInt k.bits a ||| BitVec.ofInt k.bits b).toNat
  | .xor => k.wrap (BitVec.ofInt k.bits a ^^^ BitVec.ofInt k.bits b).toNat
  | _ => k.wrap (BitVec.ofInt k.bits a &&& ~~~ (BitVec.ofInt k.bits b)).toNat
/-- bit by bit; what is not known is not looked into -/
def ibits (op : BinOp) (k : IntKind) (a b : Int) : Int :=
  match a, b with
  | .ofNat m, .ofNat n => ibits0 op k (.ofNat m) (.ofNat n)
  | .ofNat m, .negSucc n => ibits0 op k (.ofNat m) (.negSucc n)
  | .negSucc m, .ofNat n => ibits0 op k (.negSucc m) (.ofNat n)
  | .negSucc m, .negSucc n => ibits0 op k (.negSucc m) (.negSucc n)
theorem ibits_eq (op : BinOp) (k : IntKind) (a b : Int) : ibits op k a b = ibits0 op k a b := by
  cases a <;> cases b <;> rfl
def ishl (k : IntKind) (a b : Int) : Int := k.wrap (a * 2 ^ (min b.toNat k.bits))
def ishr (k : IntKind) (a b : Int) : Int := a.fdiv (2 ^ (min b.toNat k.bits))
def ieq (a b : Int) : Bool := a == b
def ilt (a b : Int) : Bool := decide (a < b)
def ile (a b : Int) : Bool := decide (a ≤ b)

def intOp (op : BinOp) (k : IntKind) (a b : Int) : Option AV :=
  match op with
  | .add => some (.int k (iadd k a b))
  | .sub => some (.int k (isub k a b))
  | .mul => some (.int k (imul k a b))
  | .quo => bif ieq b 0 then none else some (.int k (iquo k a b))
  | .rem => bif ieq b 0 then none else some (.int k (irem a b))
  | .and => some (.int k (ibits .and k a b))
  | .or => some (.int k (ibits .or k a b))
  | .xor => some (.int k (ibits .xor k a b))
  | .andNot => some (.int k (ibits .andNot k a b))
  | .eql => some (.bool (ieq a b))
  | .neq => some (.bool (!ieq a b))
  | .lss => some (.bool (ilt a b))
  | .leq => some (.bool (ile a b))
  | .gtr => some (.bool (ilt b a))
  | .geq => some (.bool (ile b a))
  | _ => none

def strOp (op : BinOp) (a b : List UInt8) : Option AV :=
  match op with
  | .add => bif ile ((a.length + b.length : Nat) : Int) 9223372036854775807 then some (.str (a ++ b)) else none
  | .eql => some (.bool (a == b))
  | .neq => some (.bool (!(a == b)))
  | _ => none

/-- equality by type -/
def eqT (ty : Tys) : Nat → TypeId → AV → AV → Option Bool
  | 0, _, _, _ => none
  | d + 1, t, x, y =>
    match ty t with
    | none => none
    | some ti =>
      match ti.td, x, y with
      | .bool, .bool a, .bool b => some (a == b)
      | .int _, .int k a, .int k' b => if k = k' then some (ieq a b) else none
      | .str, .str a, .str b => some (a == b)
      | .struct fs, .agg xs, .agg ys => go (eqT ty d) xs ys fs
      | .arr n e, .agg xs, .agg ys =>
        match ty e with
        | none => none
        | some ei => goA (eqT ty d) e ei xs ys n 0
      | .slice _, .sl _ _ .nil, .sl _ _ .nil => some true
      | _, _, _ => none
where
  go (rec : TypeId → AV → AV → Option Bool) (xs ys : List AV) : List (Nat × TypeId × Bool) → Option Bool
    | [] => some true
    | (off, t, blank) :: fs =>
      if blank then go rec xs ys fs else
      match ty t with
      | none => none
      | some ti =>
        match partA ti xs off, partA ti ys off with
        | some a, some b =>
          match rec t a b with
          | some r => (go rec xs ys fs).map fun q => r && q
          | none => none
        | _, _ => none
  goA (rec : TypeId → AV → AV → Option Bool) (e : TypeId) (ei : TI) (xs ys : List AV) : Nat → Nat → Option Bool
    | 0, _ => some true
    | n + 1, i =>
      match partA ei xs (i * ei.size), partA ei ys (i * ei.size) with
      | some a, some b =>
        match rec e a b with
        | some r => (goA rec e ei xs ys n (i + 1)).map fun q => r && q
        | none => none
      | _, _ => none

def binA (ty : Tys) (op : BinOp) (t : TypeId) (x y : AV) : Option AV :=
  match op, x, y with
  | .shl, .int k a, .int _ b => bif ile 0 b then some (.int k (ishl k a b)) else none
  | .shr, .int k a, .int _ b => bif ile 0 b then some (.int k (ishr k a b)) else none
  | op, .int k a, .int k' b => if k = k' then intOp op k a b else none
  | op, .str a, .str b => strOp op a b
  | .eql, x, y => (eqT ty 50 t x.flat y.flat).map .bool
  | .neq, x, y => (eqT ty 50 t x.flat y.flat).map fun b => .bool (!b)
  | _, _, _ => none

def unA (op : UnOp) (x : AV) : Option AV :=
  match op, x with
  | .neg, .int k n => some (.int k (isub k 0 n))
  | .not, .bool b => some (.bool (!b))
  | _, _ => none

/-- an element of a list at an index that is an int -/
def idx (xs : List AV) (i : Int) : Option AV := if 0 ≤ i then xs[i.toNat]? else none

def inR (i : Int) (n : Nat) : Bool := decide (0 ≤ i ∧ i < n)

/-- parts put into cells -/
def fillA (place : Nat → Option (Nat × Nat)) (cells : List AV) : List (Nat × AV) → Option (List AV)
  | [] => some cells
  | (i, v) :: rest =>
    match place i with
    | none => none
    | some (off, size) =>
      if v.known && !v.isTup && v.cells.length == size && Nat.ble (off + size) cells.length then fillA place (setAt cells off v.cells) rest else none

def zeros (ti : TI) (n : Nat) : List AV :=
  (List.range (n * ti.zero.length)).map fun i => ti.zero.getD (i % ti.zero.length) .unk

/-- cells cut into rows of values -/
def rows (agg : Bool) (size : Nat) (cs : List AV) : Nat → List AV
  | 0 => []
  | n + 1 => (if agg then .agg (cs.take size) else cs.headD .unk) :: rows agg size (cs.drop size) n

end Go.Ev
