import Derived.WalkKit
import Derived.Laws.AppendOwn
import Derived.Laws.StructEq
import Derived.Laws.BytesArg
import Derived.Laws.Append
namespace Go.Ev
open Go
abbrev Tag := List Nat
inductive St where
 | nil
 | full
 | sh
 | own (k : Tag)
 | win (k : Tag) (lo : Nat)
 deriving DecidableEq,Inhabited
inductive AV where
 | unk
 | int (k : IntKind) (n : Int)
 | bool (b : Bool)
 | str (s : List UInt8)
 | agg (cs : List AV)
 | tup (vs : List AV)
 | ptr (id off : Nat)
 | nilp
 | ro (e : AV)
 | sl (sz : Nat) (xs : List AV) (st : St)
 | view (id off len : Nat)
 | fn (f : FuncId) (cap : List AV)
 | niliface
 | nilfn
 | wp (k : Tag) (i : Nat) (e : AV)
 deriving Inhabited
inductive TD where
 | int (k : IntKind)
 | bool
 | str
 | ptr (e : TypeId)
 | slice (e : TypeId)
 | arr (n : Nat) (e : TypeId)
 | struct (fs : List (Nat × TypeId × Bool))
 | other
 deriving Inhabited
structure TI where
 td : TD
 size : Nat
 bytes : Nat
 zero : List AV
 deriving Inhabited
abbrev Tys := TypeId → Option TI
def TD.agg : TD → Bool
 | .struct _ | .arr _ _ => true
 | _ => false
def AV.cells : AV → List AV
 | .agg cs => cs
 | v => [v]
def AV.isAgg : AV → Bool
 | .agg _ => true
 | _ => false
def AV.isTup : AV → Bool
 | .tup _ => true
 | _ => false
def AV.known : AV → Bool
 | .unk => false
 | _ => true
def AV.share : AV → AV
 | .sl sz xs (.own _) => .sl sz xs .sh
 | .sl sz xs (.win _ _) => .sl sz xs .sh
 | .wp _ _ e => .ro e
 | v => v
def AV.retag (k : Tag) : AV → AV
 | .sl sz xs (.own k') => if k' = k then .sl sz xs .sh else .sl sz xs (.own k')
 | .sl sz xs (.win k' lo) => if k' = k then .sl sz xs .sh else .sl sz xs (.win k' lo)
 | .wp k' i e => if k' = k then .ro e else .wp k' i e
 | v => v
def AV.flat : AV → AV
 | .sl sz xs (.own _) => .sl sz xs .sh
 | .sl sz xs (.win _ _) => .sl sz xs .sh
 | .wp _ _ e => .ro e
 | .ptr _ _ => .unk
 | .view _ _ _ => .unk
 | .fn f [] => .fn f []
 | .fn _ _ => .unk
 | v => v
def AV.pass : AV → AV
 | .sl sz xs (.own _) => .sl sz xs (.own [])
 | v => v.flat
def AV.reown (k : Tag) : AV → AV
 | .sl sz xs (.own _) => .sl sz xs (.own k)
 | v => v
def AV.backO : AV → AV
 | .sl sz xs (.own k) => match k with | [] => .sl sz xs (.own []) | _ => .sl sz xs (.own [0])
 | v => v.flat
def ownTags : List AV → List Tag
 | [] => []
 | .sl _ _ (.own k) :: r => k :: ownTags r
 | _ :: r => ownTags r
def apT (k : Tag) (d : Nat) : Tag := match k with | [] => [] | _ => [d]
def ofVal : Value → AV
 | .int k n => .int k n
 | .bool b => .bool b
 | .string s => .str s.data.toList
 | .slice none 0 0 => .sl 0 [] .nil
 | .pointer none => .nilp
 | .nilFunc => .nilfn
 | .nilIface => .niliface
 | _ => .unk
abbrev Mem := List (Nat × List AV)
def look (m : Mem) (i : Nat) : Option (List AV) :=
 match m with
 | [] => none
 |(j,cs) :: r => if j = i then some cs else look r i
def upd (m : Mem) (i : Nat) (cs : List AV) : Mem :=
 match m with
 | [] => []
 |(j,c) :: r => if j = i then (j,cs) :: r else (j,c) :: upd r i cs
structure AS where
 tmps : List AV
 mem : Mem
 deriving Inhabited
def opv (ts : List AV) : Operand → AV
 | .tmp t => ts.getD t .unk
 | .const v => ofVal v
 | .global _ => .unk
 | .func f => .fn f []
def AS.put (s : AS) (dst : Option Nat) (v : AV) : AS :=
 match dst with
 | some d => { s with tmps := s.tmps.set d v }
 | none => s
def setAt (cs : List AV) (o : Nat) : List AV → List AV
 | [] => cs
 | n :: ns => setAt (cs.set o n) (o + 1) ns
def AV.scal : AV → Bool
 | .int _ _ => true
 | .bool _ => true
 | .str _ => true
 | .nilp => true
 | .niliface => true
 | .nilfn => true
 | _ => false
def AV.loose (v : AV) : AV := bif v.scal then v else .unk
def AV.loosep : AV → AV
 | .ptr id off => .ptr id off
 | v => v.loose
def AV.wrote (k : Tag) (i : Nat) (vs : List AV) : AV → AV
 | .sl sz xs (.own k') => bif xs.all AV.scal then (if k' = k then .sl sz (setAt xs i vs) (.own k') else .sl sz xs (.own k')) else .unk
 | .sl sz xs .nil => .sl sz xs .nil
 | .sl _ _ _ => .unk
 | .wp k' j _ => .wp k' j .unk
 | .ro _ => .unk
 | .fn f cap => .fn f (cap.map AV.loosep)
 | .agg cs => .agg (cs.map AV.loose)
 | .tup cs => .tup (cs.map AV.loose)
 | v => v
def partA (ti : TI) (cs : List AV) (off : Nat) : Option AV :=
 if ti.td.agg then some (.agg ((cs.drop off).take ti.size)) else cs[off]?
def fits (ti : TI) : AV → Bool
 | .unk => false
 | .tup _ => false
 | .agg cs => ti.td.agg && cs.length == ti.size
 | _ => !ti.td.agg && ti.size == 1
def iadd (k : IntKind) (a b : Int) : Int := k.wrap (a + b)
def isub (k : IntKind) (a b : Int) : Int := k.wrap (a - b)
def imul (k : IntKind) (a b : Int) : Int := k.wrap (a * b)
def iquo (k : IntKind) (a b : Int) : Int := k.wrap (a.tdiv b)
def irem (a b : Int) : Int := a.tmod b
def ibits0 (op : BinOp) (k : IntKind) (a b : Int) : Int :=
 match op with
 | .and => k.wrap (BitVec.ofInt k.bits a &&& BitVec.ofInt k.bits b).toNat
 | .or => k.wrap (BitVec.ofInt k.bits a ||| BitVec.ofInt k.bits b).toNat
 | .xor => k.wrap (BitVec.ofInt k.bits a ^^^ BitVec.ofInt k.bits b).toNat
 | _ => k.wrap (BitVec.ofInt k.bits a &&& ~~~ (BitVec.ofInt k.bits b)).toNat
def ibits (op : BinOp) (k : IntKind) (a b : Int) : Int :=
 match a,b with
 | .ofNat m,.ofNat n => ibits0 op k (.ofNat m) (.ofNat n)
 | .ofNat m,.negSucc n => ibits0 op k (.ofNat m) (.negSucc n)
 | .negSucc m,.ofNat n => ibits0 op k (.negSucc m) (.ofNat n)
 | .negSucc m,.negSucc n => ibits0 op k (.negSucc m) (.negSucc n)
theorem ibits_eq (op : BinOp) (k : IntKind) (a b : Int) : ibits op k a b = ibits0 op k a b := by
 cases a <;> cases b <;> rfl
def ishl (k : IntKind) (a b : Int) : Int := k.wrap (a * 2 ^ (min b.toNat k.bits))
def ishr (k : IntKind) (a b : Int) : Int := a.fdiv (2 ^ (min b.toNat k.bits))
def ieq (a b : Int) : Bool := a == b
def ilt (a b : Int) : Bool := decide (a < b)
def ile (a b : Int) : Bool := decide (a ≤ b)
def intOp (op : BinOp) (k : IntKind) (a b : Int) : Option AV :=
 match op with
 | .add => some (.int k (iadd k a b))
 | .sub => some (.int k (isub k a b))
 | .mul => some (.int k (imul k a b))
 | .quo => bif ieq b 0 then none else some (.int k (iquo k a b))
 | .rem => bif ieq b 0 then none else some (.int k (irem a b))
 | .and => some (.int k (ibits .and k a b))
 | .or => some (.int k (ibits .or k a b))
 | .xor => some (.int k (ibits .xor k a b))
 | .andNot => some (.int k (ibits .andNot k a b))
 | .eql => some (.bool (ieq a b))
 | .neq => some (.bool (!ieq a b))
 | .lss => some (.bool (ilt a b))
 | .leq => some (.bool (ile a b))
 | .gtr => some (.bool (ilt b a))
 | .geq => some (.bool (ile b a))
 | _ => none
def strOp (op : BinOp) (a b : List UInt8) : Option AV :=
 match op with
 | .add => bif ile ((a.length + b.length : Nat) : Int) 9223372036854775807 then some (.str (a ++ b)) else none
 | .eql => some (.bool (a == b))
 | .neq => some (.bool (!(a == b)))
 | _ => none
def eqT (ty : Tys) : Nat → TypeId → AV → AV → Option Bool
 | 0,_,_,_ => none
 | d + 1,t,x,y =>
  match ty t with
  | none => none
  | some ti =>
   match ti.td,x,y with
   | .bool,.bool a,.bool b => some (a == b)
   | .int _,.int k a,.int k' b => if k = k' then some (ieq a b) else none
   | .str,.str a,.str b => some (a == b)
   | .struct fs,.agg xs,.agg ys => go (eqT ty d) xs ys fs
   | .arr n e,.agg xs,.agg ys =>
    match ty e with
    | none => none
    | some ei => goA (eqT ty d) e ei xs ys n 0
   | .slice _,.sl _ _ .nil,.sl _ _ .nil => some true
   | .slice _,.sl _ (_ :: _) _,.sl _ [] .nil => some false
   | _,_,_ => none
where
 go (rec : TypeId → AV → AV → Option Bool) (xs ys : List AV) : List (Nat × TypeId × Bool) → Option Bool
  | [] => some true
  | (off,t,blank) :: fs =>
    if blank then go rec xs ys fs else
    match ty t with
    | none => none
    | some ti =>
      match partA ti xs off,partA ti ys off with
      | some a,some b =>
       match rec t a b with
       | some r => (go rec xs ys fs).map fun q => r && q
       | none => none
      | _,_ => none
 goA (rec : TypeId → AV → AV → Option Bool) (e : TypeId) (ei : TI) (xs ys : List AV) : Nat → Nat → Option Bool
  | 0,_ => some true
  | n + 1,i =>
    match partA ei xs (i * ei.size),partA ei ys (i * ei.size) with
    | some a,some b =>
      match rec e a b with
      | some r => (goA rec e ei xs ys n (i + 1)).map fun q => r && q
      | none => none
    | _,_ => none
def binA (ty : Tys) (op : BinOp) (t : TypeId) (x y : AV) : Option AV :=
 match op,x,y with
 | .shl,.int k a,.int _ b => bif ile 0 b then some (.int k (ishl k a b)) else none
 | .shr,.int k a,.int _ b => bif ile 0 b then some (.int k (ishr k a b)) else none
 | op,.int k a,.int k' b => if k = k' then intOp op k a b else none
 | op,.str a,.str b => strOp op a b
 | .eql,x,y => (eqT ty 50 t x.flat y.flat).map .bool
 | .neq,x,y => (eqT ty 50 t x.flat y.flat).map fun b => .bool (!b)
 | _,_,_ => none
def unA (op : UnOp) (x : AV) : Option AV :=
 match op,x with
 | .neg,.int k n => some (.int k (isub k 0 n))
 | .not,.bool b => some (.bool (!b))
 | _,_ => none
def idx (xs : List AV) (i : Int) : Option AV := if 0 ≤ i then xs[i.toNat]? else none
def inR (i : Int) (n : Nat) : Bool := decide (0 ≤ i ∧ i < n)
def fillA (place : Nat → Option (Nat × Nat)) (cells : List AV) : List (Nat × AV) → Option (List AV)
 | [] => some cells
 | (i,v) :: rest =>
   match place i with
   | none => none
   | some (off,size) =>
     if v.known && !v.isTup && v.cells.length == size && Nat.ble (off + size) cells.length then fillA place (setAt cells off v.cells) rest else none
def zeros (ti : TI) (n : Nat) : List AV :=
 (List.range (n * ti.zero.length)).map fun i => ti.zero.getD (i % ti.zero.length) .unk
def rows (agg : Bool) (size : Nat) (cs : List AV) : Nat → List AV
 | 0 => []
 | n + 1 => (if agg then .agg (cs.take size) else cs.headD .unk) :: rows agg size (cs.drop size) n
end Go.Ev
namespace Go.Ev
open Go
def AV.laid (v : AV) : Option (List AV) :=
 match v with
 | .unk => none
 | .tup _ => none
 | .agg cs => some cs
 | v => some [v.flat]
structure Env where
 ty : Tys
 spec : FuncId → List AV → List (List AV) → Option (AV × List (List AV))
 keep : Nat → Option (List Nat × List Nat)
 fuel : Nat
 own : Bool := false
 specO : FuncId → Option (List AV → List AV → Option (AV × List AV)) := fun _ => none
 specV : FuncId → List AV → Option AV := fun _ _ => none
def fieldOf (ty : Tys) (s : TypeId) (f : Nat) : Option (Nat × TI) :=
 match ty s with
 | some ti =>
  match ti.td with
  | .struct fs =>
   match fs[f]? with
   | some (off,t,_) => (ty t).map fun fi => (off,fi)
   | none => none
  | _ => none
 | none => none
def elemOf (ty : Tys) (t : TypeId) : Option TI :=
 match ty t with
 | some ti =>
  match ti.td with
  | .slice e => ty e
  | .arr _ e => ty e
  | _ => none
 | none => none
def isSlice (ty : Tys) (t : TypeId) : Bool :=
 match ty t with
 | some ti => match ti.td with | .slice _ => true | _ => false
 | none => false
def isStr (ty : Tys) (t : TypeId) : Bool :=
 match ty t with
 | some ti => match ti.td with | .str => true | _ => false
 | none => false
def arrLen (ty : Tys) (t : TypeId) : Option Nat :=
 match ty t with
 | some ti => match ti.td with | .arr n _ => some n | _ => none
 | none => none
def cutSt (sz : Nat) (st : St) (l : Nat) (all : Bool) : St :=
 match st with
 | .own k => bif sz == 1 then .win k l else .sh
 | .win k lo => bif sz == 1 then .win k (lo + l) else .sh
 | .full => if all then .full else .sh
 | _ => .sh
def elemPtr (sz : Nat) (st : St) (i : Nat) (e : AV) : AV :=
 match st with
 | .own k => bif sz == 1 then .wp k i e else .ro e
 | .win k lo => bif sz == 1 then .wp k (lo + i) e else .ro e
 | _ => .ro e
def boundA (d : Nat) (v : Option AV) (top : Nat) : Option Nat :=
 match v with
 | none => some d
 | some (.int _ i) => bif inR i (top + 1) then some i.toNat else none
 | some _ => none
def sliceA (ty : Tys) (t : TypeId) (x : AV) (lo hi mx : Option AV) : Option AV :=
 match x with
 | .str s =>
  match mx with
  | some _ => none
  | none =>
   match boundA s.length hi s.length with
   | some h =>
    match boundA 0 lo h with
    | some l => bif isStr ty t then some (.str ((s.drop l).take (h - l))) else none
    | none => none
   | none => none
 | .sl sz xs st =>
  match elemOf ty t with
  | none => none
  | some ei =>
   bif isSlice ty t && ((sz == ei.size && st != .nil) || (st == .nil && xs.isEmpty)) then
    match boundA xs.length hi xs.length with
    | some h =>
     match boundA 0 lo h with
     | some l =>
      match mx with
      | none =>
       bif st == .nil then some x else
       some (.sl sz ((xs.drop l).take (h - l)) (cutSt sz st l (hi.isNone || h == xs.length)))
      | some m =>
       match boundA 0 (some m) h with
       | some m' => bif hi.isSome && m' == h then (bif st == .nil then some x else some (.sl sz ((xs.drop l).take (h - l)) .full)) else none
       | none => none
     | none => none
    | none => none
   else none
 | .ptr id off =>
  match arrLen ty t,elemOf ty t,mx with
  | some n,some ei,none =>
   match boundA n hi n with
   | some h =>
    match boundA 0 lo h with
    | some l => some (.view id (if n == l then off else off + l * ei.size) (h - l))
    | none => none
   | none => none
  | _,_,_ => none
 | _ => none
def lenA (ty : Tys) (t : TypeId) (x : AV) : Option AV :=
 match ty t with
 | none => none
 | some ti =>
  match ti.td,x with
  | .str,.str s => some (.int .i64 s.length)
  | .slice _,.sl _ xs _ => some (.int .i64 xs.length)
  | .slice _,.view _ _ n => some (.int .i64 n)
  | .arr n _,_ => some (.int .i64 n)
  | _,_ => none
def minA (x y : AV) : Option AV :=
 match x,y with
 | .int k a,.int _ b => some (.int k (bif ilt b a then b else a))
 | _,_ => none
def maxA (x y : AV) : Option AV :=
 match x,y with
 | .int k a,.int _ b => some (.int k (bif ilt a b then b else a))
 | _,_ => none
def pickA (t : Bool) (a b : AV) : AV :=
 match a,b with
 | .bool x,.bool y => .bool (bif t then x else y)
 | a,b => bif t then a else b
def fieldAddrA (ty : Tys) (t : TypeId) (x : AV) (f : Nat) : Option AV :=
 match fieldOf ty t f with
 | none => none
 | some (off,fi) =>
  bif fi.size == 0 then none else
  match x with
  | .ptr id o => some (.ptr id (o + off))
  | .ro (.agg cs) => (partA fi cs off).bind fun v => bif fits fi v then some (.ro v) else none
  | _ => none
def fieldA (ty : Tys) (t : TypeId) (x : AV) (f : Nat) : Option AV :=
 match fieldOf ty t f with
 | none => none
 | some (off,fi) =>
  match x with
  | .agg cs => (partA fi cs off).bind fun v => bif fits fi v then some v else none
  | _ => none
def indexAddrA (ty : Tys) (t : TypeId) (x i : AV) : Option AV :=
 match elemOf ty t with
 | none => none
 | some ei =>
  match i with
  | .int _ i =>
   match x with
   | .sl sz xs st => bif isSlice ty t && sz == ei.size then (idx xs i).map (elemPtr sz st i.toNat) else none
   | .view id off n => bif isSlice ty t && inR i n then some (.ptr id (off + i.toNat * ei.size)) else none
   | .ptr id off =>
    match arrLen ty t with
    | some n => bif inR i n then some (.ptr id (off + i.toNat * ei.size)) else none
    | none => none
   | .ro (.agg cs) =>
    match arrLen ty t with
    | some n => bif inR i n then (partA ei cs (i.toNat * ei.size)).bind fun v => bif fits ei v then some (.ro v) else none else none
    | none => none
   | _ => none
  | _ => none
def indexA (ty : Tys) (t : TypeId) (x i : AV) : Option AV :=
 match i with
 | .int _ i =>
  match x with
  | .agg cs =>
   match arrLen ty t with
   | none => none
   | some n =>
    match elemOf ty t with
    | none => none
    | some ei => bif inR i n then (partA ei cs (i.toNat * ei.size)).bind fun v => bif fits ei v then some v else none else none
  | .str s =>
   match ty t with
   | some ti => match ti.td with
    | .str => (if 0 ≤ i then s[i.toNat]? else none).map fun b => .int .u8 b.toNat
    | _ => none
   | none => none
  | _ => none
 | _ => none
def structPlace (ty : Tys) (fs : List (Nat × TypeId × Bool)) (i : Nat) : Option (Nat × Nat) :=
 match fs[i]? with
 | some (off,ft,_) => (ty ft).map fun fi => (off,fi.size)
 | none => none
def isIntK (k : IntKind) : AV → Bool
 | .int k' _ => decide (k' = k)
 | _ => false
def arrPtrA (ty : Tys) (t : TypeId) (x : AV) : Option AV :=
 match arrLen ty t,elemOf ty t,x with
 | some n,some ei,.sl sz xs _ =>
  match ei.td with
  | .int k => bif (sz == 1 && Nat.blt 0 n) && (Nat.ble n xs.length && (xs.take n).all (isIntK k)) then some (.ro (.agg (xs.take n))) else none
  | _ => none
 | _,_,_ => none
def byteA : AV → UInt8
 | .int _ n => UInt8.ofNat n.toNat
 | _ => 0
def strTy (ty : Tys) (si di : TI) : Bool :=
 match si.td,di.td with
 | .slice e,.str => match ty e with | some ei => (match ei.td with | .int k => decide (k = .u8) | _ => false) | none => false
 | _,_ => false
def strA (ty : Tys) (si di : TI) (sz : Nat) (xs : List AV) (st : St) : Option AV :=
 bif strTy ty si di && (sz == 1 || (st == .nil && xs.isEmpty)) && xs.all (isIntK .u8) then some (.str (xs.map byteA)) else none
def evPure (ty : Tys) (ρ : Operand → AV) (op : Op) : Option AV :=
 match op with
 | .move x | .assign x => some (ρ x)
 | .pick c a b =>
  match ρ c with
  | .bool t => some (pickA t (ρ a) (ρ b))
  | _ => none
 | .build t parts =>
  match ty t with
  | none => none
  | some ti =>
   match ti.td with
   | .struct fs =>
    bif fs.all (fun f => (ty f.2.1).isSome) then
     (fillA (structPlace ty fs) ti.zero (parts.toList.map fun p => (p.1,(ρ p.2).flat))).map .agg
    else none
   | .arr _ e =>
    match ty e with
    | some ei => (fillA (fun i => some (i * ei.size,ei.size)) ti.zero (parts.toList.map fun p => (p.1,(ρ p.2).flat))).map .agg
    | none => none
   | _ => none
 | .nilCheck x =>
  match ρ x with
  | .ptr id off => some (.ptr id off)
  | .fn f cap => some (.fn f cap)
  | _ => none
 | .binOp op t x y _ => binA ty op t (ρ x) (ρ y)
 | .unOp op _ x => unA op (ρ x)
 | .convert src dst x =>
  match ty src,ty dst,ρ x with
  | some si,some di,.int _ n =>
   match si.td,di.td with
   | .int _,.int k => some (.int k (k.wrap n))
   | _,_ => none
  | some si,some di,.sl sz xs st => strA ty si di sz xs st
  | _,_,_ => none
 | .makeFunc (.func f) first cap => bif first.isEmpty then some (.fn f (cap.toList.map fun x => (ρ x).share)) else none
 | .fieldAddr t x f => fieldAddrA ty t (ρ x) f
 | .field t x f => fieldA ty t (ρ x) f
 | .indexAddr t x i => indexAddrA ty t (ρ x) (ρ i)
 | .sliceToArrayPointer t x => arrPtrA ty t (ρ x)
 | .index t x i => indexA ty t (ρ x) (ρ i)
 | .slice t x lo hi mx => sliceA ty t (ρ x) (lo.map ρ) (hi.map ρ) (mx.map ρ)
 | .extract x i =>
  match ρ x with
  | .tup vs => vs[i]?
  | _ => none
 | .call { callee := .builtin .len,args,argTypes } =>
  match args.toList,argTypes.toList with
  | [x],[t] => lenA ty t (ρ x)
  | _,_ => none
 | .call { callee := .builtin .min,args,.. } =>
  match args.toList with
  | [x,y] => minA (ρ x) (ρ y)
  | _ => none
 | .call { callee := .builtin .max,args,.. } =>
  match args.toList with
  | [x,y] => maxA (ρ x) (ρ y)
  | _ => none
 | _ => none
def evMake (ty : Tys) (ρ : Operand → AV) (op : Op) : Option AV :=
 match op with
 | .buildSlice t len parts =>
  match elemOf ty t with
  | some ei =>
   bif isSlice ty t && Nat.ble (len * ei.size) 16777216 && ei.zero.length == ei.size && (ei.td.agg || ei.size == 1) then
    (fillA (fun i => some (i * ei.size,ei.size)) (zeros ei len) (parts.toList.map fun p => (p.1,(ρ p.2).flat))).map
     fun cs => .sl ei.size (rows ei.td.agg ei.size cs len) .full
   else none
  | none => none
 | _ => none
structure Eff where
 val : AV
 upd : List (Nat × List AV) := []
 ins : Option (Nat × List AV) := none
 rt : Option Tag := none
 wr : Option (Tag × Nat × List AV) := none
 pre : Option Tag := none
def insM (m : Mem) (d : Nat) (cs : List AV) : Mem :=
 match m with
 | [] => [(d,cs)]
 |(j,c) :: r => if d < j then (d,cs) :: (j,c) :: r else (j,c) :: insM r d cs
def upds (m : Mem) : List (Nat × List AV) → Mem
 | [] => m
 | p :: r => upds (upd m p.1 p.2) r
def AS.retag (k : Tag) (s : AS) : AS := { tmps := s.tmps.map (AV.retag k),mem := s.mem.map fun p => (p.1,p.2.map (AV.retag k)) }
def AS.wrote (k : Tag) (i : Nat) (vs : List AV) (s : AS) : AS := { tmps := s.tmps.map (AV.wrote k i vs),mem := s.mem.map fun p => (p.1,p.2.map (AV.wrote k i vs)) }
def Eff.app (e : Eff) (dst : Option Nat) (s : AS) : AS :=
 let s := match e.pre with | some k => s.retag k | none => s
 let m := upds s.mem e.upd
 let m := match e.ins with | some (d,cs) => insM m d cs | none => m
 let s : AS := { s with mem := m }
 let s := match e.rt with | some k => s.retag k | none => s
 let s := match e.wr with | some (k,i,vs) => s.wrote k i vs | none => s
 s.put dst e.val
def allocA (m : Mem) (d : Nat) (cs : List AV) : Option Eff :=
 match look m d with
 | some _ => none
 | none => some { val := .ptr d 0,ins := some (d,cs) }
def isInt (ty : Tys) (t : TypeId) : Bool :=
 match ty t with
 | some ti => match ti.td with | .int _ => true | _ => false
 | none => false
def TI.elemZero (ti : TI) : AV := if ti.td.agg then .agg ti.zero else ti.zero.headD .unk
def srcA (ty : Tys) (t2 : TypeId) (ei : TI) (m : Mem) (y : AV) : Option (List AV) :=
 match y with
 | .sl sz ys st => bif isSlice ty t2 && (sz == ei.size || (st == .nil && ys.isEmpty)) then some ys else none
 | .view id off n =>
  match look m id with
  | some cs =>
   bif isSlice ty t2 && ((cs.drop off).take (n * ei.size)).length == n * ei.size && (ei.td.agg || ei.size == 1) then some (rows ei.td.agg ei.size (((cs.drop off).take (n * ei.size)).map AV.flat) n) else none
  | none => none
 | .int .i64 n =>
  bif isInt ty t2 && ile 0 n && ile n 140737488355328 && ile ((ei.bytes : Int) * n) 140737488355328 && ei.zero.length == ei.size && (ei.td.agg || ei.size == 1) then
   some (List.replicate n.toNat ei.elemZero) else none
 | _ => none
def appendA (ei : TI) (d : Nat) (x : AV) (ys : List AV) : Option Eff :=
 match x with
 | .sl sz xs st =>
  bif (sz == ei.size || (st == .nil && xs.isEmpty)) && ile (((xs.length + ys.length) * ei.bytes : Nat) : Int) 140737488355328 && ile ((xs.length + ys.length : Nat) : Int) 140737488355328 then
   match st with
   | .own k => some { val := .sl ei.size (xs ++ ys) (.own (apT k d)),rt := some k }
   | .sh => bif ys.isEmpty then some { val := x } else none
   | .win _ _ => none
   | .nil => bif ys.isEmpty then some { val := x } else some { val := .sl ei.size ys (.own [d]) }
   | .full => bif ys.isEmpty then some { val := x } else some { val := .sl ei.size (xs ++ ys) (.own [d]) }
  else none
 | _ => none
def copyL (k : Tag) (lo : Nat) (xs : List AV) (y : AV) : Option Eff :=
 match y with
 | .sl sz ys st => bif (sz == 1 || (st == .nil && ys.isEmpty)) && ys.all AV.scal then some { val := .int .i64 (Nat.min ys.length xs.length),wr := some (k,lo,ys.take xs.length) } else none
 | _ => none
def copyA (x y : AV) : Option Eff :=
 match x with
 | .sl sz xs (.own k) => bif sz == 1 && !k.isEmpty then copyL k 0 xs y else none
 | .sl sz xs (.win k lo) => bif sz == 1 && !k.isEmpty then copyL k lo xs y else none
 | _ => none
def ptrIds : List AV → List Nat
 | [] => []
 | .ptr id _ :: r => if (ptrIds r).contains id then ptrIds r else id :: ptrIds r
 | .fn _ cap :: r => capIds cap (ptrIds r)
 | _ :: r => ptrIds r
where
 capIds : List AV → List Nat → List Nat
  | [],l => l
  | .ptr id _ :: r,l => if (capIds r l).contains id then capIds r l else id :: capIds r l
  | _ :: r,l => capIds r l
def AV.renumC (ids : List Nat) : AV → AV
 | .ptr id off => .ptr (1000 + ids.idxOf id) off
 | v => v.flat
def AV.renum (ids : List Nat) : AV → AV
 | .fn f cap => .fn f (cap.map (AV.renumC ids))
 | v => v.renumC ids
def looks (m : Mem) : List Nat → Option (List (List AV))
 | [] => some []
 | i :: r =>
  match look m i,looks m r with
  | some cs,some l => some (cs.map AV.flat :: l)
  | _,_ => none
def AV.named (dst : Option Nat) : AV → AV
 | .sl sz xs (.own _) => match dst with | some d => .sl sz xs (.own [d]) | none => .sl sz xs .sh
 | v => v
def callA (E : Env) (m : Mem) (dst : Option Nat) (g : FuncId) (args : List AV) : Option Eff :=
 match looks m (ptrIds args) with
 | none => none
 | some passed =>
  match E.spec g (args.map (AV.renum (ptrIds args))) passed with
  | some (r,passed') => bif passed'.length == (ptrIds args).length then some { val := r.named dst,upd := (ptrIds args).zip passed' } else none
  | none => none
def effO (id : Nat) (cs : List AV) (r : AV) (cs' : List AV) (dst : Option Nat) : Option Eff :=
 match ownTags cs,ownTags cs',dst with
 | [],[],_ => some { val := r,upd := [(id,cs')] }
 | [],[_],some d => some { val := r,upd := [(id,cs'.map (AV.reown [d]))] }
 | [k],[],_ => some { val := r,upd := [(id,cs')],pre := some k }
 | [k],[[]],_ => some { val := r,upd := [(id,cs'.map (AV.reown k))],pre := some k }
 | [k],[_ :: _],some d => some { val := r,upd := [(id,cs'.map (AV.reown [d]))],pre := some k }
 | _,_,_ => none
def effV (args : List AV) (r : AV) (dst : Option Nat) : Option Eff :=
 match ownTags args,r,dst with
 | [k],.sl sz xs (.own []),_ => some { val := .sl sz xs (.own k),pre := some k }
 | [k],.sl sz xs (.own (_ :: _)),some d => some { val := .sl sz xs (.own [d]),pre := some k }
 | _,_,_ => none
def callO (sp : List AV → List AV → Option (AV × List AV)) (sv : List AV → Option AV) (m : Mem) (dst : Option Nat) (args : List AV) : Option Eff :=
 match ptrIds args with
 | [id] =>
  match look m id with
  | none => none
  | some cs =>
   match sp (args.map (AV.renum [id])) (cs.map AV.pass) with
   | some (r,cs') => effO id cs r cs' dst
   | none => none
 | [] =>
  match sv (args.map AV.pass) with
  | some r => effV args r dst
  | none => none
 | _ => none
def effOf (E : Env) (o : Oper) (ρ : Operand → AV) (m : Mem) : Option Eff :=
 match o.op with
 | .alloc e =>
  match E.ty e,o.dst with
  | some ti,some d => allocA m d ti.zero
  | _,_ => none
 | .box _ x =>
  match (ρ x).laid,o.dst with
  | some cs,some d => allocA m d cs
  | _,_ => none
 | .load t x =>
  match E.ty t with
  | none => none
  | some ti =>
   match ρ x with
   | .ptr id off =>
    match look m id with
    | some cs =>
     bif ((cs.drop off).take ti.size).length == ti.size then
      (if ti.td.agg then some { val := .agg (((cs.drop off).take ti.size).map AV.flat) } else bif ti.size == 1 then some { val := ((cs.drop off).take ti.size).headD .unk } else none)
     else none
    | none => none
   | .ro e => bif fits ti e then some { val := e } else none
   | .wp _ _ e => bif fits ti e then some { val := e } else none
   | _ => none
 | .store t x y =>
  match E.ty t with
  | none => none
  | some ti =>
   match ρ x with
   | .ptr id off =>
    match look m id with
    | some cs =>
     bif (ρ y).known && !(ρ y).isTup && (ρ y).cells.length == ti.size && Nat.ble (off + ti.size) cs.length then
      some { val := .tup [],upd := [(id,setAt cs off (ρ y).cells)] }
     else none
    | none => none
   | .wp k i _ => bif ti.size == 1 && (ρ y).scal && !k.isEmpty then some { val := .tup [],wr := some (k,i,[ρ y]) } else none
   | _ => none
 | .call { callee := .builtin .copy,args,argTypes } =>
  match args.toList,argTypes.toList with
  | [x,y],[t,_] =>
   match elemOf E.ty t with
   | some ei => bif isSlice E.ty t && ei.size == 1 then copyA (ρ x) (ρ y) else none
   | none => none
  | _,_ => none
 | .call { callee := .builtin .append,args,argTypes } =>
  match args.toList,argTypes.toList,o.dst with
  | [x,y],[t,t2],some d =>
   match elemOf E.ty t with
   | some ei =>
    bif isSlice E.ty t then
     match srcA E.ty t2 ei m (ρ y) with
     | some ys => appendA ei d (ρ x) ys
     | none => none
    else none
   | none => none
  | _,_,_ => none
 | .call { callee := .value f,args,.. } =>
  match ρ f with
  | .fn g cap =>
   bif E.own then
    match E.specO g with
    | some sp => callO sp (E.specV g) m o.dst (args.toList.map ρ ++ cap)
    | none => callA E m o.dst g (args.toList.map ρ ++ cap)
   else callA E m o.dst g (args.toList.map ρ ++ cap)
  | _ => none
 | .buildSlice t n ps => (evMake E.ty ρ (.buildSlice t n ps)).map fun v => { val := v }
 | op => (evPure E.ty ρ op).map fun v => { val := v }
def evOp (E : Env) (o : Oper) (s : AS) : Option AS := (effOf E o (opv s.tmps) s.mem).map fun e => e.app o.dst s
def hasTag (k : Tag) : AV → Bool
 | .sl _ _ (.own k') => k' == k
 | .sl _ _ (.win k' _) => k' == k
 | .wp k' _ _ => k' == k
 | _ => false
def AS.noTag (s : AS) (k : Tag) : Bool := s.tmps.all (fun v => !hasTag k v) && s.mem.all fun p => p.2.all fun v => !hasTag k v
def makes (o : Oper) : Option Tag :=
 match o.op,o.dst with
 | .call { callee := .builtin .append,.. },some d => some [d]
 | .call { callee := .value _,.. },some d => some [d]
 | _,_ => none
def wantA (ops : Array Oper) (ts : List AV) (o : Oper) : Option Bool :=
 match o.guard with
 | none => some true
 | some (j,want) =>
  match (ops[j]?).bind (·.dst) with
  | none => some false
  | some t =>
   match ts[t]? with
   | some (.bool b) => some (b == want)
   | some (.tup _) => some false
   | none => some false
   | _ => none
def step1 (E : Env) (ops : Array Oper) (i : Nat) (s : AS) : Option AS :=
 match ops[i]? with
 | none => some s
 | some o =>
  match wantA ops s.tmps o with
  | some true => evOp E o s
  | some false => some (s.put o.dst (.tup []))
  | none => none
def evSeq (E : Env) (ops : Array Oper) : List Nat → AS → Option AS
 | [],s => some s
 | i :: rest,s =>
  bif (match (ops[i]?).bind makes with | some k => s.noTag k | none => true) then
   match step1 E ops i s with
   | some s' => evSeq E ops rest s'
   | none => none
  else none
inductive Ex where
 | normal
 | exit (id : Nat)
 | ret
 deriving DecidableEq,Inhabited
def Ex.of : Ex → Exit
 | .normal => .normal
 | .exit id => .exit id
 | .ret => .ret
def binding (e : Edge) : Bool :=
 match e.ground with
 | .textOnly _ => false
 | .gcOnly _ => false
 | _ => true
def ahead (ops : Array Oper) (i : Nat) : Nat → Nat → Bool
 | 0,_ => false
 | n + 1,j =>
  match ops[j]? with
  | none => false
  | some o => o.after.any fun e => binding e && (e.on == i || ahead ops i n e.on)
def Operand.tmps : Operand → List Nat
 | .tmp t => [t]
 | _ => []
def readsOf (ops : Array Oper) (o : Oper) : List Nat :=
 o.op.operands.toList.flatMap Operand.tmps ++
 match o.guard with
 | none => []
 | some (j,_) => ((ops[j]?).bind (·.dst)).toList
def keysR (ts : List AV) (o : Oper) : List Nat :=
 match o.op with
 | .load _ x | .store _ x _ => match opv ts x with | .ptr id _ => [id] | _ => []
 | .alloc _ | .box _ _ => o.dst.toList
 | .call { callee := .builtin .append,args,.. } => args.toList.flatMap fun x => match opv ts x with | .view id _ _ => [id] | _ => []
 | .call { callee := .value f,args,.. } => match opv ts f with | .fn _ cap => ptrIds (args.toList.map (opv ts) ++ cap) | _ => []
 | _ => []
def wkey : Nat := 4000000
def besideWrite (o : Oper) : Bool :=
 match o.op with
 | .move _ => true
 | .binOp .eql _ _ _ _ => false
 | .binOp .neq _ _ _ _ => false
 | .binOp _ _ _ _ _ => true
 | .unOp _ _ _ => true
 | _ => false
def keysW (ts : List AV) (o : Oper) : List Nat :=
 match o.op with
 | .store _ x _ => match opv ts x with | .ptr id _ => [id] | .wp _ _ _ => [wkey] | _ => []
 | .call { callee := .builtin .copy,.. } => [wkey]
 | .alloc _ | .box _ _ => o.dst.toList
 | .call { callee := .value f,args,.. } => match opv ts f with | .fn _ cap => ptrIds (args.toList.map (opv ts) ++ cap) | _ => []
 | _ => []
def disj (a b : List Nat) : Bool := a.all fun x => !b.contains x
def isAppend (o : Oper) : Bool :=
 match o.op with
 | .call { callee := .builtin .append,.. } => true
 | _ => false
def besideAppend (o : Oper) : Bool :=
 match o.op with
 | .alloc _ | .move _ | .slice _ _ _ _ _ => true
 | _ => false
abbrev FP := List Nat × List Nat
def okey : Nat := 5000000
def ownCall (E : Env) (ts : List AV) (o : Oper) : Bool :=
 match o.op with
 | .call { callee := .value f,.. } => match opv ts f with | .fn g _ => E.own && (E.specO g).isSome | _ => false
 | _ => false
def lkey : Nat := 6000000
def isLoad (o : Oper) : Bool :=
 match o.op with
 | .load _ _ => true
 | _ => false
def loadAgg (ty : Tys) (o : Oper) : Bool :=
 match o.op with
 | .load t _ => match ty t with | some ti => ti.td.agg | none => false
 | _ => false
def fpW (E : Env) (ts : List AV) (o : Oper) : List Nat := bif loadAgg E.ty o then [lkey] else bif ownCall E ts o then okey :: keysW ts o else keysW ts o
def fpOf (E : Env) (ops : Array Oper) (i : Nat) (s : AS) : FP :=
 match ops[i]? with
 | some o => (keysR s.tmps o,fpW E s.tmps o)
 | none => ([],[])
def evTr (E : Env) (ops : Array Oper) : List Nat → AS → Option (AS × List FP)
 | [],s => some (s,[])
 | i :: rest,s =>
  match step1 E ops i s with
  | some s' =>
   match evTr E ops rest s' with
   | some (s'',l) => some (s'',fpOf E ops i s :: l)
   | none => none
  | none => none
def wOf (o : Oper) (f : FP) : List Nat := bif isLoad o then [] else f.2
def swaps (ops : Array Oper) (a b : Oper) (f g : FP) : Bool :=
 disj a.dst.toList (readsOf ops b ++ b.dst.toList) && disj b.dst.toList (readsOf ops a) &&
 disj (f.1 ++ wOf a f) (wOf b g) && disj (wOf a f) g.1 && !isAppend b && (!isAppend a || besideAppend b) && (!(wOf a f).contains wkey || besideWrite b) && (!(wOf b g).contains wkey || besideWrite a) && (!f.2.contains okey || (f.2 == [okey] && isLoad b && g.2 == [lkey])) && !g.2.contains okey
def edgesOk (ops : Array Oper) : Bool :=
 (List.range ops.size).all fun i => match ops[i]? with | some o => o.after.all fun e => !binding e || Nat.blt e.on i | none => true
def makesOk (ops : Array Oper) : Bool := (ops.toList.filterMap makes).Nodup
def drawOk (ops : Array Oper) (s : AS) (l : List FP) : Bool :=
 edgesOk ops && makesOk ops &&
 (List.range ops.size).all (fun j => (List.range j).all fun i => ahead ops i ops.size j ||
  match ops[i]?,ops[j]? with
  | some a,some b => swaps ops a b (l.getD i ([],[])) (l.getD j ([],[]))
  | _,_ => true) &&
 ops.all fun o => match makes o with | some k => s.noTag k | none => true
def maskOf (acc : List Nat) (o : Oper) : Nat :=
 o.after.toList.foldl (fun m e => bif binding e then (m ||| 2 ^ e.on) ||| acc.getD e.on 0 else m) 0
def masksGo : List Oper → List Nat → List Nat
 | [],acc => acc
 | o :: r,acc => masksGo r (acc ++ [maskOf acc o])
def masks (ops : Array Oper) : List Nat := masksGo ops.toList []
def pairsOk (ops : Array Oper) (ms : List Nat) (l : List FP) : Bool :=
 (List.range ops.size).all fun j => (List.range j).all fun i => Nat.testBit (ms.getD j 0) i ||
  match ops[i]?,ops[j]? with
  | some a,some b => swaps ops a b (l.getD i ([],[])) (l.getD j ([],[]))
  | _,_ => true
def drawOk2 (ops : Array Oper) (s : AS) (l : List FP) : Bool :=
 edgesOk ops && makesOk ops && pairsOk ops (masks ops) l &&
 ops.all fun o => match makes o with | some k => s.noTag k | none => true
theorem ahead_mono {ops : Array Oper} {i : Nat} : ∀ {n m j : Nat},n ≤ m → ahead ops i n j = true → ahead ops i m j = true
 | 0,m,j,_,h => by cases h
 | n + 1,0,j,hm,h => by omega
 | n + 1,m + 1,j,hm,h => by
  simp only [ahead] at h ⊢
  cases ho : ops[j]? with
  | none => simp [ho] at h
  | some o =>
   simp only [ho,Array.any_eq_true',Bool.and_eq_true,Bool.or_eq_true] at h ⊢
   obtain ⟨e,h1,h2,h3⟩ := h
   exact ⟨e,h1,h2,h3.imp id fun h => ahead_mono (by omega) h⟩
theorem fold_bits {acc : List Nat} {i : Nat} : ∀ {l : List Edge} {m : Nat},Nat.testBit (l.foldl (fun m e => bif binding e then (m ||| 2 ^ e.on) ||| acc.getD e.on 0 else m) m) i = true →
  Nat.testBit m i = true ∨ ∃ e ∈ l,binding e = true ∧ (e.on = i ∨ Nat.testBit (acc.getD e.on 0) i = true)
 | [],m,h => .inl h
 | e :: l,m,h => by
  rw [List.foldl_cons] at h
  rcases fold_bits h with h | ⟨e',h1,h2⟩
  ·cases hb : binding e <;> rw [hb] at h <;> simp only [cond_true,cond_false] at h
   ·exact .inl h
   ·simp only [Nat.testBit_or,Nat.testBit_two_pow,Bool.or_eq_true,decide_eq_true_eq] at h
    rcases h with (h | h) | h
    ·exact .inl h
    ·exact .inr ⟨e,by simp,hb,.inl h⟩
    ·exact .inr ⟨e,by simp,hb,.inr h⟩
  ·exact .inr ⟨e',by simp [h1],h2⟩
theorem masksGo_ok {ops : Array Oper} : ∀ (l : List Oper) (acc : List Nat),(∀ j,l[j]? = ops.toList[acc.length + j]?) → (∀ (j i : Nat),j < acc.length → Nat.testBit (acc.getD j 0) i = true → ahead ops i (j + 1) j = true) →
  ∀ (j i : Nat),Nat.testBit ((masksGo l acc).getD j 0) i = true → ahead ops i (j + 1) j = true
 | [],acc,_,h,j,i,hb => by
  simp only [masksGo] at hb
  by_cases hj : j < acc.length
  ·exact h j i hj hb
  ·rw [List.getD_eq_getElem?_getD,List.getElem?_eq_none (by omega)] at hb
   simp at hb
 | o :: r,acc,hl,h,j,i,hb => by
  simp only [masksGo] at hb
  refine masksGo_ok r (acc ++ [maskOf acc o]) (fun j => ?_) (fun j i hj hb => ?_) j i hb
  ·have := hl (j + 1)
   simpa [Nat.add_assoc,Nat.add_comm 1 j] using this
  ·have ho : ops[acc.length]? = some o := by have := hl 0; simpa using this.symm
   by_cases hj2 : j < acc.length
   ·refine h j i hj2 ?_
    rw [List.getD_eq_getElem?_getD,List.getElem?_append_left hj2] at hb
    rwa [List.getD_eq_getElem?_getD]
   ·have e : j = acc.length := by simp at hj; omega
    subst e
    rw [List.getD_eq_getElem?_getD,List.getElem?_append_right (Nat.le_refl _)] at hb
    simp only [Nat.sub_self,List.getElem?_cons_zero,Option.getD_some,maskOf] at hb
    rcases fold_bits hb with h0 | ⟨e,h1,h2,h3⟩
    ·simp at h0
    ·simp only [ahead,ho,Array.any_eq_true',Bool.and_eq_true,Bool.or_eq_true,beq_iff_eq]
     refine ⟨e,by simpa using h1,h2,h3.imp id fun h4 => ?_⟩
     by_cases hl2 : e.on < acc.length
     ·exact ahead_mono (by omega) (h e.on i hl2 h4)
     ·rw [List.getD_eq_getElem?_getD,List.getElem?_eq_none (by omega)] at h4
      simp at h4
theorem drawOk_of {ops : Array Oper} {s : AS} {l : List FP} (h : drawOk2 ops s l = true) : drawOk ops s l = true := by
 unfold drawOk2 at h
 unfold drawOk
 simp only [Bool.and_eq_true] at h ⊢
 refine ⟨⟨h.1.1,?_⟩,h.2⟩
 have hp := h.1.2
 unfold pairsOk at hp
 rw [List.all_eq_true] at hp ⊢
 intro j hj
 have h1 := hp j hj
 rw [List.all_eq_true] at h1 ⊢
 intro i hi
 have h2 := h1 i hi
 rw [Bool.or_eq_true] at h2 ⊢
 rcases h2 with h2 | h2
 ·left
  have hj' : j < ops.size := List.mem_range.1 hj
  exact ahead_mono (by omega) (masksGo_ok (ops := ops) ops.toList [] (fun j => by simp) (fun j i hj => by simp at hj) j i h2)
 ·exact .inr h2
def firstKey : Code → Nat
 | .region id _ _ => id
 | .seq a _ => firstKey a
 | .block _ c => firstKey c
 | .scope c => firstKey c
 | _ => 100000
def freshOf : List AV → List Nat
 | [] => []
 | .sl _ _ (.own [d]) :: r => d :: freshOf r
 | _ :: r => freshOf r
def keepsKey (m : List Nat) (id : Nat) : Bool := Nat.ble 1000 id || m.contains id
def AV.keptC (m : List Nat) : AV → AV
 | .ptr id off => if keepsKey m id then .ptr id off else .unk
 | v => v.loose
def AV.kept (fr m : List Nat) : AV → AV
 | .ptr id off => if keepsKey m id then .ptr id off else .unk
 | .view id off n => if keepsKey m id then .view id off n else .unk
 | .fn f cap => .fn f (cap.map (AV.keptC m))
 | .sl sz xs (.own [d]) => .sl sz xs (.own [d,1])
 | .sl sz xs (.own [d,1]) => if fr.contains d then .sl sz xs .sh else .sl sz xs (.own [d,1])
 | .sl sz xs (.own []) => .sl sz xs (.own [])
 | .sl sz xs (.own _) => .sl sz xs .sh
 | .sl sz xs (.win _ _) => .sl sz xs .sh
 | .wp _ _ e => .ro e
 | v => v
def pickT (l : List Nat) : Nat → List AV → List AV
 | _,[] => []
 | i,v :: r => (if l.contains i then v else .unk) :: pickT l (i + 1) r
def AS.clean (l m : List Nat) (s : AS) : AS :=
 let ts := pickT l 0 s.tmps
 let mm := s.mem.filter fun p => keepsKey m p.1
 let fr := freshOf ts ++ mm.flatMap fun p => freshOf p.2
 { tmps := ts.map (AV.kept fr m),mem := mm.map fun p => (p.1,p.2.map (AV.kept fr m)) }
def loopN (f : AS → Option (Ex × AS)) (c : AS → AS) : Nat → AS → Option (Ex × AS)
 | 0,_ => none
 | n + 1,s =>
  match f (c s) with
  | some (.normal,s') => loopN f c n s'
  | r => r
def ev (E : Env) : Code → AS → Option (Ex × AS)
 | .skip,s => some (.normal,s)
 | .region _ ops draw,s =>
  bif draw then
   match evTr E ops (List.range ops.size) s with
   | some (s',l) => bif drawOk2 ops s l then some (.normal,s') else none
   | none => none
  else (evSeq E ops (List.range ops.size) s).map fun s => (.normal,s)
 | .seq a b,s =>
  match ev E a s with
  | some (.normal,s') => ev E b s'
  | r => r
 | .cond c a b,s =>
  match opv s.tmps c with
  | .bool t => bif t then ev E a s else ev E b s
  | _ => none
 | .block id c,s =>
  match ev E c s with
  | some (.exit id',s') => some (if id' = id then .normal else .exit id',s')
  | r => r
 | .loop c,s =>
  (loopN (ev E c) (match E.keep (firstKey c) with | some (l,m) => AS.clean l m | none => id) E.fuel s).map fun r =>
   (r.1,(match E.keep (firstKey c + 500) with | some (l,m) => AS.clean l m | none => id) r.2)
 | .exit id,s => some (.exit id,s)
 | .label _,s => some (.normal,s)
 | .scope c,s => ev E c s
 | .ret,s => some (.ret,s)
 | _,_ => none
def resA (ty : Tys) (s : AS) : ResultVar → Option AV
 | .tmp t => some (s.tmps.getD t .unk)
 | .cell a t =>
  match ty t,s.tmps.getD a .unk with
  | some ti,.ptr id off =>
   match look s.mem id with
   | some cs =>
    let part := (cs.drop off).take ti.size
    bif part.length == ti.size then
     (if ti.td.agg then some (.agg (part.map AV.flat)) else bif ti.size == 1 then some (part.headD .unk) else none)
    else none
   | none => none
  | _,_ => none
def AV.ret : AV → AV
 | .sl sz xs (.own k) => match k with | [] => .sl sz xs .sh | _ => .sl sz xs (.own [])
 | v => v.flat
def resAll (ty : Tys) (s : AS) : List ResultVar → Option (List AV)
 | [] => some []
 | r :: rs =>
  match resA ty s r,resAll ty s rs with
  | some v,some vs => some (v :: vs)
  | _,_ => none
def outA : List AV → AV
 | [v] => v.ret
 | vs => .tup (vs.map AV.flat)
def passedMem (k : Nat) : List (List AV) → Mem
 | [] => []
 | cs :: r => (k,cs) :: passedMem (k + 1) r
def passedBack (m : Mem) (k : Nat) : Nat → Option (List (List AV))
 | 0 => some []
 | n + 1 =>
  match look m k,passedBack m (k + 1) n with
  | some cs,some l => some (cs.map AV.flat :: l)
  | _,_ => none
def enterA (fn : Func) (args : List AV) (passed : List (List AV)) : AS :=
 { tmps := args ++ List.replicate (fn.ntmps - args.length) (.tup []),mem := passedMem 1000 passed }
def runF (E : Env) (fn : Func) (args : List AV) (passed : List (List AV)) : Option (AV × List (List AV)) :=
 match fn.body with
 | none => none
 | some c =>
  match ev E c (enterA fn args passed) with
  | some (.exit _,_) => none
  | some (_,s) =>
   match resAll E.ty s fn.results.toList,passedBack s.mem 1000 passed.length with
   | some vs,some l => some (outA vs,l)
   | _,_ => none
  | none => none
def runFO (E : Env) (fn : Func) (args : List AV) (cs : List AV) : Option (AV × List AV) :=
 match fn.body with
 | none => none
 | some c =>
  match ev E c (enterA fn args [cs]) with
  | some (.exit _,_) => none
  | some (_,s) =>
   match resAll E.ty s fn.results.toList,look s.mem 1000 with
   | some vs,some cs0 => bif Nat.ble (ownTags cs0).length 1 then some (match vs with | [v] => v.flat | vs => .tup (vs.map AV.flat),cs0.map AV.backO) else none
   | _,_ => none
  | none => none
def runFV (E : Env) (fn : Func) (args : List AV) : Option AV :=
 match fn.body with
 | none => none
 | some c =>
  match ev E c (enterA fn args []) with
  | some (.exit _,_) => none
  | some (_,s) =>
   match resAll E.ty s fn.results.toList with
   | some [v] => some v.backO
   | _ => none
  | none => none
end Go.Ev
namespace Go.Ev
open Go
structure Gh where
 S : Nat → Nat → Prop
 β : Nat → Option Nat
 τ : Tag → Option (Nat × Nat × Nat)
def Gh.bare (G : Gh) : Gh := { G with β := fun _ => none }
def Rd (S : Nat → Nat → Prop) (w : World) (a : Addr) (vs : List Value) : Prop :=
 a.spot = none ∧ ∀ j v,vs[j]? = some v → S a.block (a.off + j) ∧ w.cell? ⟨a.block,a.off + j,none⟩ = some v
def oc : Value → Bool
 | .agg _ | .tuple _ => false
 | _ => true
mutual
inductive RepV (S : Nat → Nat → Prop) (w : World) : (Nat → Option Nat) → AV → Value → Prop
 | unk {β} (v) : RepV S w β .unk v
 | int {β} (k n) : RepV S w β (.int k n) (.int k n)
 | bool {β} (b) : RepV S w β (.bool b) (.bool b)
 | str {β} (s : List UInt8) : RepV S w β (.str s) (.string ⟨s.toArray⟩)
 | agg {β cs vs} : RepL S w (fun _ => none) cs vs → (∀ v ∈ vs,oc v = true) → RepV S w β (.agg cs) (.agg vs.toArray)
 | tup {β cs vs} : RepL S w (fun _ => none) cs vs → RepV S w β (.tup cs) (.tuple vs.toArray)
 | ptr {β : Nat → Option Nat} {id off b} : β id = some b → RepV S w β (.ptr id off) (.pointer (some ⟨b,off,none⟩))
 | nilp {β} : RepV S w β .nilp (.pointer none)
 | ro {β e a vs} : RepC S w e vs → Rd S w a vs →
  RepV S w β (.ro e) (.pointer (some a))
 | slNil {β sz} : RepV S w β (.sl sz [] .nil) (.slice none 0 0)
 | slFull {β sz xs a vs} : RepR S w sz xs vs → Rd S w a vs →
  RepV S w β (.sl sz xs .full) (.slice (some a) xs.length xs.length)
 | slSh {β sz xs a vs} (cap : Nat) : RepR S w sz xs vs → Rd S w a vs →
  xs.length ≤ cap → RepV S w β (.sl sz xs .sh) (.slice (some a) xs.length cap)
 | slFullNil {β sz} : RepV S w β (.sl sz [] .full) (.slice none 0 0)
 | slShNil {β sz} : RepV S w β (.sl sz [] .sh) (.slice none 0 0)
 | view {β : Nat → Option Nat} {id off len b} (cap : Nat) : β id = some b → len ≤ cap → RepV S w β (.view id off len) (.slice (some ⟨b,off,none⟩) len cap)
 | fn {β f cap vs} : RepL S w β cap vs → RepV S w β (.fn f cap) (.func (.func f) #[] vs.toArray)
 | niliface {β} : RepV S w β .niliface .nilIface
 | nilfn {β} : RepV S w β .nilfn .nilFunc
inductive RepL (S : Nat → Nat → Prop) (w : World) : (Nat → Option Nat) → List AV → List Value → Prop
 | nil {β} : RepL S w β [] []
 | cons {β c v cs vs} : RepV S w β c v → RepL S w β cs vs → RepL S w β (c :: cs) (v :: vs)
inductive RepR (S : Nat → Nat → Prop) (w : World) : Nat → List AV → List Value → Prop
 | nil {sz} : RepR S w sz [] []
 | cons {sz x vs xs vss} : RepC S w x vs → vs.length = sz → RepR S w sz xs vss → RepR S w sz (x :: xs) (vs ++ vss)
inductive RepC (S : Nat → Nat → Prop) (w : World) : AV → List Value → Prop
 | agg {cs vs} : RepL S w (fun _ => none) cs vs → (∀ v ∈ vs,oc v = true) → RepC S w (.agg cs) vs
 | one {c v} : RepV S w (fun _ => none) c v → c.isAgg = false → oc v = true → RepC S w c [v]
end
structure Ext (S : Nat → Nat → Prop) (w : World) (S' : Nat → Nat → Prop) (w' : World) : Prop where
 sub : ∀ g o,S g o → S' g o
 cell : ∀ g o,S g o → w'.cell? ⟨g,o,none⟩ = w.cell? ⟨g,o,none⟩
theorem Ext.refl (S) (w) : Ext S w S w := ⟨fun _ _ h => h,fun _ _ _ => rfl⟩
theorem Ext.trans {S S1 S2 w w1 w2} (a : Ext S w S1 w1) (b : Ext S1 w1 S2 w2) : Ext S w S2 w2 :=
 ⟨fun g o h => b.sub g o (a.sub g o h),fun g o h => (b.cell g o (a.sub g o h)).trans (a.cell g o h)⟩
theorem Ext.reads {S w S' w'} (h : Ext S w S' w') {a : Addr} {vs : List Value} (r : Rd S w a vs) : Rd S' w' a vs :=
 ⟨r.1,fun j v hv => ⟨h.sub _ _ (r.2 j v hv).1,(h.cell _ _ (r.2 j v hv).1).trans (r.2 j v hv).2⟩⟩
mutual
theorem RepV.ext {S w S' w'} (h : Ext S w S' w') {β β' : Nat → Option Nat} (hβ : ∀ i b,β i = some b → β' i = some b) : ∀ {a v},RepV S w β a v → RepV S' w' β' a v
 | _,_,.unk v => .unk v
 | _,_,.int k n => .int k n
 | _,_,.bool b => .bool b
 | _,_,.str s => .str s
 | _,_,.agg l o => .agg (l.ext h fun _ _ h => h) o
 | _,_,.tup l => .tup (l.ext h fun _ _ h => h)
 | _,_,.ptr e => .ptr (hβ _ _ e)
 | _,_,.nilp => .nilp
 | _,_,.ro c r => .ro (c.ext h) (h.reads r)
 | _,_,.slNil => .slNil
 | _,_,.slFull c r => .slFull (c.ext h) (h.reads r)
 | _,_,.slSh cap c r l => .slSh cap (c.ext h) (h.reads r) l
 | _,_,.slFullNil => .slFullNil
 | _,_,.slShNil => .slShNil
 | _,_,.view cap e l => .view cap (hβ _ _ e) l
 | _,_,.fn l => .fn (l.ext h hβ)
 | _,_,.niliface => .niliface
 | _,_,.nilfn => .nilfn
theorem RepL.ext {S w S' w'} (h : Ext S w S' w') {β β' : Nat → Option Nat} (hβ : ∀ i b,β i = some b → β' i = some b) : ∀ {a v},RepL S w β a v → RepL S' w' β' a v
 | _,_,.nil => .nil
 | _,_,.cons c l => .cons (c.ext h hβ) (l.ext h hβ)
theorem RepR.ext {S w S' w'} (h : Ext S w S' w') : ∀ {n a v},RepR S w n a v → RepR S' w' n a v
 | _,_,_,.nil => .nil
 | _,_,_,.cons c e l => .cons (c.ext h) e (l.ext h)
theorem RepC.ext {S w S' w'} (h : Ext S w S' w') : ∀ {a v},RepC S w a v → RepC S' w' a v
 | _,_,.agg l o => .agg (l.ext h fun _ _ h => h) o
 | _,_,.one c a o => .one (c.ext h fun _ _ h => h) a o
end
theorem RepV.flat {S w β a v} (h : RepV S w β a v) : RepV S w (fun _ => none) a.flat v := by
 cases h with
 | unk v => exact .unk v
 | int k n => exact .int k n
 | bool b => exact .bool b
 | str s => exact .str s
 | agg l o => exact .agg l o
 | tup l => exact .tup l
 | ptr e => exact .unk _
 | nilp => exact .nilp
 | ro c r => exact .ro c r
 | slNil => exact .slNil
 | slFull c r => exact .slFull c r
 | slSh cap c r l => exact .slSh cap c r l
 | slFullNil => exact .slFullNil
 | slShNil => exact .slShNil
 | view cap e l => exact .unk _
 | fn l => cases l with
  | nil => exact .fn .nil
  | cons c l => exact .unk _
 | niliface => exact .niliface
 | nilfn => exact .nilfn
theorem RepL.length {S w β cs vs} (h : RepL S w β cs vs) : cs.length = vs.length := by
 induction cs generalizing vs with
 | nil => cases h; rfl
 | cons c cs ih => cases h with | cons _ l => simp [ih l]
theorem RepL.get {S w β cs vs} (h : RepL S w β cs vs) {i : Nat} {c : AV} (hc : cs[i]? = some c) : ∃ v,vs[i]? = some v ∧ RepV S w β c v := by
 induction cs generalizing vs i with
 | nil => simp at hc
 | cons d cs ih =>
  cases h with
  | cons hv l =>
   cases i with
   | zero => simp at hc; subst hc; exact ⟨_,by simp,hv⟩
   | succ i => simp at hc; obtain ⟨v,h1,h2⟩ := ih l hc; exact ⟨v,by simpa using h1,h2⟩
theorem RepL.of_get {S w β} {cs : List AV} {vs : List Value} (hl : cs.length = vs.length) (h : ∀ (i : Nat) c v,cs[i]? = some c → vs[i]? = some v → RepV S w β c v) : RepL S w β cs vs := by
 induction cs generalizing vs with
 | nil => cases vs with
  | nil => exact .nil
  | cons v vs => simp at hl
 | cons c cs ih => cases vs with
  | nil => simp at hl
  | cons v vs => exact .cons (h 0 c v rfl rfl) (ih (by simpa using hl) fun i c v h1 h2 => h (i + 1) c v (by simpa using h1) (by simpa using h2))
theorem RepL.append {S w β cs vs ds us} (h : RepL S w β cs vs) (k : RepL S w β ds us) : RepL S w β (cs ++ ds) (vs ++ us) := by
 induction cs generalizing vs with
 | nil => cases h; exact k
 | cons c cs ih => cases h with | cons hv l => exact .cons hv (ih l)
theorem RepL.drop {S w β cs vs} (h : RepL S w β cs vs) (n : Nat) : RepL S w β (cs.drop n) (vs.drop n) := by
 induction cs generalizing vs n with
 | nil => cases h; simp; exact .nil
 | cons c cs ih => cases h with
  | cons hv l => cases n with
   | zero => exact .cons hv l
   | succ n => simpa using ih l n
theorem RepL.take {S w β cs vs} (h : RepL S w β cs vs) (n : Nat) : RepL S w β (cs.take n) (vs.take n) := by
 induction cs generalizing vs n with
 | nil => cases h; simp; exact .nil
 | cons c cs ih => cases h with
  | cons hv l => cases n with
   | zero => exact .nil
   | succ n => exact .cons hv (ih l n)
theorem RepL.set {S w β cs vs c v} (h : RepL S w β cs vs) (n : Nat) (hv : RepV S w β c v) : RepL S w β (cs.set n c) (vs.set n v) := by
 induction cs generalizing vs n with
 | nil => cases h; exact .nil
 | cons c cs ih => cases h with
  | cons hv' l => cases n with
   | zero => exact .cons hv l
   | succ n => exact .cons hv' (ih l n)
def setAtV (cs : List Value) (o : Nat) : List Value → List Value
 | [] => cs
 | n :: ns => setAtV (cs.set o n) (o + 1) ns
theorem RepL.setAt {S w β cs vs ns us} (h : RepL S w β cs vs) (o : Nat) (k : RepL S w β ns us) : RepL S w β (setAt cs o ns) (setAtV vs o us) := by
 induction ns generalizing cs vs us o with
 | nil => cases k; exact h
 | cons c ns ih => cases k with | cons hv l => exact ih (h.set o hv) (o + 1) l
theorem RepL.flat {S w β cs vs} (h : RepL S w β cs vs) : RepL S w (fun _ => none) (cs.map AV.flat) vs := by
 induction cs generalizing vs with
 | nil => cases h; exact .nil
 | cons c cs ih => cases h with | cons hv l => exact .cons hv.flat (ih l)
theorem RepC.length {S w x vs} (h : RepC S w x vs) : x.cells.length = vs.length := by
 cases h with
 | agg l o => exact l.length
 | one c a o => cases x <;> simp_all [AV.cells,AV.isAgg]
theorem RepC.repL {S w x vs} (h : RepC S w x vs) : RepL S w (fun _ => none) x.cells vs := by
 cases h with
 | agg l o => exact l
 | one c a o => cases x <;> first | (simp [AV.isAgg] at a; done) | exact .cons c .nil
theorem RepC.oc {S w x vs} (h : RepC S w x vs) : ∀ v ∈ vs,oc v = true := by
 cases h with
 | agg l o => exact o
 | one c a o => intro v hv; simp at hv; subst hv; exact o
theorem RepR.length {S w sz xs vs} (h : RepR S w sz xs vs) : vs.length = xs.length * sz := by
 induction xs generalizing vs with
 | nil => cases h; simp
 | cons x xs ih => cases h with
  | cons c e l => simp [ih l,e,Nat.succ_mul,Nat.add_comm]
theorem RepR.oc {S w sz xs vs} (h : RepR S w sz xs vs) : ∀ v ∈ vs,oc v = true := by
 induction xs generalizing vs with
 | nil => cases h; simp
 | cons x xs ih => cases h with
  | cons c e l =>
   intro v hv
   rcases List.mem_append.1 hv with h | h
   ·exact c.oc v h
   ·exact ih l v h
theorem RepR.append {S w sz xs ys vs us} (h : RepR S w sz xs vs) (k : RepR S w sz ys us) : RepR S w sz (xs ++ ys) (vs ++ us) := by
 induction xs generalizing vs with
 | nil => cases h; exact k
 | cons x xs ih => cases h with
  | cons c e l => rw [List.append_assoc]; exact .cons c e (ih l)
theorem drop_app {l r : List Value} {s k : Nat} (e : l.length = s) : (l ++ r).drop (s + k) = r.drop k := by
 subst e; rw [← List.drop_drop,List.drop_left]
theorem take_app {l r : List Value} {s k : Nat} (e : l.length = s) : (l ++ r).take (s + k) = l ++ r.take k := by
 subst e; rw [List.take_length_add_append]
theorem RepR.drop {S w sz xs vs} (h : RepR S w sz xs vs) (n : Nat) : RepR S w sz (xs.drop n) (vs.drop (n * sz)) := by
 induction n generalizing xs vs with
 | zero => simpa using h
 | succ n ih =>
  cases h with
  | nil => simp; exact .nil
  | cons c e l =>
   have : (n + 1) * sz = sz + n * sz := by rw [Nat.succ_mul,Nat.add_comm]
   rw [this,List.drop_succ_cons,drop_app e]
   exact ih l
theorem RepR.take {S w sz xs vs} (h : RepR S w sz xs vs) (n : Nat) : RepR S w sz (xs.take n) (vs.take (n * sz)) := by
 induction n generalizing xs vs with
 | zero => simp; exact .nil
 | succ n ih =>
  cases h with
  | nil => simp; exact .nil
  | cons c e l =>
   have : (n + 1) * sz = sz + n * sz := by rw [Nat.succ_mul,Nat.add_comm]
   rw [this,List.take_succ_cons,take_app e]
   exact .cons c e (ih l)
theorem RepR.get {S w sz xs vs} (h : RepR S w sz xs vs) {i : Nat} {x : AV} (hx : xs[i]? = some x) : RepC S w x ((vs.drop (i * sz)).take sz) ∧ x.cells.length = sz := by
 have h' := (h.drop i)
 have : xs.drop i = x :: xs.drop (i + 1) := by
  obtain ⟨hi,he⟩ := List.getElem?_eq_some_iff.1 hx
  rw [List.drop_eq_getElem_cons hi,he]
 rw [this] at h'
 generalize vs.drop (i * sz) = us at h'
 cases h' with
 | cons c e l =>
  rw [List.take_left' e]
  exact ⟨c,by rw [c.length,e]⟩
theorem Rd.add {S w a vs} (h : Rd S w a vs) (n : Nat) : Rd S w (a.add n) (vs.drop n) := by
 obtain ⟨h1,h2⟩ := h
 unfold Addr.add
 by_cases hn : n = 0
 ·subst hn; exact ⟨by simpa using h1,by simpa using h2⟩
 ·rw [if_neg hn]
  refine ⟨rfl,fun j v hv => ?_⟩
  rw [List.getElem?_drop] at hv
  have := h2 (n + j) v hv
  simpa [Nat.add_assoc] using this
theorem Rd.take {S w a vs} (h : Rd S w a vs) (n : Nat) : Rd S w a (vs.take n) := by
 refine ⟨h.1,fun j v hv => h.2 j v ?_⟩
 rw [List.getElem?_take] at hv
 split at hv
 ·exact hv
 ·cases hv
theorem Rd.nil {S w} {a : Addr} (h : a.spot = none) : Rd S w a [] := ⟨h,fun j v hv => by simp at hv⟩
def RepT (G : Gh) (w : World) (a : AV) (v : Value) : Prop :=
 match a with
 | .sl sz xs (.own k) => ∃ g cap vs,v = .slice (some ⟨g,0,none⟩) xs.length cap ∧ RepR G.S w sz xs vs ∧ Rd G.S w ⟨g,0,none⟩ vs ∧
  G.τ k = some (g,xs.length * sz,cap * sz) ∧ xs.length ≤ cap
 | .sl sz xs (.win k lo) => ∃ g cap vs m c o,v = .slice (some ⟨g,o,none⟩) xs.length cap ∧ RepR G.S w sz xs vs ∧ Rd G.S w ⟨g,o,none⟩ vs ∧
  xs.length ≤ cap ∧ G.τ k = some (g,m,c) ∧ (xs = [] ∨ o = lo * sz ∧ (lo + xs.length) * sz ≤ m)
 | .wp k i e => ∃ g m c u,v = .pointer (some ⟨g,i,none⟩) ∧ RepC G.S w e [u] ∧ oc u = true ∧ Rd G.S w ⟨g,i,none⟩ [u] ∧ G.τ k = some (g,m,c) ∧ i < m
 | a => RepV G.S w G.β a v
theorem RepV.bare {S w β a v} (h : RepV S w (fun _ => none) a v) : RepV S w β a v := h.ext (Ext.refl S w) (fun _ _ h => by cases h)
theorem RepT.of {G w a v} (h : RepV G.S w G.β a v) : RepT G w a v := by
 unfold RepT
 split
 ·cases h
 ·cases h
 ·cases h
 ·exact h
theorem RepT.wp_inv {G w k i e v} (h : RepT G w (.wp k i e) v) : ∃ g m c u,v = .pointer (some ⟨g,i,none⟩) ∧ RepC G.S w e [u] ∧ oc u = true ∧ Rd G.S w ⟨g,i,none⟩ [u] ∧ G.τ k = some (g,m,c) ∧ i < m := by
 unfold RepT at h; exact h
theorem RepT.flat {G w a v} (h : RepT G w a v) : RepV G.S w (fun _ => none) a.flat v := by
 unfold RepT at h
 split at h
 ·obtain ⟨g,cap,vs,rfl,hr,hd,_,hl⟩ := h
  exact .slSh cap hr hd hl
 ·obtain ⟨g,cap,vs,m,c,o,rfl,hr,hd,hl,_⟩ := h
  exact .slSh cap hr hd hl
 ·obtain ⟨g,m,c,u,rfl,hr,_,hd,_⟩ := h
  exact .ro hr hd
 ·exact h.flat
theorem RepT.share {G w a v} (h : RepT G w a v) : RepV G.S w G.β a.share v := by
 unfold RepT at h
 split at h
 ·obtain ⟨g,cap,vs,rfl,hr,hd,_,hl⟩ := h
  exact .slSh cap hr hd hl
 ·obtain ⟨g,cap,vs,m,c,o,rfl,hr,hd,hl,_⟩ := h
  exact .slSh cap hr hd hl
 ·obtain ⟨g,m,c,u,rfl,hr,_,hd,_⟩ := h
  exact .ro hr hd
 ·rename_i hne hnw hnp
  cases a with
  | sl sz xs st => cases st with
   | own k => exact (hne _ _ _ rfl).elim
   | win k lo => exact (hnw _ _ _ _ rfl).elim
   | _ => exact h
  | wp k i e => exact (hnp _ _ _ rfl).elim
  | _ => exact h
theorem RepT.mono {G w G' w' a v} (h : RepT G w a v) (e : Ext G.S w G'.S w') (hβ : ∀ i b,G.β i = some b → G'.β i = some b) (hτ : ∀ k x,G.τ k = some x → G'.τ k = some x) : RepT G' w' a v := by
 unfold RepT at h ⊢
 split
 ·obtain ⟨g,cap,vs,rfl,hr,hd,ht,hl⟩ := h
  exact ⟨g,cap,vs,rfl,hr.ext e,e.reads hd,hτ _ _ ht,hl⟩
 ·obtain ⟨g,cap,vs,m,c,o,rfl,hr,hd,hl,ht,hm⟩ := h
  exact ⟨g,cap,vs,m,c,o,rfl,hr.ext e,e.reads hd,hl,hτ _ _ ht,hm⟩
 ·obtain ⟨g,m,c,u,rfl,hr,ho,hd,ht,hi⟩ := h
  exact ⟨g,m,c,u,rfl,hr.ext e,ho,e.reads hd,hτ _ _ ht,hi⟩
 ·split at h
  ·rename_i hne _ _
   exact (hne _ _ _ rfl).elim
  ·rename_i hnw _
   exact (hnw _ _ _ _ rfl).elim
  ·rename_i hnp
   exact (hnp _ _ _ rfl).elim
  ·exact h.ext e hβ
end Go.Ev
set_option linter.unusedVariables false
namespace Go.Ev
open Go
def Blk (w : World) (b : Nat) (c : List Value) (t : TypeId) : Prop := w.heap[b]? = some (.cells c.toArray t (0,0))
structure Only (b : Nat) (w w' : World) : Prop where
 other : ∀ g,g ≠ b → w'.heap[g]? = w.heap[g]?
 size : w'.heap.size = w.heap.size
 os : w'.os = w.os
 tape : w'.tape = w.tape
 output : w'.output = w.output
theorem Only.refl (b w) : Only b w w := ⟨fun _ _ => rfl,rfl,rfl,rfl,rfl⟩
theorem Only.trans {b w w1 w2} (h : Only b w w1) (k : Only b w1 w2) : Only b w w2 :=
 ⟨fun g hg => (k.other g hg).trans (h.other g hg),k.size.trans h.size,k.os.trans h.os,k.tape.trans h.tape,k.output.trans h.output⟩
theorem cell_of_heap {w w' : World} {b : Nat} (h : w'.heap[b]? = w.heap[b]?) (o : Nat) : w'.cell? ⟨b,o,none⟩ = w.cell? ⟨b,o,none⟩ := by
 simp [World.cell?,h]
theorem Blk.cell {w b c t} (h : Blk w b c t) (o : Nat) : w.cell? ⟨b,o,none⟩ = c[o]? := by
 unfold Blk at h
 simp [World.cell?,h]
theorem Blk.lt {w b c t} (h : Blk w b c t) : b < w.heap.size := by
 unfold Blk at h
 rcases Nat.lt_or_ge b w.heap.size with hl | hl
 ·exact hl
 ·rw [Array.getElem?_eq_none hl] at h; cases h
theorem Blk.frozen {w b c t} (h : Blk w b c t) (o : Nat) : w.frozen? ⟨b,o,none⟩ = false := by
 unfold Blk at h
 simp [World.frozen?,h]
theorem Blk.setCell {w b c t} (h : Blk w b c t) (o : Nat) (v : Value) : Blk (w.setCell ⟨b,o,none⟩ v) b (c.set o v) t ∧ Only b w (w.setCell ⟨b,o,none⟩ v) := by
 unfold Blk at h ⊢
 refine ⟨?_,?_,?_,rfl,rfl,rfl⟩
 ·simp [World.setCell,Array.getElem?_modify,h,List.setIfInBounds_toArray]
 ·intro g hg
  simp [World.setCell,Array.getElem?_modify,Ne.symm hg]
 ·simp [World.setCell]
theorem run_store1 (P : Program) {w : World} {b o : Nat} {c : List Value} {t : TypeId} {v : Value} (h : Blk w b c t) (ho : o < c.length) (hv : oc v = true) (m : Mode) :
  (store ⟨b,o,none⟩ v m).run P w = .ok () (w.setCell ⟨b,o,none⟩ v) := by
 have hc : w.cell? ⟨b,o,none⟩ = some c[o] := by rw [h.cell]; exact List.getElem?_eq_getElem ho
 have hf := h.frozen o
 cases v <;> first | (simp [oc] at hv; done) | simp [store,Sem.run,hc,hf]
theorem add_mk (b o n : Nat) : (Addr.mk b o none).add n = ⟨b,o + n,none⟩ := by
 unfold Addr.add; split
 ·next h => subst h; rfl
 ·rfl
theorem add_spot {a : Addr} (h : a.spot = none) (n : Nat) : a.add n = ⟨a.block,a.off + n,none⟩ := by
 obtain ⟨b,o,s⟩ := a; simp at h; subst h; exact add_mk b o n
theorem run_storeCells (P : Program) {b o : Nat} {t : TypeId} : ∀ (vs : List Value) {w : World} {c : List Value} (i : Nat),Blk w b c t → o + i + vs.length ≤ c.length → (∀ v ∈ vs,oc v = true) →
  ∃ w',(storeCells ⟨b,o,none⟩ vs i).run P w = .ok () w' ∧ Blk w' b (setAtV c (o + i) vs) t ∧ Only b w w'
 | [],w,c,i,h,_,_ => ⟨w,by simp [storeCells],h,Only.refl _ _⟩
 | v :: vs,w,c,i,h,hl,hv => by
  simp at hl
  have h1 := run_store1 P (v := v) h (o := o + i) (by omega) (hv v (by simp)) .plain
  obtain ⟨h2,h3⟩ := h.setCell (o + i) v
  obtain ⟨w',r,hb,ho⟩ := run_storeCells P (o := o) vs (i + 1) h2 (by simp; omega) (fun u hu => hv u (by simp [hu]))
  refine ⟨w',?_,hb,h3.trans ho⟩
  simp only [storeCells,add_mk]
  simp [h1,r]
theorem setAtV_length (vs : List Value) : ∀ (c : List Value) (o : Nat),(setAtV c o vs).length = c.length := by
 induction vs with
 | nil => intro c o; rfl
 | cons v vs ih => intro c o; simp [setAtV,ih]
theorem setAt_length (vs : List AV) : ∀ (c : List AV) (o : Nat),(setAt c o vs).length = c.length := by
 induction vs with
 | nil => intro c o; rfl
 | cons v vs ih => intro c o; simp [setAt,ih]
theorem mem_setAtV {vs : List Value} : ∀ {c : List Value} {o : Nat} {u : Value},u ∈ setAtV c o vs → u ∈ c ∨ u ∈ vs := by
 induction vs with
 | nil => intro c o u h; exact .inl h
 | cons v vs ih =>
  intro c o u h
  rcases ih h with h | h
  ·rcases List.mem_or_eq_of_mem_set h with h | h
   ·exact .inl h
   ·exact .inr (by simp [h])
  ·exact .inr (by simp [h])
theorem run_loadFrom (P : Program) (w : World) (a : Addr) : ∀ (vs : List Value) (i : Nat) (acc : Array Value),(∀ j v,vs[j]? = some v → w.cell? (a.add (i + j)) = some v) →
  (loadCellsFrom a i vs.length acc).run P w = .ok (acc ++ vs.toArray) w
 | [],i,acc,_ => by simp [loadCellsFrom]
 | v :: vs,i,acc,h => by
  have h0 : w.cell? (a.add i) = some v := by simpa using h 0 v rfl
  have ih := run_loadFrom P w a vs (i + 1) (acc.push v) (fun j u hu => by
   have := h (j + 1) u (by simpa using hu)
   rwa [show i + 1 + j = i + (j + 1) by omega])
  have hload : (load (a.add i)).run P w = .ok v w := by simp [load,Sem.run,h0]
  simp only [List.length_cons,loadCellsFrom,Sem.run_bind,hload,Result.andThen_ok,ih]
  simp
theorem run_loadCells (P : Program) {w : World} {a : Addr} {vs : List Value} (h : ∀ j v,vs[j]? = some v → w.cell? (a.add j) = some v) :
  (loadCells a vs.length).run P w = .ok vs.toArray w := by
 have := run_loadFrom P w a vs 0 #[] (fun j v hv => by simpa using h j v hv)
 simpa [loadCells] using this
theorem Rd.cells {S w a vs} (h : Rd S w a vs) : ∀ j v,vs[j]? = some v → w.cell? (a.add j) = some v := fun j v hv => by
 rw [add_spot h.1]; exact (h.2 j v hv).2
theorem run_newRow (P : Program) (w : World) (t : TypeId) (c : Array Value) :
  (newRow t c).run P w = .ok ⟨w.heap.size,0,none⟩ (w.alloc (.cells c t)) := by
 simp [newRow,newObj,Sem.run]
theorem pushed_new (w : World) (c : List Value) (t : TypeId) : Blk (w.alloc (.cells c.toArray t)) w.heap.size c t := by
 unfold Blk World.alloc; simp
theorem pushed_old (w : World) (o : Obj) {b : Nat} (h : b < w.heap.size) : (w.alloc o).heap[b]? = w.heap[b]? := by
 unfold World.alloc; simp only [Array.getElem?_push,if_neg (Nat.ne_of_lt h)]
theorem pushed_size (w : World) (o : Obj) : (w.alloc o).heap.size = w.heap.size + 1 := by unfold World.alloc; simp
def Fro (n : Nat) (w : World) : Prop := ∀ a : Addr,n ≤ a.block → w.frozen? a = false
theorem frozen_heap {w w' : World} {a : Addr} (h : w'.heap[a.block]? = w.heap[a.block]?) : w'.frozen? a = w.frozen? a := by
 unfold World.frozen?; rw [h]
theorem Blk.fro {w b c t} (h : Blk w b c t) {a : Addr} (ha : a.block = b) : w.frozen? a = false := by
 subst ha
 unfold Blk at h
 unfold World.frozen?
 rw [h]; simp
theorem Fro.top {w : World} {n : Nat} (h : w.heap.size ≤ n) : Fro n w := by
 intro a ha
 unfold World.frozen?
 rw [Array.getElem?_eq_none (by omega)]
theorem Fro.alloc {w : World} {n : Nat} (h : Fro n w) (vs : List Value) (t : TypeId) : Fro n (w.alloc (.cells vs.toArray t)) := by
 intro a ha
 by_cases h1 : a.block < w.heap.size
 ·rw [frozen_heap (pushed_old w _ h1)]; exact h a ha
 ·by_cases h2 : a.block = w.heap.size
  ·exact (pushed_new w vs t).fro h2
  ·exact Fro.top (n := w.heap.size + 1) (by rw [pushed_size]; omega) a (by omega)
theorem Fro.only {w w' : World} {n b : Nat} (h : Fro n w) (ho : Only b w w') {us : List Value} {t : TypeId} (hb : Blk w' b us t) : Fro n w' := by
 intro a ha
 by_cases h1 : a.block = b
 ·exact hb.fro h1
 ·rw [frozen_heap (ho.other _ h1)]; exact h a ha
structure Base where
 w0 : World
 S0 : Nat → Nat → Prop
 Wr : Nat → Prop
 β0 : Nat → Option Nat
 ow : Option (Nat × Nat) := none
def Base.New (B : Base) (k : Tag) (g e : Nat) : Prop := B.w0.heap.size ≤ g ∨ (k = [] ∧ ∃ e0,B.ow = some (g,e0) ∧ e0 ≤ e)
structure Base.Ok (B : Base) : Prop where
 lt : ∀ g o,B.S0 g o → g < B.w0.heap.size
 wr : ∀ g o,B.S0 g o → ¬ B.Wr g
 wlt : ∀ g,B.Wr g → g < B.w0.heap.size
 b0 : ∀ i b,B.β0 i = some b → 1000 ≤ i
structure Inv (B : Base) (G : Gh) (w : World) (m : Mem) : Prop where
 size : B.w0.heap.size ≤ w.heap.size
 os : w.os = B.w0.os
 tape : w.tape = B.w0.tape
 output : w.output = B.w0.output
 old : ∀ b,b < B.w0.heap.size → ¬ B.Wr b → (∀ e,B.ow ≠ some (b,e)) → w.heap[b]? = B.w0.heap[b]?
 S0 : ∀ g o,B.S0 g o → G.S g o
 Snew : ∀ g o,G.S g o → B.S0 g o ∨ B.w0.heap.size ≤ g ∨ ∃ e,B.ow = some (g,e) ∧ e ≤ o
 Slt : ∀ g o,G.S g o → g < w.heap.size
 βinj : ∀ i j b,G.β i = some b → G.β j = some b → i = j
 βS : ∀ i b o,G.β i = some b → ¬ G.S b o
 βnew : ∀ i b,G.β i = some b → B.w0.heap.size ≤ b ∨ B.Wr b
 dom : ∀ i,look m i = none → G.β i = none
 mem : ∀ i cs,look m i = some cs → ∃ (b : Nat) (vs : List Value) (t : TypeId),G.β i = some b ∧ Blk w b vs t ∧ cs.length = vs.length ∧ (∀ (j : Nat) c v,cs[j]? = some c → vs[j]? = some v → RepT G w c v) ∧ ∀ v ∈ vs,oc v = true
 τ : ∀ k g e l,G.τ k = some (g,e,l) → B.New k g e ∧ (∀ i,G.β i ≠ some g) ∧ (∃ (vs : List Value) (t : TypeId),Blk w g vs t ∧ l ≤ vs.length) ∧ ∀ o,e ≤ o → ¬ G.S g o
 τinj : ∀ k k' g e l e' l',G.τ k = some (g,e,l) → G.τ k' = some (g,e',l') → k = k'
 β0 : ∀ i b,B.β0 i = some b → G.β i = some b
 fro : Fro B.w0.heap.size w
 owk : ∀ b e,B.ow = some (b,e) → ∃ (us us' : List Value) (t : TypeId),Blk B.w0 b us t ∧ Blk w b us' t ∧ us'.length = us.length ∧ ∀ o,o < e → us'[o]? = us[o]?
 owβ : ∀ b e,B.ow = some (b,e) → ∀ i,G.β i ≠ some b
 owS : ∀ b e o,B.ow = some (b,e) → o < e → B.S0 b o
structure Sim (B : Base) (G : Gh) (s : AS) (a : Act) (w : World) : Prop where
 inv : Inv B G w s.mem
 len : s.tmps.length = a.tmps.size
 tmps : ∀ i,RepT G w (s.tmps.getD i .unk) (a.tmps.getD i undef)
 defers : a.defers = []
theorem Sim.put {B G s a w} (h : Sim B G s a w) (dst : Option Nat) {c : AV} {v : Value} (hv : RepT G w c v) : Sim B G (s.put dst c) (a.put dst v) w := by
 cases dst with
 | none => exact h
 | some d =>
  refine ⟨h.inv,by simp [AS.put,Act.put,h.len],fun i => ?_,h.defers⟩
  simp only [AS.put,Act.put]
  by_cases hd : d < s.tmps.length
  ·by_cases hi : d = i
   ·subst hi
    have h2 : d < a.tmps.size := by rw [← h.len]; exact hd
    simp [List.getD_eq_getElem?_getD,hd,Array.getD_eq_getD_getElem?,h2]
    exact hv
   ·have := h.tmps i
    simpa [List.getD_eq_getElem?_getD,Array.getD_eq_getD_getElem?,List.getElem?_set,Array.getElem?_setIfInBounds,hi] using this
  ·have h2 : ¬ d < a.tmps.size := by rw [← h.len]; exact hd
   have := h.tmps i
   rw [List.set_eq_of_length_le (by omega)]
   have e : a.tmps.setIfInBounds d v = a.tmps := by
    unfold Array.setIfInBounds; rw [dif_neg h2]
   rw [e]; exact this
theorem RepV_tup0 {S w β} : RepV S w β (.tup []) undef := RepV.tup (vs := []) .nil
theorem ofVal_rep {S w β} (v : Value) : RepV S w β (ofVal v) v := by
 unfold ofVal
 split
 ·exact .int _ _
 ·exact .bool _
 ·exact .str _
 ·exact .slNil
 ·exact .nilp
 ·exact .nilfn
 ·exact .niliface
 ·exact .unk _
theorem Sim.opv {B G s a w} (h : Sim B G s a w) (x : Operand) : RepT G w (opv s.tmps x) (a.eval x) := by
 cases x with
 | tmp t => exact h.tmps t
 | const v => exact .of (ofVal_rep v)
 | global g => exact .of (.unk _)
 | func f => exact .of (.fn (vs := []) .nil)
theorem Inv.alloc {B G w m} (h : Inv B G w m) (hB : B.Ok) {d : Nat} (hd : look m d = none) {cs : List AV} {vs : List Value} (t : TypeId)
  (hr : RepL G.S w G.β cs vs) (ho : ∀ v ∈ vs,oc v = true) :
  Inv B { G with β := fun i => if i = d then some w.heap.size else G.β i } (w.alloc (.cells vs.toArray t)) ((d,cs) :: m) ∧
  Ext G.S w G.S (w.alloc (.cells vs.toArray t)) ∧ ∀ i b,G.β i = some b → (if i = d then some w.heap.size else G.β i) = some b := by
 have hd' : G.β d = none := h.dom d hd
 have hβlt : ∀ i b,G.β i = some b → b < w.heap.size := by
  intro i b hb
  cases hl : look m i with
  | none => rw [h.dom i hl] at hb; cases hb
  | some cs =>
   obtain ⟨b',vs',t',h1,h2,_⟩ := h.mem i cs hl
   rw [h1] at hb; cases hb; exact h2.lt
 have hβ : ∀ i b,G.β i = some b → (if i = d then some w.heap.size else G.β i) = some b := by
  intro i b hb
  by_cases hi : i = d
  ·subst hi; rw [hd'] at hb; cases hb
  ·rw [if_neg hi]; exact hb
 have hE : Ext G.S w G.S (w.alloc (.cells vs.toArray t)) :=
  ⟨fun _ _ h => h,fun g o hs => cell_of_heap (pushed_old w _ (h.Slt g o hs)) o⟩
 refine ⟨?_,hE,hβ⟩
 constructor
 ·rw [pushed_size]; have := h.size; omega
 ·exact h.os
 ·exact h.tape
 ·exact h.output
 ·intro b hb hw hne
  rw [pushed_old w _ (by have := h.size; omega)]
  exact h.old b hb hw hne
 ·exact h.S0
 ·exact h.Snew
 ·intro g o hs; rw [pushed_size]; have := h.Slt g o hs; omega
 ·intro i j b hi hj
  simp only at hi hj
  split at hi <;> split at hj
  ·simp_all
  ·cases hi; have := hβlt j _ hj; omega
  ·cases hj; have := hβlt i _ hi; omega
  ·exact h.βinj i j b hi hj
 ·intro i b o hi hs
  simp only at hi
  split at hi
  ·cases hi; have := h.Slt _ _ hs; omega
  ·exact h.βS i b o hi hs
 ·intro i b hi
  simp only at hi
  split at hi
  ·cases hi; exact .inl h.size
  ·exact h.βnew i b hi
 ·intro i hi
  simp only [look] at hi
  split at hi
  ·cases hi
  ·rename_i hne
   simp only
   rw [if_neg (fun e => hne e.symm)]
   exact h.dom i hi
 ·intro i cs' hi
  simp only [look] at hi
  split at hi
  ·rename_i e
   cases hi; subst e
   refine ⟨w.heap.size,vs,t,by simp,pushed_new w vs t,hr.length,fun j c v hc hv => ?_,ho⟩
   obtain ⟨v',h1,h2⟩ := hr.get hc
   rw [h1] at hv; cases hv
   exact .of (h2.ext hE hβ)
  ·rename_i hne
   obtain ⟨b,vs',t',h1,h2,h3,h4,h5⟩ := h.mem i cs' hi
   refine ⟨b,vs',t',hβ _ _ h1,?_,h3,fun j c v hc hv => (h4 j c v hc hv).mono hE hβ fun _ _ h => h,h5⟩
   unfold Blk at h2 ⊢
   rw [pushed_old w _ (Blk.lt h2)]; exact h2
 ·intro k g e l hk
  obtain ⟨h1,h2,⟨vs',t',h3,h4⟩,h5⟩ := h.τ k g e l hk
  refine ⟨h1,fun i hi => ?_,⟨vs',t',?_,h4⟩,h5⟩
  ·simp only at hi
   split at hi
   ·cases hi; have := h3.lt; omega
   ·exact h2 i hi
  ·unfold Blk at h3 ⊢
   rw [pushed_old w _ (Blk.lt h3)]; exact h3
 ·exact h.τinj
 ·exact fun i b hi => hβ i b (h.β0 i b hi)
 ·exact h.fro.alloc vs t
 ·intro b e hb
  obtain ⟨us,us',t',h1,h2,h3,h4⟩ := h.owk b e hb
  refine ⟨us,us',t',h1,?_,h3,h4⟩
  unfold Blk at h2 ⊢
  rw [pushed_old w _ (Blk.lt h2)]; exact h2
 ·intro b e hb i hi
  simp only at hi
  split at hi
  ·cases hi
   obtain ⟨_,_,_,_,h2,_⟩ := h.owk _ e hb
   have := h2.lt; omega
  ·exact h.owβ b e hb i hi
 ·exact h.owS
theorem Sim.mono {B G s a w G' w' m'} (h : Sim B G s a w) (hi : Inv B G' w' m') (e : Ext G.S w G'.S w') (hβ : ∀ i b,G.β i = some b → G'.β i = some b)
  (hτ : ∀ k x,G.τ k = some x → G'.τ k = some x) : Sim B G' { s with mem := m' } a w' :=
 ⟨hi,h.len,fun i => (h.tmps i).mono e hβ hτ,h.defers⟩
theorem look_upd (m : Mem) (i j : Nat) (cs : List AV) : look (upd m i cs) j = if j = i then (look m i).map (fun _ => cs) else look m j := by
 induction m with
 | nil => simp [look,upd]
 | cons p r ih =>
  obtain ⟨k,c⟩ := p
  by_cases hk : k = i
  ·subst hk
   by_cases hj : k = j
   ·subst hj; simp [look,upd]
   ·simp only [upd,if_true,look,if_neg hj,if_neg (Ne.symm hj)]
  ·by_cases hj : k = j
   ·subst hj; simp only [upd,if_neg hk,look,if_true]
   ·simp only [upd,if_neg hk,look,if_neg hj,ih]
theorem Inv.write {B G w m} (h : Inv B G w m) {id b : Nat} {cs ns : List AV} {vs us : List Value} {t : TypeId} {w' : World} (hl : look m id = some cs) (hb : G.β id = some b)
  (hw : Blk w' b us t) (ho : Only b w w') (hn : ns.length = us.length) (hr : ∀ (j : Nat) c v,ns[j]? = some c → us[j]? = some v → RepT G w c v) (hoc : ∀ v ∈ us,oc v = true) :
  Inv B G w' (upd m id ns) ∧ Ext G.S w G.S w' := by
 have hE : Ext G.S w G.S w' := ⟨fun _ _ h => h,fun g o hs => cell_of_heap (ho.other g (fun e => by subst e; exact h.βS id g o hb hs)) o⟩
 refine ⟨?_,hE⟩
 constructor
 ·rw [ho.size]; exact h.size
 ·exact ho.os.trans h.os
 ·exact ho.tape.trans h.tape
 ·exact ho.output.trans h.output
 ·intro g hg hwr how
  have hne : g ≠ b := by
   rintro rfl
   rcases h.βnew id g hb with h1 | h1
   ·omega
   ·exact hwr h1
  rw [ho.other g hne]; exact h.old g hg hwr how
 ·exact h.S0
 ·exact h.Snew
 ·intro g o hs; rw [ho.size]; exact h.Slt g o hs
 ·exact h.βinj
 ·exact h.βS
 ·exact h.βnew
 ·intro i hi
  rw [look_upd] at hi
  split at hi
  ·rename_i e; subst e; rw [hl] at hi; cases hi
  ·exact h.dom i hi
 ·intro i cs' hi
  rw [look_upd] at hi
  split at hi
  ·rename_i e; subst e
   rw [hl] at hi; cases hi
   exact ⟨b,us,t,hb,hw,hn,fun j c v hc hv => (hr j c v hc hv).mono hE (fun _ _ h => h) (fun _ _ h => h),hoc⟩
  ·rename_i hne
   obtain ⟨b',vs',t',h1,h2,h3,h4,h5⟩ := h.mem i cs' hi
   have hbb : b' ≠ b := fun e => hne (h.βinj _ _ _ (e ▸ h1) hb)
   refine ⟨b',vs',t',h1,?_,h3,fun j c v hc hv => (h4 j c v hc hv).mono hE (fun _ _ h => h) (fun _ _ h => h),h5⟩
   unfold Blk at h2 ⊢
   rw [ho.other b' hbb]; exact h2
 ·intro k g e l hk
  obtain ⟨h1,h2,⟨vs',t',h3,h4⟩,h5⟩ := h.τ k g e l hk
  refine ⟨h1,h2,⟨vs',t',?_,h4⟩,h5⟩
  unfold Blk at h3 ⊢
  rw [ho.other g (fun e => h2 id (e ▸ hb))]; exact h3
 ·exact h.τinj
 ·exact h.β0
 ·exact h.fro.only ho hw
 ·intro b' e hb'
  obtain ⟨us',us'',t',h1,h2,h3,h4⟩ := h.owk b' e hb'
  refine ⟨us',us'',t',h1,?_,h3,h4⟩
  unfold Blk at h2 ⊢
  rw [ho.other b' (fun e' => h.owβ b' e hb' id (e' ▸ hb))]; exact h2
 ·exact h.owβ
 ·exact h.owS
end Go.Ev
set_option linter.unusedVariables false
set_option linter.unusedSimpArgs false
namespace Go.Ev
open Go
def tdOf : TypeDesc → TD
 | .int k => .int k
 | .bool => .bool
 | .string => .str
 | .pointer e => .ptr e
 | .slice e => .slice e
 | .array n e => .arr n e
 | .struct fs => .struct (fs.toList.map fun f => (f.offset, f.type, f.name == "_"))
 | _ => .other
structure TyOk1 (P : Program) (t : TypeId) (ti : TI) : Prop where
 und : ∃ d,P.underlying t = some d ∧ tdOf d = ti.td
 info : ∃ i z,P.info? t = some i ∧ i.size = ti.size ∧ i.bytes = ti.bytes ∧ i.zero = some z ∧ z.cells.toList.map ofVal = ti.zero ∧ ∀ v ∈ z.cells.toList,oc v = true
 zlen : ti.zero.length = ti.size
 stood : P.stoodInHeld t = false
 guard : P.eqGuardType P.depth t = false
def TyOk (P : Program) (ty : Tys) : Prop := ∀ t ti,ty t = some ti → TyOk1 P t ti
section
variable {P : Program} {ty : Tys} (hT : TyOk P ty) {t : TypeId} {ti : TI} (h : ty t = some ti)
include hT h
theorem und_slice {e} (hd : ti.td = .slice e) : P.underlying t = some (.slice e) := by
 obtain ⟨d,h1,h2⟩ := (hT t ti h).und
 rw [hd] at h2
 cases d <;> simp [tdOf] at h2
 subst h2; exact h1
theorem und_arr {n e} (hd : ti.td = .arr n e) : P.underlying t = some (.array n e) := by
 obtain ⟨d,h1,h2⟩ := (hT t ti h).und
 rw [hd] at h2
 cases d <;> simp [tdOf] at h2
 obtain ⟨rfl,rfl⟩ := h2; exact h1
theorem und_int {k} (hd : ti.td = .int k) : P.underlying t = some (.int k) := by
 obtain ⟨d,h1,h2⟩ := (hT t ti h).und
 rw [hd] at h2
 cases d <;> simp [tdOf] at h2
 subst h2; exact h1
theorem und_bool (hd : ti.td = .bool) : P.underlying t = some .bool := by
 obtain ⟨d,h1,h2⟩ := (hT t ti h).und
 rw [hd] at h2
 cases d <;> simp [tdOf] at h2
 exact h1
theorem und_str (hd : ti.td = .str) : P.underlying t = some .string := by
 obtain ⟨d,h1,h2⟩ := (hT t ti h).und
 rw [hd] at h2
 cases d <;> simp [tdOf] at h2
 exact h1
theorem und_struct {fs} (hd : ti.td = .struct fs) : ∃ gs, P.underlying t = some (.struct gs) ∧ gs.toList.map (fun f => (f.offset, f.type, f.name == "_")) = fs := by
 obtain ⟨d,h1,h2⟩ := (hT t ti h).und
 rw [hd] at h2
 cases d <;> simp [tdOf] at h2
 exact ⟨_,h1,h2⟩
theorem run_size (w : World) : (sizeOf t).run P w = .ok ti.size w := by
 obtain ⟨i,z,h1,h2,_⟩ := (hT t ti h).info
 simp [sizeOf,typeInfo,h1,h2]
theorem run_isAgg (w : World) : (isAgg t).run P w = .ok ti.td.agg w := by
 obtain ⟨d,h1,h2⟩ := (hT t ti h).und
 rw [← h2]
 cases d <;> simp [isAgg,run_underlying h1,tdOf,TD.agg]
theorem run_zero (w : World) : ∃ z,(zeroValue t).run P w = .ok z w ∧ z.cells.toList.map ofVal = ti.zero ∧ ∀ v ∈ z.cells.toList,oc v = true := by
 obtain ⟨i,z,h1,_,_,h2,h3,h4⟩ := (hT t ti h).info
 exact ⟨z,by simp [zeroValue,typeInfo,h1,h2],h3,h4⟩
theorem run_info (w : World) : ∃ i,(typeInfo t).run P w = .ok i w ∧ i.size = ti.size ∧ i.bytes = ti.bytes := by
 obtain ⟨i,z,h1,h2,h3,_⟩ := (hT t ti h).info
 exact ⟨i,by simp [typeInfo,h1],h2,h3⟩
end
theorem map_ofVal {S w β} (vs : List Value) : RepL S w β (vs.map ofVal) vs := by
 induction vs with
 | nil => exact .nil
 | cons v vs ih => exact .cons (ofVal_rep v) ih
theorem part_ok {P ty} (hT : TyOk P ty) {t ti} (h : ty t = some ti) {S w} {cs : List AV} {vs : List Value} (hr : RepL S w (fun _ => none) cs vs) (ho : ∀ v ∈ vs,oc v = true)
  {off : Nat} {r : AV} (hp : partA ti cs off = some r) : ∃ v,(part t vs.toArray off).run P w = .ok v w ∧ RepV S w (fun _ => none) r v ∧ (r.isAgg = false → oc v = true) := by
 unfold partA at hp
 by_cases ha : ti.td.agg
 ·rw [if_pos ha] at hp
  cases hp
  refine ⟨.agg ((vs.drop off).take ti.size).toArray,?_,?_,by simp [AV.isAgg]⟩
  ·have e : vs.toArray.extract off (off + ti.size) = ((vs.drop off).take ti.size).toArray := by
    simp [List.extract_toArray,List.extract_eq_take_drop]
   unfold part
   simp only [Sem.run_bind,run_isAgg hT h,Result.andThen_ok,ha,if_true,run_size hT h,Sem.run_pure,e]
  ·refine .agg ((hr.drop off).take ti.size) fun v hv => ho v ?_
   exact List.mem_of_mem_drop (List.mem_of_mem_take hv)
 ·rw [if_neg ha] at hp
  obtain ⟨v,h1,h2⟩ := hr.get hp
  refine ⟨v,?_,h2,fun _ => ho v (List.mem_of_getElem? h1)⟩
  unfold part
  simp only [Sem.run_bind,run_isAgg hT h,Result.andThen_ok,ha,if_false,Bool.false_eq_true]
  simp [h1]
theorem toList_mk (l : List UInt8) : (ByteArray.mk l.toArray).toList = l := by
 rw [ByteArray.toList_eq]
theorem eqGo_ok {P ty} (hT : TyOk P ty) {S w} {d : Nat} {D : Nat} (ih : ∀ t x y r xv yv,eqT ty d t x y = some r → RepV S w (fun _ => none) x xv → RepV S w (fun _ => none) y yv → (Op.equalIn D t xv yv).run P w = .ok r w)
  {xs ys : List AV} {xv yv : List Value} (hx : RepL S w (fun _ => none) xs xv) (hy : RepL S w (fun _ => none) ys yv) (ox : ∀ v ∈ xv,oc v = true) (oy : ∀ v ∈ yv,oc v = true) :
  ∀ (gs : List Field) r, eqT.go ty (eqT ty d) xs ys (gs.map fun f => (f.offset, f.type, f.name == "_")) = some r → (Op.eqFields D xv.toArray yv.toArray gs).run P w = .ok r w
 | [],r,h => by simp [eqT.go] at h; subst h; simp [Op.eqFields]
 | f :: gs,r,h => by
  simp only [List.map_cons,eqT.go] at h
  by_cases hb : f.name = "_"
  ·simp [hb] at h
   simp [Op.eqFields,hb]
   exact eqGo_ok hT ih hx hy ox oy gs r (by simpa using h)
  ·have hb' : (f.name == "_") = false := by simpa using hb
   simp only [hb',Bool.false_eq_true,if_false] at h
   cases ht : ty f.type with
   | none => simp [ht] at h
   | some ti =>
    simp only [ht] at h
    cases h1 : partA ti xs f.offset with
    | none => simp [h1] at h
    | some a =>
     cases h2 : partA ti ys f.offset with
     | none => simp [h1,h2] at h
     | some b =>
      simp only [h1,h2] at h
      cases h3 : eqT ty d f.type a b with
      | none => simp [h3] at h
      | some q =>
       simp only [h3] at h
       cases h4 : eqT.go ty (eqT ty d) xs ys (gs.map fun f => (f.offset, f.type, f.name == "_")) with
       | none => simp [h4] at h
       | some q' =>
        simp [h4] at h
        obtain ⟨va,r1,r2,_⟩ := part_ok hT ht hx ox h1
        obtain ⟨vb,r3,r4,_⟩ := part_ok hT ht hy oy h2
        have r5 := ih _ _ _ _ _ _ h3 r2 r4
        have r6 := eqGo_ok hT ih hx hy ox oy gs q' h4
        simp only [Op.eqFields,ne_eq,hb,not_false_eq_true,if_true,Sem.run_bind,r1,r3,r5,Result.andThen_ok]
        cases q
        ·simp at h; subst h; simp
        ·simp at h; subst h; simp [r6]
theorem run_eqArr {P : Program} (w : World) (d : Nat) (e : TypeId) (size : Nat) (xs ys : Array Value) (q : Nat → Bool) : ∀ (l : List Nat),
  (∀ i ∈ l,∃ a b,(part e xs (i * size)).run P w = .ok a w ∧ (part e ys (i * size)).run P w = .ok b w ∧ (Op.equalIn d e a b).run P w = .ok (q i) w) →
  (forIn l ((none : Option Bool),()) fun i (__s : Option Bool × Unit) => do
    let a ← part e xs (i * size)
    let b ← part e ys (i * size)
    let r ← Op.equalIn d e a b
    if (!r) = true then pure (ForInStep.done (some false,())) else pure (ForInStep.yield (none,())) : Sem (Option Bool × Unit)).run P w = .ok (if l.all q then (none,()) else (some false,())) w
 | [],_ => by simp
 | i :: l,h => by
  obtain ⟨a,b,h1,h2,h3⟩ := h i (by simp)
  have ih := run_eqArr w d e size xs ys q l (fun j hj => h j (by simp [hj]))
  simp only [List.forIn_cons,Sem.run_bind,h1,h2,h3,Result.andThen_ok]
  cases hq : q i
  ·simp [hq]
  ·simp only [Bool.not_true,Bool.false_eq_true,if_false,Sem.run_pure,Result.andThen_ok,ih]
   simp [hq]
theorem run_equalIn_array {P : Program} (w : World) (d : Nat) (t e : TypeId) (n size : Nat) (xs ys : Array Value) (ht : P.underlying t = some (.array n e)) (hs : (sizeOf e).run P w = .ok size w)
  (q : Nat → Bool) (hq : ∀ i,i < n → ∃ a b,(part e xs (i * size)).run P w = .ok a w ∧ (part e ys (i * size)).run P w = .ok b w ∧ (Op.equalIn d e a b).run P w = .ok (q i) w) :
  (Op.equalIn (d + 1) t (.agg xs) (.agg ys)).run P w = .ok ((List.range n).all q) w := by
 simp only [Op.equalIn,Sem.run_bind,run_underlying ht,Result.andThen_ok,hs]
 simp only [Std.Legacy.Range.forIn_eq_forIn_range']
 have := run_eqArr w d e size xs ys q (List.range n) (fun i hi => hq i (List.mem_range.1 hi))
 simp only [Std.Legacy.Range.size,Nat.sub_zero,Nat.add_sub_cancel,Nat.div_one,← List.range_eq_range',this,Result.andThen_ok]
 cases (List.range n).all q <;> simp
theorem eqGoA_ok {P ty} (hT : TyOk P ty) {S w} {d : Nat} {D : Nat} (ih : ∀ t x y r xv yv,eqT ty d t x y = some r → RepV S w (fun _ => none) x xv → RepV S w (fun _ => none) y yv → (Op.equalIn D t xv yv).run P w = .ok r w)
  {e : TypeId} {ei : TI} (he : ty e = some ei) {xs ys : List AV} {xv yv : List Value} (hx : RepL S w (fun _ => none) xs xv) (hy : RepL S w (fun _ => none) ys yv) (ox : ∀ v ∈ xv,oc v = true) (oy : ∀ v ∈ yv,oc v = true) :
  ∀ n i r,eqT.goA (eqT ty d) e ei xs ys n i = some r →
   ∃ q : Nat → Bool,(List.range' i n).all q = r ∧ ∀ j,i ≤ j → j < i + n → ∃ a b,(part e xv.toArray (j * ei.size)).run P w = .ok a w ∧ (part e yv.toArray (j * ei.size)).run P w = .ok b w ∧ (Op.equalIn D e a b).run P w = .ok (q j) w
 | 0,i,r,h => by
  simp [eqT.goA] at h
  exact ⟨fun _ => true,by simp [h],fun j h1 h2 => by omega⟩
 | n + 1,i,r,h => by
  simp only [eqT.goA] at h
  cases h1 : partA ei xs (i * ei.size) with
  | none => simp [h1] at h
  | some a =>
   cases h2 : partA ei ys (i * ei.size) with
   | none => simp [h1,h2] at h
   | some b =>
    simp only [h1,h2] at h
    cases h3 : eqT ty d e a b with
    | none => simp [h3] at h
    | some q0 =>
     simp only [h3] at h
     cases h4 : eqT.goA (eqT ty d) e ei xs ys n (i + 1) with
     | none => simp [h4] at h
     | some q' =>
      simp [h4] at h
      obtain ⟨q,hq1,hq2⟩ := eqGoA_ok hT ih he hx hy ox oy n (i + 1) q' h4
      obtain ⟨va,r1,r2,_⟩ := part_ok hT he hx ox h1
      obtain ⟨vb,r3,r4,_⟩ := part_ok hT he hy oy h2
      have r5 := ih _ _ _ _ _ _ h3 r2 r4
      refine ⟨fun j => if j = i then q0 else q j,?_,fun j h5 h6 => ?_⟩
      ·rw [List.range'_succ,List.all_cons,if_pos rfl,← h,← hq1]
       congr 1
       rw [Bool.eq_iff_iff,List.all_eq_true,List.all_eq_true]
       refine forall_congr' fun j => forall_congr' fun hj => ?_
       have : j ≠ i := by have := List.mem_range'_1.1 hj; omega
       simp [this]
      ·by_cases hj : j = i
       ·subst hj; exact ⟨va,vb,r1,r3,by simpa using r5⟩
       ·obtain ⟨a,b,k1,k2,k3⟩ := hq2 j (by omega) (by omega)
        exact ⟨a,b,k1,k2,by simpa [hj] using k3⟩
theorem eqT_ok {P ty} (hT : TyOk P ty) {S w} : ∀ (d : Nat) {D : Nat},d ≤ D → ∀ t x y r xv yv,eqT ty d t x y = some r → RepV S w (fun _ => none) x xv → RepV S w (fun _ => none) y yv →
  (Op.equalIn D t xv yv).run P w = .ok r w
 | 0,_,_,t,x,y,r,xv,yv,h,_,_ => by simp [eqT] at h
 | d + 1,D,hD,t,x,y,r,xv,yv,h,hx,hy => by
  obtain ⟨D,rfl⟩ : ∃ m,D = m + 1 := ⟨D - 1,by omega⟩
  have ih := fun t x y r xv yv => eqT_ok hT (S := S) (w := w) d (D := D) (by omega) t x y r xv yv
  unfold eqT at h
  cases ht : ty t with
  | none => simp [ht] at h
  | some ti =>
   simp only [ht] at h
   split at h
   ·rename_i hd
    cases hx; cases hy
    simp at h; subst h
    exact run_equalIn_bool w D t _ _ (und_bool hT ht hd)
   ·rename_i k hd
    cases hx; cases hy
    split at h
    ·cases h
     rename_i e
     subst e
     exact run_equalIn_int w D t _ _ _ _ (und_int hT ht hd)
    ·cases h
   ·rename_i hd
    cases hx; cases hy
    simp at h; subst h
    rw [run_equalIn_string w D t _ _ (und_str hT ht hd),toList_mk,toList_mk]
   ·rename_i fs xs ys hd
    cases hx with | agg lx ox =>
    cases hy with | agg ly oy =>
    obtain ⟨gs,h1,h2⟩ := und_struct hT ht hd
    have hf : P.fieldsOf t = gs := by simp [Program.fieldsOf,h1]
    rw [run_equalIn_struct w D t _ _ (by rw [hf]; exact h1) (hT t ti ht).stood,hf]
    subst h2
    exact eqGo_ok hT ih lx ly ox oy gs.toList r h
   ·rename_i n e xs ys hd
    cases he : ty e with
    | none => simp [he] at h
    | some ei =>
     simp only [he] at h
     cases hx with | agg lx ox =>
     cases hy with | agg ly oy =>
     obtain ⟨q,hq1,hq2⟩ := eqGoA_ok hT ih he lx ly ox oy n 0 r h
     rw [run_equalIn_array w D t e n ei.size _ _ (und_arr hT ht hd) (run_size hT he w) q (fun i hi => hq2 i (by omega) (by omega)),← hq1,List.range_eq_range']
   ·rename_i hd
    cases h
    cases hx
    cases hy
    simp [Op.equalIn,run_underlying (und_slice hT ht hd)]
   ·rename_i hd
    cases h
    cases hy
    cases hx <;> simp [Op.equalIn,run_underlying (und_slice hT ht hd)]
   ·cases h
end Go.Ev
set_option linter.unusedVariables false
set_option linter.unusedSimpArgs false
namespace Go.Ev
open Go
theorem RepT.int_inv {G w k n v} (h : RepT G w (.int k n) v) : v = .int k n := by
 unfold RepT at h; cases h; rfl
theorem RepT.bool_inv {G w b v} (h : RepT G w (.bool b) v) : v = .bool b := by
 unfold RepT at h; cases h; rfl
theorem RepT.str_inv {G w s v} (h : RepT G w (.str s) v) : v = .string ⟨s.toArray⟩ := by
 unfold RepT at h; cases h; rfl
theorem RepT.agg_inv {G w cs v} (h : RepT G w (.agg cs) v) : ∃ vs : List Value,v = .agg vs.toArray ∧ RepL G.S w (fun _ => none) cs vs ∧ ∀ v ∈ vs,oc v = true := by
 unfold RepT at h; cases h with | agg l o => exact ⟨_,rfl,l,o⟩
theorem RepT.tup_inv {G w cs v} (h : RepT G w (.tup cs) v) : ∃ vs : List Value,v = .tuple vs.toArray ∧ RepL G.S w (fun _ => none) cs vs := by
 unfold RepT at h; cases h with | tup l => exact ⟨_,rfl,l⟩
theorem RepT.ptr_inv {G w id off v} (h : RepT G w (.ptr id off) v) : ∃ b,G.β id = some b ∧ v = .pointer (some ⟨b,off,none⟩) := by
 unfold RepT at h; cases h with | ptr e => exact ⟨_,e,rfl⟩
theorem RepT.view_inv {G w id off n v} (h : RepT G w (.view id off n) v) : ∃ b cap,G.β id = some b ∧ v = .slice (some ⟨b,off,none⟩) n cap ∧ n ≤ cap := by
 unfold RepT at h; cases h with | view cap e l => exact ⟨_,cap,e,rfl,l⟩
theorem RepT.ro_inv {G w e v} (h : RepT G w (.ro e) v) : ∃ a vs,v = .pointer (some a) ∧ RepC G.S w e vs ∧ Rd G.S w a vs := by
 unfold RepT at h; cases h with | ro c r => exact ⟨_,_,rfl,c,r⟩
theorem RepT.fn_inv {G w f cap v} (h : RepT G w (.fn f cap) v) : ∃ vs : List Value,v = .func (.func f) #[] vs.toArray ∧ RepL G.S w G.β cap vs := by
 unfold RepT at h; cases h with | fn l => exact ⟨_,rfl,l⟩
theorem RepT.sl_inv {G w sz xs st v} (h : RepT G w (.sl sz xs st) v) : ∃ a cap,v = .slice a xs.length cap ∧ xs.length ≤ cap ∧ (st = .nil → a = none ∧ xs = [] ∧ cap = 0) ∧ (st = .full → cap = xs.length) ∧
  (st ≠ .nil → (∃ ad vs,a = some ad ∧ RepR G.S w sz xs vs ∧ Rd G.S w ad vs) ∨ (a = none ∧ xs = [] ∧ cap = 0 ∧ (st = .sh ∨ st = .full))) := by
 unfold RepT at h
 split at h
 ·obtain ⟨g,cap,vs,rfl,hr,hd,ht,hl⟩ := h
  rename_i e
  cases e
  exact ⟨_,cap,rfl,hl,by simp,by simp,fun _ => .inl ⟨_,vs,rfl,hr,hd⟩⟩
 ·rename_i e
  cases e
  obtain ⟨g,cap,vs,m,c,o,rfl,hr,hd,hl,_⟩ := h
  exact ⟨_,cap,rfl,hl,by simp,by simp,fun _ => .inl ⟨_,vs,rfl,hr,hd⟩⟩
 ·rename_i e
  cases e
 ·cases h with
  | slNil => exact ⟨none,0,rfl,by simp,fun _ => ⟨rfl,rfl,rfl⟩,by simp,by simp⟩
  | slFull c r => exact ⟨_,_,rfl,Nat.le_refl _,by simp,fun _ => rfl,fun _ => .inl ⟨_,_,rfl,c,r⟩⟩
  | slSh cap c r l => exact ⟨_,cap,rfl,l,by simp,by simp,fun _ => .inl ⟨_,_,rfl,c,r⟩⟩
  | slFullNil => exact ⟨none,0,rfl,by simp,by simp,by simp,fun _ => .inr ⟨rfl,rfl,rfl,.inr rfl⟩⟩
  | slShNil => exact ⟨none,0,rfl,by simp,by simp,by simp,fun _ => .inr ⟨rfl,rfl,rfl,.inl rfl⟩⟩
theorem intOp_ok {op k a b r} (h : intOp op k a b = some r) (t : TypeId) (P : Program) (w : World) {S β} : ∃ v,(binOp op t (.int k a) (.int k b)).run P w = .ok v w ∧ RepV S w β r v := by
 cases op <;> simp [intOp] at h
 case add => subst h; exact ⟨_,by rw [binOp_add]; rfl,.int _ _⟩
 case sub => subst h; exact ⟨_,by rw [binOp_sub]; rfl,.int _ _⟩
 case mul => subst h; exact ⟨_,by rw [binOp_mul]; rfl,.int _ _⟩
 case quo =>
  cases hb : ieq b 0
  ·rw [hb] at h; simp at h; subst h
   have hb' : ¬ b = 0 := by simpa [ieq] using hb
   exact ⟨_,by rw [binOp_quo]; unfold Op.intDiv; rw [if_neg hb']; rfl,.int _ _⟩
  ·rw [hb] at h; simp at h
 case rem =>
  cases hb : ieq b 0
  ·rw [hb] at h; simp at h; subst h
   have hb' : ¬ b = 0 := by simpa [ieq] using hb
   exact ⟨_,by rw [binOp_rem]; unfold Op.intDiv; rw [if_neg hb']; rfl,.int _ _⟩
  ·rw [hb] at h; simp at h
 case and => subst h; exact ⟨_,by rw [binOp_and,ibits_eq]; rfl,.int _ _⟩
 case or => subst h; exact ⟨_,by rw [binOp_or,ibits_eq]; rfl,.int _ _⟩
 case xor => subst h; exact ⟨_,by rw [binOp_xor,ibits_eq]; rfl,.int _ _⟩
 case andNot => subst h; exact ⟨_,by rw [binOp_andNot,ibits_eq]; rfl,.int _ _⟩
 case eql => subst h; exact ⟨_,by rw [binOp_eql]; rfl,.bool _⟩
 case neq => subst h; exact ⟨_,by rw [binOp_neq]; rfl,.bool _⟩
 case lss => subst h; exact ⟨_,by rw [binOp_lss]; rfl,.bool _⟩
 case leq => subst h; exact ⟨_,by rw [binOp_leq]; rfl,.bool _⟩
 case gtr => subst h; exact ⟨_,by rw [binOp_gtr]; rfl,.bool _⟩
 case geq => subst h; exact ⟨_,by rw [binOp_geq]; rfl,.bool _⟩
theorem strOp_ok {op a b r} (h : strOp op a b = some r) (t : TypeId) (P : Program) (w : World) {S β} : ∃ v,(binOp op t (.string ⟨a.toArray⟩) (.string ⟨b.toArray⟩)).run P w = .ok v w ∧ RepV S w β r v := by
 cases op <;> simp [strOp] at h
 case add =>
  cases hb : ile ((a.length : Int) + (b.length : Int)) 9223372036854775807
  ·rw [hb] at h; simp at h
  ·rw [hb] at h; simp at h; subst h
   have hb' : ((a.length : Int) + (b.length : Int)) ≤ 9223372036854775807 := by simpa [ile] using hb
   have hs1 : (ByteArray.mk a.toArray).size = a.length := by simp [ByteArray.size]
   have hs2 : (ByteArray.mk b.toArray).size = b.length := by simp [ByteArray.size]
   have hm : IntKind.i64.max = 9223372036854775807 := by decide
   refine ⟨.string ⟨(a ++ b).toArray⟩,?_,.str _⟩
   have he : (ByteArray.mk a.toArray ++ ByteArray.mk b.toArray) = ByteArray.mk (a ++ b).toArray := by
    ext1; simp
   simp only [binOp,Op.stringOp,hs1,hs2,hm]
   rw [if_neg (by push_cast; omega),he]
   simp
 case eql => subst h; exact ⟨.bool (a == b),by simp [binOp,Op.stringOp,toList_mk],.bool _⟩
 case neq => subst h; exact ⟨.bool (!(a == b)),by simp [binOp,Op.stringOp,toList_mk],.bool _⟩
theorem eq_run {P ty} (hT : TyOk P ty) {S w t x y q va vb} (op : BinOp) (ox oy : Operand) (h : eqT ty 50 t x y = some q) (hx : RepV S w (fun _ => none) x va) (hy : RepV S w (fun _ => none) y vb)
  (hi : ∀ k n k' n',x = .int k n → y = .int k' n' → False) (hs : ∀ a b,x = .str a → y = .str b → False) :
  (eqGuard op t ox oy va vb).run P w = .ok () w ∧ (binOp .eql t va vb).run P w = .ok (.bool q) w ∧ (binOp .neq t va vb).run P w = .ok (.bool (!q)) w := by
 have E := eqT_ok hT 50 (D := 10000) (by omega) _ _ _ _ _ _ h hx hy
 unfold eqT at h
 cases ht : ty t with
 | none => simp [ht] at h
 | some ti =>
  simp only [ht] at h
  split at h
  ·cases hx; cases hy
   exact ⟨by rw [eqGuard_at_bool]; rfl,by simp [binOp,Op.equal,Op.maxDepth,E],by simp [binOp,Op.equal,Op.maxDepth,E]⟩
  ·exact (hi _ _ _ _ rfl rfl).elim
  ·exact (hs _ _ rfl rfl).elim
  ·cases hx; cases hy
   exact ⟨run_eqGuard_agg w op t ox oy _ _ (hT t ti ht).guard,by rw [run_eql_struct,E]; rfl,by rw [run_neq_struct,E]; rfl⟩
  ·cases hx; cases hy
   exact ⟨run_eqGuard_agg w op t ox oy _ _ (hT t ti ht).guard,by rw [run_eql_struct,E]; rfl,by rw [run_neq_struct,E]; rfl⟩
  ·cases hx
   cases hy
   exact ⟨by rw [eqGuard_at_slice]; rfl,by simp [binOp,Op.equal,Op.maxDepth,E],by simp [binOp,Op.equal,Op.maxDepth,E]⟩
  ·cases hy
   cases hx <;> (simp only [List.length_cons] at E) <;> exact ⟨by rw [eqGuard_at_slice]; rfl,by simp [binOp,Op.equal,Op.maxDepth,E],by simp [binOp,Op.equal,Op.maxDepth,E]⟩
  ·cases h
theorem flat_int {a k n} (h : AV.flat a = .int k n) : a = .int k n := by
 cases a <;> simp [AV.flat] at h ⊢
 ·exact h
 ·rename_i st; cases st <;> simp at h
 ·rename_i c; cases c <;> simp at h
theorem flat_str {a s} (h : AV.flat a = .str s) : a = .str s := by
 cases a <;> simp [AV.flat] at h ⊢
 ·exact h
 ·rename_i st; cases st <;> simp at h
 ·rename_i c; cases c <;> simp at h
theorem binA_ok {P ty} (hT : TyOk P ty) {G w op t a b r va vb} (ox oy : Operand) (h : binA ty op t a b = some r) (ha : RepT G w a va) (hb : RepT G w b vb) :
  ∃ v,(do eqGuard op t ox oy va vb; binOp op t va vb : Sem Value).run P w = .ok v w ∧ RepV G.S w (fun _ => none) r v := by
 unfold binA at h
 split at h
 ·have := ha.int_inv; have := hb.int_inv; subst va vb
  rename_i k a yk b
  cases hy : ile 0 b <;> rw [hy] at h <;> simp at h
  subst h
  have hy' : ¬ b < 0 := by
   have : 0 ≤ b := by simpa [ile] using hy
   omega
  exact ⟨_,by rw [eqGuard_at_int,binOp_shl]; simp [Op.shift,hy']; rfl,.int _ _⟩
 ·have := ha.int_inv; have := hb.int_inv; subst va vb
  rename_i k a yk b
  cases hy : ile 0 b <;> rw [hy] at h <;> simp at h
  subst h
  have hy' : ¬ b < 0 := by
   have : 0 ≤ b := by simpa [ile] using hy
   omega
  exact ⟨_,by rw [eqGuard_at_int,binOp_shr]; simp [Op.shift,hy']; rfl,.int _ _⟩
 ·have := ha.int_inv; have := hb.int_inv; subst va vb
  split at h
  ·rename_i e; subst e
   obtain ⟨v,h1,h2⟩ := intOp_ok h t P w (S := G.S) (β := fun _ => none)
   exact ⟨v,by rw [eqGuard_at_int]; simpa using h1,h2⟩
  ·cases h
 ·have := ha.str_inv; have := hb.str_inv; subst va vb
  obtain ⟨v,h1,h2⟩ := strOp_ok h t P w (S := G.S) (β := fun _ => none)
  exact ⟨v,by rw [eqGuard_at_string]; simpa using h1,h2⟩
 ·rename_i hni hns
  simp only [Option.map_eq_some_iff] at h
  obtain ⟨q,h,rfl⟩ := h
  obtain ⟨h1,h2,h3⟩ := eq_run hT .eql ox oy h ha.flat hb.flat (fun k n k' n' e1 e2 => hni _ _ _ _ (flat_int e1) (flat_int e2)) (fun a b e1 e2 => hns _ _ (flat_str e1) (flat_str e2))
  exact ⟨_,by simp [h1,h2],.bool _⟩
 ·rename_i hni hns
  simp only [Option.map_eq_some_iff] at h
  obtain ⟨q,h,rfl⟩ := h
  obtain ⟨h1,h2,h3⟩ := eq_run hT .neq ox oy h ha.flat hb.flat (fun k n k' n' e1 e2 => hni _ _ _ _ (flat_int e1) (flat_int e2)) (fun a b e1 e2 => hns _ _ (flat_str e1) (flat_str e2))
  exact ⟨_,by simp [h1,h3],.bool _⟩
 ·cases h
end Go.Ev
set_option linter.unusedVariables false
set_option linter.unusedSimpArgs false
namespace Go.Ev
open Go
theorem fits_size {ti : TI} {v : AV} (h : fits ti v = true) : v.cells.length = ti.size ∧ v.isAgg = ti.td.agg ∧ v.isTup = false ∧ v.known = true := by
 cases v <;> simp [fits,AV.cells,AV.isAgg,AV.isTup,AV.known] at h ⊢ <;> (obtain ⟨h1,h2⟩ := h; simp [h1,h2])
theorem setAt_fold (new : List Value) : ∀ (cs : List Value) (off k : Nat),(new.zipIdx k).foldl (fun (a : Array Value) (p : Value × Nat) => a.setIfInBounds (off + p.2) p.1) cs.toArray = (setAtV cs (off + k) new).toArray := by
 induction new with
 | nil => intro cs off k; rfl
 | cons v new ih =>
  intro cs off k
  simp only [List.zipIdx_cons,List.foldl_cons,List.setIfInBounds_toArray,setAtV]
  rw [ih (cs.set (off + k) v) off (k + 1)]
  rfl
theorem fill_ok {S w} (place : Nat → Option (Nat × Nat)) : ∀ (parts : List (Nat × AV)) (pv : List (Nat × Value)) {cs : List AV} {vs : List Value} {r : List AV},
   parts.length = pv.length → (∀ (i : Nat) p q,parts[i]? = some p → pv[i]? = some q → p.1 = q.1 ∧ RepV S w (fun _ => none) p.2 q.2) → RepL S w (fun _ => none) cs vs → (∀ v ∈ vs,oc v = true) →
   fillA place cs parts = some r → ∃ us : List Value,Instr.fill place vs.toArray pv = some us.toArray ∧ RepL S w (fun _ => none) r us ∧ ∀ v ∈ us,oc v = true
 | [],pv,cs,vs,r,hl,_,hr,ho,h => by
   simp [fillA] at h; subst h
   cases pv with
   | nil => exact ⟨vs,rfl,hr,ho⟩
   | cons q pv => simp at hl
 | (i,c) :: parts,pv,cs,vs,r,hl,hp,hr,ho,h => by
   cases pv with
   | nil => simp at hl
   | cons q pv =>
     obtain ⟨i',u⟩ := q
     obtain ⟨he,hc⟩ := hp 0 _ _ rfl rfl
     simp at he; subst he
     simp only [fillA] at h
     cases hpl : place i with
     | none => simp [hpl] at h
     | some os =>
      obtain ⟨off,size⟩ := os
      simp only [hpl] at h
      cases hb : (c.known && !c.isTup && c.cells.length == size && Nat.ble (off + size) cs.length)
      ·rw [hb] at h; simp at h
      ·rw [hb] at h; simp only [cond_true] at h
       simp only [Bool.and_eq_true,beq_iff_eq,Nat.ble_eq,Bool.not_eq_true'] at hb
       obtain ⟨⟨⟨hk,ht⟩,hs⟩,hle⟩ := hb
       have hcells : ∃ us : List Value,u.cells = us.toArray ∧ RepL S w (fun _ => none) c.cells us ∧ ∀ v ∈ us,oc v = true := by
        cases hc with
        | agg l o => exact ⟨_,rfl,l,o⟩
        | unk _ => simp [AV.known] at hk
        | tup _ => simp [AV.isTup] at ht
        | int k n => exact ⟨[_],rfl,.cons (.int k n) .nil,by simp [oc]⟩
        | bool b => exact ⟨[_],rfl,.cons (.bool b) .nil,by simp [oc]⟩
        | str s => exact ⟨[_],rfl,.cons (.str s) .nil,by simp [oc]⟩
        | ptr e => cases e
        | nilp => exact ⟨[_],rfl,.cons .nilp .nil,by simp [oc]⟩
        | ro c r => exact ⟨[_],rfl,.cons (.ro c r) .nil,by simp [oc]⟩
        | slNil => exact ⟨[_],rfl,.cons .slNil .nil,by simp [oc]⟩
        | slFull c r => exact ⟨[_],rfl,.cons (.slFull c r) .nil,by simp [oc]⟩
        | slSh cap c r l => exact ⟨[_],rfl,.cons (.slSh cap c r l) .nil,by simp [oc]⟩
        | slFullNil => exact ⟨[_],rfl,.cons .slFullNil .nil,by simp [oc]⟩
        | slShNil => exact ⟨[_],rfl,.cons .slShNil .nil,by simp [oc]⟩
        | view cap e l => cases e
        | fn l => exact ⟨[_],rfl,.cons (.fn l) .nil,by simp [oc]⟩
        | niliface => exact ⟨[_],rfl,.cons .niliface .nil,by simp [oc]⟩
        | nilfn => exact ⟨[_],rfl,.cons .nilfn .nil,by simp [oc]⟩
       obtain ⟨us,hu,hus,hou⟩ := hcells
       obtain ⟨us',h1,h2,h3⟩ := fill_ok place parts pv (by simpa using hl) (fun j p q h1 h2 => hp (j + 1) p q (by simpa using h1) (by simpa using h2))
        (hr.setAt off hus) (fun v hv => (mem_setAtV hv).elim (ho v) (hou v)) h
       refine ⟨us',?_,h2,h3⟩
       simp only [Instr.fill,hpl,hu]
       have e1 : us.toArray.size = size := by simp [← hus.length,hs]
       have e2 : vs.toArray.size = cs.length := by simp [hr.length]
       rw [if_neg (by simp [e1,e2]; omega)]
       have := setAt_fold us vs off 0
       simp only [Nat.add_zero] at this
       rw [← h1]
       congr 1
       rw [← Array.foldl_toList,Array.toList_zipIdx]
       exact this
theorem run_mapM {α β : Type} {P : Program} {w : World} (f : α → Sem β) (g : α → β) : ∀ (l : List α),(∀ x ∈ l,(f x).run P w = .ok (g x) w) → (l.mapM f).run P w = .ok (l.map g) w
 | [],_ => by simp
 | x :: l,h => by
  have h1 := h x (by simp)
  have h2 := run_mapM f g l (fun y hy => h y (by simp [hy]))
  simp [List.mapM_cons,h1,h2]
theorem run_mapMA {α β : Type} {P : Program} {w : World} (f : α → Sem β) (g : α → β) (a : Array α) (h : ∀ x ∈ a.toList,(f x).run P w = .ok (g x) w) : (a.mapM f).run P w = .ok (a.toList.map g).toArray w := by
 obtain ⟨l⟩ := a
 rw [List.mapM_toArray]
 simp [run_mapM f g l h]
theorem parts_ok {G w} {ρ : Operand → AV} {ρc : Operand → Value} (hρ : ∀ x,RepT G w (ρ x) (ρc x)) (parts : Array (Nat × Operand)) :
  (parts.toList.map fun p => (p.1,(ρ p.2).flat)).length = ((parts.map fun p => (p.1,ρc p.2)).toList).length ∧
  ∀ (i : Nat) p q,(parts.toList.map fun p => (p.1,(ρ p.2).flat))[i]? = some p → ((parts.map fun p => (p.1,ρc p.2)).toList)[i]? = some q → p.1 = q.1 ∧ RepV G.S w (fun _ => none) p.2 q.2 := by
 refine ⟨by simp,fun i p q h1 h2 => ?_⟩
 simp only [Array.toList_map,List.getElem?_map,Option.map_eq_some_iff] at h1 h2
 obtain ⟨a,h1,rfl⟩ := h1
 obtain ⟨b,h2,rfl⟩ := h2
 rw [h1] at h2; cases h2
 exact ⟨rfl,(hρ _).flat⟩
theorem build_ok {P ty} (hT : TyOk P ty) {G w} {ρ : Operand → AV} {ρc : Operand → Value} (hρ : ∀ x,RepT G w (ρ x) (ρc x)) {t : TypeId} {parts : Array (Nat × Operand)} {r : AV}
  (h : evPure ty ρ (.build t parts) = some r) : ∃ v,(Instr.build t (parts.map fun p => (p.1,ρc p.2))).run P w = .ok v w ∧ RepT G w r v := by
 simp only [evPure] at h
 cases ht : ty t with
 | none => simp [ht] at h
 | some ti =>
  simp only [ht] at h
  obtain ⟨z,hz,hz1,hz2⟩ := run_zero hT ht w
  have hzr : RepL G.S w (fun _ => none) ti.zero z.cells.toList := by rw [← hz1]; exact map_ofVal _
  obtain ⟨hp1,hp2⟩ := parts_ok hρ parts
  split at h
  ·rename_i fs hd
   obtain ⟨gs,h1,h2⟩ := und_struct hT ht hd
   cases hall0 : fs.all (fun f => (ty f.2.1).isSome) <;> simp only [hall0,cond_true,cond_false] at h
   ·cases h
   simp only [Option.map_eq_some_iff] at h
   obtain ⟨cs,h,rfl⟩ := h
   have hall : ∀ f ∈ gs.toList,∃ fi,ty f.type = some fi := by
    intro f hf
    subst h2
    have := List.all_eq_true.1 hall0 _ (List.mem_map_of_mem hf)
    exact Option.isSome_iff_exists.1 this
   have hsz : ∀ f : Field,∀ fi,ty f.type = some fi → (sizeOf f.type).run P w = .ok fi.size w := fun f fi hf => run_size hT hf w
   ·have hrun := run_mapMA (P := P) (w := w) (fun f : Field => do let s ← sizeOf f.type; pure (f.offset,s)) (fun f => (f.offset,((ty f.type).map TI.size).getD 0)) gs (fun f hf => by
     obtain ⟨fi,hfi⟩ := hall f hf
     simp [hsz f fi hfi,hfi])
    have hplace : structPlace ty fs = fun i => ((gs.toList.map fun f => (f.offset,((ty f.type).map TI.size).getD 0)).toArray)[i]? := by
     funext i
     rw [← h2]
     simp only [structPlace,List.getElem?_map,List.getElem?_toArray]
     cases hg : gs.toList[i]? with
     | none => simp
     | some f =>
      obtain ⟨fi,hfi⟩ := hall f (List.mem_of_getElem? hg)
      simp [hfi]
    rw [hplace] at h
    obtain ⟨us,hu1,hu2,hu3⟩ := fill_ok _ _ _ hp1 hp2 hzr hz2 h
    refine ⟨.agg us.toArray,?_,.of (.agg hu2 hu3)⟩
    simp only [Instr.build,Sem.run_bind,hz,Result.andThen_ok,run_underlying h1,hrun]
    simp only [Array.toArray_toList] at hu1
    rw [hu1]
    simp
  ·rename_i n e hd
   cases he : ty e with
   | none => simp [he] at h
   | some ei =>
    simp only [he,Option.map_eq_some_iff] at h
    obtain ⟨cs,h,rfl⟩ := h
    obtain ⟨us,hu1,hu2,hu3⟩ := fill_ok _ _ _ hp1 hp2 hzr hz2 h
    refine ⟨.agg us.toArray,?_,.of (.agg hu2 hu3)⟩
    simp only [Instr.build,Sem.run_bind,hz,Result.andThen_ok,run_underlying (und_arr hT ht hd),run_size hT he]
    simp only [Array.toArray_toList] at hu1
    rw [hu1]
    simp
  ·cases h
theorem fieldOf_ok {P ty} (hT : TyOk P ty) {t f off fi} (h : fieldOf ty t f = some (off,fi)) : ∃ (gs : Array Field) (g : Field),P.underlying t = some (.struct gs) ∧ gs[f]? = some g ∧ g.offset = off ∧ ty g.type = some fi := by
 unfold fieldOf at h
 cases ht : ty t with
 | none => simp [ht] at h
 | some ti =>
  simp only [ht] at h
  split at h
  ·rename_i fs hd
   obtain ⟨gs,h1,h2⟩ := und_struct hT ht hd
   subst h2
   cases hg : gs.toList[f]? with
   | none => simp [List.getElem?_map,hg] at h
   | some g =>
    simp [List.getElem?_map,hg] at h
    obtain ⟨h3,h4⟩ := h
    exact ⟨gs,g,h1,by simpa using hg,h4,h3⟩
  ·cases h
theorem elemOf_ok {P ty} (hT : TyOk P ty) {t ei} (h : elemOf ty t = some ei) : (isSlice ty t = true → ∃ e,P.underlying t = some (.slice e) ∧ ty e = some ei) ∧ (∀ n,arrLen ty t = some n → ∃ e,P.underlying t = some (.array n e) ∧ ty e = some ei) := by
 unfold elemOf at h
 unfold isSlice arrLen
 cases ht : ty t with
 | none => simp [ht] at h
 | some ti =>
  simp only [ht] at h ⊢
  split at h
  ·rename_i e hd
   simp only [hd]
   exact ⟨fun _ => ⟨e,und_slice hT ht hd,h⟩,fun n hn => by simp at hn⟩
  ·rename_i n e hd
   simp only [hd]
   exact ⟨fun h => by simp at h,fun m hm => by simp at hm; subst hm; exact ⟨e,und_arr hT ht hd,h⟩⟩
  ·cases h
theorem idx_ok {xs : List AV} {i : Int} {e : AV} (h : idx xs i = some e) : 0 ≤ i ∧ i < xs.length ∧ xs[i.toNat]? = some e := by
 unfold idx at h
 split at h
 ·rename_i h0
  have := (List.getElem?_eq_some_iff.1 h).1
  exact ⟨h0,by omega,h⟩
 ·cases h
theorem inR_ok {i : Int} {n : Nat} (h : inR i n = true) : 0 ≤ i ∧ i < n := by simpa [inR] using h
theorem part_ro {P ty} (hT : TyOk P ty) {t ti} (ht : ty t = some ti) {S w a cs vs off v} (hl : RepL S w (fun _ => none) cs vs) (ho : ∀ v ∈ vs,oc v = true) (hd : Rd S w a vs)
  (hp : partA ti cs off = some v) (hq : fits ti v = true) {β} : RepV S w β (.ro v) (.pointer (some (a.add off))) := by
 by_cases hagg : ti.td.agg
 ·simp [partA,hagg] at hp
  subst hp
  exact .ro (vs := (vs.drop off).take ti.size) (.agg ((hl.drop _).take _) fun v hv => ho v (List.mem_of_mem_drop (List.mem_of_mem_take hv))) ((hd.add _).take _)
 ·simp [partA,hagg] at hp
  obtain ⟨u',hu',hr'⟩ := hl.get hp
  refine .ro (vs := [u']) (.one hr' ?_ (ho _ (List.mem_of_getElem? hu'))) ?_
  ·rw [(fits_size hq).2.1]; simpa using hagg
  ·have := (hd.add off).take 1
   have e : (vs.drop off).take 1 = [u'] := by
    obtain ⟨hlt,he⟩ := List.getElem?_eq_some_iff.1 hu'
    rw [List.drop_eq_getElem_cons hlt,he]; rfl
   rwa [e] at this
theorem fieldAddr_ok {P ty} (hT : TyOk P ty) {G w t x f r xv} (hx : RepT G w x xv) (h : fieldAddrA ty t x f = some r) : ∃ v,(Instr.fieldAt t xv f).run P w = .ok v w ∧ RepT G w r v := by
 unfold fieldAddrA at h
 cases hf : fieldOf ty t f with
 | none => simp [hf] at h
 | some p =>
 obtain ⟨off,fi⟩ := p
 simp only [hf] at h
 obtain ⟨gs,g,h1,h2,rfl,h4⟩ := fieldOf_ok hT hf
 cases hz : fi.size == 0 <;> rw [hz] at h <;> simp only [cond_true,cond_false] at h
 case true => cases h
 have hz' : ¬ fi.size = 0 := by simpa using hz
 split at h
 ·rename_i id o
  cases h
  obtain ⟨b,hb,rfl⟩ := hx.ptr_inv
  refine ⟨.pointer (some ((Addr.mk b o none).add g.offset)),?_,?_⟩
  ·simp [Instr.fieldAt,run_underlying h1,h2,Instr.sureAddr,fieldPlace,run_size hT h4,hz']
  ·rw [add_mk]; exact .of (.ptr hb)
 ·rw [Option.bind_eq_some_iff] at h
  obtain ⟨v,hv,h⟩ := h
  cases hq : fits fi v <;> rw [hq] at h <;> simp at h
  subst h
  obtain ⟨a,vs,rfl,hc,hd⟩ := hx.ro_inv
  cases hc with
  | one c ha ho => simp [AV.isAgg] at ha
  | agg hl ho =>
  refine ⟨.pointer (some (a.add g.offset)),?_,?_⟩
  ·simp [Instr.fieldAt,run_underlying h1,h2,Instr.sureAddr,fieldPlace,run_size hT h4,hz']
  ·exact .of (part_ro hT h4 hl ho hd hv hq)
 ·cases h
theorem field_ok {P ty} (hT : TyOk P ty) {G w t x f r xv} (hx : RepT G w x xv) (h : fieldA ty t x f = some r) : ∃ v,(Instr.field t xv f).run P w = .ok v w ∧ RepT G w r v := by
 unfold fieldA at h
 cases hf : fieldOf ty t f with
 | none => simp [hf] at h
 | some p =>
 obtain ⟨off,fi⟩ := p
 simp only [hf] at h
 obtain ⟨gs,g,h1,h2,rfl,h4⟩ := fieldOf_ok hT hf
 split at h
 ·rw [Option.bind_eq_some_iff] at h
  obtain ⟨v,hv,h⟩ := h
  cases hq : fits fi v <;> rw [hq] at h <;> simp at h
  subst h
  obtain ⟨vs,rfl,hl,ho⟩ := hx.agg_inv
  obtain ⟨u,hu,hr,_⟩ := part_ok hT h4 hl ho hv
  exact ⟨u,by simp [Instr.field,run_underlying h1,h2,asAgg,hu],.of hr.bare⟩
 ·cases h
theorem indexAddr_ok {P ty} (hT : TyOk P ty) {G w t x i r xv iv} (hx : RepT G w x xv) (hi : RepT G w i iv) (h : indexAddrA ty t x i = some r) : ∃ v,(Instr.indexAt t xv iv).run P w = .ok v w ∧ RepT G w r v := by
 unfold indexAddrA at h
 cases he : elemOf ty t with
 | none => simp [he] at h
 | some ei =>
 simp only [he] at h
 obtain ⟨hs,hal⟩ := elemOf_ok hT he
 split at h
 ·rename_i k i
  have := hi.int_inv; subst iv
  split at h
  ·rename_i sz xs st
   cases hb : (isSlice ty t && sz == ei.size) <;> rw [hb] at h <;> simp at h
   obtain ⟨e,hidx,rfl⟩ := h
   simp at hb
   obtain ⟨hb1,rfl⟩ := hb
   obtain ⟨et,hu,hte⟩ := hs hb1
   obtain ⟨h0,h1,h2⟩ := idx_ok hidx
   obtain ⟨a,cap,rfl,hle,hn,hf,hr⟩ := hx.sl_inv
   have hne : st ≠ .nil := fun e => by
    have := (hn e).2.1; subst this; simp at h2
   obtain ⟨ad,vs,rfl,hrr,hd⟩ : ∃ ad vs,a = some ad ∧ RepR G.S w ei.size xs vs ∧ Rd G.S w ad vs := by
    rcases hr hne with h | ⟨_,h,_⟩
    ·exact h
    ·subst h; simp at h2
   have ce : P.elem t = et := by simp [Program.elem,hu]
   refine ⟨_,by
    rw [run_indexAt_slice w t ad xs.length cap k i (by rw [ce]; exact hu),if_pos ⟨h0,h1⟩,ce,run_size hT hte]
    rfl,?_⟩
   obtain ⟨hc,hcl⟩ := hrr.get h2
   have base : RepV G.S w (fun _ => none) (.ro e) (.pointer (some (ad.add (i.toNat * ei.size)))) := .ro hc ((hd.add _).take _)
   have one : ei.size = 1 → ∃ u,RepC G.S w e [u] ∧ oc u = true ∧ Rd G.S w (ad.add (i.toNat * ei.size)) [u] := by
    intro hz
    have hl := hc.length
    rw [hcl] at hl
    have hd' := (hd.add (i.toNat * ei.size)).take ei.size
    generalize (vs.drop (i.toNat * ei.size)).take ei.size = us at hc hl hd'
    obtain ⟨u,rfl⟩ : ∃ u,us = [u] := by
     match us with
     | [u] => exact ⟨u,rfl⟩
     | [] => simp [hz] at hl
     | _ :: _ :: _ => simp [hz] at hl
    exact ⟨u,hc,hc.oc u (by simp),hd'⟩
   cases st with
   | own k =>
    simp only [elemPtr]
    cases hz : ei.size == 1 <;> simp only [cond_true,cond_false]
    ·exact .of base.bare
    ·have hz : ei.size = 1 := by simpa using hz
     unfold RepT at hx
     obtain ⟨g,cap',vs',e1,_,_,ht,_⟩ := hx
     cases e1
     obtain ⟨u,hcu,hou,hdu⟩ := one hz
     unfold RepT
     exact ⟨g,_,_,u,by rw [add_mk,hz,Nat.mul_one,Nat.zero_add],hcu,hou,by rw [add_mk,hz,Nat.mul_one,Nat.zero_add] at hdu; exact hdu,ht,by rw [hz]; omega⟩
   | win k lo =>
    simp only [elemPtr]
    cases hz : ei.size == 1 <;> simp only [cond_true,cond_false]
    ·exact .of base.bare
    ·have hz : ei.size = 1 := by simpa using hz
     unfold RepT at hx
     obtain ⟨g,cap',vs',m,c,o,e1,_,_,_,ht,hm⟩ := hx
     cases e1
     rcases hm with hm | ⟨hm1,hm2⟩
     ·subst hm; simp at h2
     obtain ⟨u,hcu,hou,hdu⟩ := one hz
     unfold RepT
     exact ⟨g,_,_,u,by rw [add_mk,hz,Nat.mul_one,hm1,hz,Nat.mul_one],hcu,hou,by rw [add_mk,hz,Nat.mul_one,hm1,hz,Nat.mul_one] at hdu; exact hdu,ht,by rw [hz] at hm2; omega⟩
   | _ => exact .of base.bare
  ·rename_i id off n
   cases hb : (isSlice ty t && inR i n) <;> rw [hb] at h <;> simp at h
   subst h
   simp at hb
   obtain ⟨hb1,hb2⟩ := hb
   obtain ⟨et,hu,hte⟩ := hs hb1
   obtain ⟨h0,h1⟩ := inR_ok hb2
   obtain ⟨b,cap,hβ,rfl,hle⟩ := hx.view_inv
   have ce : P.elem t = et := by simp [Program.elem,hu]
   refine ⟨_,by
    rw [run_indexAt_slice w t _ n cap k i (by rw [ce]; exact hu),if_pos ⟨h0,h1⟩,ce,run_size hT hte]
    rfl,?_⟩
   rw [add_mk]; exact .of (.ptr hβ)
  ·rename_i id off
   split at h
   ·rename_i n hn
    cases hb : inR i n <;> rw [hb] at h <;> simp at h
    subst h
    obtain ⟨h0,h1⟩ := inR_ok hb
    obtain ⟨et,hu,hte⟩ := hal n hn
    obtain ⟨b,hβ,rfl⟩ := hx.ptr_inv
    have ce : P.elem t = et := by simp [Program.elem,hu]
    have cl : P.arrayLen t = n := by simp [Program.arrayLen,hu]
    refine ⟨_,by
     rw [run_indexAt_array w t _ k i (by rw [ce,cl]; exact hu),cl,if_pos ⟨h0,h1⟩,ce,run_size hT hte]
     rfl,?_⟩
    rw [add_mk]; exact .of (.ptr hβ)
   ·cases h
  ·rename_i cs
   split at h
   ·rename_i n hn
    cases hb : inR i n <;> rw [hb] at h <;> simp only [cond_true,cond_false] at h
    ·cases h
    rw [Option.bind_eq_some_iff] at h
    obtain ⟨v,hv,h⟩ := h
    cases hq : fits ei v <;> rw [hq] at h <;> simp at h
    subst h
    obtain ⟨h0,h1⟩ := inR_ok hb
    obtain ⟨et,hu,hte⟩ := hal n hn
    obtain ⟨a,vs,rfl,hc,hd⟩ := hx.ro_inv
    have ce : P.elem t = et := by simp [Program.elem,hu]
    have cl : P.arrayLen t = n := by simp [Program.arrayLen,hu]
    cases hc with
    | one c ha ho => simp [AV.isAgg] at ha
    | agg hl ho =>
    refine ⟨_,by
     rw [run_indexAt_array w t _ k i (by rw [ce,cl]; exact hu),cl,if_pos ⟨h0,h1⟩,ce,run_size hT hte]
     rfl,?_⟩
    exact .of (part_ro hT hte hl ho hd hv hq)
   ·cases h
  ·cases h
 ·cases h
theorem RepR.ints {S w} (k : IntKind) : ∀ {xs : List AV} {vs : List Value},RepR S w 1 xs vs → xs.all (isIntK k) = true → RepL S w (fun _ => none) xs vs ∧ ∀ v ∈ vs,Ev.oc v = true
 | _,_,.nil,_ => ⟨.nil,by simp⟩
 | x :: xs,_,.cons (vs := us) hc hl hr,h => by
  simp only [List.all_cons,Bool.and_eq_true] at h
  obtain ⟨h1,h2⟩ := RepR.ints k hr h.2
  cases x <;> try (cases h.1; done)
  cases hc with
  | one hv ha ho =>
   refine ⟨.cons hv h1,fun v hv => ?_⟩
   rcases List.mem_append.1 hv with hv | hv
   ·simp only [List.mem_singleton] at hv; rw [hv]; exact ho
   ·exact h2 v hv
theorem RepR.take1 {S w} : ∀ {xs : List AV} {vs : List Value} (n : Nat),RepR S w 1 xs vs → RepR S w 1 (xs.take n) (vs.take n)
 | _,_,n,.nil => by simp; exact .nil
 | x :: xs,_,0,.cons hc hl hr => .nil
 | x :: xs,_,n + 1,.cons (vs := us) hc hl hr => by
  have : ∃ u,us = [u] := by
   match us,hl with
   | [u],_ => exact ⟨u,rfl⟩
  obtain ⟨u,rfl⟩ := this
  simp only [List.take_succ_cons,List.cons_append,List.nil_append]
  exact .cons (vs := [u]) hc rfl (RepR.take1 n hr)
theorem arrPtr_ok {P ty} (hT : TyOk P ty) {G w t x r xv} (hx : RepT G w x xv) (h : arrPtrA ty t x = some r) : ∃ v,(Instr.arrayAt t xv).run P w = .ok v w ∧ RepT G w r v := by
 unfold arrPtrA at h
 cases hn : arrLen ty t with
 | none => simp [hn] at h
 | some n =>
 cases he : elemOf ty t with
 | none => simp [hn,he] at h
 | some ei =>
 obtain ⟨hs,hal⟩ := elemOf_ok hT he
 obtain ⟨et,hu,hte⟩ := hal n hn
 cases x <;> (try (simp [hn,he] at h; done))
 rename_i sz xs st
 simp only [hn,he] at h
 cases htd : ei.td <;> simp only [htd] at h <;> (try (cases h; done))
 rename_i k
 cases hb : ((sz == 1 && Nat.blt 0 n) && (Nat.ble n xs.length && (xs.take n).all (isIntK k))) <;> rw [hb] at h <;> simp only [cond_true,cond_false] at h
 ·cases h
 cases h
 simp only [Bool.and_eq_true,beq_iff_eq,Nat.blt_eq,Nat.ble_eq] at hb
 obtain ⟨⟨rfl,hn0⟩,hle,hall⟩ := hb
 obtain ⟨a,cap,rfl,hcap,hnil,hf,hr⟩ := hx.sl_inv
 have hne : st ≠ .nil := fun e => by
  have := (hnil e).2.1; subst this; simp at hle; omega
 obtain ⟨ad,vs,rfl,hrr,hd⟩ : ∃ ad vs,a = some ad ∧ RepR G.S w 1 xs vs ∧ Rd G.S w ad vs := by
  rcases hr hne with h | ⟨_,h,_⟩
  ·exact h
  ·subst h; simp at hle; omega
 refine ⟨.pointer (some ad),?_,?_⟩
 ·have : ¬ xs.length < n := by omega
  simp [Instr.arrayAt,run_underlying hu,this]
 ·obtain ⟨h1,h2⟩ := (hrr.take1 n).ints k hall
  exact .of (.ro (.agg h1 h2) (hd.take n))
theorem index_ok {P ty} (hT : TyOk P ty) {G w t x i r xv iv} (hx : RepT G w x xv) (hi : RepT G w i iv) (h : indexA ty t x i = some r) : ∃ v,(Instr.index t xv iv).run P w = .ok v w ∧ RepT G w r v := by
 unfold indexA at h
 split at h
 ·rename_i k i
  have := hi.int_inv; subst iv
  split at h
  ·rename_i cs
   cases hn : arrLen ty t with
   | none => simp [hn] at h
   | some n =>
   simp only [hn] at h
   cases he : elemOf ty t with
   | none => simp [he] at h
   | some ei =>
   simp only [he] at h
   obtain ⟨et,hu,hte⟩ := (elemOf_ok hT he).2 n hn
   cases hb : inR i n <;> rw [hb] at h <;> simp only [cond_true,cond_false] at h
   ·cases h
   rw [Option.bind_eq_some_iff] at h
   obtain ⟨v,hv,h⟩ := h
   cases hq : fits ei v <;> rw [hq] at h <;> simp at h
   subst h
   obtain ⟨h0,h1⟩ := inR_ok hb
   obtain ⟨vs,rfl,hl,ho⟩ := hx.agg_inv
   obtain ⟨u,hu',hr,_⟩ := part_ok hT hte hl ho hv
   refine ⟨u,?_,.of hr.bare⟩
   simp only [Instr.index,Sem.run_bind,asIntOf,Sem.run_pure,Result.andThen_ok,run_underlying hu]
   rw [if_pos ⟨h0,h1⟩]
   simp [run_size hT hte,hu']
  ·rename_i s
   cases ht : ty t with
   | none => simp [ht] at h
   | some ti =>
   simp only [ht] at h
   split at h
   ·rename_i hd
    have := hx.str_inv; subst xv
    rw [Option.map_eq_some_iff] at h
    obtain ⟨b,hb,rfl⟩ := h
    refine ⟨.int .u8 b.toNat,?_,.of (.int _ _)⟩
    split at hb
    ·rename_i h0
     simp only [Instr.index,Sem.run_bind,asIntOf,Sem.run_pure,Result.andThen_ok,run_underlying (und_str hT ht hd)]
     have e : (ByteArray.mk s.toArray)[i.toNat]? = some b := by
      obtain ⟨hlt,he⟩ := List.getElem?_eq_some_iff.1 hb
      rw [getElem?_pos _ _ (by simpa [ByteArray.size] using hlt)]
      simp [ByteArray.getElem_eq_getElem_data,he]
     rw [if_pos h0,e]
     simp
    ·cases hb
   ·cases h
  ·cases h
 ·cases h
end Go.Ev
set_option linter.unusedVariables false
set_option linter.unusedSimpArgs false
namespace Go.Ev
open Go
def RepO (G : Gh) (w : World) : Option AV → Option Value → Prop
 | none,none => True
 | some a,some v => RepT G w a v
 | _,_ => False
theorem bound_ok {P : Program} {G w d x xv top k} (h : boundA d x top = some k) (hx : RepO G w x xv) :
  (xv = none ∧ k = d) ∨ ∃ kd i,xv = some (.int kd i) ∧ 0 ≤ i ∧ i ≤ top ∧ k = i.toNat := by
 unfold boundA at h
 split at h
 ·cases xv with
  | none => cases h; exact .inl ⟨rfl,rfl⟩
  | some v => exact hx.elim
 ·rename_i kd i
  cases xv with
  | none => exact hx.elim
  | some v =>
   have := RepT.int_inv hx; subst v
   cases hb : inR i (top + 1) <;> rw [hb] at h <;> simp at h
   obtain ⟨h0,h1⟩ := inR_ok hb
   exact .inr ⟨kd,i,rfl,h0,by omega,h.symm⟩
 ·cases h
theorem run_sliceBound (P : Program) (w : World) (k : IntKind) (i : Int) (top : Nat) (code : BoundsCode) (h0 : 0 ≤ i) (h1 : i ≤ top) : (Instr.sliceBound (.int k i) top code).run P w = .ok i.toNat w := by
 simp only [Instr.sliceBound,Sem.run_bind,asIntOf,Sem.run_pure,Result.andThen_ok]
 rw [if_pos ⟨h0,h1⟩]
 simp
theorem bounds2 {P : Program} {G w lo hi lov hiv n h l} (isS : Bool) (cap : Nat) (hcap : n ≤ cap) (hh : boundA n hi n = some h) (hl : boundA 0 lo h = some l) (rh : RepO G w hi hiv) (rl : RepO G w lo lov) :
  (Instr.sliceBounds isS n cap lov hiv none).run P w = .ok (l,h,cap) w ∧ l ≤ h ∧ h ≤ n := by
 have a := bound_ok (P := P) hh rh
 have b := bound_ok (P := P) hl rl
 rcases a with ⟨rfl,rfl⟩ | ⟨kd,i,rfl,h0,h1,rfl⟩ <;> rcases b with ⟨rfl,rfl⟩ | ⟨kd',i',rfl,h0',h1',rfl⟩
 ·exact ⟨by simp [Instr.sliceBounds],by omega,by omega⟩
 ·refine ⟨?_,by omega,by omega⟩
  simp [Instr.sliceBounds,run_sliceBound P w kd' i' h _ h0' h1']
 ·refine ⟨?_,by omega,by omega⟩
  simp [Instr.sliceBounds,run_sliceBound P w kd i cap _ h0 (by omega)]
 ·refine ⟨?_,by omega,by omega⟩
  simp [Instr.sliceBounds,run_sliceBound P w kd i cap _ h0 (by omega),run_sliceBound P w kd' i' i.toNat _ h0' h1']
theorem bounds3 {P : Program} {G w lo hi mx lov hiv mxv n h l} (isS : Bool) (cap : Nat) (hcap : n ≤ cap) (hh : boundA n hi n = some h) (hl : boundA 0 lo h = some l) (hm : boundA 0 (some mx) h = some h)
  (rh : RepO G w hi hiv) (rl : RepO G w lo lov) (rm : RepT G w mx mxv) (his : hi.isSome = true) :
  (Instr.sliceBounds isS n cap lov hiv (some mxv)).run P w = .ok (l,h,h) w ∧ l ≤ h ∧ h ≤ n := by
 have a := bound_ok (P := P) hh rh
 have b := bound_ok (P := P) hl rl
 have c := bound_ok (P := P) (xv := some mxv) hm rm
 have hhi : hiv ≠ none := by
  cases hi with
  | none => simp at his
  | some x => cases hiv with
   | none => exact rh.elim
   | some v => simp
 rcases c with ⟨h',_⟩ | ⟨km,im,hm',hm0,hm1,hm2⟩
 ·cases h'
 cases hm'
 rcases a with ⟨rfl,rfl⟩ | ⟨kd,i,rfl,h0,h1,rfl⟩
 ·exact absurd rfl hhi
 have e1 : (Instr.sliceBound (.int km im) cap (if isS then .slice3Acap else .slice3Alen)).run P w = .ok im.toNat w := run_sliceBound P w km im cap _ hm0 (by omega)
 rcases b with ⟨rfl,rfl⟩ | ⟨kd',i',rfl,h0',h1',rfl⟩
 ·refine ⟨?_,by omega,by omega⟩
  simp [Instr.sliceBounds,e1,← hm2,run_sliceBound P w kd i i.toNat _ h0 (by omega)]
 ·refine ⟨?_,by omega,by omega⟩
  simp [Instr.sliceBounds,e1,← hm2,run_sliceBound P w kd i i.toNat _ h0 (by omega),run_sliceBound P w kd' i' i.toNat _ h0' h1']
theorem win_ok {G w g o0 lo0 m c k cap lv hv} {xs : List AV} {vs : List Value} (hrr : RepR G.S w 1 xs vs) (hd : Rd G.S w ⟨g,o0,none⟩ vs) (ht : G.τ k = some (g,m,c)) (hm : xs = [] ∨ o0 = lo0 ∧ lo0 + xs.length ≤ m)
  (h1 : lv ≤ hv) (h2 : hv ≤ xs.length) (h3 : xs.length ≤ cap) :
  RepT G w (.sl 1 ((xs.drop lv).take (hv - lv)) (.win k (lo0 + lv))) (.slice (if cap = lv then some ⟨g,o0,none⟩ else (some (Addr.mk g o0 none)).map (·.add (lv * 1))) (hv - lv) (cap - lv)) := by
 have hlen : ((xs.drop lv).take (hv - lv)).length = hv - lv := by simp; omega
 have hrr' := (hrr.drop lv).take (hv - lv)
 have hd' := (hd.add (lv * 1)).take ((hv - lv) * 1)
 unfold RepT
 by_cases hml : cap = lv
 ·have e : hv - lv = 0 := by omega
  simp only [if_pos hml,e,List.take_zero]
  exact ⟨g,_,[],m,c,o0,rfl,.nil,Rd.nil rfl,by simp,ht,by simp⟩
 ·simp only [if_neg hml,Option.map_some,add_mk]
  rw [add_mk] at hd'
  refine ⟨g,_,_,m,c,o0 + lv * 1,by rw [hlen],hrr',hd',by omega,ht,?_⟩
  rcases hm with hm | ⟨hm1,hm2⟩
  ·subst hm; exact .inl (by simp)
  ·exact .inr ⟨by omega,by omega⟩
theorem slice_ok {P ty} (hT : TyOk P ty) {G w t x lo hi mx r xv lov hiv mxv} (hx : RepT G w x xv) (rl : RepO G w lo lov) (rh : RepO G w hi hiv) (rm : RepO G w mx mxv) (h : sliceA ty t x lo hi mx = some r) :
  ∃ v,(Instr.sliceAt t xv lov hiv mxv).run P w = .ok v w ∧ RepT G w r v := by
 unfold sliceA at h
 split at h
 ·rename_i s
  cases mx with
  | some m => simp at h
  | none =>
  have hm : mxv = none := by cases mxv with | none => rfl | some v => exact rm.elim
  subst hm
  simp only at h
  cases hh : boundA s.length hi s.length with
  | none => simp [hh] at h
  | some hv =>
  simp only [hh] at h
  cases hl : boundA 0 lo hv with
  | none => simp [hl] at h
  | some lv =>
  simp only [hl] at h
  cases hst : isStr ty t <;> rw [hst] at h <;> simp only [cond_true,cond_false] at h
  ·cases h
  cases h
  have hu : P.underlying t = some .string := by
   unfold isStr at hst
   cases ht : ty t with
   | none => simp [ht] at hst
   | some ti =>
    simp only [ht] at hst
    split at hst
    ·rename_i hd; exact und_str hT ht hd
    ·cases hst
  have := hx.str_inv; subst xv
  have hsz : (ByteArray.mk s.toArray).size = s.length := by simp [ByteArray.size]
  obtain ⟨hbd,h1,h2⟩ := bounds2 (P := P) false s.length (Nat.le_refl _) hh hl rh rl
  refine ⟨.string ((ByteArray.mk s.toArray).extract lv hv),?_,?_⟩
  ·simp only [Instr.sliceAt,Sem.run_bind,run_underlying hu,Result.andThen_ok]
   simp [Instr.slice,run_underlying hu,hsz,hbd]
  ·have e : (ByteArray.mk s.toArray).extract lv hv = ⟨((s.drop lv).take (hv - lv)).toArray⟩ := by
    apply ByteArray.ext
    simp [ByteArray.data_extract,List.extract_toArray,List.extract_eq_take_drop]
   rw [e]; exact .of (.str _)
 ·rename_i sz xs st
  cases he : elemOf ty t with
  | none => simp [he] at h
  | some ei =>
  simp only [he] at h
  obtain ⟨hs,_⟩ := elemOf_ok hT he
  cases hb : (isSlice ty t && ((sz == ei.size && st != .nil) || (st == .nil && xs.isEmpty))) <;> rw [hb] at h <;> simp only [cond_true,cond_false] at h
  ·cases h
  simp only [Bool.and_eq_true,Bool.or_eq_true,beq_iff_eq,bne_iff_ne,List.isEmpty_iff] at hb
  obtain ⟨hb1,hb2⟩ := hb
  obtain ⟨et,hu,hte⟩ := hs hb1
  obtain ⟨a,cap,rfl,hle,hn,hf,hr⟩ := hx.sl_inv
  cases hh : boundA xs.length hi xs.length with
  | none => simp [hh] at h
  | some hv =>
  simp only [hh] at h
  cases hl : boundA 0 lo hv with
  | none => simp [hl] at h
  | some lv =>
  simp only [hl] at h
  have key : ∀ m,(Instr.sliceBounds true xs.length cap lov hiv mxv).run P w = .ok (lv,hv,m) w → (Instr.sliceAt t (.slice a xs.length cap) lov hiv mxv).run P w = .ok (.slice (if m = lv then a else a.map (·.add (lv * ei.size))) (hv - lv) (m - lv)) w := by
   intro m hm
   simp only [Instr.sliceAt,Sem.run_bind,run_underlying hu,Result.andThen_ok]
   simp [Instr.slice,run_underlying hu,hm,run_size hT hte]
  have rep : ∀ m st',lv ≤ hv → hv ≤ xs.length → hv ≤ m → m ≤ cap → (st' = .full ∧ m = hv ∨ st' = .sh) → st ≠ .nil → sz = ei.size →
    RepT G w (.sl sz ((xs.drop lv).take (hv - lv)) st') (.slice (if m = lv then a else a.map (·.add (lv * ei.size))) (hv - lv) (m - lv)) := by
   intro m st' h1 h2 h3 h4 h5 h6 h7
   subst h7
   rcases hr h6 with ⟨ad,vs,rfl,hrr,hd⟩ | ⟨ha0,hx0,hc0,_⟩
   rotate_left
   ·have e0 : xs.length = 0 := by rw [hx0]; rfl
    have e1 : hv = 0 := by omega
    have e2 : lv = 0 := by omega
    have e3 : m = 0 := by omega
    rw [e1,e2,e3,hx0,ha0]
    simp only [List.drop_nil,List.take_nil,if_true,Nat.sub_self]
    rcases h5 with ⟨rfl,_⟩ | rfl
    ·exact .of .slFullNil
    ·exact .of .slShNil
   have hlen : ((xs.drop lv).take (hv - lv)).length = hv - lv := by simp; omega
   have hrr' := (hrr.drop lv).take (hv - lv)
   have hd' := (hd.add (lv * ei.size)).take ((hv - lv) * ei.size)
   by_cases hml : m = lv
   ·have : hv - lv = 0 := by omega
    simp only [hml,if_true,this,Nat.sub_self] at *
    simp only [List.take_zero,Nat.zero_mul] at *
    rcases h5 with ⟨rfl,_⟩ | rfl
    ·exact .of (RepV.slFull (xs := []) .nil (Rd.nil hd.1))
    ·exact .of (RepV.slSh (xs := []) 0 .nil (Rd.nil hd.1) (by simp))
   ·rw [if_neg hml]
    rcases h5 with ⟨rfl,rfl⟩ | rfl
    ·have := RepV.slFull (β := G.β) hrr' hd'
     rw [hlen] at this
     exact .of this
    ·have := RepV.slSh (β := G.β) (m - lv) hrr' hd' (by omega)
     rw [hlen] at this
     exact .of this
  cases mx with
  | none =>
   have hm : mxv = none := by cases mxv with | none => rfl | some v => exact rm.elim
   subst hm
   obtain ⟨hbd,h1,h2⟩ := bounds2 (P := P) true cap hle hh hl rh rl
   refine ⟨_,key _ hbd,?_⟩
   simp only at h
   cases hst : st == .nil
   ·rw [hst] at h
    simp only [cond_false,Option.some.injEq] at h
    subst h
    have hst' : st ≠ .nil := by simpa using hst
    have hsz : sz = ei.size := by rcases hb2 with h | h; exact h.1; exact absurd h.1 hst'
    cases st with
    | nil => exact absurd rfl hst'
    | sh => exact rep cap .sh h1 h2 (by omega) (by omega) (.inr rfl) hst' hsz
    | full =>
     simp only [cutSt]
     split
     ·rename_i hfull
      have hfull : hv = xs.length := by
       simp only [beq_iff_eq,Bool.or_eq_true] at hfull
       rcases hfull with h' | h'
       ·cases hi with
        | none => simp [boundA] at hh; exact hh.symm
        | some _ => simp at h'
       ·exact h'
      subst hfull
      exact rep cap .full h1 h2 (by omega) (by omega) (.inl ⟨rfl,by have := hf rfl; omega⟩) hst' hsz
     ·exact rep cap .sh h1 h2 (by omega) (by omega) (.inr rfl) hst' hsz
    | own k =>
     simp only [cutSt]
     cases hz : sz == 1 <;> simp only [cond_true,cond_false]
     ·exact rep cap .sh h1 h2 (by omega) (by omega) (.inr rfl) hst' hsz
     ·have hz : sz = 1 := by simpa using hz
      subst hz
      unfold RepT at hx
      obtain ⟨g,cap',vs',e1,hrr,hd,ht,_⟩ := hx
      cases e1
      rw [← hsz]
      have := win_ok (lo0 := 0) hrr hd ht (.inr ⟨rfl,by omega⟩) h1 h2 hle
      rwa [Nat.zero_add] at this
    | win k lo0 =>
     simp only [cutSt]
     cases hz : sz == 1 <;> simp only [cond_true,cond_false]
     ·exact rep cap .sh h1 h2 (by omega) (by omega) (.inr rfl) hst' hsz
     ·have hz : sz = 1 := by simpa using hz
      subst hz
      unfold RepT at hx
      obtain ⟨g,cap',vs',m,c,o,e1,hrr,hd,_,ht,hm⟩ := hx
      cases e1
      rw [← hsz]
      exact win_ok hrr hd ht (by rcases hm with hm | ⟨hm1,hm2⟩; exact .inl hm; exact .inr ⟨by omega,by omega⟩) h1 h2 hle
   ·rw [hst] at h
    simp only [cond_true,Option.some.injEq] at h
    subst h
    have hst' : st = .nil := by simpa using hst
    obtain ⟨rfl,rfl,rfl⟩ := hn hst'
    simp at h2; subst h2
    simp at h1; subst h1
    subst hst'
    simp; exact .of .slNil
  | some m =>
   cases mxv with
   | none => exact rm.elim
   | some mv =>
   simp only at h
   cases hm' : boundA 0 (some m) hv with
   | none => simp [hm'] at h
   | some m' =>
   simp only [hm'] at h
   cases hq : (hi.isSome && m' == hv) <;> rw [hq] at h <;> simp only [cond_true,cond_false] at h
   ·cases h
   simp only [Bool.and_eq_true,beq_iff_eq] at hq
   obtain ⟨hq1,rfl⟩ := hq
   obtain ⟨hbd,h1,h2⟩ := bounds3 (P := P) true cap hle hh hl hm' rh rl rm hq1
   refine ⟨_,key _ hbd,?_⟩
   cases hst : st == .nil
   ·rw [hst] at h
    simp only [cond_false,Option.some.injEq] at h
    subst h
    have hst' : st ≠ .nil := by simpa using hst
    have hsz : sz = ei.size := by rcases hb2 with h | h; exact h.1; exact absurd h.1 hst'
    exact rep m' .full h1 h2 (by omega) (by omega) (.inl ⟨rfl,rfl⟩) hst' hsz
   ·rw [hst] at h
    simp only [cond_true,Option.some.injEq] at h
    subst h
    have hst' : st = .nil := by simpa using hst
    obtain ⟨rfl,rfl,rfl⟩ := hn hst'
    simp at h2; subst h2
    simp at h1; subst h1
    subst hst'
    simp; exact .of .slNil
 ·rename_i id off
  cases hn : arrLen ty t with
  | none => simp [hn] at h
  | some n =>
  cases he : elemOf ty t with
  | none => simp [hn,he] at h
  | some ei =>
  cases mx with
  | some m => simp [hn,he] at h
  | none =>
  have hm : mxv = none := by cases mxv with | none => rfl | some v => exact rm.elim
  subst hm
  simp only [hn,he] at h
  obtain ⟨et,hu,hte⟩ := (elemOf_ok hT he).2 n hn
  cases hh : boundA n hi n with
  | none => simp [hh] at h
  | some hv =>
  simp only [hh] at h
  cases hl : boundA 0 lo hv with
  | none => simp [hl] at h
  | some lv =>
  simp only [hl,Option.some.injEq] at h
  subst h
  obtain ⟨b,hβ,rfl⟩ := hx.ptr_inv
  obtain ⟨hbd,h1,h2⟩ := bounds2 (P := P) false n (Nat.le_refl _) hh hl rh rl
  refine ⟨.slice (some (if n = lv then ⟨b,off,none⟩ else (Addr.mk b off none).add (lv * ei.size))) (hv - lv) (n - lv),?_,?_⟩
  ·simp [Instr.sliceAt,run_underlying hu,Instr.sureAddr,hbd,run_size hT hte]
  ·by_cases hnl : n = lv
   ·rw [if_pos hnl,if_pos (by simpa using hnl)]
    exact .of (.view _ hβ (by omega))
   ·rw [if_neg hnl,if_neg (by simpa using hnl),add_mk]
    exact .of (.view _ hβ (by omega))
 ·cases h
end Go.Ev
set_option linter.unusedVariables false
set_option linter.unusedSimpArgs false
namespace Go.Ev
open Go
theorem repO_map {G w} {ρ : Operand → AV} {ρc : Operand → Value} (hρ : ∀ x,RepT G w (ρ x) (ρc x)) (o : Option Operand) : RepO G w (o.map ρ) (o.map ρc) := by
 cases o with
 | none => trivial
 | some x => exact hρ x
theorem lenA_ok {P ty} (hT : TyOk P ty) {G w t x r xv} (oty : TypeId) (hx : RepT G w x xv) (h : lenA ty t x = some r) : ∃ v,(Builtin.len_ #[t] oty #[xv]).run P w = .ok v w ∧ RepT G w r v := by
 unfold lenA at h
 cases ht : ty t with
 | none => simp [ht] at h
 | some ti =>
  simp only [ht] at h
  split at h
  ·rename_i s hd
   cases h
   have := hx.str_inv; subst xv
   exact ⟨goInt s.length,by
    have hsz : (ByteArray.mk s.toArray).size = s.length := by simp [ByteArray.size]
    simp [Builtin.len_,run_underlying (und_str hT ht hd),hsz],.of (.int _ _)⟩
  ·rename_i e sz xs st hd
   cases h
   obtain ⟨a,cap,rfl,_⟩ := hx.sl_inv
   exact ⟨goInt xs.length,by simp [Builtin.len_,run_underlying (und_slice hT ht hd)],.of (.int _ _)⟩
  ·rename_i e id off n hd
   cases h
   obtain ⟨b,cap,_,rfl,_⟩ := hx.view_inv
   exact ⟨goInt n,by simp [Builtin.len_,run_underlying (und_slice hT ht hd)],.of (.int _ _)⟩
  ·rename_i n e hd
   cases h
   exact ⟨goInt n,by simp [Builtin.len_,run_underlying (und_arr hT ht hd)],.of (.int _ _)⟩
  ·cases h
theorem strA_ok {P ty} (hT : TyOk P ty) {G w} {src dst : TypeId} {si di : TI} (hs : ty src = some si) (hd : ty dst = some di) {sz : Nat} {xs : List AV} {st : St} {v : Value} (hx : RepT G w (.sl sz xs st) v) {r : AV}
  (h : strA ty si di sz xs st = some r) : ∃ u,(convert src dst v).run P w = .ok u w ∧ RepT G w r u := by
 unfold strA at h
 cases hb : (strTy ty si di && (sz == 1 || (st == .nil && xs.isEmpty)) && xs.all (isIntK .u8)) <;> rw [hb] at h <;> simp only [cond_true,cond_false] at h
 ·cases h
 cases h
 simp only [Bool.and_eq_true,Bool.or_eq_true,beq_iff_eq,List.isEmpty_iff] at hb
 obtain ⟨⟨hty,hsz⟩,hall⟩ := hb
 obtain ⟨e,h1,h2,h3⟩ : ∃ e,P.underlying src = some (.slice e) ∧ P.underlying e = some (.int .u8) ∧ P.underlying dst = some .string := by
  unfold strTy at hty
  split at hty
  ·rename_i e q1 q2
   split at hty
   ·rename_i ei q3
    split at hty
    ·rename_i k q4
     have : k = .u8 := by simpa using hty
     subst this
     exact ⟨e,und_slice hT hs q1,und_int hT q3 q4,und_str hT hd q2⟩
    ·cases hty
   ·cases hty
  ·cases hty
 obtain ⟨ad,cap,rfl,hle,hnil,_,hr⟩ := hx.sl_inv
 have empty : xs = [] → (convert src dst (.slice none xs.length cap)).run P w = .ok (.string ⟨(xs.map byteA).toArray⟩) w := by
  rintro rfl
  rw [run_convert_bytes_nil w src e h1 h2 _ cap dst h3]; rfl
 refine ⟨.string ⟨(xs.map byteA).toArray⟩,?_,.of (.str _)⟩
 by_cases hst : st = .nil
 ·obtain ⟨rfl,e2,rfl⟩ := hnil hst
  exact empty e2
 ·rcases hr hst with ⟨ad',vs,rfl,hrr,hd'⟩ | ⟨rfl,e2,rfl,_⟩
  rotate_left
  ·exact empty e2
  have hsz : sz = 1 := hsz.resolve_right fun h => hst h.1
  subst hsz
  have hvs : ∀ {xs : List AV} {vs : List Value},RepR G.S w 1 xs vs → xs.all (isIntK .u8) = true → vs = (xs.map fun x => Value.int .u8 (match x with | .int _ n => n | _ => 0)) := by
   intro xs
   induction xs with
   | nil => intro vs hr _; cases hr; rfl
   | cons x xs ih =>
    intro vs hr ha
    rw [List.all_cons,Bool.and_eq_true] at ha
    cases hr with
    | cons c el l =>
     rename_i us vss
     have hx1 : ∃ n,x = .int .u8 n := by
      cases x <;> try (cases ha.1; done)
      rename_i k n
      have : k = .u8 := by simpa [isIntK] using ha.1
      exact ⟨n,by rw [this]⟩
     obtain ⟨n,rfl⟩ := hx1
     rw [ih l ha.2]
     cases c with
     | one hv _ _ => cases hv; rfl
  have hv := hvs hrr hall
  have := run_convert_bytes_arg w src e h1 h2 ad'.block ad'.off xs.length cap (xs.map fun x => (match x with | .int _ n => n | _ => 0)) (by simp) (fun i hi => by
   have hlt : i < vs.length := by rw [hv]; simpa using hi
   have := (hd'.2 i _ (List.getElem?_eq_getElem hlt)).2
   rw [this]
   subst hv
   simp [List.getD_eq_getElem?_getD,hi]) dst h3
  have ea : ad' = ⟨ad'.block,ad'.off,none⟩ := by
   have := hd'.1
   cases ad'; simp only at this; subst this; rfl
  rw [ea,this]
  have eb : strOfNums (xs.map fun x => (match x with | .int _ n => n | _ => 0)) = ⟨(xs.map byteA).toArray⟩ := by
   unfold strOfNums
   rw [List.map_map]
   congr 2
   apply List.map_congr_left
   intro x hx
   have := List.all_eq_true.1 hall x hx
   cases x <;> try (cases this; done)
   rfl
  rw [eb]
theorem evPure_ok {P ty} (hT : TyOk P ty) {G w} {ρ : Operand → AV} {ρc : Operand → Value} (hρ : ∀ x,RepT G w (ρ x) (ρc x)) (o : Oper) {r : AV} (h : evPure ty ρ o.op = some r) :
  ∃ v,(execOp ρc o).run P w = .ok (.value v) w ∧ RepT G w r v := by
 obtain ⟨dst,op,oty,pos,after,guard⟩ := o
 simp only at h
 cases op with
 | move x => simp [evPure] at h; subst h; exact ⟨ρc x,by simp [execOp],hρ x⟩
 | assign x => simp [evPure] at h; subst h; exact ⟨ρc x,by simp [execOp],hρ x⟩
 | pick c a b =>
  simp only [evPure] at h
  split at h
  ·rename_i t hc
   cases h
   have hc' := hρ c
   rw [hc] at hc'
   have := hc'.bool_inv
   refine ⟨if t then ρc a else ρc b,by simp [execOp,this,asBool],?_⟩
   unfold pickA
   split
   ·rename_i x y hx hy
    have h1 := hρ a; have h2 := hρ b
    rw [hx] at h1; rw [hy] at h2
    rw [h1.bool_inv,h2.bool_inv]
    cases t <;> exact .of (.bool _)
   ·cases t
    ·exact hρ b
    ·exact hρ a
  ·cases h
 | build t parts =>
  obtain ⟨v,h1,h2⟩ := build_ok (P := P) hT hρ h
  exact ⟨v,by simp [execOp,h1],h2⟩
 | nilCheck x =>
  simp only [evPure] at h
  split at h
  ·rename_i id off hx
   cases h
   have h1 := hρ x
   rw [hx] at h1
   obtain ⟨b,hb,e⟩ := h1.ptr_inv
   exact ⟨_,by simp [execOp,e],.of (.ptr hb)⟩
  ·rename_i f cap hx
   cases h
   have h1 := hρ x
   rw [hx] at h1
   obtain ⟨vs,e,hl⟩ := h1.fn_inv
   exact ⟨_,by simp [execOp,e],.of (.fn hl)⟩
  ·cases h
 | binOp op t x y yt =>
  obtain ⟨v,h1,h2⟩ := binA_ok (P := P) hT x y h (hρ x) (hρ y)
  exact ⟨v,by simp only [execOp,Sem.run_bind] at h1 ⊢; simp [h1],.of h2.bare⟩
 | unOp op t x =>
  simp only [evPure] at h
  unfold unA at h
  split at h
  ·rename_i k n hx
   cases h
   have h1 := hρ x; rw [hx] at h1
   have := h1.int_inv
   exact ⟨_,by simp [execOp,this,Op.unary,Op.intArith,isub],.of (.int _ _)⟩
  ·rename_i b hx
   cases h
   have h1 := hρ x; rw [hx] at h1
   have := h1.bool_inv
   exact ⟨_,by simp [execOp,this,Op.unary],.of (.bool _)⟩
  ·cases h
 | convert src dst x =>
  simp only [evPure] at h
  split at h
  ·rename_i si di k n hs hd hx
   split at h
   ·rename_i k1 k2 h1 h2
    cases h
    have h3 := hρ x; rw [hx] at h3
    have := h3.int_inv
    exact ⟨_,by simp [execOp,this,convert,run_underlying (und_int hT hs h1),run_underlying (und_int hT hd h2),Conv.intToInt],.of (.int _ _)⟩
   ·cases h
  ·rename_i si di k sz xs st hs hd hx
   have h3 := hρ x; rw [hx] at h3
   obtain ⟨v,h4,h5⟩ := strA_ok hT hs hd h3 h
   exact ⟨v,by simp [execOp,h4],h5⟩
  ·cases h
 | makeFunc f first cap =>
  simp only [evPure] at h
  cases f with
  | func f =>
   simp only at h
   cases hb : first.isEmpty <;> rw [hb] at h <;> simp at h
   subst h
   have hf : first = #[] := by simpa using hb
   subst hf
   refine ⟨.func (.func f) #[] (cap.toList.map ρc).toArray,by obtain ⟨cap⟩ := cap; simp [execOp,Instr.makeFunc],.of (.fn ?_)⟩
   refine RepL.of_get (by simp) fun i c v h1 h2 => ?_
   simp only [List.getElem?_map,Option.map_eq_some_iff] at h1 h2
   obtain ⟨a,h1,rfl⟩ := h1
   obtain ⟨b,h2,rfl⟩ := h2
   rw [h1] at h2; cases h2
   exact (hρ _).share
  | _ => simp at h
 | fieldAddr t x f =>
  obtain ⟨v,h1,h2⟩ := fieldAddr_ok (P := P) hT (hρ x) h
  exact ⟨v,by simp [execOp,h1],h2⟩
 | field t x f =>
  obtain ⟨v,h1,h2⟩ := field_ok (P := P) hT (hρ x) h
  exact ⟨v,by simp [execOp,h1],h2⟩
 | indexAddr t x i =>
  obtain ⟨v,h1,h2⟩ := indexAddr_ok (P := P) hT (hρ x) (hρ i) h
  exact ⟨v,by simp [execOp,h1],h2⟩
 | sliceToArrayPointer t x =>
  obtain ⟨v,h1,h2⟩ := arrPtr_ok (P := P) hT (hρ x) h
  exact ⟨v,by simp [execOp,h1],h2⟩
 | index t x i =>
  obtain ⟨v,h1,h2⟩ := index_ok (P := P) hT (hρ x) (hρ i) h
  exact ⟨v,by simp [execOp,h1],h2⟩
 | slice t x lo hi mx =>
  obtain ⟨v,h1,h2⟩ := slice_ok (P := P) hT (hρ x) (repO_map hρ lo) (repO_map hρ hi) (repO_map hρ mx) h
  exact ⟨v,by simp [execOp,h1],h2⟩
 | extract x i =>
  simp only [evPure] at h
  split at h
  ·rename_i vs hx
   have h1 := hρ x; rw [hx] at h1
   obtain ⟨us,e,hl⟩ := h1.tup_inv
   obtain ⟨v,h2,h3⟩ := hl.get h
   exact ⟨v,by simp [execOp,e,Instr.extract,h2],.of h3.bare⟩
  ·cases h
 | call c =>
  obtain ⟨callee,args,argTypes⟩ := c
  cases callee with
  | builtin b =>
   cases b <;> simp only [evPure] at h <;> try (cases h; done)
   case len =>
    obtain ⟨args⟩ := args
    obtain ⟨argTypes⟩ := argTypes
    split at h
    ·rename_i x t h1 h2
     simp at h1 h2
     subst h1; subst h2
     obtain ⟨v,h1,h2⟩ := lenA_ok (P := P) hT oty (hρ x) h
     exact ⟨v,by simp [execOp,resolve,invoke,builtin,h1],h2⟩
    ·cases h
   case max =>
    obtain ⟨args⟩ := args
    split at h
    ·rename_i x y h1
     simp at h1; subst h1
     unfold maxA at h
     split at h
     ·rename_i k a k' b hx hy
      cases h
      have h1 := hρ x; rw [hx] at h1
      have h2 := hρ y; rw [hy] at h2
      have e1 := h1.int_inv; have e2 := h2.int_inv
      refine ⟨.int k (if b > a then b else a),by simp [execOp,resolve,invoke,builtin,Builtin.max_,Builtin.max2,e1,e2],?_⟩
      have : (bif ilt a b then b else a) = if b > a then b else a := by
       unfold ilt; by_cases hc : a < b <;> simp [hc]
      rw [this]; exact .of (.int _ _)
     ·cases h
    ·cases h
   case min =>
    obtain ⟨args⟩ := args
    split at h
    ·rename_i x y h1
     simp at h1; subst h1
     unfold minA at h
     split at h
     ·rename_i k a k' b hx hy
      cases h
      have h1 := hρ x; rw [hx] at h1
      have h2 := hρ y; rw [hy] at h2
      have e1 := h1.int_inv; have e2 := h2.int_inv
      refine ⟨.int k (if b < a then b else a),by simp [execOp,resolve,invoke,builtin,Builtin.min_,Builtin.min2,e1,e2],?_⟩
      have : (bif ilt b a then b else a) = if b < a then b else a := by
       unfold ilt; by_cases hc : b < a <;> simp [hc]
      rw [this]; exact .of (.int _ _)
     ·cases h
    ·cases h
  | value f => simp [evPure] at h
  | invoke r m => simp [evPure] at h
 | _ => simp [evPure] at h
end Go.Ev
set_option linter.unusedVariables false
set_option linter.unusedSimpArgs false
namespace Go.Ev
open Go
theorem RepT.mono2 {G w G' w' a v} (h : RepT G w a v) (e : Ext G.S w G'.S w') (hβ : ∀ i b,G.β i = some b → G'.β i = some b)
  (hτ : ∀ k x,hasTag k a = true → G.τ k = some x → G'.τ k = some x) : RepT G' w' a v := by
 unfold RepT at h ⊢
 split
 ·obtain ⟨g,cap,vs,rfl,hr,hd,ht,hl⟩ := h
  exact ⟨g,cap,vs,rfl,hr.ext e,e.reads hd,hτ _ _ (by simp [hasTag]) ht,hl⟩
 ·obtain ⟨g,cap,vs,m,c,o,rfl,hr,hd,hl,ht,hm⟩ := h
  exact ⟨g,cap,vs,m,c,o,rfl,hr.ext e,e.reads hd,hl,hτ _ _ (by simp [hasTag]) ht,hm⟩
 ·obtain ⟨g,m,c,u,rfl,hr,ho,hd,ht,hi⟩ := h
  exact ⟨g,m,c,u,rfl,hr.ext e,ho,e.reads hd,hτ _ _ (by simp [hasTag]) ht,hi⟩
 ·split at h
  ·rename_i hne _ _
   exact (hne _ _ _ rfl).elim
  ·rename_i hnw _
   exact (hnw _ _ _ _ rfl).elim
  ·rename_i hnp
   exact (hnp _ _ _ rfl).elim
  ·exact h.ext e hβ
theorem Inv.drew {B G w m} (h : Inv B G w m) : Inv B G w.drew m ∧ Ext G.S w G.S w.drew := by
 have hE : Ext G.S w G.S w.drew := ⟨fun _ _ h => h,fun _ _ _ => rfl⟩
 refine ⟨⟨h.size,h.os,h.tape,h.output,h.old,h.S0,h.Snew,h.Slt,h.βinj,h.βS,h.βnew,h.dom,fun i cs hi => ?_,h.τ,h.τinj,h.β0,h.fro,h.owk,h.owβ,h.owS⟩,hE⟩
 obtain ⟨b,vs,t,h1,h2,h3,h4,h5⟩ := h.mem i cs hi
 exact ⟨b,vs,t,h1,h2,h3,fun j c v hc hv => (h4 j c v hc hv).mono hE (fun _ _ h => h) (fun _ _ h => h),h5⟩
theorem Sim.drew {B G s a w} (h : Sim B G s a w) : Sim B G s a w.drew :=
 h.mono h.inv.drew.1 h.inv.drew.2 (fun _ _ h => h) (fun _ _ h => h)
def Gh.lay (G : Gh) (g n : Nat) : Gh := { G with S := fun b o => G.S b o ∨ (b = g ∧ o < n) }
def Gh.own (G : Gh) (k : Tag) (x : Nat × Nat × Nat) : Gh := { G with τ := fun k' => if k' = k then some x else G.τ k' }
def Gh.drop (G : Gh) (k : Tag) : Gh := { G with τ := fun k' => if k' = k then none else G.τ k' }
theorem βlt {B G w m} (h : Inv B G w m) : ∀ i b,G.β i = some b → b < w.heap.size := by
 intro i b hb
 cases hl : look m i with
 | none => rw [h.dom i hl] at hb; cases hb
 | some cs =>
  obtain ⟨b',vs',t',h1,h2,_⟩ := h.mem i cs hl
  rw [h1] at hb; cases hb; exact h2.lt
theorem Inv.lay {B G w m} (h : Inv B G w m) (vs : List Value) (t : TypeId) (n : Nat) (hn : n ≤ vs.length) :
  Inv B (G.lay w.heap.size n) (w.alloc (.cells vs.toArray t)) m ∧ Ext G.S w (G.lay w.heap.size n).S (w.alloc (.cells vs.toArray t)) := by
 have hE : Ext G.S w (G.lay w.heap.size n).S (w.alloc (.cells vs.toArray t)) :=
  ⟨fun _ _ h => .inl h,fun g o hs => cell_of_heap (pushed_old w _ (h.Slt g o hs)) o⟩
 refine ⟨?_,hE⟩
 constructor
 ·rw [pushed_size]; have := h.size; omega
 ·exact h.os
 ·exact h.tape
 ·exact h.output
 ·intro b hb hw hne
  rw [pushed_old w _ (by have := h.size; omega)]
  exact h.old b hb hw hne
 ·intro g o hs; exact .inl (h.S0 g o hs)
 ·rintro g o (hs | ⟨rfl,_⟩)
  ·exact h.Snew g o hs
  ·exact .inr (.inl h.size)
 ·rintro g o (hs | ⟨rfl,_⟩) <;> rw [pushed_size]
  ·have := h.Slt g o hs; omega
  ·omega
 ·exact h.βinj
 ·rintro i b o hi (hs | ⟨rfl,_⟩)
  ·exact h.βS i b o hi hs
  ·have := βlt h i _ hi; omega
 ·exact h.βnew
 ·exact h.dom
 ·intro i cs' hi
  obtain ⟨b,vs',t',h1,h2,h3,h4,h5⟩ := h.mem i cs' hi
  refine ⟨b,vs',t',h1,?_,h3,fun j c v hc hv => (h4 j c v hc hv).mono hE (fun _ _ h => h) fun _ _ h => h,h5⟩
  unfold Blk at h2 ⊢
  rw [pushed_old w _ (Blk.lt h2)]; exact h2
 ·intro k g e l hk
  obtain ⟨h1,h2,⟨vs',t',h3,h4⟩,h5⟩ := h.τ k g e l hk
  have hlt := h3.lt
  refine ⟨h1,h2,⟨vs',t',?_,h4⟩,?_⟩
  ·unfold Blk at h3 ⊢
   rw [pushed_old w _ (Blk.lt h3)]; exact h3
  ·rintro o ho (hs | ⟨rfl,_⟩)
   ·exact h5 o ho hs
   ·omega
 ·exact h.τinj
 ·exact h.β0
 ·exact h.fro.alloc vs t
 ·intro b e hb
  obtain ⟨us,us',t',h1,h2,h3,h4⟩ := h.owk b e hb
  refine ⟨us,us',t',h1,?_,h3,h4⟩
  unfold Blk at h2 ⊢
  rw [pushed_old w _ (Blk.lt h2)]; exact h2
 ·exact h.owβ
 ·exact h.owS
def noTags (m : Mem) (k : Tag) : Prop := ∀ i cs,look m i = some cs → ∀ c ∈ cs,hasTag k c = false
theorem Blk.inj {w : World} {b : Nat} {us vs : List Value} {t t' : TypeId} (h : Blk w b us t) (k : Blk w b vs t') : us = vs ∧ t = t' := by
 unfold Blk at h k
 rw [h] at k
 simp only [Option.some.injEq,Obj.cells.injEq,List.toArray_inj] at k
 obtain ⟨k1,k2,_⟩ := k
 exact ⟨by simpa using k1,k2⟩
theorem Inv.own {B G w m} (h : Inv B G w m) {k : Tag} {g e l : Nat} (hk : G.τ k = none) (hg : B.New k g e) (hβ : ∀ i,G.β i ≠ some g) {vs : List Value} {t : TypeId} (hb : Blk w g vs t)
  (hl : l ≤ vs.length) (hS : ∀ o,e ≤ o → ¬ G.S g o) (hτ : ∀ k' e' l',G.τ k' = some (g,e',l') → k' = k) : Inv B (G.own k (g,e,l)) w m := by
 constructor
 ·exact h.size
 ·exact h.os
 ·exact h.tape
 ·exact h.output
 ·exact h.old
 ·exact h.S0
 ·exact h.Snew
 ·exact h.Slt
 ·exact h.βinj
 ·exact h.βS
 ·exact h.βnew
 ·exact h.dom
 ·intro i cs hi
  obtain ⟨b,vs',t',h1,h2,h3,h4,h5⟩ := h.mem i cs hi
  refine ⟨b,vs',t',h1,h2,h3,fun j c v hc hv => (h4 j c v hc hv).mono2 (Ext.refl _ _) (fun _ _ h => h) fun k' x hk' hx => ?_,h5⟩
  simp only [Gh.own]
  rw [if_neg]
  ·exact hx
  ·rintro rfl
   rw [hk] at hx; cases hx
 ·intro k' g' e' l' hk'
  simp only [Gh.own] at hk'
  split at hk'
  ·rename_i ek
   cases hk'
   subst ek
   exact ⟨hg,hβ,⟨vs,t,hb,hl⟩,hS⟩
  ·exact h.τ k' g' e' l' hk'
 ·intro k1 k2 g' e1 l1 e2 l2 h1 h2
  simp only [Gh.own] at h1 h2
  split at h1 <;> split at h2
  ·simp_all
  ·cases h1; rename_i e _; rw [e]; exact (hτ _ _ _ h2).symm
  ·cases h2; rename_i _ e; rw [e]; exact hτ _ _ _ h1
  ·exact h.τinj k1 k2 g' e1 l1 e2 l2 h1 h2
 ·exact h.β0
 ·exact h.fro
 ·exact h.owk
 ·exact h.owβ
 ·exact h.owS
theorem look_map (f : List AV → List AV) (m : Mem) (i : Nat) : look (m.map fun p => (p.1,f p.2)) i = (look m i).map f := by
 induction m with
 | nil => rfl
 | cons p r ih =>
  obtain ⟨j,c⟩ := p
  simp only [List.map_cons,look]
  split
  ·rfl
  ·exact ih
theorem RepT.retag {G w a v} (k : Tag) (h : RepT G w a v) : RepT (G.drop k) w (a.retag k) v := by
 by_cases hk : hasTag k a = true
 ·have hs := h.share
  have e : a.retag k = a.share := by
   cases a <;> try (simp [hasTag] at hk; done)
   case sl sz xs st =>
    cases st <;> try (simp [hasTag] at hk; done)
    all_goals
     simp only [hasTag,beq_iff_eq] at hk
     subst hk
     simp [AV.retag,AV.share]
   case wp k' i e =>
    simp only [hasTag,beq_iff_eq] at hk
    subst hk
    simp [AV.retag,AV.share]
  rw [e]
  exact .of hs
 ·have e : a.retag k = a := by
   cases a <;> try rfl
   case sl sz xs st =>
    cases st <;> try rfl
    all_goals
     rename_i k'
     simp only [hasTag,beq_iff_eq] at hk
     simp [AV.retag,hk]
   case wp k' i e =>
    simp only [hasTag,beq_iff_eq] at hk
    simp [AV.retag,hk]
  rw [e]
  refine h.mono2 (Ext.refl _ _) (fun _ _ h => h) fun k' x hk' hx => ?_
  simp only [Gh.drop]
  rw [if_neg]
  ·exact hx
  ·rintro rfl; exact hk hk'
theorem Sim.retag {B G s a w} (h : Sim B G s a w) (k : Tag) : Sim B (G.drop k) (s.retag k) a w := by
 refine ⟨?_,by simp [AS.retag,h.len],fun i => ?_,h.defers⟩
 ·constructor
  ·exact h.inv.size
  ·exact h.inv.os
  ·exact h.inv.tape
  ·exact h.inv.output
  ·exact h.inv.old
  ·exact h.inv.S0
  ·exact h.inv.Snew
  ·exact h.inv.Slt
  ·exact h.inv.βinj
  ·exact h.inv.βS
  ·exact h.inv.βnew
  ·intro i hi
   simp only [AS.retag,look_map,Option.map_eq_none_iff] at hi
   exact h.inv.dom i hi
  ·intro i cs hi
   simp only [AS.retag,look_map,Option.map_eq_some_iff] at hi
   obtain ⟨cs0,hi,rfl⟩ := hi
   obtain ⟨b,vs',t',h1,h2,h3,h4,h5⟩ := h.inv.mem i cs0 hi
   refine ⟨b,vs',t',h1,h2,by simp [h3],fun j c v hc hv => ?_,h5⟩
   simp only [List.getElem?_map,Option.map_eq_some_iff] at hc
   obtain ⟨c0,hc,rfl⟩ := hc
   exact (h4 j c0 v hc hv).retag k
  ·intro k' g e l hk'
   simp only [Gh.drop] at hk'
   split at hk'
   ·cases hk'
   ·exact h.inv.τ k' g e l hk'
  ·intro k1 k2 g e1 l1 e2 l2 h1 h2
   simp only [Gh.drop] at h1 h2
   split at h1 <;> split at h2
   ·cases h1
   ·cases h1
   ·cases h2
   ·exact h.inv.τinj k1 k2 g e1 l1 e2 l2 h1 h2
  ·exact h.inv.β0
  ·exact h.inv.fro
  ·exact h.inv.owk
  ·exact h.inv.owβ
  ·exact h.inv.owS
 ·have := (h.tmps i).retag k
  simp only [AS.retag,List.getD_eq_getElem?_getD,List.getElem?_map] at this ⊢
  cases hx : s.tmps[i]? with
  | none => simp [hx] at this ⊢; exact .of (.unk _)
  | some c => simp [hx] at this ⊢; exact this
theorem Inv.grow {B G w m} (h : Inv B G w m) {g n : Nat} {vs : List Value} {t : TypeId} {w' : World} {vs0 : List Value} {k0 : Tag} {e0 : Nat} (hg : B.New k0 g e0) (hβ : ∀ i,G.β i ≠ some g) (hτ : ∀ k e l,G.τ k ≠ some (g,e,l))
  (hb0 : Blk w g vs0 t) (hb : Blk w' g vs t) (hl : vs0.length = vs.length) (ho : Only g w w') (hkeep : ∀ o,G.S g o → vs[o]? = vs0[o]?) (hn : n ≤ vs.length) (hk2 : ∀ o,o < e0 → vs[o]? = vs0[o]?) :
  Inv B (G.lay g n) w' m ∧ Ext G.S w (G.lay g n).S w' := by
 have hE : Ext G.S w (G.lay g n).S w' := by
  refine ⟨fun _ _ h => .inl h,fun b o hs => ?_⟩
  by_cases hbg : b = g
  ·subst hbg; rw [hb.cell,hb0.cell,hkeep o hs]
  ·exact cell_of_heap (ho.other b hbg) o
 refine ⟨?_,hE⟩
 constructor
 ·rw [ho.size]; exact h.size
 ·exact ho.os.trans h.os
 ·exact ho.tape.trans h.tape
 ·exact ho.output.trans h.output
 ·intro b hb' hw hne
  rw [ho.other b (by
   rintro rfl
   rcases hg with hg | ⟨_,e1,h1,_⟩
   ·omega
   ·exact hne e1 h1)]
  exact h.old b hb' hw hne
 ·intro g o hs; exact .inl (h.S0 g o hs)
 ·rintro g' o (hs | ⟨rfl,_⟩)
  ·exact h.Snew g' o hs
  ·rcases hg with hg | ⟨_,e1,h1,h2⟩
   ·exact .inr (.inl hg)
   ·by_cases hlt : o < e1
    ·exact .inl (h.owS _ _ _ h1 hlt)
    ·exact .inr (.inr ⟨e1,h1,by omega⟩)
 ·rintro g' o (hs | ⟨rfl,_⟩) <;> rw [ho.size]
  ·exact h.Slt g' o hs
  ·exact hb0.lt
 ·exact h.βinj
 ·rintro i b o hi (hs | ⟨rfl,_⟩)
  ·exact h.βS i b o hi hs
  ·exact hβ i hi
 ·exact h.βnew
 ·exact h.dom
 ·intro i cs' hi
  obtain ⟨b,vs',t',h1,h2,h3,h4,h5⟩ := h.mem i cs' hi
  refine ⟨b,vs',t',h1,?_,h3,fun j c v hc hv => (h4 j c v hc hv).mono hE (fun _ _ h => h) fun _ _ h => h,h5⟩
  unfold Blk at h2 ⊢
  rw [ho.other b (fun e => hβ i (e ▸ h1))]; exact h2
 ·intro k g' e l hk
  obtain ⟨h1,h2,⟨vs',t',h3,h4⟩,h5⟩ := h.τ k g' e l hk
  have hne : g' ≠ g := fun e' => hτ k e l (e' ▸ hk)
  refine ⟨h1,h2,⟨vs',t',?_,h4⟩,?_⟩
  ·unfold Blk at h3 ⊢
   rw [ho.other g' hne]; exact h3
  ·rintro o ho (hs | ⟨e',_⟩)
   ·exact h5 o ho hs
   ·exact hne e'
 ·exact h.τinj
 ·exact h.β0
 ·exact h.fro.only ho hb
 ·intro b' e hb'
  obtain ⟨us,us',t',h1,h2,h3,h4⟩ := h.owk b' e hb'
  by_cases hbg : b' = g
  ·subst hbg
   obtain ⟨rfl,rfl⟩ := h2.inj hb0
   refine ⟨us,vs,t',h1,hb,by omega,fun o hlt => ?_⟩
   rcases hg with hg | ⟨_,e1,k1,k2⟩
   ·have := h1.lt; omega
   ·rw [hb'] at k1; cases k1
    rw [hk2 o (by omega)]; exact h4 o hlt
  ·refine ⟨us,us',t',h1,?_,h3,h4⟩
   unfold Blk at h2 ⊢
   rw [ho.other b' hbg]; exact h2
 ·exact h.owβ
 ·exact h.owS
theorem Inv.congr {B G w m m'} (h : Inv B G w m) (e : ∀ i,look m' i = look m i) : Inv B G w m' :=
 ⟨h.size,h.os,h.tape,h.output,h.old,h.S0,h.Snew,h.Slt,h.βinj,h.βS,h.βnew,fun i hi => h.dom i (by rw [← e]; exact hi),fun i cs hi => h.mem i cs (by rw [← e]; exact hi),h.τ,h.τinj,h.β0,h.fro,h.owk,h.owβ,h.owS⟩
def TauLe (G G' : Gh) (m : Option Tag) : Prop := ∀ k x,G'.τ k = some x → m = some k ∨ G.τ k ≠ none
theorem TauLe.refl (G m) : TauLe G G m := fun k x h => .inr (by rw [h]; simp)
theorem TauLe.of_eq {G G' : Gh} (h : G'.τ = G.τ) (m) : TauLe G G' m := fun k x hx => .inr (by rw [← h,hx]; simp)
theorem Inv.drop {B G w m} (h : Inv B G w m) {k : Tag} (hk : noTags m k) : Inv B (G.drop k) w m := by
 constructor
 ·exact h.size
 ·exact h.os
 ·exact h.tape
 ·exact h.output
 ·exact h.old
 ·exact h.S0
 ·exact h.Snew
 ·exact h.Slt
 ·exact h.βinj
 ·exact h.βS
 ·exact h.βnew
 ·exact h.dom
 ·intro i cs hi
  obtain ⟨b,vs',t',h1,h2,h3,h4,h5⟩ := h.mem i cs hi
  refine ⟨b,vs',t',h1,h2,h3,fun j c v hc hv => (h4 j c v hc hv).mono2 (Ext.refl _ _) (fun _ _ h => h) fun k' x hk' hx => ?_,h5⟩
  simp only [Gh.drop]
  rw [if_neg]
  ·exact hx
  ·rintro rfl
   rw [hk i cs hi c (List.mem_of_getElem? hc)] at hk'; cases hk'
 ·intro k' g e l hk'
  simp only [Gh.drop] at hk'
  split at hk'
  ·cases hk'
  ·exact h.τ k' g e l hk'
 ·intro k1 k2 g e1 l1 e2 l2 h1 h2
  simp only [Gh.drop] at h1 h2
  split at h1 <;> split at h2
  ·cases h1
  ·cases h1
  ·cases h2
  ·exact h.τinj k1 k2 g e1 l1 e2 l2 h1 h2
 ·exact h.β0
 ·exact h.fro
 ·exact h.owk
 ·exact h.owβ
 ·exact h.owS
end Go.Ev
set_option linter.unusedVariables false
set_option linter.unusedSimpArgs false
namespace Go.Ev
open Go
theorem oc_notAgg {S w β c v} (h : RepV S w β c v) (ho : oc v = true) : c.isAgg = false := by
 cases h <;> first | rfl | (simp [oc] at ho)
theorem rows_ok {S w} (agg : Bool) {size : Nat} (hs : (agg || size == 1) = true) : ∀ (n : Nat) {cs : List AV} {vs : List Value},RepL S w (fun _ => none) cs vs → (∀ v ∈ vs,oc v = true) → cs.length = n * size →
  RepR S w size (rows agg size cs n) vs ∧ (rows agg size cs n).length = n
 | 0,cs,vs,h,ho,hl => by
  simp at hl
  subst hl
  cases h
  exact ⟨.nil,rfl⟩
 | n + 1,cs,vs,h,ho,hl => by
  have hl' : cs.length = size + n * size := by rw [hl,Nat.succ_mul,Nat.add_comm]
  obtain ⟨ih,il⟩ := rows_ok agg hs n (h.drop size) (fun v hv => ho v (List.mem_of_mem_drop hv)) (by simp; omega)
  refine ⟨?_,by simp [rows,il]⟩
  have e : vs = vs.take size ++ vs.drop size := (List.take_append_drop size vs).symm
  rw [e]
  have hvl : (vs.take size).length = size := by rw [List.length_take,← h.length,hl']; omega
  simp only [rows]
  refine .cons ?_ hvl ih
  cases agg
  ·simp at hs
   subst hs
   cases cs with
   | nil => simp at hl'; omega
   | cons c cs =>
    cases h with
    | cons hv l =>
     simp only [Bool.false_eq_true,if_false,List.headD_cons,List.take_succ_cons,List.take_zero]
     exact .one hv (oc_notAgg hv (ho _ (by simp))) (ho _ (by simp))
  ·simp only [if_true]
   exact .agg (h.take size) fun v hv => ho v (List.mem_of_mem_take hv)
theorem zeros_ok {S w} {z : Array Value} {zs : List AV} (hz : z.toList.map ofVal = zs) (ho : ∀ v ∈ z.toList,oc v = true) (n : Nat) (hn : 0 < n → 0 < z.size) :
  RepL S w (fun _ => none) ((List.range n).map fun i => zs.getD (i % zs.length) .unk) (((Array.range n).map (z[· % z.size]!)).toList) ∧ ∀ v ∈ ((Array.range n).map (z[· % z.size]!)).toList,oc v = true := by
 have hl : zs.length = z.size := by rw [← hz]; simp
 refine ⟨RepL.of_get (by simp) fun i c v h1 h2 => ?_,fun v hv => ?_⟩
 ·simp only [List.getElem?_map,Option.map_eq_some_iff,Array.toList_map,Array.toList_range] at h1 h2
  obtain ⟨j,h1,rfl⟩ := h1
  obtain ⟨j',h2,rfl⟩ := h2
  rw [h1] at h2; cases h2
  have hj : j < n := by have := List.mem_of_getElem? h1; simpa using this
  have hlt : j % z.size < z.size := Nat.mod_lt _ (hn (by omega))
  rw [hl]
  have e1 : z[j % z.size]! = z.toList[j % z.size]'(by simpa using hlt) := by simp [getElem!_pos,hlt]
  have e2 : zs.getD (j % z.size) .unk = ofVal (z.toList[j % z.size]'(by simpa using hlt)) := by
   subst hz; simp [List.getD_eq_getElem?_getD,hlt]
  rw [e1,e2]
  exact ofVal_rep _
 ·simp only [Array.toList_map,Array.toList_range,List.mem_map,List.mem_range] at hv
  obtain ⟨j,hj,rfl⟩ := hv
  have hlt : j % z.size < z.size := Nat.mod_lt _ (hn (by omega))
  rw [getElem!_pos z _ hlt]
  exact ho _ (by simp)
theorem make_ok {P ty} (hT : TyOk P ty) {B G s a w} (h : Sim B G s a w) (o : Oper) {r : AV} (hr : evMake ty (opv s.tmps) o.op = some r) :
  ∃ v w' G',(execOp a.eval o).run P w = .ok (.value v) w' ∧ Sim B G' s a w' ∧ RepT G' w' r v ∧ G'.τ = G.τ := by
 obtain ⟨dst,op,oty,pos,after,guard⟩ := o
 simp only at hr
 cases op <;> try (simp [evMake] at hr; done)
 rename_i t len parts
 simp only [evMake] at hr
 cases he : elemOf ty t with
 | none => simp [he] at hr
 | some ei =>
 simp only [he] at hr
 cases hb : (isSlice ty t && Nat.ble (len * ei.size) 16777216 && ei.zero.length == ei.size && (ei.td.agg || ei.size == 1)) <;> rw [hb] at hr <;> simp only [cond_true,cond_false] at hr
 ·cases hr
 simp only [Bool.and_eq_true,Nat.ble_eq,beq_iff_eq] at hb
 obtain ⟨⟨⟨hb1,hb2⟩,hb3⟩,hb4⟩ := hb
 rw [Option.map_eq_some_iff] at hr
 obtain ⟨cs,hf,rfl⟩ := hr
 obtain ⟨et,hu,hte⟩ := (elemOf_ok hT he).1 hb1
 obtain ⟨z,hz,hz1,hz2⟩ := run_zero hT hte w
 have hzs : z.cells.size = ei.size := by rw [← hb3,← hz1]; simp
 have hp := parts_ok (fun x => h.opv x) parts
 have key : ∃ zc : Array Value,(len * ei.size = 0 ∧ zc = #[] ∨ ¬ len * ei.size = 0 ∧ zc = z.cells) ∧
   RepL G.S w (fun _ => none) (zeros ei len) ((Array.range (len * ei.size)).map (zc[· % zc.size]!)).toList ∧ (∀ v ∈ ((Array.range (len * ei.size)).map (zc[· % zc.size]!)).toList,oc v = true) := by
  unfold zeros
  rw [hb3]
  by_cases h0 : len * ei.size = 0
  ·refine ⟨#[],.inl ⟨h0,rfl⟩,?_,?_⟩
   ·rw [h0]; simp; exact .nil
   ·rw [h0]; simp
  ·have := zeros_ok (S := G.S) (w := w) hz1 hz2 (len * ei.size) (fun _ => by
    rw [hzs]
    rcases Nat.eq_zero_or_pos ei.size with e | e
    ·rw [e] at h0; simp at h0
    ·exact e)
   rw [hb3] at this
   exact ⟨z.cells,.inr ⟨h0,rfl⟩,this.1,this.2⟩
 obtain ⟨zc,hzc,hr1,hr2⟩ := key
 obtain ⟨us,hu1,hu2,hu3⟩ := fill_ok _ _ _ hp.1 hp.2 hr1 hr2 hf
 have hlen : cs.length = len * ei.size := by
  have : ∀ (ps : List (Nat × AV)) (c0 c1 : List AV),fillA (fun i => some (i * ei.size,ei.size)) c0 ps = some c1 → c1.length = c0.length := by
   intro ps
   induction ps with
   | nil => intro c0 c1 h; simp [fillA] at h; rw [h]
   | cons p ps ih =>
    intro c0 c1 h
    obtain ⟨i,v⟩ := p
    simp only [fillA] at h
    split at h
    ·rw [ih _ _ h,setAt_length]
    ·cases h
  rw [this _ _ _ hf]; simp [zeros,hb3]
 have hul : us.length = len * ei.size := by rw [← hu2.length,hlen]
 obtain ⟨hinv,hext⟩ := h.inv.lay us et us.length (Nat.le_refl _)
 obtain ⟨hrows,hrl⟩ := rows_ok ei.td.agg hb4 len hu2 hu3 hlen
 refine ⟨.slice (some ⟨w.heap.size,0,none⟩) len len,w.alloc (.cells us.toArray et),G.lay w.heap.size us.length,?_,h.mono hinv hext (fun _ _ h => h) (fun _ _ h => h),?_,rfl⟩
 ·simp only [Array.toArray_toList] at hu1
  have hrun : (Instr.buildSlice t len (parts.map fun p => (p.1,a.eval p.2))).run P w = .ok (.slice (some ⟨w.heap.size,0,none⟩) len len) (w.alloc (.cells us.toArray et)) := by
   simp only [Instr.buildSlice,Sem.run_bind,run_underlying hu,Result.andThen_ok,run_size hT hte]
   rw [if_neg (by omega)]
   rcases hzc with ⟨h0,rfl⟩ | ⟨h0,rfl⟩
   ·rw [if_pos h0]
    simp only [Sem.run_bind,Sem.run_pure,Result.andThen_ok]
    rw [hu1]
    simp [run_newRow]
   ·rw [if_neg h0]
    simp only [Sem.run_bind,Sem.run_pure,Result.andThen_ok,hz]
    rw [hu1]
    simp [run_newRow]
  simp [execOp,hrun]
 ·have hrd : Rd (G.lay w.heap.size us.length).S (w.alloc (.cells us.toArray et)) ⟨w.heap.size,0,none⟩ us := by
   refine ⟨rfl,fun j v hv => ⟨.inr ⟨rfl,?_⟩,?_⟩⟩
   ·have := (List.getElem?_eq_some_iff.1 hv).1; simpa using this
   ·simp only [Nat.zero_add]
    rw [(pushed_new w us et).cell]; exact hv
  have := RepV.slFull (β := (G.lay w.heap.size us.length).β) (hrows.ext hext) hrd
  rw [hrl] at this
  exact .of this
end Go.Ev
set_option linter.unusedVariables false
set_option linter.unusedSimpArgs false
namespace Go.Ev
open Go
def Src (P : Program) (t2 : TypeId) (ei : TI) (z : Value) (w : World) (yv : Value) (n : Nat) (news : List Value) : Prop :=
 (∃ e2 b c,P.underlying t2 = some (.slice e2) ∧ yv = .slice b n c ∧ ∀ w' : World,(∀ a,w'.cell? a = w.cell? a) → (Builtin.firstCells ei.size n yv).run P w' = .ok news.toArray w') ∨
 (∃ k i,P.underlying t2 = some (.int k) ∧ yv = .int .i64 i ∧ 0 ≤ i ∧ i ≤ 140737488355328 ∧ ei.bytes * i ≤ 140737488355328 ∧ n = i.toNat ∧ news.toArray = Builtin.zeroCells z.cells n)
theorem run_append_room {P ty} (hT : TyOk P ty) {t t2 e oty : TypeId} {ei : TI} (he : ty e = some ei) (hu : P.underlying t = some (.slice e)) {z : Value} {w : World} (hz : (zeroValue e).run P w = .ok z w) (hzs : z.cells.size = ei.size)
  {base : Option Addr} {n cap m : Nat} {yv : Value} {news : List Value} (hsrc : Src P t2 ei z w yv m news) (hroom : n + m ≤ cap) :
  (Builtin.append_ #[t,t2] oty #[.slice base n cap,yv]).run P w = ((match base with | some a => storeCells (a.add (n * ei.size)) news | none => pure () : Sem Unit).run P w).andThen fun _ w' => .ok (.slice base (n + m) cap) w' := by
 obtain ⟨info,hinfo,_,hib⟩ := run_info hT he w
 rcases hsrc with ⟨e2,b,c,hu2,rfl,hf⟩ | ⟨k,i,hu2,rfl,h0,h1,h2,rfl,hn⟩
 ·have hf' := hf w (fun _ => rfl)
  simp only [Builtin.append_,Sem.run_bind,run_underlying hu,run_underlying hu2,Result.andThen_ok,run_size hT he,List.getElem?_toArray,List.getElem?_cons_zero,List.getElem?_cons_succ,Sem.run_pure,Builtin.lenOf,Bool.false_eq_true,if_false,hroom,if_true,Bool.not_false,hf']
  cases base with
  | none => simp
  | some a => simp [Result.andThen]
 ·have hw : IntKind.i64.wrap i = i := by rw [IntKind.wrap_i64]; omega
  have hnews : news = (Builtin.zeroCells z.cells i.toNat).toList := by rw [← hn]
  simp only [Builtin.append_,Sem.run_bind,run_underlying hu,run_underlying hu2,Result.andThen_ok,run_size hT he,List.getElem?_toArray,List.getElem?_cons_zero,List.getElem?_cons_succ,Sem.run_pure,asInt,asIntOf,hw,if_true,
   Bool.not_true,Bool.false_eq_true,if_false]
  rw [if_neg (by omega)]
  simp only [Sem.run_bind,hinfo,Result.andThen_ok,hib]
  rw [if_neg (by rw [Int.mul_comm]; omega)]
  simp only [Sem.run_bind,Sem.run_pure,Result.andThen_ok]
  rw [if_pos hroom]
  by_cases hz0 : i.toNat * ei.size = 0
  ·rw [if_pos hz0]
   have : news = [] := by
    rw [hnews]; apply List.eq_nil_of_length_eq_zero; simp [Builtin.zeroCells,hzs,hz0]
   subst this
   cases base with
   | none => simp
   | some a => simp [Result.andThen]
  ·rw [if_neg hz0]
   simp only [Sem.run_bind,Sem.run_pure,Result.andThen_ok,hz,← hnews]
   cases base with
   | none => simp
   | some a => simp [Result.andThen]
theorem run_append_grow {P ty} (hT : TyOk P ty) {t t2 e oty : TypeId} {ei : TI} (he : ty e = some ei) (hu : P.underlying t = some (.slice e)) {z : Value} {w : World} (hz : ∀ w : World,(zeroValue e).run P w = .ok z w) (hzs : z.cells.size = ei.size)
  {base : Option Addr} {n cap m : Nat} {yv : Value} {news olds : List Value} (hsrc : Src P t2 ei z w yv m news) (hroom : ¬ n + m ≤ cap) (hb : (n + m) * ei.bytes ≤ 140737488355328) (hb63 : n + m ≤ 140737488355328)
  (hold : ∀ w' : World,(∀ a,w'.cell? a = w.cell? a) → (Builtin.firstCells ei.size n (.slice base n cap)).run P w' = .ok olds.toArray w') :
  ∃ (ncap : Nat) (rest : List Value),n + m ≤ ncap ∧ rest.length = (ncap - (n + m)) * ei.size ∧
  (Builtin.append_ #[t,t2] oty #[.slice base n cap,yv]).run P w = .ok (.slice (some ⟨w.heap.size,0,none⟩) (n + m) ncap) (w.drew.alloc (.cells (olds ++ news ++ rest).toArray e)) := by
 have hinfo : ∀ w : World,∃ info,(typeInfo e).run P w = .ok info w ∧ info.size = ei.size ∧ info.bytes = ei.bytes := fun w => run_info hT he w
 obtain ⟨info,hi1,_,hib⟩ : ∃ info,(∀ w : World,(typeInfo e).run P w = .ok info w) ∧ info.size = ei.size ∧ info.bytes = ei.bytes := by
  obtain ⟨i,z,h1,h2,h3,_⟩ := (hT e ei he).info
  exact ⟨i,fun w => by simp [typeInfo,h1],h2,h3⟩
 have hfit := growslice_fits (need := n + m) (old := cap) (bytes := ei.bytes) (by omega) hb
 have hmax : IntKind.i64.max = 9223372036854775807 := by decide
 have hold' := hold w.drew (fun _ => rfl)
 refine ⟨(Question.appendCap (n + m) cap e).cut (w.tape w.drawn (.appendCap (n + m) cap e)),(Builtin.zeroCells z.cells ((Question.appendCap (n + m) cap e).cut (w.tape w.drawn (.appendCap (n + m) cap e)) - (n + m))).toList,?_,?_,?_⟩
 ·simp [Question.cut]
 ·simp [Builtin.zeroCells,hzs]
 generalize hnc : (Question.appendCap (n + m) cap e).cut (w.tape w.drawn (.appendCap (n + m) cap e)) = nc
 have hch : (choose (Question.appendCap (n + m) cap e)).run P w = .ok nc w.drew := by
  rw [← hnc]; simp [choose,Sem.run,Question.forced]
 have hroomrun : ∀ (k : Nat) (w : World),(askRoom k).run P w = .ok () w := by
  intro k w; unfold askRoom; split
  ·simp [mark,Sem.run]
  ·simp
 have hdsz : w.drew.heap.size = w.heap.size := rfl
 generalize hrs : Builtin.zeroCells z.cells (nc - (n + m)) = ra
 obtain ⟨rest⟩ := ra
 rcases hsrc with ⟨e2,b,c,hu2,rfl,hf⟩ | ⟨k,i,hu2,rfl,h0,h1,h2,rfl,hn⟩
 ·have hf' := hf w.drew (fun _ => rfl)
  simp only [Builtin.append_,Sem.run_bind,run_underlying hu,run_underlying hu2,Result.andThen_ok,run_size hT he,List.getElem?_toArray,List.getElem?_cons_zero,List.getElem?_cons_succ,Sem.run_pure,Builtin.lenOf,Bool.false_eq_true,if_false,Bool.not_false]
  rw [if_neg hroom]
  simp only [Sem.run_bind,hi1,Result.andThen_ok,hib,hmax]
  rw [if_neg (by rintro ⟨h,_⟩; omega)]
  simp only [Sem.run_bind,hi1,Result.andThen_ok,hib]
  rw [if_neg (by omega)]
  simp only [Sem.run_bind,hch,hi1,Result.andThen_ok,hroomrun,hold',if_true,hf',hz,run_newRow,Sem.run_pure,hdsz,hrs]
  simp
 ·have hw : IntKind.i64.wrap i = i := by rw [IntKind.wrap_i64]; omega
  have hnews : news = (Builtin.zeroCells z.cells i.toNat).toList := by rw [← hn]
  simp only [Builtin.append_,Sem.run_bind,run_underlying hu,run_underlying hu2,Result.andThen_ok,run_size hT he,List.getElem?_toArray,List.getElem?_cons_zero,List.getElem?_cons_succ,Sem.run_pure,asInt,asIntOf,hw,if_true,
   Bool.not_true,Bool.false_eq_true,if_false]
  rw [if_neg (by omega)]
  simp only [Sem.run_bind,hi1,Result.andThen_ok,hib]
  rw [if_neg (by rw [Int.mul_comm]; omega)]
  simp only [Sem.run_bind,Sem.run_pure,Result.andThen_ok]
  rw [if_neg hroom]
  simp only [Sem.run_bind,hi1,Result.andThen_ok,hib,hmax]
  rw [if_neg (by rintro ⟨h,_⟩; omega)]
  simp only [Sem.run_bind,hi1,Result.andThen_ok,hib]
  rw [if_neg (by omega)]
  simp only [Sem.run_bind,hch,hi1,Result.andThen_ok,hroomrun,hold',if_true]
  by_cases hz0 : i.toNat * ei.size = 0
  ·rw [if_pos hz0]
   have : news = [] := by
    rw [hnews]; apply List.eq_nil_of_length_eq_zero; simp [Builtin.zeroCells,hzs,hz0]
   subst this
   simp only [Sem.run_bind,Sem.run_pure,Result.andThen_ok,hz,run_newRow,hdsz,hrs]
   simp
  ·rw [if_neg hz0]
   simp only [Sem.run_bind,Sem.run_pure,Result.andThen_ok,hz,run_newRow,hdsz,← hn,hrs]
   simp
end Go.Ev
set_option linter.unusedVariables false
set_option linter.unusedSimpArgs false
namespace Go.Ev
open Go
theorem look_mem {m : Mem} {i : Nat} {cs : List AV} (h : look m i = some cs) : (i,cs) ∈ m := by
 induction m with
 | nil => simp [look] at h
 | cons p r ih =>
  obtain ⟨j,c⟩ := p
  simp only [look] at h
  split at h
  ·rename_i e; subst e; cases h; simp
  ·exact List.mem_cons_of_mem _ (ih h)
theorem noTag_mem {s : AS} {k : Tag} (h : s.noTag k = true) : noTags s.mem k := by
 intro i cs hi c hc
 simp only [AS.noTag,Bool.and_eq_true,List.all_eq_true] at h
 have := h.2 _ (look_mem hi) c hc
 simpa using this
theorem noTag_tmp {s : AS} {k : Tag} (h : s.noTag k = true) (i : Nat) : hasTag k (s.tmps.getD i .unk) = false := by
 simp only [AS.noTag,Bool.and_eq_true,List.all_eq_true] at h
 rw [List.getD_eq_getElem?_getD]
 cases hx : s.tmps[i]? with
 | none => rfl
 | some c => have := h.1 c (List.mem_of_getElem? hx); simpa using this
theorem Sim.drop {B G s a w} (h : Sim B G s a w) {k : Tag} (hk : s.noTag k = true) : Sim B (G.drop k) s a w :=
 ⟨h.inv.drop (noTag_mem hk),h.len,fun i => (h.tmps i).mono2 (Ext.refl _ _) (fun _ _ h => h) (fun k' x hk' hx => by
  simp only [Gh.drop]
  rw [if_neg]
  ·exact hx
  ·rintro rfl
   rw [noTag_tmp hk i] at hk'
   exact Bool.noConfusion hk'),h.defers⟩
theorem Sim.own {B G s a w} (h : Sim B G s a w) {k : Tag} (hk : G.τ k = none) {g e l : Nat} (hg : B.New k g e) (hβ : ∀ i,G.β i ≠ some g) {vs : List Value} {t : TypeId} (hb : Blk w g vs t)
  (hl : l ≤ vs.length) (hS : ∀ o,e ≤ o → ¬ G.S g o) (hτ : ∀ k' e' l',G.τ k' = some (g,e',l') → k' = k) : Sim B (G.own k (g,e,l)) s a w :=
 ⟨h.inv.own hk hg hβ hb hl hS hτ,h.len,fun i => (h.tmps i).mono (Ext.refl _ _) (fun _ _ h => h) (fun k' x hx => by
  simp only [Gh.own]
  rw [if_neg]
  ·exact hx
  ·rintro rfl
   rw [hk] at hx; cases hx),h.defers⟩
theorem range_add_map {α : Type} (f : Nat → α) (a b : Nat) : (List.range (a + b)).map f = (List.range a).map f ++ (List.range b).map fun i => f (a + i) := by
 rw [List.range_add,List.map_append,List.map_map]; rfl
theorem zeroCells_ok {S w} {ei : TI} {z : Value} (hz : z.cells.toList.map ofVal = ei.zero) (ho : ∀ v ∈ z.cells.toList,oc v = true) (hl : ei.zero.length = ei.size) (hs : (ei.td.agg || ei.size == 1) = true) :
  ∀ n : Nat,RepR S w ei.size (List.replicate n ei.elemZero) (Builtin.zeroCells z.cells n).toList := by
 have hzs : z.cells.size = ei.size := by rw [← hl,← hz]; simp
 have hzl : (Builtin.zeroCells z.cells 1).toList = z.cells.toList := by
  simp only [Builtin.zeroCells,Nat.one_mul,Array.toList_map,Array.toList_range]
  apply List.ext_getElem
  ·simp
  ·intro i h1 h2
   simp at h1 h2
   simp [Nat.mod_eq_of_lt h1,getElem!_pos,h1]
 have hrep : RepL S w (fun _ => none) ei.zero z.cells.toList := by rw [← hz]; exact map_ofVal _
 have helem : RepC S w ei.elemZero z.cells.toList := by
  unfold TI.elemZero
  cases ha : ei.td.agg
  ·simp [ha] at hs
   simp only [Bool.false_eq_true,if_false]
   have : ∃ v,z.cells.toList = [v] := by
    have : z.cells.toList.length = 1 := by simp [hzs,hs]
    match hq : z.cells.toList with
    | [v] => exact ⟨v,rfl⟩
    | [] => rw [hq] at this; simp at this
    | _ :: _ :: _ => rw [hq] at this; simp at this
   obtain ⟨v,hv⟩ := this
   rw [hv] at hrep ho ⊢
   generalize ei.zero = zs at hrep
   cases hrep with
   | cons h1 h2 => exact .one h1 (oc_notAgg h1 (ho v (by simp))) (ho v (by simp))
  ·simp only [if_true]
   exact .agg hrep ho
 intro n
 induction n with
 | zero => simp [Builtin.zeroCells]; exact .nil
 | succ n ih =>
  have e : (Builtin.zeroCells z.cells (n + 1)).toList = z.cells.toList ++ (Builtin.zeroCells z.cells n).toList := by
   rw [← hzl]
   simp only [Builtin.zeroCells,Array.toList_map,Array.toList_range,Nat.one_mul]
   rw [Nat.succ_mul,Nat.add_comm,range_add_map]
   congr 1
   apply List.map_congr_left
   intro i _
   simp
  rw [e,List.replicate_succ]
  exact .cons helem (by simp [hzs]) ih
theorem srcA_ok {P ty} (hT : TyOk P ty) {B G s a w} (h : Sim B G s a w) {e t2 : TypeId} {ei : TI} (he : ty e = some ei) {z : Value} (hz1 : z.cells.toList.map ofVal = ei.zero) (hz2 : ∀ v ∈ z.cells.toList,oc v = true)
  {y : AV} {yv : Value} (hy : RepT G w y yv) {ys : List AV} (hs : srcA ty t2 ei s.mem y = some ys) : ∃ news,RepR G.S w ei.size ys news ∧ Src P t2 ei z w yv ys.length news := by
 unfold srcA at hs
 have slice2 : isSlice ty t2 = true → ∃ e2,P.underlying t2 = some (.slice e2) := by
  intro hi
  unfold isSlice at hi
  cases ht : ty t2 with
  | none => simp [ht] at hi
  | some ti =>
   simp only [ht] at hi
   split at hi
   ·rename_i e2 hd; exact ⟨e2,und_slice hT ht hd⟩
   ·cases hi
 split at hs
 ·rename_i sz ys' st
  cases hb : (isSlice ty t2 && (sz == ei.size || (st == .nil && ys'.isEmpty))) <;> rw [hb] at hs <;> simp only [cond_true,cond_false] at hs
  ·cases hs
  cases hs
  simp only [Bool.and_eq_true,Bool.or_eq_true,beq_iff_eq,List.isEmpty_iff] at hb
  obtain ⟨hb1,hb2⟩ := hb
  obtain ⟨e2,hu2⟩ := slice2 hb1
  obtain ⟨ad,cap,rfl,hle,hn,hf,hr⟩ := hy.sl_inv
  by_cases hst : st = .nil
  ·obtain ⟨rfl,rfl,rfl⟩ := hn hst
   exact ⟨[],.nil,.inl ⟨e2,none,0,hu2,rfl,fun w' _ => by simp [Builtin.firstCells]⟩⟩
  ·rcases hr hst with ⟨ad',vs,rfl,hrr,hd⟩ | ⟨rfl,rfl,rfl,_⟩
   rotate_left
   ·exact ⟨[],.nil,.inl ⟨e2,none,0,hu2,rfl,fun w' _ => by simp [Builtin.firstCells]⟩⟩
   have hsz : sz = ei.size := by rcases hb2 with h | h; exact h; exact absurd h.1 hst
   subst hsz
   refine ⟨vs,hrr,.inl ⟨e2,some ad',cap,hu2,rfl,fun w' hw' => ?_⟩⟩
   have := run_loadCells P (w := w') (a := ad') (vs := vs) (fun j v hv => by rw [hw']; exact hd.cells j v hv)
   rw [hrr.length] at this
   simpa [Builtin.firstCells] using this
 ·rename_i id off n
  cases hl : look s.mem id with
  | none => simp [hl] at hs
  | some cs =>
  simp only [hl] at hs
  cases hb : (isSlice ty t2 && ((cs.drop off).take (n * ei.size)).length == n * ei.size && (ei.td.agg || ei.size == 1)) <;> rw [hb] at hs <;> simp only [cond_true,cond_false] at hs
  ·cases hs
  cases hs
  simp only [Bool.and_eq_true,beq_iff_eq] at hb
  obtain ⟨⟨hb1,hb2⟩,hb3⟩ := hb
  obtain ⟨e2,hu2⟩ := slice2 hb1
  obtain ⟨b,cap,hβ,rfl,hle⟩ := hy.view_inv
  obtain ⟨b',vs,t',h1,h2,h3,h4,h5⟩ := h.inv.mem id cs hl
  rw [hβ] at h1; cases h1
  have hrep : RepL G.S w (fun _ => none) (((cs.drop off).take (n * ei.size)).map AV.flat) ((vs.drop off).take (n * ei.size)) := by
   rw [List.map_take,List.map_drop]
   refine RepL.take (RepL.drop (RepL.of_get (by simp [h3]) fun i c v hc hv => ?_) _) _
   simp only [List.getElem?_map,Option.map_eq_some_iff] at hc
   obtain ⟨c0,hc,rfl⟩ := hc
   exact (h4 i c0 v hc hv).flat
  obtain ⟨hrows,hrl⟩ := rows_ok ei.td.agg hb3 n hrep (fun v hv => h5 v (List.mem_of_mem_drop (List.mem_of_mem_take hv))) (by simpa using hb2)
  refine ⟨_,hrows,.inl ⟨e2,_,cap,hu2,by rw [hrl],fun w' hw' => ?_⟩⟩
  have hvl : ((vs.drop off).take (n * ei.size)).length = n * ei.size := by rw [← hrep.length]; simpa using hb2
  have := run_loadCells P (w := w') (a := ⟨b,off,none⟩) (vs := (vs.drop off).take (n * ei.size)) (fun j v hv => by
   rw [hw',add_mk,h2.cell]
   rw [List.getElem?_take] at hv
   split at hv
   ·rwa [List.getElem?_drop] at hv
   ·cases hv)
  rw [hvl] at this
  rw [hrl]
  simpa [Builtin.firstCells] using this
 ·rename_i n
  cases hb : (isInt ty t2 && ile 0 n && ile n 140737488355328 && ile ((ei.bytes : Int) * n) 140737488355328 && ei.zero.length == ei.size && (ei.td.agg || ei.size == 1)) <;> rw [hb] at hs <;> simp only [cond_true,cond_false] at hs
  ·cases hs
  cases hs
  simp only [Bool.and_eq_true,beq_iff_eq,ile,decide_eq_true_eq] at hb
  obtain ⟨⟨⟨⟨⟨hb1,hb2⟩,hb3⟩,hb4⟩,hb5⟩,hb6⟩ := hb
  have := hy.int_inv; subst yv
  have hu2 : ∃ k,P.underlying t2 = some (.int k) := by
   unfold isInt at hb1
   cases ht : ty t2 with
   | none => simp [ht] at hb1
   | some ti =>
    simp only [ht] at hb1
    split at hb1
    ·rename_i k hd; exact ⟨k,und_int hT ht hd⟩
    ·cases hb1
  obtain ⟨k,hu2⟩ := hu2
  exact ⟨_,zeroCells_ok hz1 hz2 hb5 hb6 n.toNat,.inr ⟨k,n,hu2,rfl,hb2,hb3,hb4,by simp,by simp⟩⟩
 ·cases hs
end Go.Ev
set_option linter.unusedVariables false
set_option linter.unusedSimpArgs false
namespace Go.Ev
open Go
theorem grow_sim {B G s a w} (h : Sim B G s a w) {d size n m ncap : Nat} {tg : Tag} (hd : G.τ tg = none) {xs ys : List AV} {olds news rest : List Value} (e : TypeId) (hx : RepR G.S w size xs olds) (hy : RepR G.S w size ys news)
  (hn : xs.length = n) (hm : ys.length = m) (hc : n + m ≤ ncap) (hr : rest.length = (ncap - (n + m)) * size) :
  ∃ G',Sim B G' (s.put (some d) (.sl size (xs ++ ys) (.own tg))) (a.put (some d) (.slice (some ⟨w.heap.size,0,none⟩) (n + m) ncap)) (w.drew.alloc (.cells (olds ++ news ++ rest).toArray e)) ∧ TauLe G G' (some tg) := by
 have h1 := h.drew
 have hlen : (olds ++ news).length = (n + m) * size := by rw [List.length_append,hx.length,hy.length,hn,hm,Nat.add_mul]
 have htot : (olds ++ news ++ rest).length = ncap * size := by
  rw [List.length_append,hlen,hr,← Nat.add_mul]; congr 1; omega
 have hsz : w.drew.heap.size = w.heap.size := rfl
 obtain ⟨hi,he⟩ := h1.inv.lay (olds ++ news ++ rest) e ((n + m) * size) (by rw [htot]; exact Nat.mul_le_mul_right _ hc)
 rw [hsz] at hi he
 have h2 := h1.mono hi he (fun _ _ h => h) (fun _ _ h => h)
 have hnew : Blk (w.drew.alloc (.cells (olds ++ news ++ rest).toArray e)) w.heap.size (olds ++ news ++ rest) e := pushed_new w.drew _ e
 have hτ : ∀ k' e' l',G.τ k' = some (w.heap.size,e',l') → k' = tg := by
  intro k' e' l' hk
  obtain ⟨_,_,⟨vs,t,hb,_⟩,_⟩ := h.inv.τ k' _ _ _ hk
  have := hb.lt; omega
 have hβ : ∀ i,G.β i ≠ some w.heap.size := fun i hi => by have := βlt h.inv i _ hi; omega
 have hS : ∀ o,(n + m) * size ≤ o → ¬ (G.lay w.heap.size ((n + m) * size)).S w.heap.size o := by
  rintro o ho (hs | ⟨_,hlt⟩)
  ·have := h.inv.Slt _ _ hs; omega
  ·omega
 have h3 := h2.own (k := tg) (g := w.heap.size) (e := (n + m) * size) (l := ncap * size) hd (.inl h.inv.size) hβ hnew (by rw [htot]; exact Nat.le_refl _) hS hτ
 refine ⟨_,h3.put (some d) ?_,fun k x hx => ?_⟩
 rotate_left
 ·simp only [Gh.own] at hx
  split at hx
  ·rename_i e; exact .inl (by rw [e])
  ·exact .inr (by simp only [Gh.lay] at hx; rw [hx]; simp)
 have hE : Ext G.S w (G.lay w.heap.size ((n + m) * size)).S (w.drew.alloc (.cells (olds ++ news ++ rest).toArray e)) := h.inv.drew.2.trans he
 have hrr : RepR (G.lay w.heap.size ((n + m) * size)).S (w.drew.alloc (.cells (olds ++ news ++ rest).toArray e)) size (xs ++ ys) (olds ++ news) := (hx.append hy).ext hE
 have hrd : Rd (G.lay w.heap.size ((n + m) * size)).S (w.drew.alloc (.cells (olds ++ news ++ rest).toArray e)) ⟨w.heap.size,0,none⟩ (olds ++ news) := by
  refine ⟨rfl,fun j v hv => ⟨.inr ⟨rfl,?_⟩,?_⟩⟩
  ·have := (List.getElem?_eq_some_iff.1 hv).1
   simp only [Nat.zero_add]; omega
  ·simp only [Nat.zero_add]
   rw [hnew.cell,List.getElem?_append_left (List.getElem?_eq_some_iff.1 hv).1]
   exact hv
 have hl2 : (xs ++ ys).length = n + m := by simp [hn,hm]
 unfold RepT
 simp only
 refine ⟨w.heap.size,ncap,olds ++ news,by rw [hl2],hrr,hrd,?_,by rw [hl2]; exact hc⟩
 simp [Gh.own,hl2]
theorem setAtV_get (ns : List Value) : ∀ (c : List Value) (o j : Nat),(setAtV c o ns)[j]? = if o ≤ j ∧ j < o + ns.length ∧ j < c.length then ns[j - o]? else c[j]? := by
 induction ns with
 | nil => intro c o j; rw [if_neg (by rintro ⟨h1,h2,_⟩; simp at h2; omega)]; rfl
 | cons n ns ih =>
  intro c o j
  simp only [setAtV,ih,List.length_set,List.length_cons]
  by_cases hj : j = o
  ·subst hj
   rw [if_neg (by omega)]
   by_cases hl : j < c.length
   ·rw [if_pos ⟨by omega,by omega,hl⟩]
    simp [hl]
   ·rw [if_neg (by omega)]
    simp [List.getElem?_set,hl]
  ·by_cases h1 : o + 1 ≤ j ∧ j < o + 1 + ns.length ∧ j < c.length
   ·rw [if_pos h1,if_pos ⟨by omega,by omega,h1.2.2⟩]
    have : j - o = (j - (o + 1)) + 1 := by omega
    rw [this,List.getElem?_cons_succ]
   ·rw [if_neg h1,if_neg (by omega)]
    rw [List.getElem?_set_ne (Ne.symm hj)]
theorem room_sim {P : Program} {B G s a w} (h : Sim B G s a w) {d size n m cap g : Nat} {k : Tag} (hd : G.τ [d] = none) {xs ys : List AV} {olds news : List Value} (hx : RepR G.S w size xs olds) (hy : RepR G.S w size ys news)
  (hn : xs.length = n) (hm : ys.length = m) (hc : n + m ≤ cap) (hrd : Rd G.S w ⟨g,0,none⟩ olds) (hτk : G.τ k = some (g,n * size,cap * size)) :
  ∃ w' G',(storeCells ((Addr.mk g 0 none).add (n * size)) news).run P w = .ok () w' ∧ Sim B G' ((s.retag k).put (some d) (.sl size (xs ++ ys) (.own (apT k d)))) (a.put (some d) (.slice (some ⟨g,0,none⟩) (n + m) cap)) w' ∧ TauLe G G' (some [d]) := by
 obtain ⟨hg,hβ,⟨vs,t,hb,hl⟩,hS⟩ := h.inv.τ k _ _ _ hτk
 have hnl : news.length = m * size := by rw [hy.length,hm]
 have hol : olds.length = n * size := by rw [hx.length,hn]
 have hmul : (n + m) * size ≤ cap * size := Nat.mul_le_mul_right _ hc
 have hadd : (n + m) * size = n * size + m * size := Nat.add_mul _ _ _
 obtain ⟨w',hrun,hb',ho⟩ := run_storeCells P (b := g) (o := n * size) news 0 hb (by omega) hy.oc
 have hrun' : (storeCells ((Addr.mk g 0 none).add (n * size)) news).run P w = .ok () w' := by rw [add_mk,Nat.zero_add]; exact hrun
 simp only [Nat.add_zero] at hb'
 have h1 := h.retag k
 have hτ1 : ∀ k' e l,(G.drop k).τ k' ≠ some (g,e,l) := by
  intro k' e l hk'
  simp only [Gh.drop] at hk'
  split at hk'
  ·cases hk'
  ·rename_i hne
   exact hne (h.inv.τinj k' k g e l _ _ hk' hτk)
 have hkeep : ∀ o,(G.drop k).S g o → (setAtV vs (n * size) news)[o]? = vs[o]? := by
  intro o hs
  rw [setAtV_get,if_neg]
  rintro ⟨h1,_,_⟩
  exact hS o h1 hs
 obtain ⟨hi,he⟩ := h1.inv.grow (w' := w') hg (fun i => hβ i) hτ1 hb hb' (setAtV_length _ _ _).symm ho hkeep (n := (n + m) * size) (by rw [setAtV_length]; omega) (fun o hlt => by rw [setAtV_get,if_neg (by omega)])
 have h2 := h1.mono hi he (fun _ _ h => h) (fun _ _ h => h)
 have hS2 : ∀ o,(n + m) * size ≤ o → ¬ ((G.drop k).lay g ((n + m) * size)).S g o := by
  rintro o ho' (hs | ⟨_,hlt⟩)
  ·exact hS o (by omega) hs
  ·omega
 have h3 := h2.own (k := apT k d) (g := g) (e := (n + m) * size) (l := cap * size) (by
  simp only [Gh.lay,Gh.drop]
  split
  ·rfl
  ·rename_i hne
   cases k with
   | nil => exact absurd rfl hne
   | cons _ _ => exact hd) (by
  rcases hg with hg | ⟨rfl,e0,k1,k2⟩
  ·exact .inl hg
  ·exact .inr ⟨rfl,e0,k1,by omega⟩) (fun i => hβ i) hb' (by rw [setAtV_length]; omega) hS2
  (fun k' e' l' hk' => (hτ1 k' e' l' hk').elim)
 refine ⟨w',_,hrun',h3.put (some d) ?_,fun k' x hx => ?_⟩
 rotate_left
 ·simp only [Gh.own] at hx
  split at hx
  ·rename_i e
   cases k with
   | nil => exact .inr (by rw [show k' = [] from e,hτk]; simp)
   | cons _ _ => exact .inl (by rw [show k' = [d] from e])
  ·simp only [Gh.lay,Gh.drop] at hx
   split at hx
   ·cases hx
   ·exact .inr (by rw [hx]; simp)
 have hrr : RepR ((G.drop k).lay g ((n + m) * size)).S w' size (xs ++ ys) (olds ++ news) := (hx.append hy).ext he
 have hcell : ∀ (j : Nat) v,(olds ++ news)[j]? = some v → (setAtV vs (n * size) news)[j]? = some v := by
  intro j v hv
  rw [setAtV_get]
  have hj := (List.getElem?_eq_some_iff.1 hv).1
  rw [List.length_append,hol,hnl] at hj
  by_cases h1 : n * size ≤ j
  ·rw [if_pos ⟨h1,by omega,by omega⟩]
   rw [List.getElem?_append_right (by omega),hol] at hv
   exact hv
  ·rw [if_neg (by omega)]
   rw [List.getElem?_append_left (by omega)] at hv
   have := (hrd.2 j v hv).2
   simp only [Nat.zero_add] at this
   rw [hb.cell] at this
   exact this
 have hrd' : Rd ((G.drop k).lay g ((n + m) * size)).S w' ⟨g,0,none⟩ (olds ++ news) := by
  refine ⟨rfl,fun j v hv => ⟨.inr ⟨rfl,?_⟩,?_⟩⟩
  ·have := (List.getElem?_eq_some_iff.1 hv).1
   rw [List.length_append,hol,hnl] at this
   simp only [Nat.zero_add]; omega
  ·simp only [Nat.zero_add]
   rw [hb'.cell]; exact hcell j v hv
 have hl2 : (xs ++ ys).length = n + m := by simp [hn,hm]
 unfold RepT
 simp only
 refine ⟨g,cap,olds ++ news,by rw [hl2],hrr,hrd',?_,by rw [hl2]; exact hc⟩
 simp [Gh.own,hl2]
theorem put_val (s : AS) (dst : Option Nat) (v : AV) : Eff.app { val := v } dst s = s.put dst v := by
 cases s; rfl
theorem put_rt (s : AS) (dst : Option Nat) (v : AV) (k : Tag) : Eff.app { val := v,rt := some k } dst s = (s.retag k).put dst v := by
 cases s; rfl
theorem append_ok {P ty} (hT : TyOk P ty) {B G s a w} (h : Sim B G s a w) {t t2 oty : TypeId} {ei : TI} (he : elemOf ty t = some ei) (his : isSlice ty t = true) {d : Nat} (hd : G.τ [d] = none)
  {x y : AV} {xv yv : Value} (hx : RepT G w x xv) (hy : RepT G w y yv) {ys : List AV} (hs : srcA ty t2 ei s.mem y = some ys) {e : Eff} (hap : appendA ei d x ys = some e) :
  ∃ v w' G',(Builtin.append_ #[t,t2] oty #[xv,yv]).run P w = .ok v w' ∧ Sim B G' (e.app (some d) s) (a.put (some d) v) w' ∧ TauLe G G' (some [d]) := by
 obtain ⟨et,hu,hte⟩ := (elemOf_ok hT he).1 his
 obtain ⟨z,hz,hz1,hz2⟩ : ∃ z,(∀ w : World,(zeroValue et).run P w = .ok z w) ∧ z.cells.toList.map ofVal = ei.zero ∧ ∀ v ∈ z.cells.toList,oc v = true := by
  obtain ⟨i,z,h1,_,_,h2,h3,h4⟩ := (hT et ei hte).info
  exact ⟨z,fun w => by simp [zeroValue,typeInfo,h1,h2],h3,h4⟩
 have hzs : z.cells.size = ei.size := by rw [← (hT et ei hte).zlen,← hz1]; simp
 obtain ⟨news,hyr,hsrc⟩ := srcA_ok hT h hte hz1 hz2 hy hs
 unfold appendA at hap
 split at hap
 case h_2 => cases hap
 rename_i sz xs st
 cases hb : ((sz == ei.size || (st == .nil && xs.isEmpty)) && ile (((xs.length + ys.length) * ei.bytes : Nat) : Int) 140737488355328 && ile ((xs.length + ys.length : Nat) : Int) 140737488355328) <;> rw [hb] at hap <;> simp only [cond_true,cond_false] at hap
 ·cases hap
 simp only [Bool.and_eq_true,Bool.or_eq_true,beq_iff_eq,List.isEmpty_iff,ile,decide_eq_true_eq] at hb
 obtain ⟨⟨hb1,hb2⟩,hb3⟩ := hb
 have hb2 : (xs.length + ys.length) * ei.bytes ≤ 140737488355328 := by omega
 have hb3 : xs.length + ys.length ≤ 140737488355328 := by omega
 have same : ys = [] → e = { val := .sl sz xs st } → ∃ v w' G',(Builtin.append_ #[t,t2] oty #[xv,yv]).run P w = .ok v w' ∧ Sim B G' (e.app (some d) s) (a.put (some d) v) w' ∧ TauLe G G' (some [d]) := by
  rintro rfl rfl
  obtain ⟨ad,cap,rfl,hle,_⟩ := hx.sl_inv
  have hn : news = [] := by
   cases hyr; rfl
  subst hn
  refine ⟨.slice ad xs.length cap,w,G,?_,by rw [put_val]; exact h.put (some d) hx,TauLe.refl _ _⟩
  rw [run_append_room hT hte hu (hz w) hzs hsrc (by simpa using hle)]
  cases ad <;> simp [storeCells]
 have anew : ∀ (s1 : AS) (G1 : Gh) (tg : Tag),Sim B G1 s1 a w → G1.τ tg = none → G1.S = G.S → (st = .nil ∨ sz = ei.size) → (∀ ad cap,xv = .slice ad xs.length cap → ¬ xs.length + ys.length ≤ cap) →
   ∃ v w' G',(Builtin.append_ #[t,t2] oty #[xv,yv]).run P w = .ok v w' ∧ Sim B G' (s1.put (some d) (.sl ei.size (xs ++ ys) (.own tg))) (a.put (some d) v) w' ∧ TauLe G1 G' (some tg) := by
  intro s1 G1 tg h1 hd1 hSS hsz hcap
  obtain ⟨ad,cap,rfl,hle,hnil,_,hr⟩ := hx.sl_inv
  have hold : ∃ olds : List Value,RepR G.S w ei.size xs olds ∧ ∀ w' : World,(∀ a,w'.cell? a = w.cell? a) → (Builtin.firstCells ei.size xs.length (.slice ad xs.length cap)).run P w' = .ok olds.toArray w' := by
   by_cases hst : st = .nil
   ·obtain ⟨rfl,rfl,rfl⟩ := hnil hst
    exact ⟨[],.nil,fun w' _ => by simp [Builtin.firstCells]⟩
   ·rcases hr hst with ⟨ad',vs,rfl,hrr,hd'⟩ | ⟨rfl,rfl,rfl,_⟩
    rotate_left
    ·exact ⟨[],.nil,fun w' _ => by simp [Builtin.firstCells]⟩
    have hsz' : sz = ei.size := hsz.resolve_left hst
    subst hsz'
    refine ⟨vs,hrr,fun w' hw' => ?_⟩
    have := run_loadCells P (w := w') (a := ad') (vs := vs) (fun j v hv => by rw [hw']; exact hd'.cells j v hv)
    rw [hrr.length] at this
    simpa [Builtin.firstCells] using this
  obtain ⟨olds,hor,hof⟩ := hold
  obtain ⟨ncap,rest,hc1,hc2,hrun⟩ := run_append_grow (oty := oty) hT hte hu hz hzs hsrc (hcap ad cap rfl) hb2 hb3 hof
  obtain ⟨G',hG,hT⟩ := grow_sim h1 hd1 et (by rw [hSS]; exact hor) (by rw [hSS]; exact hyr) rfl rfl hc1 hc2
  exact ⟨_,_,G',hrun,hG,hT⟩
 cases st with
 | nil =>
  simp only at hap
  cases hye : ys.isEmpty <;> rw [hye] at hap <;> simp only [cond_true,cond_false,Option.some.injEq] at hap
  ·subst hap
   have hxs : xs = [] := by obtain ⟨_,_,_,_,hn,_⟩ := hx.sl_inv; exact (hn rfl).2.1
   subst hxs
   have := anew s G [d] h hd rfl (.inl rfl) (fun ad cap he => by
    obtain ⟨_,_,he',_,hn,_⟩ := hx.sl_inv
    rw [he'] at he
    obtain ⟨rfl,_,rfl⟩ := hn rfl
    cases he
    have : ys.length ≠ 0 := fun e => by simp [List.eq_nil_of_length_eq_zero e] at hye
    show ¬ 0 + ys.length ≤ 0
    omega)
   rw [put_val]
   simpa using this
  ·exact same (by simpa using hye) hap.symm
 | full =>
  simp only at hap
  cases hye : ys.isEmpty <;> rw [hye] at hap <;> simp only [cond_true,cond_false,Option.some.injEq] at hap
  ·subst hap
   have hsz : sz = ei.size := by rcases hb1 with h | h; exact h; exact absurd h.1 (by simp)
   have := anew s G [d] h hd rfl (.inr hsz) (fun ad cap he => by
    obtain ⟨_,_,he',_,_,hf,_⟩ := hx.sl_inv
    rw [he'] at he
    have := hf rfl
    cases he
    have : ys.length ≠ 0 := fun e => by simp [List.eq_nil_of_length_eq_zero e] at hye
    omega)
   rw [put_val]
   exact this
  ·exact same (by simpa using hye) hap.symm
 | win k lo => simp at hap
 | sh =>
  simp only at hap
  cases hye : ys.isEmpty <;> rw [hye] at hap <;> simp only [cond_true,cond_false,Option.some.injEq] at hap
  ·cases hap
  ·exact same (by simpa using hye) hap.symm
 | own k =>
  simp only [Option.some.injEq] at hap
  subst hap
  have hsz : sz = ei.size := by rcases hb1 with h | h; exact h; exact absurd h.1 (by simp)
  subst hsz
  rw [put_rt]
  have hx' := hx
  unfold RepT at hx'
  obtain ⟨g,cap,olds,rfl,hor,hrd,hτ,hle⟩ := hx'
  by_cases hroom : xs.length + ys.length ≤ cap
  ·obtain ⟨w',G',hrun,hG,hTT⟩ := room_sim (P := P) h hd hor hyr rfl rfl hroom hrd hτ
   refine ⟨_,w',G',?_,hG,hTT⟩
   rw [run_append_room hT hte hu (hz w) hzs hsrc hroom]
   simp [hrun]
  ·obtain ⟨v,w',G',h1,h2,h3⟩ := anew (s.retag k) (G.drop k) (apT k d) (h.retag k) (by
    simp only [Gh.drop]
    split
    ·rfl
    ·rename_i hne
     cases k with
     | nil => exact absurd rfl hne
     | cons _ _ => exact hd) rfl (.inr rfl) (fun ad cap' he => by cases he; exact hroom)
   refine ⟨v,w',G',h1,h2,fun k' x hx => ?_⟩
   rcases h3 k' x hx with h4 | h4
   ·cases k with
    | nil =>
     have : k' = [] := by cases h4; rfl
     exact .inr (by rw [this,hτ]; simp)
    | cons _ _ => exact .inl h4
   ·refine .inr fun e => h4 ?_
    simp only [Gh.drop]; split
    ·rfl
    ·exact e
end Go.Ev
set_option linter.unusedVariables false
set_option linter.unusedSimpArgs false
namespace Go.Ev
open Go
structure Pass (w : World) (S : Nat → Nat → Prop) (β : Nat → Option Nat) (passed : List (List AV)) : Prop where
 lt : ∀ g o,S g o → g < w.heap.size
 inj : ∀ i j b,β i = some b → β j = some b → i = j
 avoid : ∀ i b o,β i = some b → ¬ S b o
 dom : ∀ i b,β i = some b → ∃ j,j < passed.length ∧ i = 1000 + j
 mem : ∀ (j : Nat) cs,passed[j]? = some cs → ∃ (b : Nat) (us : List Value) (t : TypeId),β (1000 + j) = some b ∧ Blk w b us t ∧ RepL S w (fun _ => none) cs us ∧ ∀ v ∈ us,oc v = true
def RepRes (S : Nat → Nat → Prop) (w w' : World) (r : AV) (v : Value) : Prop :=
 match r with
 | .sl sz xs (.own _) => ∃ (g cap : Nat) (vs us : List Value) (t : TypeId),w.heap.size ≤ g ∧ v = .slice (some ⟨g,0,none⟩) xs.length cap ∧ RepR S w' sz xs vs ∧ Rd S w' ⟨g,0,none⟩ vs ∧
  xs.length ≤ cap ∧ Blk w' g us t ∧ cap * sz ≤ us.length ∧ ∀ o,xs.length * sz ≤ o → ¬ S g o
 | r => RepV S w' (fun _ => none) r v
structure Done (w : World) (S : Nat → Nat → Prop) (β : Nat → Option Nat) (passed : List (List AV)) (r : AV) (passed' : List (List AV)) (v : Value) (w' : World) (S' : Nat → Nat → Prop) : Prop where
 size : w.heap.size ≤ w'.heap.size
 os : w'.os = w.os
 tape : w'.tape = w.tape
 output : w'.output = w.output
 old : ∀ b,b < w.heap.size → (∀ i,β i ≠ some b) → w'.heap[b]? = w.heap[b]?
 sub : ∀ g o,S g o → S' g o
 new : ∀ g o,S' g o → S g o ∨ w.heap.size ≤ g
 lt : ∀ g o,S' g o → g < w'.heap.size
 len : passed'.length = passed.length
 mem : ∀ (j : Nat) cs,passed'[j]? = some cs → ∃ (b : Nat) (us : List Value) (t : TypeId),β (1000 + j) = some b ∧ Blk w' b us t ∧ RepL S' w' (fun _ => none) cs us ∧ ∀ v ∈ us,oc v = true
 res : RepRes S' w w' r v
 fro : Fro w.heap.size w'
def CallsA (P : Program) (f : FuncId) (args : List AV) (passed : List (List AV)) (r : AV) (passed' : List (List AV)) : Prop :=
 (∃ fn, P.funcs[f]? = some fn ∧ fn.body.isSome = true ∧ (fn.name == "runtime.NumGoroutine") = false) ∧
 ∀ (w : World) (S : Nat → Nat → Prop) (β : Nat → Option Nat) (vs : List Value),Pass w S β passed → RepL S w β args vs →
  Calls P f vs.toArray w fun e w' => ∃ v S',e = .returned v ∧ Done w S β passed r passed' v w' S'
def SpecOk (P : Program) (spec : FuncId → List AV → List (List AV) → Option (AV × List (List AV))) : Prop :=
 ∀ f args passed r passed',spec f args passed = some (r,passed') → CallsA P f args passed r passed'
theorem capIds_sub (cap : List AV) (l : List Nat) : (∀ x ∈ l,x ∈ ptrIds.capIds cap l) ∧ (∀ id off,AV.ptr id off ∈ cap → id ∈ ptrIds.capIds cap l) ∧ (l.Nodup → (ptrIds.capIds cap l).Nodup) := by
 induction cap with
 | nil => exact ⟨fun x h => h,fun _ _ h => by simp at h,fun h => h⟩
 | cons c cap ih =>
  obtain ⟨h1,h2,h3⟩ := ih
  cases c <;> try (refine ⟨h1,fun id off h => h2 id off (by simpa using h),h3⟩)
  rename_i id off
  simp only [ptrIds.capIds]
  split
  ·rename_i hc
   refine ⟨h1,fun id' off' h => ?_,h3⟩
   simp only [List.mem_cons,AV.ptr.injEq] at h
   rcases h with ⟨rfl,rfl⟩ | h
   ·simpa using hc
   ·exact h2 id' off' h
  ·rename_i hc
   refine ⟨fun x h => List.mem_cons_of_mem _ (h1 x h),fun id' off' h => ?_,fun hn => List.nodup_cons.2 ⟨by simpa using hc,h3 hn⟩⟩
   simp only [List.mem_cons,AV.ptr.injEq] at h
   rcases h with ⟨rfl,rfl⟩ | h
   ·simp
   ·exact List.mem_cons_of_mem _ (h2 id' off' h)
theorem ptrIds_mem (args : List AV) : (∀ id off,AV.ptr id off ∈ args → id ∈ ptrIds args) ∧ (∀ f cap id off,AV.fn f cap ∈ args → AV.ptr id off ∈ cap → id ∈ ptrIds args) ∧ (ptrIds args).Nodup := by
 induction args with
 | nil => exact ⟨fun _ _ h => by simp at h,fun _ _ _ _ h => by simp at h,by simp [ptrIds]⟩
 | cons a args ih =>
  obtain ⟨h1,h2,h3⟩ := ih
  cases a <;> try (refine ⟨fun id off h => h1 id off (by simpa using h),fun f cap id off h h' => h2 f cap id off (by simpa using h) h',h3⟩)
  case ptr id off =>
   simp only [ptrIds]
   split
   ·rename_i hc
    refine ⟨fun id' off' h => ?_,fun f cap id off h h' => h2 f cap id off (by simpa using h) h',h3⟩
    simp only [List.mem_cons,AV.ptr.injEq] at h
    rcases h with ⟨rfl,rfl⟩ | h
    ·simpa using hc
    ·exact h1 id' off' h
   ·rename_i hc
    refine ⟨fun id' off' h => ?_,fun f cap id off h h' => List.mem_cons_of_mem _ (h2 f cap id off (by simpa using h) h'),List.nodup_cons.2 ⟨by simpa using hc,h3⟩⟩
    simp only [List.mem_cons,AV.ptr.injEq] at h
    rcases h with ⟨rfl,rfl⟩ | h
    ·simp
    ·exact List.mem_cons_of_mem _ (h1 id' off' h)
  case fn f cap =>
   simp only [ptrIds]
   obtain ⟨k1,k2,k3⟩ := capIds_sub cap (ptrIds args)
   refine ⟨fun id off h => k1 _ (h1 id off (by simpa using h)),fun f' cap' id off h h' => ?_,k3 h3⟩
   simp only [List.mem_cons,AV.fn.injEq] at h
   rcases h with ⟨rfl,rfl⟩ | h
   ·exact k2 id off h'
   ·exact k1 _ (h2 f' cap' id off h h')
theorem get_idxOf {ids : List Nat} {id : Nat} (h : id ∈ ids) : ids[ids.idxOf id]? = some id := by
 induction ids with
 | nil => simp at h
 | cons x ids ih =>
  rw [List.idxOf_cons]
  by_cases hx : x = id
  ·subst hx; simp
  ·have : (x == id) = false := by simpa using hx
   simp only [this,cond_false,List.getElem?_cons_succ]
   exact ih (by simpa [Ne.symm hx] using h)
theorem nodup_inj {l : List Nat} (h : l.Nodup) {i j x : Nat} (hi : l[i]? = some x) (hj : l[j]? = some x) : i = j := by
 obtain ⟨hi',ei⟩ := List.getElem?_eq_some_iff.1 hi
 obtain ⟨hj',ej⟩ := List.getElem?_eq_some_iff.1 hj
 have hp := List.pairwise_iff_getElem.1 h
 rcases Nat.lt_trichotomy i j with hlt | rfl | hlt
 ·exact absurd (ei.trans ej.symm) (hp i j hi' hj' hlt)
 ·rfl
 ·exact absurd (ej.trans ei.symm) (hp j i hj' hi' hlt)
def βof (β : Nat → Option Nat) (ids : List Nat) (i : Nat) : Option Nat := if 1000 ≤ i then (ids[i - 1000]?).bind β else none
theorem βof_at {β : Nat → Option Nat} {ids : List Nat} {id b : Nat} (h : id ∈ ids) (hb : β id = some b) : βof β ids (1000 + ids.idxOf id) = some b := by
 unfold βof
 rw [if_pos (by omega),Nat.add_sub_cancel_left]
 rw [get_idxOf h]; exact hb
theorem renumC_ok {S w β ids v u} (h : RepV S w β v u) (hp : ∀ id off,v = .ptr id off → id ∈ ids) : RepV S w (βof β ids) (v.renumC ids) u := by
 cases h with
 | ptr e => exact .ptr (βof_at (hp _ _ rfl) e)
 | unk v => exact .unk _
 | int k n => exact .int _ _
 | bool b => exact .bool _
 | str s => exact .str _
 | agg l o => exact .agg l o
 | tup l => exact .tup l
 | nilp => exact .nilp
 | ro c r => exact .ro c r
 | slNil => exact .slNil
 | slFull c r => exact .slFull c r
 | slSh cap c r l => exact .slSh cap c r l
 | slFullNil => exact .slFullNil
 | slShNil => exact .slShNil
 | view cap e l => exact .unk _
 | fn l => exact (RepV.fn l).flat.bare
 | niliface => exact .niliface
 | nilfn => exact .nilfn
theorem renum_ok {G w ids v u} (h : RepT G w v u) (hp : ∀ id off,v = .ptr id off → id ∈ ids) (hf : ∀ f cap id off,v = .fn f cap → AV.ptr id off ∈ cap → id ∈ ids) : RepV G.S w (βof G.β ids) (v.renum ids) u := by
 cases v
 case fn f cap =>
  obtain ⟨vs,rfl,hl⟩ := h.fn_inv
  refine .fn (RepL.of_get (by simp [hl.length]) fun i c v hc hv => ?_)
  simp only [List.getElem?_map,Option.map_eq_some_iff] at hc
  obtain ⟨c0,hc,rfl⟩ := hc
  obtain ⟨v',h1,h2⟩ := hl.get hc
  rw [h1] at hv; cases hv
  exact renumC_ok h2 fun id off e => hf f cap id off rfl (e ▸ List.mem_of_getElem? hc)
 case sl sz xs st => exact h.flat.bare
 case wp k i e => exact h.flat.bare
 all_goals exact renumC_ok h hp
theorem args_ok {G w} {args : List AV} {vs : List Value} (hl : args.length = vs.length) (h : ∀ (i : Nat) a v,args[i]? = some a → vs[i]? = some v → RepT G w a v) :
  RepL G.S w (βof G.β (ptrIds args)) (args.map (AV.renum (ptrIds args))) vs := by
 obtain ⟨h1,h2,_⟩ := ptrIds_mem args
 refine RepL.of_get (by simp [hl]) fun i c v hc hv => ?_
 simp only [List.getElem?_map,Option.map_eq_some_iff] at hc
 obtain ⟨a,ha,rfl⟩ := hc
 have hm := List.mem_of_getElem? ha
 exact renum_ok (h i a v ha hv) (fun id off e => h1 id off (e ▸ hm)) (fun f cap id off e hc => h2 f cap id off (e ▸ hm) hc)
theorem looks_ok {m : Mem} : ∀ {ids : List Nat} {l : List (List AV)},looks m ids = some l → l.length = ids.length ∧ ∀ (j : Nat) i cs,ids[j]? = some i → l[j]? = some cs → ∃ cs0,look m i = some cs0 ∧ cs = cs0.map AV.flat
 | [],l,h => by simp [looks] at h; subst h; exact ⟨rfl,fun j i cs h => by simp at h⟩
 | i :: r,l,h => by
  simp only [looks] at h
  split at h
  ·rename_i cs l' h1 h2
   cases h
   obtain ⟨k1,k2⟩ := looks_ok h2
   refine ⟨by simp [k1],fun j i' cs' hi hc => ?_⟩
   cases j with
   | zero => simp at hi hc; subst hi; subst hc; exact ⟨cs,h1,rfl⟩
   | succ j => exact k2 j i' cs' (by simpa using hi) (by simpa using hc)
  ·cases h
theorem pass_ok {B G s a w} (h : Sim B G s a w) {args : List AV} {passed : List (List AV)} (hl : looks s.mem (ptrIds args) = some passed) : Pass w G.S (βof G.β (ptrIds args)) passed := by
 obtain ⟨_,_,hnd⟩ := ptrIds_mem args
 obtain ⟨k1,k2⟩ := looks_ok hl
 have get : ∀ i b,βof G.β (ptrIds args) i = some b → ∃ j id,i = 1000 + j ∧ (ptrIds args)[j]? = some id ∧ G.β id = some b := by
  intro i b hi
  unfold βof at hi
  split at hi
  ·rw [Option.bind_eq_some_iff] at hi
   obtain ⟨id,h1,h2⟩ := hi
   exact ⟨i - 1000,id,by omega,h1,h2⟩
  ·cases hi
 constructor
 ·exact h.inv.Slt
 ·intro i j b hi hj
  obtain ⟨i',id,rfl,h1,h2⟩ := get i b hi
  obtain ⟨j',id',rfl,h3,h4⟩ := get j b hj
  have := h.inv.βinj _ _ _ h2 h4
  subst this
  rw [nodup_inj hnd h1 h3]
 ·intro i b o hi
  obtain ⟨j,id,rfl,h1,h2⟩ := get i b hi
  exact h.inv.βS id b o h2
 ·intro i b hi
  obtain ⟨j,id,rfl,h1,h2⟩ := get i b hi
  exact ⟨j,by rw [k1]; exact (List.getElem?_eq_some_iff.1 h1).1,rfl⟩
 ·intro j cs hc
  have hj : j < (ptrIds args).length := by rw [← k1]; exact (List.getElem?_eq_some_iff.1 hc).1
  obtain ⟨cs0,h1,rfl⟩ := k2 j _ cs (List.getElem?_eq_getElem hj) hc
  obtain ⟨b,us,t,h2,h3,h4,h5,h6⟩ := h.inv.mem _ _ h1
  refine ⟨b,us,t,?_,h3,RepL.of_get (by simp [h4]) fun i c v hc hv => ?_,h6⟩
  ·unfold βof
   rw [if_pos (by omega),Nat.add_sub_cancel_left,List.getElem?_eq_getElem hj]
   exact h2
  ·simp only [List.getElem?_map,Option.map_eq_some_iff] at hc
   obtain ⟨c0,hc,rfl⟩ := hc
   exact (h5 i c0 v hc hv).flat
theorem look_upds : ∀ (l : List (Nat × List AV)) (m : Mem) (i : Nat),(l.map (·.1)).Nodup → look (upds m l) i = match l.find? (fun p => p.1 == i) with | some p => (look m i).map (fun _ => p.2) | none => look m i
 | [],m,i,_ => rfl
 | p :: r,m,i,h => by
  simp only [List.map_cons,List.nodup_cons] at h
  simp only [upds,look_upds r _ i h.2,look_upd,List.find?_cons]
  by_cases hp : p.1 = i
  ·subst hp
   have : r.find? (fun q => q.1 == p.1) = none := by
    rw [List.find?_eq_none]
    intro q hq
    simp only [beq_iff_eq]
    intro e
    exact h.1 (List.mem_map.2 ⟨q,hq,e⟩)
   simp [this]
  ·have : (p.1 == i) = false := by simpa using hp
   simp [this,Ne.symm hp]
end Go.Ev
