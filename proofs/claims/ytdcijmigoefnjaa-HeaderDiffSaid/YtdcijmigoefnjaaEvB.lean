/- The evaluator: operations, regions, code, functions. No program is named here. -/
import Derived.Test.YtdcijmigoefnjaaEvA
namespace Go.Ev
open Go

def AV.noptr : AV → Bool
  | .ptr _ _ => false
  | .view _ _ _ => false
  | .fn _ [] => true
  | .fn _ _ => false
  | .tup _ => false
  | _ => true

/-- a value that may lie in cells: as its cells, flat -/
def AV.laid (v : AV) : Option (List AV) :=
  match v with
  | .unk => none
  | .tup _ => none
  | .agg cs => some cs
  | v => some [v.flat]

structure Env where
  ty : Tys
  spec : FuncId → List AV → List (List AV) → Option (AV × List (List AV))
  keep : Nat → Option (List Nat × List Nat)
  fuel : Nat

/-- a field's place and type -/
def fieldOf (ty : Tys) (s : TypeId) (f : Nat) : Option (Nat × TI) :=
  match ty s with
  | some ti =>
    match ti.td with
    | .struct fs =>
      match fs[f]? with
      | some (off, t, _) => (ty t).map fun fi => (off, fi)
      | none => none
    | _ => none
  | none => none

def elemOf (ty : Tys) (t : TypeId) : Option TI :=
  match ty t with
  | some ti =>
    match ti.td with
    | .slice e => ty e
    | .arr _ e => ty e
    | _ => none
  | none => none

def isSlice (ty : Tys) (t : TypeId) : Bool :=
  match ty t with
  | some ti => match ti.td with | .slice _ => true | _ => false
  | none => false

def isStr (ty : Tys) (t : TypeId) : Bool :=
  match ty t with
  | some ti => match ti.td with | .str => true | _ => false
  | none => false

def arrLen (ty : Tys) (t : TypeId) : Option Nat :=
  match ty t with
  | some ti => match ti.td with | .arr n _ => some n | _ => none
  | none => none

/-- bounds of s[lo:hi] and s[lo:hi:mx] -/
def boundA (d : Nat) (v : Option AV) (top : Nat) : Option Nat :=
  match v with
  | none => some d
  | some (.int _ i) => bif inR i (top + 1) then some i.toNat else none
  | some _ => none

def sliceA (ty : Tys) (t : TypeId) (x : AV) (lo hi mx : Option AV) : Option AV :=
  match x with
  | .str s =>
    match mx with
    | some _ => none
    | none =>
      match boundA s.length hi s.length with
      | some h =>
        match boundA 0 lo h with
        | some l => bif isStr ty t then some (.str ((s.drop l).take (h - l))) else none
        | none => none
      | none => none
  | .sl sz xs st =>
    match elemOf ty t with
    | none => none
    | some ei =>
      bif isSlice ty t && ((sz == ei.size && st != .nil) || (st == .nil && xs.isEmpty)) then
        match boundA xs.length hi xs.length with
        | some h =>
          match boundA 0 lo h with
          | some l =>
            match mx with
            | none =>
              bif st == .nil then some x else
              some (.sl sz ((xs.drop l).take (h - l)) (if st == .full && h == xs.length then .full else .sh))
            | some m =>
              match boundA 0 (some m) h with
              | some m' => bif hi.isSome && m' == h then (bif st == .nil then some x else some (.sl sz ((xs.drop l).take (h - l)) .full)) else none
              | none => none
          | none => none
        | none => none
      else none
  | .ptr id off =>
    match arrLen ty t, elemOf ty t, mx with
    | some n, some ei, none =>
      match boundA n hi n with
      | some h =>
        match boundA 0 lo h with
        | some l => some (.view id (if n == l then off else off + l * ei.size) (h - l))
        | none => none
      | none => none
    | _, _, _ => none
  | _ => none

def lenA (ty : Tys) (t : TypeId) (x : AV) : Option AV :=
  match ty t with
  | none => none
  | some ti =>
    match ti.td, x with
    | .str, .str s => some (.int .i64 s.length)
    | .slice _, .sl _ xs _ => some (.int .i64 xs.length)
    | .slice _, .view _ _ n => some (.int .i64 n)
    | .arr n _, _ => some (.int .i64 n)
    | _, _ => none

def minA (x y : AV) : Option AV :=
  match x, y with
  | .int k a, .int _ b => some (.int k (bif ilt b a then b else a))
  | _, _ => none

def maxA (x y : AV) : Option AV :=
  match x, y with
  | .int k a, .int _ b => some (.int k (bif ilt a b then b else a))
  | _, _ => none

def pickA (t : Bool) (a b : AV) : AV :=
  match a, b with
  | .bool x, .bool y => .bool (bif t then x else y)
  | a, b => bif t then a else b

def fieldAddrA (ty : Tys) (t : TypeId) (x : AV) (f : Nat) : Option AV :=
  match fieldOf ty t f with
  | none => none
  | some (off, fi) =>
    bif fi.size == 0 then none else
    match x with
    | .ptr id o => some (.ptr id (o + off))
    | .ro (.agg cs) => (partA fi cs off).bind fun v => bif fits fi v then some (.ro v) else none
    | _ => none

def fieldA (ty : Tys) (t : TypeId) (x : AV) (f : Nat) : Option AV :=
  match fieldOf ty t f with
  | none => none
  | some (off, fi) =>
    match x with
    | .agg cs => (partA fi cs off).bind fun v => bif fits fi v then some v else none
    | _ => none

def indexAddrA (ty : Tys) (t : TypeId) (x i : AV) : Option AV :=
  match elemOf ty t with
  | none => none
  | some ei =>
    match i with
    | .int _ i =>
      match x with
      | .sl sz xs _ => bif isSlice ty t && sz == ei.size then (idx xs i).map .ro else none
      | .view id off n => bif isSlice ty t && inR i n then some (.ptr id (off + i.toNat * ei.size)) else none
      | .ptr id off =>
        match arrLen ty t with
        | some n => bif inR i n then some (.ptr id (off + i.toNat * ei.size)) else none
        | none => none
      | .ro (.agg cs) =>
        match arrLen ty t with
        | some n => bif inR i n then (partA ei cs (i.toNat * ei.size)).bind fun v => bif fits ei v then some (.ro v) else none else none
        | none => none
      | _ => none
    | _ => none

def indexA (ty : Tys) (t : TypeId) (x i : AV) : Option AV :=
  match i with
  | .int _ i =>
    match x with
    | .agg cs =>
      match arrLen ty t with
      | none => none
      | some n =>
        match elemOf ty t with
        | none => none
        | some ei => bif inR i n then (partA ei cs (i.toNat * ei.size)).bind fun v => bif fits ei v then some v else none else none
    | .str s =>
      match ty t with
      | some ti => match ti.td with
        | .str => (if 0 ≤ i then s[i.toNat]? else none).map fun b => .int .u8 b.toNat
        | _ => none
      | none => none
    | _ => none
  | _ => none

def structPlace (ty : Tys) (fs : List (Nat × TypeId × Bool)) (i : Nat) : Option (Nat × Nat) :=
  match fs[i]? with
  | some (off, ft, _) => (ty ft).map fun fi => (off, fi.size)
  | none => none

/-- operations without memory -/
def evPure (ty : Tys) (ρ : Operand → AV) (op : Op) : Option AV :=
  match op with
  | .move x | .assign x => some (ρ x)
  | .pick c a b =>
    match ρ c with
    | .bool t => some (pickA t (ρ a) (ρ b))
    | _ => none
  | .build t parts =>
    match ty t with
    | none => none
    | some ti =>
      match ti.td with
      | .struct fs =>
        bif fs.all (fun f => (ty f.2.1).isSome) then
          (fillA (structPlace ty fs) ti.zero (parts.toList.map fun p => (p.1, (ρ p.2).flat))).map .agg
        else none
      | .arr _ e =>
        match ty e with
        | some ei => (fillA (fun i => some (i * ei.size, ei.size)) ti.zero (parts.toList.map fun p => (p.1, (ρ p.2).flat))).map .agg
        | none => none
      | _ => none
  | .nilCheck x =>
    match ρ x with
    | .ptr id off => some (.ptr id off)
    | .fn f cap => some (.fn f cap)
    | _ => none
  | .binOp op t x y _ => binA ty op t (ρ x) (ρ y)
  | .unOp op _ x => unA op (ρ x)
  | .convert src dst x =>
    match ty src, ty dst, ρ x with
    | some si, some di, .int _ n =>
      match si.td, di.td with
      | .int _, .int k => some (.int k (k.wrap n))
      | _, _ => none
    | _, _, _ => none
  | .makeFunc (.func f) first cap => bif first.isEmpty then some (.fn f (cap.toList.map fun x => (ρ x).share)) else none
  | .fieldAddr t x f => fieldAddrA ty t (ρ x) f
  | .field t x f => fieldA ty t (ρ x) f
  | .indexAddr t x i => indexAddrA ty t (ρ x) (ρ i)
  | .index t x i => indexA ty t (ρ x) (ρ i)
  | .slice t x lo hi mx => sliceA ty t (ρ x) (lo.map ρ) (hi.map ρ) (mx.map ρ)
  | .extract x i =>
    match ρ x with
    | .tup vs => vs[i]?
    | _ => none
  | .call { callee := .builtin .len, args, argTypes } =>
    match args.toList, argTypes.toList with
    | [x], [t] => lenA ty t (ρ x)
    | _, _ => none
  | .call { callee := .builtin .min, args, .. } =>
    match args.toList with
    | [x, y] => minA (ρ x) (ρ y)
    | _ => none
  | .call { callee := .builtin .max, args, .. } =>
    match args.toList with
    | [x, y] => maxA (ρ x) (ρ y)
    | _ => none
  | _ => none

/-- slices that are made -/
def evMake (ty : Tys) (ρ : Operand → AV) (op : Op) : Option AV :=
  match op with
  | .buildSlice t len parts =>
    match elemOf ty t with
    | some ei =>
      bif isSlice ty t && Nat.ble (len * ei.size) 16777216 && ei.zero.length == ei.size && (ei.td.agg || ei.size == 1) then
        (fillA (fun i => some (i * ei.size, ei.size)) (zeros ei len) (parts.toList.map fun p => (p.1, (ρ p.2).flat))).map
          fun cs => .sl ei.size (rows ei.td.agg ei.size cs len) .full
      else none
    | none => none
  | _ => none

/-- what an operation does: a value, memory, a tail that is no more to be grown -/
structure Eff where
  val : AV
  upd : List (Nat × List AV) := []
  ins : Option (Nat × List AV) := none
  rt : Option Tag := none

def insM (m : Mem) (d : Nat) (cs : List AV) : Mem :=
  match m with
  | [] => [(d, cs)]
  | (j, c) :: r => if d < j then (d, cs) :: (j, c) :: r else (j, c) :: insM r d cs

def upds (m : Mem) : List (Nat × List AV) → Mem
  | [] => m
  | p :: r => upds (upd m p.1 p.2) r

def AS.retag (k : Tag) (s : AS) : AS := { tmps := s.tmps.map (AV.retag k), mem := s.mem.map fun p => (p.1, p.2.map (AV.retag k)) }

def Eff.app (e : Eff) (dst : Option Nat) (s : AS) : AS :=
  let m := upds s.mem e.upd
  let m := match e.ins with | some (d, cs) => insM m d cs | none => m
  let s : AS := { s with mem := m }
  let s := match e.rt with | some k => s.retag k | none => s
  s.put dst e.val

def allocA (m : Mem) (d : Nat) (cs : List AV) : Option Eff :=
  match look m d with
  | some _ => none
  | none => some { val := .ptr d 0, ins := some (d, cs) }

def isInt (ty : Tys) (t : TypeId) : Bool :=
  match ty t with
  | some ti => match ti.td with | .int _ => true | _ => false
  | none => false

def TI.elemZero (ti : TI) : AV := if ti.td.agg then .agg ti.zero else ti.zero.headD .unk

/-- what append takes as its second part, as values -/
def srcA (ty : Tys) (t2 : TypeId) (ei : TI) (m : Mem) (y : AV) : Option (List AV) :=
  match y with
  | .sl sz ys st => bif isSlice ty t2 && (sz == ei.size || (st == .nil && ys.isEmpty)) then some ys else none
  | .view id off n =>
    match look m id with
    | some cs =>
      bif isSlice ty t2 && ((cs.drop off).take (n * ei.size)).length == n * ei.size && (ei.td.agg || ei.size == 1) then some (rows ei.td.agg ei.size (((cs.drop off).take (n * ei.size)).map AV.flat) n) else none
    | none => none
  | .int .i64 n =>
    bif isInt ty t2 && ile 0 n && ile n 140737488355328 && ile ((ei.bytes : Int) * n) 140737488355328 && ei.zero.length == ei.size && (ei.td.agg || ei.size == 1) then
      some (List.replicate n.toNat ei.elemZero) else none
  | _ => none

def appendA (ei : TI) (d : Nat) (x : AV) (ys : List AV) : Option Eff :=
  match x with
  | .sl sz xs st =>
    bif (sz == ei.size || (st == .nil && xs.isEmpty)) && ile (((xs.length + ys.length) * ei.bytes : Nat) : Int) 140737488355328 && ile ((xs.length + ys.length : Nat) : Int) 140737488355328 then
      match st with
      | .own k => some { val := .sl ei.size (xs ++ ys) (.own [d]), rt := some k }
      | .sh => bif ys.isEmpty then some { val := x } else none
      | .nil => bif ys.isEmpty then some { val := x } else some { val := .sl ei.size ys (.own [d]) }
      | .full => bif ys.isEmpty then some { val := x } else some { val := .sl ei.size (xs ++ ys) (.own [d]) }
    else none
  | _ => none

/-- the memory that arguments point into -/
def ptrIds : List AV → List Nat
  | [] => []
  | .ptr id _ :: r => if (ptrIds r).contains id then ptrIds r else id :: ptrIds r
  | .fn _ cap :: r => capIds cap (ptrIds r)
  | _ :: r => ptrIds r
where
  capIds : List AV → List Nat → List Nat
    | [], l => l
    | .ptr id _ :: r, l => if (capIds r l).contains id then capIds r l else id :: capIds r l
    | _ :: r, l => capIds r l

def AV.renumC (ids : List Nat) : AV → AV
  | .ptr id off => .ptr (1000 + ids.idxOf id) off
  | v => v.flat

def AV.renum (ids : List Nat) : AV → AV
  | .fn f cap => .fn f (cap.map (AV.renumC ids))
  | v => v.renumC ids

def looks (m : Mem) : List Nat → Option (List (List AV))
  | [] => some []
  | i :: r =>
    match look m i, looks m r with
    | some cs, some l => some (cs.map AV.flat :: l)
    | _, _ => none

def AV.named (dst : Option Nat) : AV → AV
  | .sl sz xs (.own _) => match dst with | some d => .sl sz xs (.own [d]) | none => .sl sz xs .sh
  | v => v

def callA (E : Env) (m : Mem) (dst : Option Nat) (g : FuncId) (args : List AV) : Option Eff :=
  match looks m (ptrIds args) with
  | none => none
  | some passed =>
    match E.spec g (args.map (AV.renum (ptrIds args))) passed with
    | some (r, passed') => bif passed'.length == (ptrIds args).length then some { val := r.named dst, upd := (ptrIds args).zip passed' } else none
    | none => none

def effOf (E : Env) (o : Oper) (ρ : Operand → AV) (m : Mem) : Option Eff :=
  match o.op with
  | .alloc e =>
    match E.ty e, o.dst with
    | some ti, some d => allocA m d ti.zero
    | _, _ => none
  | .box _ x =>
    match (ρ x).laid, o.dst with
    | some cs, some d => allocA m d cs
    | _, _ => none
  | .load t x =>
    match E.ty t with
    | none => none
    | some ti =>
      match ρ x with
      | .ptr id off =>
        match look m id with
        | some cs =>
          bif ((cs.drop off).take ti.size).length == ti.size then
            (if ti.td.agg then some { val := .agg (((cs.drop off).take ti.size).map AV.flat) } else bif ti.size == 1 then some { val := ((cs.drop off).take ti.size).headD .unk } else none)
          else none
        | none => none
      | .ro e => bif fits ti e then some { val := e } else none
      | _ => none
  | .store t x y =>
    match E.ty t with
    | none => none
    | some ti =>
      match ρ x with
      | .ptr id off =>
        match look m id with
        | some cs =>
          bif (ρ y).known && !(ρ y).isTup && (ρ y).cells.length == ti.size && Nat.ble (off + ti.size) cs.length then
            some { val := .tup [], upd := [(id, setAt cs off (ρ y).cells)] }
          else none
        | none => none
      | _ => none
  | .call { callee := .builtin .append, args, argTypes } =>
    match args.toList, argTypes.toList, o.dst with
    | [x, y], [t, t2], some d =>
      match elemOf E.ty t with
      | some ei =>
        bif isSlice E.ty t then
          match srcA E.ty t2 ei m (ρ y) with
          | some ys => appendA ei d (ρ x) ys
          | none => none
        else none
      | none => none
    | _, _, _ => none
  | .call { callee := .value f, args, .. } =>
    match ρ f with
    | .fn g cap => callA E m o.dst g (args.toList.map ρ ++ cap)
    | _ => none
  | .buildSlice t n ps => (evMake E.ty ρ (.buildSlice t n ps)).map fun v => { val := v }
  | op => (evPure E.ty ρ op).map fun v => { val := v }

def evOp (E : Env) (o : Oper) (s : AS) : Option AS := (effOf E o (opv s.tmps) s.mem).map fun e => e.app o.dst s

def hasTag (k : Tag) : AV → Bool
  | .sl _ _ (.own k') => k' == k
  | _ => false

def AS.noTag (s : AS) (k : Tag) : Bool := s.tmps.all (fun v => !hasTag k v) && s.mem.all fun p => p.2.all fun v => !hasTag k v

/-- the tail that an operation may make -/
def makes (o : Oper) : Option Tag :=
  match o.op, o.dst with
  | .call { callee := .builtin .append, .. }, some d => some [d]
  | .call { callee := .value _, .. }, some d => some [d]
  | _, _ => none

/-- is an operation wanted; none: not known -/
def wantA (ops : Array Oper) (ts : List AV) (o : Oper) : Option Bool :=
  match o.guard with
  | none => some true
  | some (j, want) =>
    match (ops[j]?).bind (·.dst) with
    | none => some false
    | some t =>
      match ts[t]? with
      | some (.bool b) => some (b == want)
      | some (.tup _) => some false
      | none => some false
      | _ => none

def step1 (E : Env) (ops : Array Oper) (i : Nat) (s : AS) : Option AS :=
  match ops[i]? with
  | none => some s
  | some o =>
    match wantA ops s.tmps o with
    | some true => evOp E o s
    | some false => some (s.put o.dst (.tup []))
    | none => none

/-- operations whose order is that of the text: a tail that is made is new -/
def evSeq (E : Env) (ops : Array Oper) : List Nat → AS → Option AS
  | [], s => some s
  | i :: rest, s =>
    bif (match (ops[i]?).bind makes with | some k => s.noTag k | none => true) then
      match step1 E ops i s with
      | some s' => evSeq E ops rest s'
      | none => none
    else none

/-- operations in an order that is drawn -/
def evOps (E : Env) (ops : Array Oper) : List Nat → AS → Option AS
  | [], s => some s
  | i :: rest, s =>
    match step1 E ops i s with
    | some s' => evOps E ops rest s'
    | none => none

inductive Ex where
  | normal
  | exit (id : Nat)
  | ret
  deriving DecidableEq, Inhabited

def Ex.of : Ex → Exit
  | .normal => .normal
  | .exit id => .exit id
  | .ret => .ret

/-! ### a region that draws its order -/

def binding (e : Edge) : Bool :=
  match e.ground with
  | .textOnly _ => false
  | .gcOnly _ => false
  | _ => true

/-- is operation i ahead of operation j, whatever the order -/
def ahead (ops : Array Oper) (i : Nat) : Nat → Nat → Bool
  | 0, _ => false
  | n + 1, j =>
    match ops[j]? with
    | none => false
    | some o => o.after.any fun e => binding e && (e.on == i || ahead ops i n e.on)

def Operand.tmps : Operand → List Nat
  | .tmp t => [t]
  | _ => []

/-- the slots that an operation reads -/
def readsOf (ops : Array Oper) (o : Oper) : List Nat :=
  o.op.operands.toList.flatMap Operand.tmps ++
  match o.guard with
  | none => []
  | some (j, _) => ((ops[j]?).bind (·.dst)).toList

/-- the memory that an operation reads, and that it writes -/
def keysR (ts : List AV) (o : Oper) : List Nat :=
  match o.op with
  | .load _ x | .store _ x _ => match opv ts x with | .ptr id _ => [id] | _ => []
  | .alloc _ | .box _ _ => o.dst.toList
  | .call { callee := .builtin .append, args, .. } => args.toList.flatMap fun x => match opv ts x with | .view id _ _ => [id] | _ => []
  | .call { callee := .value f, args, .. } => match opv ts f with | .fn _ cap => ptrIds (args.toList.map (opv ts) ++ cap) | _ => []
  | _ => []

def keysW (ts : List AV) (o : Oper) : List Nat :=
  match o.op with
  | .store _ x _ => match opv ts x with | .ptr id _ => [id] | _ => []
  | .alloc _ | .box _ _ => o.dst.toList
  | .call { callee := .value f, args, .. } => match opv ts f with | .fn _ cap => ptrIds (args.toList.map (opv ts) ++ cap) | _ => []
  | _ => []

def disj (a b : List Nat) : Bool := a.all fun x => !b.contains x

def isAppend (o : Oper) : Bool :=
  match o.op with
  | .call { callee := .builtin .append, .. } => true
  | _ => false

/-- what an append may change places with -/
def besideAppend (o : Oper) : Bool :=
  match o.op with
  | .alloc _ | .move _ | .slice _ _ _ _ _ => true
  | _ => false

abbrev FP := List Nat × List Nat

def fpOf (ops : Array Oper) (i : Nat) (s : AS) : FP :=
  match ops[i]? with
  | some o => (keysR s.tmps o, keysW s.tmps o)
  | none => ([], [])

/-- operations in the order of the text, with the memory that each reads and writes -/
def evTr (E : Env) (ops : Array Oper) : List Nat → AS → Option (AS × List FP)
  | [], s => some (s, [])
  | i :: rest, s =>
    match step1 E ops i s with
    | some s' =>
      match evTr E ops rest s' with
      | some (s'', l) => some (s'', fpOf ops i s :: l)
      | none => none
    | none => none

/-- may two operations, a ahead of b in the text, change places -/
def swaps (ops : Array Oper) (a b : Oper) (f g : FP) : Bool :=
  disj a.dst.toList (readsOf ops b ++ b.dst.toList) && disj b.dst.toList (readsOf ops a) &&
  disj (f.1 ++ f.2) g.2 && disj f.2 g.1 && !isAppend b && (!isAppend a || besideAppend b)

def edgesOk (ops : Array Oper) : Bool :=
  (List.range ops.size).all fun i => match ops[i]? with | some o => o.after.all fun e => !binding e || Nat.blt e.on i | none => true

def makesOk (ops : Array Oper) : Bool := (ops.toList.filterMap makes).Nodup

def drawOk (ops : Array Oper) (s : AS) (l : List FP) : Bool :=
  edgesOk ops && makesOk ops &&
  (List.range ops.size).all (fun j => (List.range j).all fun i => ahead ops i ops.size j ||
    match ops[i]?, ops[j]? with
    | some a, some b => swaps ops a b (l.getD i ([], [])) (l.getD j ([], []))
    | _, _ => true) &&
  ops.all fun o => match makes o with | some k => s.noTag k | none => true

/-- what is ahead of an operation, as bits -/
def maskOf (acc : List Nat) (o : Oper) : Nat :=
  o.after.toList.foldl (fun m e => bif binding e then (m ||| 2 ^ e.on) ||| acc.getD e.on 0 else m) 0

def masksGo : List Oper → List Nat → List Nat
  | [], acc => acc
  | o :: r, acc => masksGo r (acc ++ [maskOf acc o])

def masks (ops : Array Oper) : List Nat := masksGo ops.toList []

def pairsOk (ops : Array Oper) (ms : List Nat) (l : List FP) : Bool :=
  (List.range ops.size).all fun j => (List.range j).all fun i => Nat.testBit (ms.getD j 0) i ||
    match ops[i]?, ops[j]? with
    | some a, some b => swaps ops a b (l.getD i ([], [])) (l.getD j ([], []))
    | _, _ => true

def drawOk2 (ops : Array Oper) (s : AS) (l : List FP) : Bool :=
  edgesOk ops && makesOk ops && pairsOk ops (masks ops) l &&
  ops.all fun o => match makes o with | some k => s.noTag k | none => true

theorem ahead_mono {ops : Array Oper} {i : Nat} : ∀ {n m j : Nat}, n ≤ m → ahead ops i n j = true → ahead ops i m j = true
  | 0, m, j, _, h => by cases h
  | n + 1, 0, j, hm, h => by omega
  | n + 1, m + 1, j, hm, h => by
    simp only [ahead] at h ⊢
    cases ho : ops[j]? with
    | none => simp [ho] at h
    | some o =>
      simp only [ho, Array.any_eq_true', Bool.and_eq_true, Bool.or_eq_true] at h ⊢
      obtain ⟨e, h1, h2, h3⟩ := h
      exact ⟨e, h1, h2, h3.imp id fun h => ahead_mono (by omega) h⟩

theorem fold_bits {acc : List Nat} {i : Nat} : ∀ {l : List Edge} {m : Nat}, Nat.testBit (l.foldl (fun m e => bif binding e then (m ||| 2 ^ e.on) ||| acc.getD e.on 0 else m) m) i = true →
    Nat.testBit m i = true ∨ ∃ e ∈ l, binding e = true ∧ (e.on = i ∨ Nat.testBit (acc.getD e.on 0) i = true)
  | [], m, h => .inl h
  | e :: l, m, h => by
    rw [List.foldl_cons] at h
    rcases fold_bits h with h | ⟨e', h1, h2⟩
    · cases hb : binding e <;> rw [hb] at h <;> simp only [cond_true, cond_false] at h
      · exact .inl h
      · simp only [Nat.testBit_or, Nat.testBit_two_pow, Bool.or_eq_true, decide_eq_true_eq] at h
        rcases h with (h | h) | h
        · exact .inl h
        · exact .inr ⟨e, by simp, hb, .inl h⟩
        · exact .inr ⟨e, by simp, hb, .inr h⟩
    · exact .inr ⟨e', by simp [h1], h2⟩

theorem masksGo_ok {ops : Array Oper} : ∀ (l : List Oper) (acc : List Nat), (∀ j, l[j]? = ops.toList[acc.length + j]?) → (∀ (j i : Nat), j < acc.length → Nat.testBit (acc.getD j 0) i = true → ahead ops i (j + 1) j = true) →
    ∀ (j i : Nat), Nat.testBit ((masksGo l acc).getD j 0) i = true → ahead ops i (j + 1) j = true
  | [], acc, _, h, j, i, hb => by
    simp only [masksGo] at hb
    by_cases hj : j < acc.length
    · exact h j i hj hb
    · rw [List.getD_eq_getElem?_getD, List.getElem?_eq_none (by omega)] at hb
      simp at hb
  | o :: r, acc, hl, h, j, i, hb => by
    simp only [masksGo] at hb
    refine masksGo_ok r (acc ++ [maskOf acc o]) (fun j => ?_) (fun j i hj hb => ?_) j i hb
    · have := hl (j + 1)
      simpa [Nat.add_assoc, Nat.add_comm 1 j] using this
    · have ho : ops[acc.length]? = some o := by have := hl 0; simpa using this.symm
      by_cases hj2 : j < acc.length
      · refine h j i hj2 ?_
        rw [List.getD_eq_getElem?_getD, List.getElem?_append_left hj2] at hb
        rwa [List.getD_eq_getElem?_getD]
      · have e : j = acc.length := by simp at hj; omega
        subst e
        rw [List.getD_eq_getElem?_getD, List.getElem?_append_right (Nat.le_refl _)] at hb
        simp only [Nat.sub_self, List.getElem?_cons_zero, Option.getD_some, maskOf] at hb
        rcases fold_bits hb with h0 | ⟨e, h1, h2, h3⟩
        · simp at h0
        · simp only [ahead, ho, Array.any_eq_true', Bool.and_eq_true, Bool.or_eq_true, beq_iff_eq]
          refine ⟨e, by simpa using h1, h2, h3.imp id fun h4 => ?_⟩
          by_cases hl2 : e.on < acc.length
          · exact ahead_mono (by omega) (h e.on i hl2 h4)
          · rw [List.getD_eq_getElem?_getD, List.getElem?_eq_none (by omega)] at h4
            simp at h4

theorem drawOk_of {ops : Array Oper} {s : AS} {l : List FP} (h : drawOk2 ops s l = true) : drawOk ops s l = true := by
  unfold drawOk2 at h
  unfold drawOk
  simp only [Bool.and_eq_true] at h ⊢
  refine ⟨⟨h.1.1, ?_⟩, h.2⟩
  have hp := h.1.2
  unfold pairsOk at hp
  rw [List.all_eq_true] at hp ⊢
  intro j hj
  have h1 := hp j hj
  rw [List.all_eq_true] at h1 ⊢
  intro i hi
  have h2 := h1 i hi
  rw [Bool.or_eq_true] at h2 ⊢
  rcases h2 with h2 | h2
  · left
    have hj' : j < ops.size := List.mem_range.1 hj
    exact ahead_mono (by omega) (masksGo_ok (ops := ops) ops.toList [] (fun j => by simp) (fun j i hj => by simp at hj) j i h2)
  · exact .inr h2

def firstKey : Code → Nat
  | .region id _ _ => id
  | .seq a _ => firstKey a
  | .block _ c => firstKey c
  | .scope c => firstKey c
  | _ => 100000

def freshOf : List AV → List Nat
  | [] => []
  | .sl _ _ (.own [d]) :: r => d :: freshOf r
  | _ :: r => freshOf r

def keepsKey (m : List Nat) (id : Nat) : Bool := Nat.ble 1000 id || m.contains id

def AV.kept (fr m : List Nat) : AV → AV
  | .ptr id off => if keepsKey m id then .ptr id off else .unk
  | .view id off n => if keepsKey m id then .view id off n else .unk
  | .fn f [] => .fn f []
  | .fn _ _ => .unk
  | .sl sz xs (.own [d]) => .sl sz xs (.own [d, 1])
  | .sl sz xs (.own [d, 1]) => if fr.contains d then .sl sz xs .sh else .sl sz xs (.own [d, 1])
  | .sl sz xs (.own _) => .sl sz xs .sh
  | v => v

def pickT (l : List Nat) : Nat → List AV → List AV
  | _, [] => []
  | i, v :: r => (if l.contains i then v else .unk) :: pickT l (i + 1) r

def AS.clean (l m : List Nat) (s : AS) : AS :=
  let ts := pickT l 0 s.tmps
  let mm := s.mem.filter fun p => keepsKey m p.1
  let fr := freshOf ts ++ mm.flatMap fun p => freshOf p.2
  { tmps := ts.map (AV.kept fr m), mem := mm.map fun p => (p.1, p.2.map (AV.kept fr m)) }

def loopN (f : AS → Option (Ex × AS)) (c : AS → AS) : Nat → AS → Option (Ex × AS)
  | 0, _ => none
  | n + 1, s =>
    match f (c s) with
    | some (.normal, s') => loopN f c n s'
    | r => r

def ev (E : Env) : Code → AS → Option (Ex × AS)
  | .skip, s => some (.normal, s)
  | .region _ ops draw, s =>
    bif draw then
      match evTr E ops (List.range ops.size) s with
      | some (s', l) => bif drawOk2 ops s l then some (.normal, s') else none
      | none => none
    else (evSeq E ops (List.range ops.size) s).map fun s => (.normal, s)
  | .seq a b, s =>
    match ev E a s with
    | some (.normal, s') => ev E b s'
    | r => r
  | .cond c a b, s =>
    match opv s.tmps c with
    | .bool t => bif t then ev E a s else ev E b s
    | _ => none
  | .block id c, s =>
    match ev E c s with
    | some (.exit id', s') => some (if id' = id then .normal else .exit id', s')
    | r => r
  | .loop c, s =>
    (loopN (ev E c) (match E.keep (firstKey c) with | some (l, m) => AS.clean l m | none => id) E.fuel s).map fun r =>
      (r.1, (match E.keep (firstKey c + 500) with | some (l, m) => AS.clean l m | none => id) r.2)
  | .exit id, s => some (.exit id, s)
  | .label _, s => some (.normal, s)
  | .ret, s => some (.ret, s)
  | _, _ => none

def resA (ty : Tys) (s : AS) : ResultVar → Option AV
  | .tmp t => some (s.tmps.getD t .unk)
  | .cell a t =>
    match ty t, s.tmps.getD a .unk with
    | some ti, .ptr id off =>
      match look s.mem id with
      | some cs =>
        let part := (cs.drop off).take ti.size
        bif part.length == ti.size then
          (if ti.td.agg then some (.agg (part.map AV.flat)) else bif ti.size == 1 then some (part.headD .unk) else none)
        else none
      | none => none
    | _, _ => none

def AV.ret : AV → AV
  | .sl sz xs (.own _) => .sl sz xs (.own [])
  | v => v.flat

def resAll (ty : Tys) (s : AS) : List ResultVar → Option (List AV)
  | [] => some []
  | r :: rs =>
    match resA ty s r, resAll ty s rs with
    | some v, some vs => some (v :: vs)
    | _, _ => none

def outA : List AV → AV
  | [v] => v.ret
  | vs => .tup (vs.map AV.flat)

def passedMem (k : Nat) : List (List AV) → Mem
  | [] => []
  | cs :: r => (k, cs) :: passedMem (k + 1) r

def passedBack (m : Mem) (k : Nat) : Nat → Option (List (List AV))
  | 0 => some []
  | n + 1 =>
    match look m k, passedBack m (k + 1) n with
    | some cs, some l => some (cs.map AV.flat :: l)
    | _, _ => none

def enterA (fn : Func) (args : List AV) (passed : List (List AV)) : AS :=
  { tmps := args ++ List.replicate (fn.ntmps - args.length) (.tup []), mem := passedMem 1000 passed }

/-- a function's run -/
def runF (E : Env) (fn : Func) (args : List AV) (passed : List (List AV)) : Option (AV × List (List AV)) :=
  match fn.body with
  | none => none
  | some c =>
    match ev E c (enterA fn args passed) with
    | some (.exit _, _) => none
    | some (_, s) =>
      match resAll E.ty s fn.results.toList, passedBack s.mem 1000 passed.length with
      | some vs, some l => some (outA vs, l)
      | _, _ => none
    | none => none

end Go.Ev
