/-
  EX: which XCode a function's code is. (Annotations of a later hand are wiped: 'wipe'.)
-/
import Derived.Test.YtbomedbbgfcncaaCore
import GoSem.Core.Region
import GoSem.Core.Program
import GoSem.Core.Layout
import GoSem.Op.Equal
import Derived.StillTail
set_option linter.unusedVariables false
set_option linter.unusedSimpArgs false
namespace Go.EX

def zeroCellsOf (P : Program) (t : TypeId) : Option (List Value) := ((P.info? t).bind (·.zero)).map fun v => v.cells.toList

def aggOf (P : Program) (t : TypeId) : Option Nat :=
  match P.underlying t with
  | some (.struct _) | some (.array ..) => some (P.cellsOf t)
  | _ => none

/-- A type that the program has. -/
def known (P : Program) (t : TypeId) : Bool := (P.info? t).isSome && (P.underlying t).isSome

def oneCellV : Value → Bool
  | .agg _ | .tuple _ => false
  | _ => true

section
variable (P : Program) (num : FuncId → Nat) (N : Nat)

def trSrc : Operand → Option Src
  | .tmp t => some (.t t)
  | .const v => if oneCellV v then some (.c v) else none
  | .global _ => none
  | .func f => some (.f (num f))

/-- The kind of a type's nil. -/
def nilKind (d : TypeDesc) (y : Operand) : Option Nat :=
  match d, y with
  | .slice _, .const (.slice none 0 0) => some 0
  | .pointer _, .const (.pointer none) => some 1
  | .map .., .const (.map none) => some 2
  | .func .., .const .nilFunc => some 3
  | _, _ => none

/-- A zero value of the size that the type says. -/
def zeroOk (t : TypeId) : Bool :=
  match zeroCellsOf P t with
  | some zs => zs.length == P.cellsOf t
  | none => false

def notIntD : TypeDesc → Bool
  | .int _ => false
  | _ => true

/-- The kind of a key's type. -/
def keyKind (k : TypeId) : Option Nat :=
  match P.underlying k with
  | some (.int _) => some 0
  | some .bool => some 1
  | some .string => some 2
  | some (.pointer e) => if known P e && 0 < P.cellsOf e then some 3 else none
  | _ => none

/-- The zero value of a type: its cells; is it one of many? -/
def zeroOf (t : TypeId) : Option (List Value × Bool) :=
  match (P.info? t).bind (·.zero) with
  | some (.agg cs) => if cs.toList.all oneCellV then some (cs.toList, true) else none
  | some z => if oneCellV z then some ([z], false) else none
  | none => none

def kindOf : Option TypeDesc → Option Nat
  | some (.int _) => some 0
  | some .bool => some 1
  | some .string => some 2
  | _ => none

/-- A struct whose cells are compared one by one: their kinds. -/
def flatStruct (t : TypeId) : Option (List Nat) :=
  match P.underlying t with
  | some (.struct fs) =>
    if !P.stoodInHeld t && !P.eqGuardType P.depth t && fs.all (fun f => f.name != "_") && (fs.toList.map (·.offset)) == List.range fs.size
    then fs.toList.mapM fun f => kindOf (P.underlying f.type) else none
  | _ => none

def trParts (place : Nat → Option (Nat × Nat)) (ps : List (Nat × Operand)) : Option (List (Nat × Nat × Src)) :=
  ps.mapM fun (i, x) => match place i, trSrc num x with
    | some (off, n), some s => some (off, n, s)
    | _, _ => none

def trCall (c : Call) : Option XOp :=
  match c.callee with
  | .builtin b =>
    match b, c.args.toList, c.argTypes.toList with
    | .len, [x], [t] => match P.underlying t with
      | some .string => (trSrc num x).map .lenS
      | some (.slice _) => (trSrc num x).map .len
      | some (.map ..) => (trSrc num x).map .lenM
      | _ => none
    | .cap, [x], [t] => match P.underlying t with
      | some (.slice _) => (trSrc num x).map .cap
      | _ => none
    | .copy, [d, x], [t, u] => match P.underlying t, P.underlying u, trSrc num d, trSrc num x with
      | some (.slice e), some (.slice _), some d, some x =>
        if known P e && 0 < P.cellsOf e then some (.copy (P.cellsOf e) d x) else none
      | _, _, _, _ => none
    | .append, [a, x], [t, u] => match P.underlying t, P.underlying u, trSrc num a, trSrc num x with
      | some (.slice e), some d, some a, some x =>
        if known P e && 0 < P.cellsOf e && 0 < P.bytesOf e && zeroOk P e && notIntD d then some (.append (P.cellsOf e) (P.bytesOf e) a x) else none
      | _, _, _, _ => none
    | _, _, _ => none
  | .value (.func f) => (c.args.toList.mapM (trSrc num)).map (.call .view (num f))
  | .value f => match trSrc num f, c.args.toList.mapM (trSrc num) with
    | some f, some as => some (.callV f as)
    | _, _ => none
  | .invoke .. => none

def trOp : Op → Option XOp
  | .move x | .assign x => (trSrc num x).map .mv
  | .pick c a b => match trSrc num c, trSrc num a, trSrc num b with
    | some c, some a, some b => some (.pick c a b)
    | _, _, _ => none
  | .alloc t => match zeroCellsOf P t with
    | some zs => if zs.all oneCellV then some (.alloc zs) else none
    | none => none
  | .box t x => if known P t then (trSrc num x).map (.box (P.cellsOf t)) else none
  | .build t ps => match zeroCellsOf P t with
    | none => none
    | some zs => if !zs.all oneCellV then none else match P.underlying t with
      | some (.struct fs) => if fs.all (fun f => known P f.type) then (trParts num (fun i => (fs[i]?).map fun f => (f.offset, P.cellsOf f.type)) ps.toList).map (.build zs) else none
      | some (.array _ e) => if known P e then (trParts num (fun i => some (i * P.cellsOf e, P.cellsOf e)) ps.toList).map (.build zs) else none
      | _ => none
  | .buildSlice t len ps => match P.underlying t with
    | some (.slice e) => match zeroCellsOf P e with
      | some zs => if known P e && zs.all oneCellV && len * P.cellsOf e ≤ 16777216 && 0 < P.cellsOf e && zs.length = P.cellsOf e then (trParts num (fun i => some (i * P.cellsOf e, P.cellsOf e)) ps.toList).map (.buildSlice (P.cellsOf e) zs len) else none
      | none => none
    | _ => none
  | .load t a => if known P t then (trSrc num a).map (.load (aggOf P t)) else none
  | .store t a x => if known P t then match trSrc num a, trSrc num x with
    | some a, some x => some (.store (P.cellsOf t) a x)
    | _, _ => none else none
  | .nilCheck x => (trSrc num x).map .nilCheck
  | .binOp op t x y _ =>
    match P.underlying t, trSrc num x, trSrc num y with
    | some (.int _), some x, some y | some .string, some x, some y => some (.bin op x y)
    | some .bool, some x, some y => some (.binB op x y)
    | some (.struct _), some x', some y' => match flatStruct P t, op with
      | some n, .eql => some (.eqCells false n x' y')
      | some n, .neq => some (.eqCells true n x' y')
      | _, _ => none
    | some d, some x', some _ => match nilKind d y, op with
      | some k, .eql => some (.eqNil false k x')
      | some k, .neq => some (.eqNil true k x')
      | _, _ => none
    | _, _, _ => none
  | .unOp op _ x => (trSrc num x).map (.un op)
  | .convert src dst x => match P.underlying src, P.underlying dst, trSrc num x with
    | some (.int _), some (.int k), some x => some (.conv k x)
    | some .string, some .string, some x => some (.convS x)
    | _, _, _ => none
  | .makeFunc (.func f) first caps => if first.isEmpty then (caps.toList.mapM (trSrc num)).map (.mkClo (num f)) else none
  | .makeSlice t l c => match P.underlying t with
    | some (.slice e) => match zeroCellsOf P e, trSrc num l, trSrc num c with
      | some zs, some l, some c => if known P e && zs.length = P.cellsOf e && 0 < P.cellsOf e && zs.all oneCellV then some (.makeSlice (P.cellsOf e) (P.bytesOf e) zs l c) else none
      | _, _, _ => none
    | _ => none
  | .slice t x lo hi none => match P.underlying t, trSrc num x, lo.mapM (trSrc num), hi.mapM (trSrc num) with
    | some (.slice e), some x, some lo, some hi => if known P e then some (.slice (P.cellsOf e) x lo hi) else none
    | some .string, some x, some lo, some hi => some (.sliceS x lo hi)
    | _, _, _, _ => none
  | .fieldAddr t x f => match P.underlying t, trSrc num x with
    | some (.struct fs), some x => match fs[f]? with
      | some f => if known P f.type && 0 < P.cellsOf f.type then some (.fieldA f.offset x) else none
      | none => none
    | _, _ => none
  | .field t x f => match P.underlying t, trSrc num x with
    | some (.struct fs), some x => match fs[f]? with
      | some f => if known P f.type then some (.field f.offset (aggOf P f.type) x) else none
      | none => none
    | _, _ => none
  | .indexAddr t x i => match P.underlying t, trSrc num x, trSrc num i with
    | some (.slice e), some x, some i => if known P e then some (.idxA (P.cellsOf e) x i) else none
    | _, _, _ => none
  | .index t x i => match P.underlying t, trSrc num x, trSrc num i with
    | some .string, some x, some i => some (.idxS x i)
    | _, _, _ => none
  | .extract x i => (trSrc num x).map fun x => .extract x i
  | .call c => trCall P num c
  | .makeMap t r => match P.underlying t, r.mapM (trSrc num) with
    | some (.map ..), some r => some (.makeMap r)
    | _, _ => none
  | .lookup t m k ok => match P.underlying t, trSrc num m, trSrc num k with
    | some (.map kt e), some m, some k => match keyKind P kt, zeroOf P e with
      | some kind, some (zs, agg) => some (.lookup kind zs agg m k ok)
      | _, _ => none
    | _, _, _ => none
  | .mapUpdate t m k v | .insert t m k v => match P.underlying t, trSrc num m, trSrc num k, trSrc num v with
    | some (.map kt _), some m, some k, some v => match keyKind P kt with
      | some kind => some (.mapSet kind m k v)
      | none => none
    | _, _, _, _ => none
  | _ => none

def trGuard (ops : Array Oper) : Option (Nat × Bool) → Option (Option (Nat × Bool))
  | none => some none
  | some (j, b) => match (ops[j]?).bind (·.dst) with
    | some t => some (some (t, b))
    | none => none

def dstOk : Option Tmp → Bool
  | some d => d < N
  | none => true

def trOper (ops : Array Oper) (o : Oper) : Option XO :=
  match trOp P num o.op, trGuard ops o.guard with
  | some x, some g => if dstOk N o.dst && dstOk N (g.map (·.1)) then some { dst := o.dst, op := x, guard := g } else none
  | _, _ => none

/-- An operation that the interpreter cannot do. -/
def badOp : XO := { dst := none, op := .callV (.c (.bool true)) [], guard := none }

def trOps (ops : Array Oper) : List Oper → List XO
  | [] => []
  | o :: r => match trOper P num N ops o with
    | some x => x :: trOps ops r
    | none => [badOp]

def tr : Code → XCode
  | .skip => .skip
  | .region _ ops _ => .region [] (trOps P num N ops ops.toList)
  | .seq a b => .seq (tr a) (tr b)
  | .cond c a b => match trSrc num c with
    | some c => .cond c (tr a) (tr b)
    | none => .cond (.c .nilFunc) .skip .skip
  | .block id b => .block id (tr b)
  | .loop b => .loop [] (tr b)
  | .exit id => .exit id
  | .ret => .ret
  | _ => .cond (.c .nilFunc) .skip .skip

def trRes : ResultVar → XRes
  | .tmp t => .tmp t
  | .cell t ty => .cell t (aggOf P ty)

end

/-! ### regions whose order is open -/

/-- Operations that leave the interpreter's objects alone. -/
def calmOp : XOp → Bool
  | .call .view .. => true
  | .alloc _ | .box .. | .buildSlice .. | .store .. | .frz _ | .append .. | .makeSlice .. | .copy .. | .callV .. | .call .. | .makeMap .. | .mapSet .. => false
  | _ => true

def srcTmp : Src → List Nat
  | .t n => [n]
  | _ => []

def srcTmpO : Option Src → List Nat
  | some x => srcTmp x
  | none => []

/-- The temporaries that a calm operation reads. -/
def XOp.reads : XOp → List Nat
  | .mv x | .load _ x | .nilCheck x | .eqNil _ _ x | .un _ x | .conv _ x | .convS x | .fieldA _ x | .field _ _ x | .len x | .lenS x | .cap x | .extract x _ | .lenM x => srcTmp x
  | .pick a b c => srcTmp a ++ (srcTmp b ++ srcTmp c)
  | .bin _ x y | .binB _ x y | .eqCells _ _ x y | .idxA _ x y | .idxS x y | .lookup _ _ _ x y _ => srcTmp x ++ srcTmp y
  | .build _ ps => ps.flatMap fun p => srcTmp p.2.2
  | .slice _ x lo hi | .sliceS x lo hi => srcTmp x ++ (srcTmpO lo ++ srcTmpO hi)
  | .mkClo _ l | .call _ _ l => l.flatMap srcTmp
  | _ => []

/-- Operations that only make things. -/
def makeOp : XOp → Bool
  | .alloc _ | .box .. | .buildSlice .. | .makeSlice .. | .makeMap _ | .call .own .. => true
  | _ => false

/-- The temporaries that a making operation reads. -/
def XOp.needs : XOp → List Nat
  | .box _ x => srcTmp x
  | .buildSlice _ _ _ ps => ps.flatMap fun p => srcTmp p.2.2
  | .makeSlice _ _ _ l c => srcTmp l ++ srcTmp c
  | .makeMap h => srcTmpO h
  | .call .own _ l => l.flatMap srcTmp
  | _ => []

def XO.reads (o : XO) : List Nat := o.op.reads ++ (o.op.needs ++ match o.guard with
  | some (t, _) => [t]
  | none => [])

/-- The first n operations are done. -/
def headArr (m n : Nat) : Array Bool := ((List.range m).map fun i => decide (i < n)).toArray

/-- The first n operations are calm, or only make things; each temporary has one writer among them, and whoever reads it waits for that one; all others come in their order, behind them. -/
def drawOk (ops : Array Oper) (xs : List XO) (n : Nat) : Bool :=
  (xs.take n).all (fun x => calmOp x.op || makeOp x.op) &&
  ((List.range n).all fun i => (List.range n).all fun j => match xs[i]?, xs[j]? with
    | some x, some y => match y.dst with
      | none => true
      | some d => (i == j || x.dst != some d) && (!x.reads.contains d || (decide (j < i) && Region.waitsFor .any ops i j))
    | _, _ => false) &&
  ((List.range n).all fun i => match ops[i]? with
    | some o => o.after.all fun e => !Region.binds .any e || decide (e.on < i)
    | none => false) &&
  (n == ops.size || (decide (n < ops.size) && Region.sinkB .any ops n && Region.chainB .any ops n)) &&
  Region.seqB .any ops (ops.size - n) n (headArr ops.size n)

def calmRun : List XO → Nat
  | [] => 0
  | x :: r => if calmOp x.op || makeOp x.op then calmRun r + 1 else 0

def drawsOk : Code → XCode → Bool
  | .region _ ops true, .region _ xs => ((List.range (calmRun xs + 1)).reverse.any fun n => drawOk ops xs n) && xs.length == ops.size
  | .seq a b, .seq x y => drawsOk a x && drawsOk b y
  | .cond _ a b, .cond _ x y => drawsOk a x && drawsOk b y
  | .block _ b, .block _ y => drawsOk b y
  | .loop b, .loop _ y => drawsOk b y
  | .region .., _ => true
  | .skip, _ | .exit _, _ | .ret, _ => true
  | _, _ => false

def XOp.wipe : XOp → XOp
  | .frz x => .mv x
  | .call _ fn args => .call .view fn args
  | o => o

def XO.wipe (o : XO) : XO := { o with op := o.op.wipe }

def XCode.wipe : XCode → XCode
  | .region _ ops => .region [] (ops.map XO.wipe)
  | .seq a b => .seq a.wipe b.wipe
  | .cond c a b => .cond c a.wipe b.wipe
  | .block id b => .block id b.wipe
  | .loop _ b => .loop [] b.wipe
  | c => c

end Go.EX
