/-
  EX: a small deterministic interpreter on abstract data. Values that are never written again stand by content (IV); what a call owns and may write stands as objects with small numbers (Mem).
-/
import GoSem.Core.Ast
import GoSem.Core.View
import Derived.Attr
set_option linter.unusedVariables false
set_option linter.unusedSimpArgs false
namespace Go.EX

/-- What one cell holds, by content: a plain value; a slice into a row of cells; a pointer into a row of cells. -/
inductive IV where
  | val (v : Value)
  | slice (row : List IV) (off len : Nat) (cap : Option Nat)
  | ptr (row : List IV) (off : Nat)
  deriving Inhabited

/-- A value at work. -/
inductive AV where
  | imm (x : IV)
  | osl (id off sz len : Nat) (cap : Option Nat)
  | optr (id off : Nat)
  | omap (id : Nat)
  | clo (fn : Nat) (caps : List AV)
  | agg (cells : List AV)
  | tup (vs : List AV)
  | junk
  deriving Inhabited

/-- An object that is owned. 'moved': it may lie elsewhere than it did when the function was entered. -/
inductive AObj where
  | flat (cells : List IV) (moved : Bool)
  | rich (cells : List AV)
  | map (es : List (AV × AV))
  | dead
  deriving Inhabited

abbrev Mem := List AObj
abbrev Env := List (Nat × AV)

/-- 'k': how many objects there were when the function was entered. -/
structure St where
  k : Nat
  env : Env
  mem : Mem

inductive Src where
  | t (n : Nat)
  | c (v : Value)
  | f (fn : Nat)

/-- How a call hands its arguments over, and takes its result: 'view': by content; the result is frozen. 'own': by content; what it makes is the caller's. 'share': objects themselves are handed over. -/
inductive CallMode where
  | view | own | share

inductive XOp where
  | mv (x : Src)
  | frz (x : Src)
  | pick (c a b : Src)
  | alloc (zs : List Value)
  | box (n : Nat) (x : Src)
  | build (zs : List Value) (parts : List (Nat × Nat × Src))
  | buildSlice (sz : Nat) (zs : List Value) (len : Nat) (parts : List (Nat × Nat × Src))
  | load (agg : Option Nat) (a : Src)
  | store (n : Nat) (a x : Src)
  | nilCheck (x : Src)
  | bin (op : BinOp) (x y : Src)
  | binB (op : BinOp) (x y : Src)
  | eqNil (neg : Bool) (kind : Nat) (x : Src)
  | eqCells (neg : Bool) (kinds : List Nat) (x y : Src)
  | un (op : UnOp) (x : Src)
  | conv (k : IntKind) (x : Src)
  | convS (x : Src)
  | fieldA (off : Nat) (x : Src)
  | field (off : Nat) (agg : Option Nat) (x : Src)
  | idxA (sz : Nat) (x i : Src)
  | idxS (x i : Src)
  | slice (sz : Nat) (x : Src) (lo hi : Option Src)
  | sliceS (x : Src) (lo hi : Option Src)
  | len (x : Src)
  | lenS (x : Src)
  | cap (x : Src)
  | append (sz bytes : Nat) (s x : Src)
  | makeSlice (sz bytes : Nat) (zs : List Value) (l c : Src)
  | extract (x : Src) (i : Nat)
  | mkClo (fn : Nat) (caps : List Src)
  | call (mode : CallMode) (fn : Nat) (args : List Src)
  | callV (f : Src) (args : List Src)
  | copy (sz : Nat) (d s : Src)
  | makeMap (hint : Option Src)
  | lookup (kind : Nat) (zs : List Value) (agg : Bool) (m k : Src) (ok : Bool)
  | mapSet (kind : Nat) (m k v : Src)
  | lenM (m : Src)

/-- An operation: where its value goes; what it is; a guard. -/
structure XO where
  dst : Option Nat
  op : XOp
  guard : Option (Nat × Bool)

inductive XCode where
  | skip
  | region (keep : List Nat) (ops : List XO)
  | seq (a b : XCode)
  | cond (c : Src) (a b : XCode)
  | block (id : Nat) (b : XCode)
  | loop (keep : List Nat) (b : XCode)
  | exit (id : Nat)
  | ret

inductive XExit where
  | normal
  | exit (id : Nat)
  | ret

/-- Where a result lies: in a temporary, or behind the pointer in one. -/
inductive XRes where
  | tmp (t : Nat)
  | cell (t : Nat) (agg : Option Nat)

structure XFun where
  res : List XRes
  body : XCode

/-! ### the environment -/

def Env.get : Env → Nat → AV
  | [], _ => .junk
  | (k, v) :: r, n => if n = k then v else Env.get r n

def Env.keep (e : Env) (l : List Nat) : Env := l.map fun n => (n, e.get n)

def Env.ev (e : Env) : Src → AV
  | .t n => e.get n
  | .c v => .imm (.val v)
  | .f n => .clo n []

/-! ### objects -/

/-- The numbers that a value bears. -/
def AV.refs : AV → List Nat
  | .imm _ => []
  | .osl id .. => [id]
  | .optr id _ => [id]
  | .omap id => [id]
  | .clo _ caps => refsL caps
  | .agg cells => refsL cells
  | .tup vs => refsL vs
  | .junk => []
where
  refsL : List AV → List Nat
    | [] => []
    | x :: r => x.refs ++ refsL r

def AObj.refs : AObj → List Nat
  | .flat .. => []
  | .rich cells => AV.refs.refsL cells
  | .map es => AV.refs.refsL (es.map (·.1)) ++ AV.refs.refsL (es.map (·.2))
  | .dead => []

/-- Where a number stands in a list. -/
def place (l : List Nat) (id : Nat) : Option Nat :=
  match l with
  | [] => none
  | x :: r => if id = x then some 0 else (place r id).map (· + 1)

/-- Other numbers for a value's objects; 'none': the value is let go. -/
def AV.ren (f : Nat → Option Nat) : AV → AV
  | .imm x => .imm x
  | .osl id off sz len cap => match f id with | some j => .osl j off sz len cap | none => .junk
  | .optr id off => match f id with | some j => .optr j off | none => .junk
  | .omap id => match f id with | some j => .omap j | none => .junk
  | .clo fn caps => .clo fn (renL f caps)
  | .agg cells => .agg (renL f cells)
  | .tup vs => .tup (renL f vs)
  | .junk => .junk
where
  renL (f : Nat → Option Nat) : List AV → List AV
    | [] => []
    | x :: r => x.ren f :: renL f r

def AObj.ren (f : Nat → Option Nat) : AObj → AObj
  | .flat cells m => .flat cells m
  | .rich cells => .rich (AV.ren.renL f cells)
  | .map es => .map (es.map fun p => (p.1.ren f, p.2.ren f))
  | .dead => .dead

/-- All objects that 'todo' leads to, behind those of 'acc', in the order in which they are met. -/
def reach (m : Mem) : Nat → List Nat → List Nat → List Nat
  | 0, _, acc => acc
  | _ + 1, [], acc => acc
  | n + 1, id :: todo, acc => if id ∈ acc then reach m n todo acc else if id < m.length then reach m n (todo ++ ((m[id]?).getD .dead).refs) (acc ++ [id]) else reach m n todo acc

def Mem.refs : Mem → List Nat
  | [] => []
  | o :: r => o.refs ++ Mem.refs r

/-- Only what is reached is kept, with new numbers; the first k keep theirs. -/
def order (k : Nat) (roots : List Nat) (m : Mem) : List Nat := reach m 200 (roots ++ Mem.refs (m.take k)) (List.range k)

def Mem.pickAll (m : Mem) (l : List Nat) : Mem := l.map fun id => ((m[id]?).getD .dead).ren (place l)

def Env.roots : Env → List Nat
  | [] => []
  | (_, v) :: r => v.refs ++ Env.roots r

def Env.ren (f : Nat → Option Nat) : Env → Env
  | [] => []
  | (k, v) :: r => (k, v.ren f) :: Env.ren f r

/-- A loop's head: what is no longer wanted is let go. -/
def St.tidy (s : St) (keep : List Nat) : St :=
  if s.mem.length = s.k then { s with env := s.env.keep keep } else
  let e := s.env.keep keep
  let l := order s.k e.roots s.mem
  { k := s.k, env := e.ren (place l), mem := s.mem.pickAll l }

/-! ### by content -/

/-- A value by content, if all that it leads to can be told so. -/
def frzV (m : Mem) : Nat → AV → Option IV
  | _, .imm x => some x
  | n + 1, .osl id off _ len cap => match m[id]? with
    | some (.flat cells _) => some (.slice cells off len cap)
    | some (.rich cells) => (cells.mapM (frzV m n)).map fun row => .slice row off len cap
    | _ => none
  | n + 1, .optr id off => match m[id]? with
    | some (.flat cells _) => some (.ptr cells off)
    | some (.rich cells) => (cells.mapM (frzV m n)).map fun row => .ptr row off
    | _ => none
  | _, _ => none

def frz (m : Mem) : AV → Option AV
  | .agg cells => (cells.mapM (frzV m 20)).map fun l => .agg (l.map .imm)
  | .tup vs => (vs.mapM (frz1 m)).map .tup
  | x => (frzV m 20 x).map .imm
where
  frz1 (m : Mem) : AV → Option AV
    | .agg cells => (cells.mapM (frzV m 20)).map fun l => .agg (l.map .imm)
    | x => (frzV m 20 x).map .imm

/-- Is a value one that leads to no memory at all? -/
def AV.plain1 : AV → Bool
  | .imm (.val _) => true
  | _ => false

def AV.plain2 : AV → Bool
  | .agg cells => cells.all AV.plain1
  | x => x.plain1

def AV.plain : AV → Bool
  | .tup vs => vs.all AV.plain2
  | x => x.plain2

/-- Is it plain, or an owned object? -/
def AV.own1 : AV → Bool
  | .imm (.val _) => true
  | .osl .. => true
  | .optr .. => true
  | _ => false

def AV.own2 : AV → Bool
  | .agg cells => cells.all AV.own1
  | x => x.own1

def AV.own : AV → Bool
  | .tup vs => vs.all AV.own2
  | x => x.own2

def IV.plain : IV → Bool
  | .val _ => true
  | _ => false

def AObj.own : AObj → Bool
  | .flat cs _ => cs.all IV.plain
  | .rich cs => cs.all AV.own1
  | .map _ => false
  | .dead => true

def AObj.live : AObj → Bool
  | .dead => false
  | _ => true

/-! ### the operations -/

def imms : List AV → Option (List IV)
  | [] => some []
  | .imm x :: r => (imms r).map (x :: ·)
  | _ :: _ => none

/-- Is a value one by content? -/
def AV.isImm : AV → Bool
  | .imm _ => true
  | .agg cells => (imms cells).isSome
  | _ => false

def intBin (op : BinOp) (k : IntKind) (a b : Int) : Option Value :=
  match op with
  | .add => some (.int k (k.wrap (a + b)))
  | .sub => some (.int k (k.wrap (a - b)))
  | .mul => some (.int k (k.wrap (a * b)))
  | .quo => if b = 0 then none else some (.int k (k.wrap (a.tdiv b)))
  | .rem => if b = 0 then none else some (.int k (a.tmod b))
  | .and => some (.int k (k.wrap (BitVec.ofInt k.bits a &&& BitVec.ofInt k.bits b).toNat))
  | .or => some (.int k (k.wrap (BitVec.ofInt k.bits a ||| BitVec.ofInt k.bits b).toNat))
  | .xor => some (.int k (k.wrap (BitVec.ofInt k.bits a ^^^ BitVec.ofInt k.bits b).toNat))
  | .andNot => some (.int k (k.wrap (BitVec.ofInt k.bits a &&& ~~~ BitVec.ofInt k.bits b).toNat))
  | .eql => some (.bool (a == b))
  | .neq => some (.bool (a != b))
  | .lss => some (.bool (a < b))
  | .leq => some (.bool (a ≤ b))
  | .gtr => some (.bool (a > b))
  | .geq => some (.bool (a ≥ b))
  | _ => none

def shiftBin (op : BinOp) (k : IntKind) (a b : Int) : Option Value :=
  if b < 0 then none else
  match op with
  | .shl => some (.int k (k.wrap (a * 2 ^ (min b.toNat k.bits))))
  | .shr => some (.int k (a.fdiv (2 ^ (min b.toNat k.bits))))
  | _ => none

def strBin (op : BinOp) (a b : ByteArray) : Option Value :=
  match op with
  | .add => if a.size + b.size ≤ 9223372036854775807 then some (.string (a ++ b)) else none
  | .eql => some (.bool (a.toList == b.toList))
  | .neq => some (.bool !(a.toList == b.toList))
  | _ => none

def valBin (op : BinOp) (x y : Value) : Option Value :=
  match x, y with
  | .int k a, .int j b => match op with
    | .shl | .shr => shiftBin op k a b
    | op => if k = j then intBin op k a b else none
  | .string a, .string b => strBin op a b
  | _, _ => none

def boolBin (op : BinOp) (x y : Value) : Option Value :=
  match x, y with
  | .bool a, .bool b => match op with
    | .eql => some (.bool (a == b))
    | .neq => some (.bool (!(a == b)))
    | _ => none
  | _, _ => none

def valUn (op : UnOp) (x : Value) : Option Value :=
  match op, x with
  | .neg, .int k n => some (.int k (k.wrap (0 - n)))
  | .not, .bool b => some (.bool !b)
  | .xor, .int k n => some (.int k (k.wrap (BitVec.ofInt k.bits (if k.signed then -1 else k.max) ^^^ BitVec.ofInt k.bits n).toNat))
  | _, _ => none

/-- n cells from off on. -/
def cut {α : Type} (l : List α) (off n : Nat) : Option (List α) :=
  let r := (l.drop off).take n
  if r.length = n then some r else none

def setAll {α : Type} : List α → Nat → List α → List α
  | l, _, [] => l
  | l, off, x :: xs => setAll (l.set off x) (off + 1) xs

/-- The cells that a value fills. -/
def AV.cells : AV → Option (List AV)
  | .agg cs => some cs
  | .tup _ => none
  | .junk => none
  | x => some [x]

def getCells (agg : Option Nat) (l : List AV) (off : Nat) : Option AV :=
  match agg with
  | none => l[off]?
  | some n => (cut l off n).map .agg

def getCellsI (agg : Option Nat) (l : List IV) (off : Nat) : Option AV :=
  match agg with
  | none => (l[off]?).map .imm
  | some n => (cut l off n).map fun r => .agg (r.map .imm)

def loadAt (m : Mem) (agg : Option Nat) : AV → Option AV
  | .imm (.ptr row off) => getCellsI agg row off
  | .optr id off => match m[id]? with
    | some (.flat cs _) => getCellsI agg cs off
    | some (.rich cs) => getCells agg cs off
    | _ => none
  | _ => none

def storeAt (m : Mem) (a : AV) (vs : List AV) : Option Mem :=
  match a with
  | .optr id off => match m[id]? with
    | some (.flat cs mv) => match imms vs with
      | some xs => if off + xs.length ≤ cs.length then some (m.set id (.flat (setAll cs off xs) mv)) else none
      | none => none
    | some (.rich cs) => if off + vs.length ≤ cs.length then some (m.set id (.rich (setAll cs off vs))) else none
    | _ => none
  | _ => none

/-- The cells of a slice's elements, by content. -/
def elems (m : Mem) (sz : Nat) : AV → Option (Nat × List IV)
  | .imm (.val (.slice none 0 0)) => some (0, [])
  | .imm (.val (.string s)) => if sz = 1 then some (s.size, s.data.toList.map fun b => .val (.int .u8 b.toNat)) else none
  | .imm (.slice row off len _) => (cut row off (len * sz)).map fun r => (len, r)
  | .osl id off _ len _ => match m[id]? with
    | some (.flat cs _) => (cut cs off (len * sz)).map fun r => (len, r)
    | some (.rich cs) => match cut cs off (len * sz) with
      | some r => (imms r).map fun r => (len, r)
      | none => none
    | _ => none
  | _ => none

/-- An object's number is forgotten wherever it stands. -/
def St.scrub (s : St) (id : Nat) : St :=
  { s with env := s.env.ren (fun j => if j = id then none else some j), mem := s.mem.map (AObj.ren fun j => if j = id then none else some j) }

def fresh (s : St) (o : AObj) (v : Nat → AV) : AV × St := (v s.mem.length, { s with mem := s.mem ++ [o] })

def exAppend (s : St) (sz bytes : Nat) (a x : AV) : Option (AV × St) :=
  match elems s.mem sz x with
  | none => none
  | some (n, news) =>
    match a with
    | .imm (.val (.slice none 0 0)) =>
      if n = 0 then some (a, s) else
      if n * bytes ≤ 140737488355328 then some (fresh s (.flat news false) fun id => .osl id 0 sz n none) else none
    | .imm (.slice row off l (some c)) =>
      if n = 0 then some (a, s) else
      if l + n ≤ c then none else
      match cut row off (l * sz) with
      | some old => if (l + n) * bytes ≤ 140737488355328 then some (fresh s (.flat (old ++ news) false) fun id => .osl id 0 sz (l + n) none) else none
      | none => none
    | .osl id off sz' l (some c) =>
      if sz' = sz then
        match s.mem[id]? with
        | some (.flat cs mv) =>
          if l + n ≤ c then
            if off + (l + n) * sz ≤ cs.length then some (.osl id off sz (l + n) (some c), { s with mem := s.mem.set id (.flat (setAll cs (off + l * sz) news) mv) }) else none
          else
            match cut cs off (l * sz) with
            | some old => if (l + n) * bytes ≤ 140737488355328 then some (fresh s (.flat (old ++ news) false) fun id => .osl id 0 sz (l + n) none) else none
            | none => none
        | _ => none
      else none
    | .osl id 0 sz' l none =>
      if sz' = sz then
        match s.mem[id]? with
        | some (.flat cs _) =>
          match cut cs 0 (l * sz) with
          | some old =>
            if (l + n) * bytes ≤ 140737488355328 then
              let s' := s.scrub id
              some (.osl id 0 sz (l + n) none, { s' with mem := s'.mem.set id (.flat (old ++ news) true) })
            else none
          | none => none
        | _ => none
      else none
    | _ => none

/-- The cells of a slice's elements, in an object that is owned. -/
def elemsR (m : Mem) (sz : Nat) : AV → Option (Nat × List AV)
  | .osl id off _ len _ => match m[id]? with
    | some (.rich cs) => (cut cs off (len * sz)).map fun r => (len, r)
    | some (.flat cs _) => (cut cs off (len * sz)).map fun r => (len, r.map .imm)
    | _ => none
  | _ => none

/-- What is not by content is put behind: the row's object is a new one, the old one is gone. -/
def exAppendR (s : St) (sz bytes : Nat) (a x : AV) : Option (AV × St) :=
  match elemsR s.mem sz x with
  | none => none
  | some (n, news) =>
    if n = 0 then none else
    match a with
    | .imm (.val (.slice none 0 0)) => if n * bytes ≤ 140737488355328 then some (fresh s (.rich news) fun id => .osl id 0 sz n none) else none
    | .osl id 0 sz' l none =>
      if sz' = sz then
        match elemsR s.mem sz (.osl id 0 sz' l none) with
        | some (_, old) => if (l + n) * bytes ≤ 140737488355328 then some (.osl s.mem.length 0 sz (l + n) none, { s with mem := s.mem.set id .dead ++ [.rich (old ++ news)] }) else none
        | none => none
      else none
    | _ => none

def exAppendX (s : St) (sz bytes : Nat) (a x : AV) : Option (AV × St) :=
  match exAppend s sz bytes a x with
  | some r => some r
  | none => exAppendR s sz bytes a x

def intOf : AV → Option Int
  | .imm (.val (.int _ i)) => some i
  | _ => none

def bndOf (d : Nat) : Option AV → Option Int
  | none => some d
  | some v => intOf v

/-- The bounds of a slice expression: low, high. -/
def bounds (len top : Nat) (lo hi : Option AV) : Option (Nat × Nat) :=
  match bndOf len hi, bndOf 0 lo with
  | some h, some l => if 0 ≤ l ∧ l ≤ h ∧ h ≤ top then some (l.toNat, h.toNat) else none
  | _, _ => none

def exSlice (sz : Nat) (x : AV) (lo hi : Option AV) : Option AV :=
  match x with
  | .imm (.val (.slice none 0 0)) => (bounds 0 0 lo hi).map fun _ => x
  | .imm (.slice row off len cap) => (bounds len (cap.getD len) lo hi).map fun (l, h) => .imm (.slice row (off + l * sz) (h - l) (cap.map (· - l)))
  | .osl id off sz' len cap => if sz' = sz then (bounds len (cap.getD len) lo hi).map fun (l, h) => .osl id (off + l * sz) sz (h - l) (cap.map (· - l)) else none
  | _ => none

def fillAll : List AV → List (Nat × Nat × AV) → Option (List AV)
  | cs, [] => some cs
  | cs, (off, n, v) :: r => match v.cells with
    | some vs => if vs.length = n ∧ off + n ≤ cs.length then fillAll (setAll cs off vs) r else none
    | none => none

def mkObj (cells : List AV) : AObj :=
  match imms cells with
  | some xs => .flat xs false
  | none => .rich cells

def imZ (zs : List Value) : List AV := zs.map fun z => .imm (.val z)

def copies {α : Type} (n : Nat) (l : List α) : List α :=
  match n with
  | 0 => []
  | n + 1 => l ++ copies n l

def lenOf : AV → Option Nat
  | .imm (.val (.slice none 0 0)) => some 0
  | .imm (.slice _ _ len _) => some len
  | .osl _ _ _ len _ => some len
  | _ => none

/-- The first k elements of a slice. -/
def shorten (k : Nat) : AV → AV
  | .imm (.slice row off _ cap) => .imm (.slice row off k cap)
  | .osl id off sz _ cap => .osl id off sz k cap
  | x => x

def capOf : AV → Option Nat
  | .imm (.val (.slice none 0 0)) => some 0
  | .imm (.slice _ _ _ cap) => cap
  | .osl _ _ _ _ cap => cap
  | _ => none

/-- Cells of these kinds (0: integers, 1: bools, 2: strings), one by one. -/
def sameCells : List Nat → List AV → List AV → Option Bool
  | [], [], [] => some true
  | 0 :: ks, .imm (.val (.int k a)) :: xs, .imm (.val (.int j b)) :: ys => if k = j then (sameCells ks xs ys).map fun r => a == b && r else none
  | 1 :: ks, .imm (.val (.bool a)) :: xs, .imm (.val (.bool b)) :: ys => (sameCells ks xs ys).map fun r => a == b && r
  | 2 :: ks, .imm (.val (.string a)) :: xs, .imm (.val (.string b)) :: ys => (sameCells ks xs ys).map fun r => a == b && r
  | _, _, _ => none

def AObj.hasCells : AObj → Bool
  | .flat .. => true
  | .rich _ => true
  | _ => false

/-- Are two keys (0: integers; 1: bools; 2: strings; 3: pointers) the same? -/
def keyEq (m : Mem) : Nat → AV → AV → Option Bool
  | 0, .imm (.val (.int k a)), .imm (.val (.int j b)) => if k = j then some (a == b) else none
  | 1, .imm (.val (.bool a)), .imm (.val (.bool b)) => some (a == b)
  | 2, .imm (.val (.string a)), .imm (.val (.string b)) => some (a == b)
  | 3, .optr i o, .optr j p => if ((m[i]?).getD .dead).hasCells && ((m[j]?).getD .dead).hasCells then some (i == j && o == p) else none
  | _, _, _ => none

/-- Where a key stands. -/
def findK (m : Mem) (kind : Nat) (k : AV) : List (AV × AV) → Nat → Option (Option Nat)
  | [], _ => some none
  | e :: es, i => match keyEq m kind k e.1 with
    | some true => some (some i)
    | some false => findK m kind k es (i + 1)
    | none => none

/-- May it be a key? -/
def isKeyAV : Nat → AV → Bool
  | 0, .imm (.val (.int ..)) | 1, .imm (.val (.bool _)) | 2, .imm (.val (.string _)) => true
  | 3, .optr .. => true
  | _, _ => false

def zeroAV (zs : List Value) (agg : Bool) : AV := if agg then .agg (imZ zs) else match zs with
  | [z] => .imm (.val z)
  | _ => .junk

def isNil : AV → Option Bool
  | .imm (.val (.slice none _ _)) | .imm (.val (.pointer none)) | .imm (.val (.map none)) | .imm (.val .nilFunc) => some true
  | .imm (.slice ..) | .imm (.ptr ..) | .osl .. | .optr .. | .omap _ | .clo .. => some false
  | _ => none

/-- The same of a slice (0), a pointer (1), a map (2), a function (3). -/
def isNilK : Nat → AV → Option Bool
  | 0, .imm (.val (.slice none _ _)) => some true
  | 0, .imm (.slice ..) => some false
  | 0, .osl .. => some false
  | 1, .imm (.val (.pointer none)) => some true
  | 1, .imm (.ptr ..) => some false
  | 1, .optr .. => some false
  | 2, .imm (.val (.map none)) => some true
  | 3, .imm (.val .nilFunc) => some true
  | 3, .clo .. => some false
  | _, _ => none

abbrev Calls' := Nat → List AV → Mem → Option (AV × Mem)

/-- A call by content: the arguments as they read; the result by content, or plain. -/
def exView (call : Calls') (s : St) (fn : Nat) (args : List AV) : Option (AV × St) :=
  match args.mapM (frz s.mem) with
  | none => none
  | some as => match call fn as [] with
    | none => none
    | some (r, mc) => if r.plain then some (r, s) else
      if args.all AV.isImm then (frz mc r).map fun r => (r, s) else none

/-- A call by content, what it makes is the caller's own. -/
def exOwn (call : Calls') (s : St) (fn : Nat) (args : List AV) : Option (AV × St) :=
  match args.mapM (frz s.mem) with
  | none => none
  | some as => match call fn as [] with
    | none => none
    | some (r, mc) =>
      if args.all AV.isImm || (r.own && mc.all AObj.own) then
        let up := fun i => some (s.mem.length + i)
        some (r.ren up, { s with mem := s.mem ++ mc.map (AObj.ren up) })
      else none

def AObj.moved : AObj → Bool
  | .flat _ m => m
  | .rich _ => false
  | .map _ => false
  | .dead => true

def AObj.orMoved : AObj → Bool → AObj
  | .flat cs m, b => .flat cs (m || b)
  | o, _ => o

/-- Object number id behind a call to which the objects 'l' were handed and which left 'mc'. -/
def shareAt (s : St) (l : List Nat) (mc : Mem) (back stay : Nat → Option Nat) (id : Nat) : AObj :=
  match place l id with
  | some i => (((mc[i]?).getD .dead).ren back).orMoved (((s.mem[id]?).getD .dead).moved)
  | none => if id < s.mem.length then ((s.mem[id]?).getD .dead).ren stay else ((mc[l.length + (id - s.mem.length)]?).getD .dead).ren back

/-- A call to which the objects themselves are handed. -/
def exShare (call : Calls') (s : St) (fn : Nat) (args : List AV) : Option (AV × St) :=
  let l := order 0 (AV.refs.refsL args) s.mem
  match call fn (AV.ren.renL (place l) args) (s.mem.pickAll l) with
  | none => none
  | some (r, mc) =>
    let back := fun i => if i < l.length then l[i]? else some (s.mem.length + (i - l.length))
    let stay := fun id => match place l id with
      | some i => if ((mc[i]?).getD .dead).moved then none else some id
      | none => some id
    some (r.ren back, { s with env := s.env.ren stay, mem := (List.range (s.mem.length + (mc.length - l.length))).map (shareAt s l mc back stay) })

def exOp (call : Calls') (s : St) (op : XOp) : Option (AV × St) :=
  let e := s.env.ev
  match op with
  | .mv x => some (e x, s)
  | .frz _ => none
  | .pick c a b => match e c with
    | .imm (.val (.bool t)) => some (if t then e a else e b, s)
    | _ => none
  | .alloc zs => some (fresh s (.rich (imZ zs)) fun id => .optr id 0)
  | .box _ x => (e x).cells.map fun cs => fresh s (.rich cs) fun id => .optr id 0
  | .build zs parts => (fillAll (imZ zs) (parts.map fun (o, n, x) => (o, n, e x))).map fun cs => (.agg cs, s)
  | .buildSlice sz zs len parts => (fillAll (imZ (copies len zs)) (parts.map fun (o, n, x) => (o, n, e x))).map fun cs => fresh s (mkObj cs) fun id => .osl id 0 sz len (some len)
  | .load agg a => (loadAt s.mem agg (e a)).map fun v => (v, s)
  | .store n a x => match (e x).cells with
    | some cs => if cs.length = n then (storeAt s.mem (e a) cs).map fun m => (.junk, { s with mem := m }) else none
    | none => none
  | .nilCheck x => match isNil (e x) with
    | some false => some (e x, s)
    | _ => none
  | .bin op x y => match e x, e y with
    | .imm (.val a), .imm (.val b) => (valBin op a b).map fun v => (.imm (.val v), s)
    | _, _ => none
  | .binB op x y => match e x, e y with
    | .imm (.val a), .imm (.val b) => (boolBin op a b).map fun v => (.imm (.val v), s)
    | _, _ => none
  | .eqNil neg kind x => (isNilK kind (e x)).map fun b => (.imm (.val (.bool (if neg then !b else b))), s)
  | .eqCells neg kinds x y => match e x, e y with
    | .agg xs, .agg ys => (sameCells kinds xs ys).map fun b => (.imm (.val (.bool (if neg then !b else b))), s)
    | _, _ => none
  | .un op x => match e x with
    | .imm (.val a) => (valUn op a).map fun v => (.imm (.val v), s)
    | _ => none
  | .conv k x => (intOf (e x)).map fun i => (.imm (.val (.int k (k.wrap i))), s)
  | .convS x => match e x with
    | .imm (.val (.string b)) => some (.imm (.val (.string b)), s)
    | _ => none
  | .fieldA off x => match e x with
    | .imm (.ptr row o) => some (.imm (.ptr row (o + off)), s)
    | .optr id o => some (.optr id (o + off), s)
    | _ => none
  | .field off agg x => match e x with
    | .agg cs => (getCells agg cs off).map fun v => (v, s)
    | _ => none
  | .idxA sz x i => match intOf (e i) with
    | none => none
    | some i => match e x with
      | .imm (.slice row off len _) => if 0 ≤ i ∧ i < len then some (.imm (.ptr row (off + i.toNat * sz)), s) else none
      | .osl id off _ len _ => if 0 ≤ i ∧ i < len then some (.optr id (off + i.toNat * sz), s) else none
      | _ => none
  | .idxS x i => match intOf (e i), e x with
    | some i, .imm (.val (.string b)) => if 0 ≤ i then match b[i.toNat]? with | some c => some (.imm (.val (.int .u8 c.toNat)), s) | none => none else none
    | _, _ => none
  | .slice sz x lo hi => (exSlice sz (e x) (lo.map e) (hi.map e)).map fun v => (v, s)
  | .sliceS x lo hi => match e x with
    | .imm (.val (.string b)) => (bounds b.size b.size (lo.map e) (hi.map e)).map fun (l, h) => (.imm (.val (.string (b.extract l h))), s)
    | _ => none
  | .len x => (lenOf (e x)).map fun (n : Nat) => (.imm (.val (.int .i64 (n : Int))), s)
  | .lenS x => match e x with
    | .imm (.val (.string b)) => some (.imm (.val (.int .i64 (b.size : Int))), s)
    | _ => none
  | .cap x => (capOf (e x)).map fun (n : Nat) => (.imm (.val (.int .i64 (n : Int))), s)
  | .append sz bytes a x => exAppendX s sz bytes (e a) (e x)
  | .makeSlice sz bytes zs l c => match intOf (e l), intOf (e c) with
    | some l, some c => if 0 ≤ l ∧ l ≤ c ∧ bytes * c ≤ 281474976710656 ∧ c ≤ 9223372036854775807 then some (fresh s (.flat (copies c.toNat (zs.map .val)) false) fun id => .osl id 0 sz l.toNat (some c.toNat)) else none
    | _, _ => none
  | .extract x i => match e x with
    | .tup vs => (vs[i]?).map fun v => (v, s)
    | _ => none
  | .mkClo fn caps => some (.clo fn (caps.map e), s)
  | .call mode fn args => match mode with
    | .view => exView call s fn (args.map e)
    | .own => exOwn call s fn (args.map e)
    | .share => exShare call s fn (args.map e)
  | .callV f args => match e f with
    | .clo fn caps => exShare call s fn (args.map e ++ caps)
    | _ => none
  | .copy sz d x => match lenOf (e d), lenOf (e x) with
    | some dl, some n =>
      if min n dl = 0 then some (.imm (.val (.int .i64 0)), s) else
      match e d with
      | .osl id off sz' _ _ => if sz' = sz then match elems s.mem sz (shorten (min n dl) (e x)) with
        | some (_, cs) => (storeAt s.mem (.optr id off) (cs.map .imm)).map fun m => (.imm (.val (.int .i64 (min n dl : Nat))), { s with mem := m })
        | none => none else none
      | _ => none
    | _, _ => none
  | .makeMap hint => match hint with
    | none => some (fresh s (.map []) fun id => .omap id)
    | some x => match intOf (e x) with
      | some _ => some (fresh s (.map []) fun id => .omap id)
      | none => none
  | .lookup kind zs agg m k ok =>
    let out := fun (v : AV) (b : Bool) => if ok then (AV.tup [v, .imm (.val (.bool b))], s) else (v, s)
    if isKeyAV kind (e k) then
      match e m with
      | .imm (.val (.map none)) => some (out (zeroAV zs agg) false)
      | .omap id => match s.mem[id]? with
        | some (.map es) => match findK s.mem kind (e k) es 0 with
          | some none => some (out (zeroAV zs agg) false)
          | some (some i) => (es[i]?).map fun p => out p.2 true
          | none => none
        | _ => none
      | _ => none
    else none
  | .mapSet kind m k v =>
    if isKeyAV kind (e k) then
      match e m with
      | .omap id => match s.mem[id]? with
        | some (.map es) => match findK s.mem kind (e k) es 0 with
          | some none => some (.junk, { s with mem := s.mem.set id (.map (es ++ [(e k, e v)])) })
          | some (some i) => some (.junk, { s with mem := s.mem.set id (.map (es.set i (e k, e v))) })
          | none => none
        | _ => none
      | _ => none
    else none
  | .lenM m => match e m with
    | .imm (.val (.map none)) => some (.imm (.val (.int .i64 0)), s)
    | .omap id => match s.mem[id]? with
      | some (.map es) => some (.imm (.val (.int .i64 (es.length : Nat))), s)
      | _ => none
    | _ => none

def exOne (call : Calls') (s : St) (o : XO) : Option St :=
  let go : Option St := (exOp call s o.op).map fun (v, s') => match o.dst with | some d => { s' with env := (d, v) :: s'.env } | none => s'
  match o.guard with
  | none => go
  | some (t, b) => match s.env.get t with
    | .imm (.val (.bool c)) => if c = b then go else some (match o.dst with | some d => { s with env := (d, .tup []) :: s.env } | none => s)
    | .tup [] => some (match o.dst with | some d => { s with env := (d, .tup []) :: s.env } | none => s)
    | _ => none

def exOps (call : Calls') : St → List XO → Option St
  | s, [] => some s
  | s, o :: r => (exOne call s o).bind fun s' => exOps call s' r

/-- At most n rounds. -/
def rounds (body : St → Option (XExit × St)) : Nat → St → Option (XExit × St)
  | 0, _ => none
  | n + 1, s => match body s with
    | some (.normal, s') => rounds body n s'
    | r => r

def exCode (call : Calls') (n : Nat) : XCode → St → Option (XExit × St)
  | .skip, s => some (.normal, s)
  | .region keep ops, s => (exOps call s ops).map fun s' => (.normal, { s' with env := s'.env.keep keep })
  | .seq a b, s => match exCode call n a s with
    | some (.normal, s') => exCode call n b s'
    | r => r
  | .cond c a b, s => match s.env.ev c with
    | .imm (.val (.bool t)) => if t then exCode call n a s else exCode call n b s
    | _ => none
  | .block id b, s => match exCode call n b s with
    | some (.exit j, s') => if j = id then some (.normal, s') else some (.exit j, s')
    | r => r
  | .loop keep b, s => rounds (fun s => exCode call n b (s.tidy keep)) n s
  | .exit id, s => some (.exit id, s)
  | .ret, s => some (.ret, s)

def resOf (s : St) : XRes → Option AV
  | .tmp t => some (s.env.get t)
  | .cell t agg => loadAt s.mem agg (s.env.get t)

def wrapRes : List AV → AV
  | [x] => x
  | l => .tup l

def enter (i : Nat) : List AV → Env
  | [] => []
  | x :: r => (i, x) :: enter (i + 1) r

/-- The results, and the objects that are left. -/
def leave (s : St) (f : XFun) : Option (AV × Mem) :=
  (f.res.mapM (resOf s)).map fun vs =>
    let r := wrapRes vs
    if s.mem.length = s.k then (r, s.mem) else
    let l := order s.k r.refs s.mem
    (r.ren (place l), s.mem.pickAll l)

def exFun (call : Calls') (n : Nat) (f : XFun) (args : List AV) (m : Mem) : Option (AV × Mem) :=
  match exCode call n f.body { k := m.length, env := enter 0 args, mem := m } with
  | some (.normal, s) | some (.ret, s) => leave s f
  | _ => none

/-- The whole program, calls at most n deep. -/
def callN (code : Nat → Option XFun) (ext : Calls') : Nat → Calls'
  | 0, _, _, _ => none
  | n + 1, fn, args, m => match code fn with
    | some f => exFun (callN code ext n) n f args m
    | none => ext fn args m

end Go.EX
