import GoSem.Core.Ast
import GoSem.Core.View
import Derived.Attr
import GoSem.Core.Region
import GoSem.Core.Program
import GoSem.Core.Layout
import GoSem.Op.Equal
import Derived.StillTail
import Derived.Laws.CopyRow
import Derived.Laws.Rows
import Derived.Laws.World
import Derived.Laws.AppendOwn
import GoSem.Dispatch
import Derived.Laws.Slices
import Derived.Laws.Strings
import Derived.Laws.MakeOwn
set_option linter.unusedVariables false
set_option linter.unusedSimpArgs false
namespace Go.EX
inductive IV where
  | val (v : Value)
  | slice (row : List IV) (off len : Nat) (cap : Option Nat)
  | ptr (row : List IV) (off : Nat)
  deriving Inhabited
inductive AV where
  | imm (x : IV)
  | osl (id off sz len : Nat) (cap : Option Nat)
  | optr (id off : Nat)
  | omap (id : Nat)
  | clo (fn : Nat) (caps : List AV)
  | agg (cells : List AV)
  | tup (vs : List AV)
  | yld (id : Nat)
  | seat (id off : Nat)
  | junk
  deriving Inhabited
inductive Src where
  | t (n : Nat)
  | c (v : Value)
  | f (fn : Nat)
inductive CallMode where
  | view | own | share | peek | look
inductive XOp where
  | mv (x : Src)
  | frz (x : Src)
  | pick (c a b : Src)
  | alloc (zs : List Value)
  | allocB (off : Nat) (zs : List Value)
  | box (n : Nat) (x : Src)
  | boxB (off n : Nat) (x : Src)
  | build (zs : List Value) (parts : List (Nat × Nat × Src))
  | buildSlice (sz : Nat) (zs : List Value) (len : Nat) (parts : List (Nat × Nat × Src))
  | load (agg : Option Nat) (a : Src)
  | store (n : Nat) (a x : Src)
  | nilCheck (x : Src)
  | bin (op : BinOp) (x y : Src)
  | binB (op : BinOp) (x y : Src)
  | eqNil (neg : Bool) (kind : Nat) (x : Src)
  | eqCells (neg : Bool) (kinds : List Nat) (x y : Src)
  | un (op : UnOp) (x : Src)
  | conv (k : IntKind) (x : Src)
  | convS (x : Src)
  | fieldA (off : Nat) (x : Src)
  | field (off : Nat) (agg : Option Nat) (x : Src)
  | idxA (sz : Nat) (x i : Src)
  | idxS (x i : Src)
  | slice (sz : Nat) (x : Src) (lo hi : Option Src)
  | sliceS (x : Src) (lo hi : Option Src)
  | slice3 (sz : Nat) (x hi mx : Src)
  | len (x : Src)
  | lenS (x : Src)
  | cap (x : Src)
  | append (sz bytes : Nat) (s x : Src)
  | appendK (sz bytes : Nat) (s x : Src)
  | appendS (s x : Src)
  | makeSlice (sz bytes : Nat) (zs : List Value) (l c : Src)
  | extract (x : Src) (i : Nat)
  | mkClo (fn : Nat) (caps : List Src)
  | call (mode : CallMode) (fn : Nat) (args : List Src)
  | callV (f : Src) (args : List Src)
  | copy (sz : Nat) (d s : Src)
  | makeMap (hint : Option Src)
  | lookup (kind : Nat) (zs : List Value) (agg : Bool) (m k : Src) (ok : Bool)
  | mapSet (kind : Nat) (m k v : Src)
  | lenM (m : Src)
  | idxP (n sz : Nat) (x i : Src)
  | idxV (n sz : Nat) (agg : Option Nat) (x i : Src)
  | strOf (x : Src)
  | bytesOf (x : Src)
  | minmax (min : Bool) (x y : Src)
  | clear (sz : Nat) (zs : List Value) (x : Src)
  | junk
  | litA
  | litI (kind : Nat) (m k v : Src)
  | litM (x : Src)
  | litL (kind : Nat) (zs : List Value) (m k : Src) (y n : Value)
def XOp.unlit : XOp → XOp
  | .litA => .junk
  | .litI .. => .junk
  | .litM _ => .junk
  | .litL _ _ _ k y n => .pick k (.c y) (.c n)
  | o => o
structure XO where
  dst : Option Nat
  op : XOp
  guard : Option (Nat × Bool)
def XO.unlit (o : XO) : XO := { o with op := o.op.unlit }
inductive XCode where
  | skip
  | region (keep : List Nat) (ops : List XO)
  | lregion (keep : List Nat) (ops : List XO)
  | seq (a b : XCode)
  | cond (c : Src) (a b : XCode)
  | block (id : Nat) (b : XCode)
  | loop (keep : List Nat) (b : XCode)
  | exit (id : Nat)
  | ret
  | rangeF (f : Src) (ps keep : List Nat) (as b : XCode)
  deriving Inhabited
def XCode.still : XCode → Bool
  | .seq a b => a.still && b.still
  | .cond _ a b => a.still && b.still
  | .block _ b => b.still
  | .loop _ b => b.still
  | .rangeF .. => false
  | _ => true
abbrev Env := List (Nat × AV)
inductive AObj where
  | flat (cells : List IV) (moved : Bool)
  | rich (cells : List AV)
  | map (es : List (AV × AV))
  | dead
  | fix (cells : List IV) (moved open_ : Bool)
  | loop (env : Env) (ps : List Nat) (as b : XCode) (busy : Bool)
  | text (cells : List IV)
  deriving Inhabited
def vsame : Value → Value → Bool
  | .int k a, .int l b => decide (k = l) && decide (a = b)
  | .bool a, .bool b => decide (a = b)
  | .string a, .string b => decide (a = b)
  | .pointer none, .pointer none => true
  | .slice none 0 0, .slice none 0 0 => true
  | .map none, .map none => true
  | .nilFunc, .nilFunc => true
  | _, _ => false
theorem vsame_eq {a b : Value} (h : vsame a b = true) : a = b := by
  unfold vsame at h
  split at h <;> simp only [Bool.and_eq_true, decide_eq_true_eq, reduceCtorEq] at h <;> first | (obtain ⟨rfl, rfl⟩ := h; rfl) | (subst h; rfl) | rfl | cases h
mutual
def IV.same : IV → IV → Bool
  | .val a, .val b => vsame a b
  | .slice r o l c, .slice r' o' l' c' => IV.sameL r r' && (decide (o = o') && (decide (l = l') && decide (c = c')))
  | .ptr r o, .ptr r' o' => IV.sameL r r' && decide (o = o')
  | _, _ => false
def IV.sameL : List IV → List IV → Bool
  | [], [] => true
  | a :: r, b :: s => IV.same a b && IV.sameL r s
  | _, _ => false
end
mutual
theorem iv_same_eq : ∀ (a b : IV), IV.same a b = true → a = b
  | .val a, .val b, h => by simp only [IV.same] at h; rw [vsame_eq h]
  | .slice r o l c, .slice r' o' l' c', h => by
    simp only [IV.same, Bool.and_eq_true, decide_eq_true_eq] at h
    obtain ⟨h1, rfl, rfl, rfl⟩ := h
    rw [iv_sameL_eq r r' h1]
  | .ptr r o, .ptr r' o', h => by
    simp only [IV.same, Bool.and_eq_true, decide_eq_true_eq] at h
    obtain ⟨h1, rfl⟩ := h
    rw [iv_sameL_eq r r' h1]
  | .val _, .slice .., h => by simp [IV.same] at h
  | .val _, .ptr .., h => by simp [IV.same] at h
  | .slice .., .val _, h => by simp [IV.same] at h
  | .slice .., .ptr .., h => by simp [IV.same] at h
  | .ptr .., .val _, h => by simp [IV.same] at h
  | .ptr .., .slice .., h => by simp [IV.same] at h
theorem iv_sameL_eq : ∀ (a b : List IV), IV.sameL a b = true → a = b
  | [], [], _ => rfl
  | a :: r, b :: s, h => by
    simp only [IV.sameL, Bool.and_eq_true] at h
    rw [iv_same_eq a b h.1, iv_sameL_eq r s h.2]
  | [], _ :: _, h => by simp [IV.sameL] at h
  | _ :: _, [], h => by simp [IV.sameL] at h
end
mutual
def AV.same : AV → AV → Bool
  | .imm a, .imm b => IV.same a b
  | .osl a b c d e, .osl a' b' c' d' e' => decide (a = a') && (decide (b = b') && (decide (c = c') && (decide (d = d') && decide (e = e'))))
  | .optr a b, .optr a' b' => decide (a = a') && decide (b = b')
  | .omap a, .omap a' => decide (a = a')
  | .clo f l, .clo f' l' => decide (f = f') && AV.sameL l l'
  | .agg l, .agg l' => AV.sameL l l'
  | .tup l, .tup l' => AV.sameL l l'
  | .junk, .junk => true
  | .seat a b, .seat a' b' => decide (a = a') && decide (b = b')
  | _, _ => false
def AV.sameL : List AV → List AV → Bool
  | [], [] => true
  | a :: r, b :: s => AV.same a b && AV.sameL r s
  | _, _ => false
end
mutual
theorem av_same_eq : ∀ (a b : AV), AV.same a b = true → a = b
  | .imm a, b, h => by
    cases b <;> simp only [AV.same, reduceCtorEq] at h
    rw [iv_same_eq _ _ h]
  | .osl .., b, h => by
    cases b <;> simp only [AV.same, Bool.and_eq_true, decide_eq_true_eq, reduceCtorEq] at h
    obtain ⟨rfl, rfl, rfl, rfl, rfl⟩ := h; rfl
  | .optr .., b, h => by
    cases b <;> simp only [AV.same, Bool.and_eq_true, decide_eq_true_eq, reduceCtorEq] at h
    obtain ⟨rfl, rfl⟩ := h; rfl
  | .omap _, b, h => by
    cases b <;> simp only [AV.same, decide_eq_true_eq, reduceCtorEq] at h
    subst h; rfl
  | .clo f l, b, h => by
    cases b <;> simp only [AV.same, Bool.and_eq_true, decide_eq_true_eq, reduceCtorEq] at h
    obtain ⟨rfl, h⟩ := h
    rw [av_sameL_eq l _ h]
  | .agg l, b, h => by
    cases b <;> simp only [AV.same, reduceCtorEq] at h
    rw [av_sameL_eq l _ h]
  | .tup l, b, h => by
    cases b <;> simp only [AV.same, reduceCtorEq] at h
    rw [av_sameL_eq l _ h]
  | .yld _, b, h => by cases b <;> simp only [AV.same, reduceCtorEq] at h
  | .seat .., b, h => by
    cases b <;> simp only [AV.same, Bool.and_eq_true, decide_eq_true_eq, reduceCtorEq] at h
    obtain ⟨rfl, rfl⟩ := h; rfl
  | .junk, b, h => by
    cases b <;> simp only [AV.same, reduceCtorEq] at h
    rfl
theorem av_sameL_eq : ∀ (a b : List AV), AV.sameL a b = true → a = b
  | [], [], _ => rfl
  | a :: r, b :: s, h => by
    simp only [AV.sameL, Bool.and_eq_true] at h
    rw [av_same_eq a b h.1, av_sameL_eq r s h.2]
  | [], _ :: _, h => by simp [AV.sameL] at h
  | _ :: _, [], h => by simp [AV.sameL] at h
end
def AObj.same : AObj → AObj → Bool
  | .flat l m, .flat l' m' => IV.sameL l l' && decide (m = m')
  | .rich l, .rich l' => AV.sameL l l'
  | .map l, .map l' => AV.sameL (l.map (·.1)) (l'.map (·.1)) && AV.sameL (l.map (·.2)) (l'.map (·.2))
  | .dead, .dead => true
  | .text l, .text l' => IV.sameL l l'
  | .fix l m o, .fix l' m' o' => IV.sameL l l' && (decide (m = m') && decide (o = o'))
  | _, _ => false
theorem pairs_eq {α β : Type} : ∀ {l m : List (α × β)}, l.map (·.1) = m.map (·.1) → l.map (·.2) = m.map (·.2) → l = m
  | [], [], _, _ => rfl
  | [], _ :: _, h, _ => by cases h
  | _ :: _, [], h, _ => by cases h
  | (a, b) :: l, (c, d) :: m, h1, h2 => by
    simp only [List.map_cons, List.cons.injEq] at h1 h2
    obtain ⟨rfl, h1⟩ := h1
    obtain ⟨rfl, h2⟩ := h2
    rw [pairs_eq h1 h2]
theorem obj_same_eq {a b : AObj} (h : AObj.same a b = true) : a = b := by
  unfold AObj.same at h
  split at h
  · simp only [Bool.and_eq_true, decide_eq_true_eq] at h
    obtain ⟨h, rfl⟩ := h
    rw [iv_sameL_eq _ _ h]
  · rw [av_sameL_eq _ _ h]
  · simp only [Bool.and_eq_true] at h
    rw [pairs_eq (av_sameL_eq _ _ h.1) (av_sameL_eq _ _ h.2)]
  · rfl
  · rw [iv_sameL_eq _ _ h]
  · simp only [Bool.and_eq_true, decide_eq_true_eq] at h
    obtain ⟨h, rfl, rfl⟩ := h
    rw [iv_sameL_eq _ _ h]
  · cases h
noncomputable instance decObj : DecidableEq AObj := fun a b => if h : AObj.same a b = true then isTrue (obj_same_eq h) else Classical.propDecidable _
abbrev Mem := List AObj
structure St where
  k : Nat
  env : Env
  mem : Mem
inductive XExit where
  | normal
  | exit (id : Nat)
  | ret
inductive XRes where
  | tmp (t : Nat)
  | cell (t : Nat) (agg : Option Nat)
structure XFun where
  res : List XRes
  body : XCode
def Env.get : Env → Nat → AV
  | [], _ => .junk
  | (k, v) :: r, n => if n = k then v else Env.get r n
def Env.keep (e : Env) (l : List Nat) : Env := l.map fun n => (n, e.get n)
def Env.ev (e : Env) : Src → AV
  | .t n => e.get n
  | .c v => .imm (.val v)
  | .f n => .clo n []
def AV.refs : AV → List Nat
  | .imm _ => []
  | .osl id .. => [id]
  | .optr id _ => [id]
  | .omap id => [id]
  | .clo _ caps => refsL caps
  | .agg cells => refsL cells
  | .tup vs => refsL vs
  | .yld id => [id]
  | .seat id _ => [id]
  | .junk => []
where
  refsL : List AV → List Nat
    | [] => []
    | x :: r => x.refs ++ refsL r
def Env.roots : Env → List Nat
  | [] => []
  | (_, v) :: r => v.refs ++ Env.roots r
def AObj.refs : AObj → List Nat
  | .flat .. => []
  | .rich cells => AV.refs.refsL cells
  | .map es => AV.refs.refsL (es.map (·.1)) ++ AV.refs.refsL (es.map (·.2))
  | .dead => []
  | .fix .. => []
  | .loop env .. => Env.roots env
  | .text _ => []
def place (l : List Nat) (id : Nat) : Option Nat :=
  match l with
  | [] => none
  | x :: r => if id = x then some 0 else (place r id).map (· + 1)
def AV.ren (f : Nat → Option Nat) : AV → AV
  | .imm x => .imm x
  | .osl id off sz len cap => match f id with | some j => .osl j off sz len cap | none => .junk
  | .optr id off => match f id with | some j => .optr j off | none => .junk
  | .omap id => match f id with | some j => .omap j | none => .junk
  | .clo fn caps => .clo fn (renL f caps)
  | .agg cells => .agg (renL f cells)
  | .tup vs => .tup (renL f vs)
  | .yld id => match f id with | some j => .yld j | none => .junk
  | .seat id off => match f id with | some j => .seat j off | none => .junk
  | .junk => .junk
where
  renL (f : Nat → Option Nat) : List AV → List AV
    | [] => []
    | x :: r => x.ren f :: renL f r
def Env.ren (f : Nat → Option Nat) : Env → Env
  | [] => []
  | (k, v) :: r => (k, v.ren f) :: Env.ren f r
def AObj.ren (f : Nat → Option Nat) : AObj → AObj
  | .flat cells m => .flat cells m
  | .rich cells => .rich (AV.ren.renL f cells)
  | .map es => .map (es.map fun p => (p.1.ren f, p.2.ren f))
  | .dead => .dead
  | .fix cells m o => .fix cells m o
  | .loop env ps as b y => .loop (env.ren f) ps as b y
  | .text cells => .text cells
def reach (m : Mem) : Nat → List Nat → List Nat → List Nat
  | 0, _, acc => acc
  | _ + 1, [], acc => acc
  | n + 1, id :: todo, acc => if id ∈ acc then reach m n todo acc else if id < m.length then reach m n (todo ++ ((m[id]?).getD .dead).refs) (acc ++ [id]) else reach m n todo acc
def Mem.refs : Mem → List Nat
  | [] => []
  | o :: r => o.refs ++ Mem.refs r
def order (k : Nat) (roots : List Nat) (m : Mem) : List Nat := reach m 1000000000000 (roots ++ Mem.refs (m.take k)) (List.range k)
def Mem.pickAll (m : Mem) (l : List Nat) : Mem := l.map fun id => ((m[id]?).getD .dead).ren (place l)
def St.tidy (s : St) (keep : List Nat) : St :=
  if s.mem.length = s.k then { s with env := s.env.keep keep } else
  let e := s.env.keep keep
  let l := order s.k e.roots s.mem
  { k := s.k, env := e.ren (place l), mem := s.mem.pickAll l }
def frzV (m : Mem) : Nat → AV → Option IV
  | _, .imm x => some x
  | n + 1, .osl id off _ len cap => match m[id]? with
    | some (.flat cells _) => some (.slice cells off len cap)
    | some (.rich cells) => (cells.mapM (frzV m n)).map fun row => .slice row off len cap
    | _ => none
  | n + 1, .optr id off => match m[id]? with
    | some (.flat cells _) => some (.ptr cells off)
    | some (.rich cells) => (cells.mapM (frzV m n)).map fun row => .ptr row off
    | _ => none
  | _, _ => none
def frz (m : Mem) : AV → Option AV
  | .agg cells => (cells.mapM (frzV m 20)).map fun l => .agg (l.map .imm)
  | .tup vs => (vs.mapM (frz1 m)).map .tup
  | .clo fn caps => (caps.mapM (frzC m)).map (.clo fn)
  | x => (frzV m 20 x).map .imm
where
  frzC (m : Mem) : AV → Option AV
    | .clo fn caps => some (.clo fn (AV.ren.renL (fun _ => none) caps))
    | x => (frzV m 20 x).map .imm
  frz1 (m : Mem) : AV → Option AV
    | .agg cells => (cells.mapM (frzV m 20)).map fun l => .agg (l.map .imm)
    | x => (frzV m 20 x).map .imm
def AV.plain1 : AV → Bool
  | .imm (.val _) => true
  | _ => false
def AV.plain2 : AV → Bool
  | .agg cells => cells.all AV.plain1
  | x => x.plain1
def AV.plain : AV → Bool
  | .tup vs => vs.all AV.plain2
  | x => x.plain2
def AV.own1 : AV → Bool
  | .imm (.val _) => true
  | .osl .. => true
  | .optr .. => true
  | _ => false
def AV.own2 : AV → Bool
  | .agg cells => cells.all AV.own1
  | x => x.own1
def AV.own : AV → Bool
  | .tup vs => vs.all AV.own2
  | x => x.own2
def IV.plain : IV → Bool
  | .val _ => true
  | _ => false
def AObj.own : AObj → Bool
  | .flat cs _ => cs.all IV.plain
  | .rich cs => cs.all AV.own1
  | .map _ => false
  | .dead => true
  | .fix .. => false
  | .loop .. => false
  | .text _ => false
def AObj.isFix : AObj → Bool
  | .fix .. => true
  | _ => false
def AObj.live : AObj → Bool
  | .dead => false
  | _ => true
def imms : List AV → Option (List IV)
  | [] => some []
  | .imm x :: r => (imms r).map (x :: ·)
  | _ :: _ => none
def AV.isImm : AV → Bool
  | .imm _ => true
  | .agg cells => (imms cells).isSome
  | _ => false
def intBin (op : BinOp) (k : IntKind) (a b : Int) : Option Value :=
  match op with
  | .add => some (.int k (k.wrap (a + b)))
  | .sub => some (.int k (k.wrap (a - b)))
  | .mul => some (.int k (k.wrap (a * b)))
  | .quo => if b = 0 then none else some (.int k (k.wrap (a.tdiv b)))
  | .rem => if b = 0 then none else some (.int k (a.tmod b))
  | .and => some (.int k (k.wrap (BitVec.ofInt k.bits a &&& BitVec.ofInt k.bits b).toNat))
  | .or => some (.int k (k.wrap (BitVec.ofInt k.bits a ||| BitVec.ofInt k.bits b).toNat))
  | .xor => some (.int k (k.wrap (BitVec.ofInt k.bits a ^^^ BitVec.ofInt k.bits b).toNat))
  | .andNot => some (.int k (k.wrap (BitVec.ofInt k.bits a &&& ~~~ BitVec.ofInt k.bits b).toNat))
  | .eql => some (.bool (a == b))
  | .neq => some (.bool (a != b))
  | .lss => some (.bool (a < b))
  | .leq => some (.bool (a ≤ b))
  | .gtr => some (.bool (a > b))
  | .geq => some (.bool (a ≥ b))
  | _ => none
def shiftBin (op : BinOp) (k : IntKind) (a b : Int) : Option Value :=
  if b < 0 then none else
  match op with
  | .shl => some (.int k (k.wrap (a * 2 ^ (min b.toNat k.bits))))
  | .shr => some (.int k (a.fdiv (2 ^ (min b.toNat k.bits))))
  | _ => none
def strBin (op : BinOp) (a b : ByteArray) : Option Value :=
  match op with
  | .add => if a.size + b.size ≤ 9223372036854775807 then some (.string (a ++ b)) else none
  | .eql => some (.bool (a.toList == b.toList))
  | .neq => some (.bool !(a.toList == b.toList))
  | _ => none
def valBin (op : BinOp) (x y : Value) : Option Value :=
  match x, y with
  | .int k a, .int j b => match op with
    | .shl | .shr => shiftBin op k a b
    | op => if k = j then intBin op k a b else none
  | .string a, .string b => strBin op a b
  | _, _ => none
def boolBin (op : BinOp) (x y : Value) : Option Value :=
  match x, y with
  | .bool a, .bool b => match op with
    | .eql => some (.bool (a == b))
    | .neq => some (.bool (!(a == b)))
    | _ => none
  | _, _ => none
def valUn (op : UnOp) (x : Value) : Option Value :=
  match op, x with
  | .neg, .int k n => some (.int k (k.wrap (0 - n)))
  | .not, .bool b => some (.bool !b)
  | .xor, .int k n => some (.int k (k.wrap (BitVec.ofInt k.bits (if k.signed then -1 else k.max) ^^^ BitVec.ofInt k.bits n).toNat))
  | _, _ => none
def cut {α : Type} (l : List α) (off n : Nat) : Option (List α) :=
  let r := (l.drop off).take n
  if r.length = n then some r else none
def setAll {α : Type} : List α → Nat → List α → List α
  | l, _, [] => l
  | l, off, x :: xs => setAll (l.set off x) (off + 1) xs
def AV.cells : AV → Option (List AV)
  | .agg cs => some cs
  | .tup _ => none
  | .junk => none
  | x => some [x]
def getCells (agg : Option Nat) (l : List AV) (off : Nat) : Option AV :=
  match agg with
  | none => l[off]?
  | some n => (cut l off n).map .agg
def getCellsI (agg : Option Nat) (l : List IV) (off : Nat) : Option AV :=
  match agg with
  | none => (l[off]?).map .imm
  | some n => (cut l off n).map fun r => .agg (r.map .imm)
def loadAt (m : Mem) (agg : Option Nat) : AV → Option AV
  | .imm (.ptr row off) => getCellsI agg row off
  | .optr id off => match m[id]? with
    | some (.flat cs _) => getCellsI agg cs off
    | some (.rich cs) => getCells agg cs off
    | some (.fix cs _ _) => getCellsI agg cs off
    | _ => none
  | _ => none
def storeAt (m : Mem) (a : AV) (vs : List AV) : Option Mem :=
  match a with
  | .optr id off => match m[id]? with
    | some (.flat cs mv) => match imms vs with
      | some xs => if off + xs.length ≤ cs.length then some (m.set id (.flat (setAll cs off xs) mv)) else none
      | none => if mv = false ∧ off + vs.length ≤ cs.length then some (m.set id (.rich (setAll (cs.map .imm) off vs))) else none
    | some (.rich cs) => if off + vs.length ≤ cs.length then some (m.set id (.rich (setAll cs off vs))) else none
    | _ => none
  | _ => none
def elems (m : Mem) (sz : Nat) : AV → Option (Nat × List IV)
  | .imm (.val (.slice none 0 0)) => some (0, [])
  | .imm (.val (.string s)) => if sz = 1 then some (s.size, s.data.toList.map fun b => .val (.int .u8 b.toNat)) else none
  | .imm (.slice row off len _) => (cut row off (len * sz)).map fun r => (len, r)
  | .osl id off _ len _ => match m[id]? with
    | some (.flat cs _) => (cut cs off (len * sz)).map fun r => (len, r)
    | some (.rich cs) => match cut cs off (len * sz) with
      | some r => (imms r).map fun r => (len, r)
      | none => none
    | some (.fix cs _ _) => (cut cs off (len * sz)).map fun r => (len, r)
    | some (.text cs) => (cut cs off (len * sz)).map fun r => (len, r)
    | _ => none
  | _ => none
def u8s : List IV → Option (List Int)
  | [] => some []
  | .val (.int .u8 n) :: r => (u8s r).map (n :: ·)
  | _ => none
def pushAll (ns : List Int) : ByteArray := ns.foldl (fun r n => r.push (UInt8.ofNat n.toNat)) ByteArray.empty
def strOfV (m : Mem) (x : AV) : Option ByteArray :=
  match x with
  | .imm (.val (.string _)) => none
  | x => match elems m 1 x with
    | some (_, cs) => (u8s cs).map pushAll
    | none => none
def rowOfS (b : ByteArray) : List IV := b.data.toList.map fun c => .val (.int .u8 c.toNat)
def St.scrub (s : St) (id : Nat) : St :=
  { s with env := s.env.ren (fun j => if j = id then none else some j), mem := s.mem.map (AObj.ren fun j => if j = id then none else some j) }
def fresh (s : St) (o : AObj) (v : Nat → AV) : AV × St := (v s.mem.length, { s with mem := s.mem ++ [o] })
def exAppend (s : St) (sz bytes : Nat) (a x : AV) : Option (AV × St) :=
  match elems s.mem sz x with
  | none => none
  | some (n, news) =>
    match a with
    | .imm (.val (.slice none 0 0)) =>
      if n = 0 then some (a, s) else
      if n * bytes ≤ 140737488355328 then some (fresh s (.flat news false) fun id => .osl id 0 sz n none) else none
    | .imm (.slice row off l (some c)) =>
      if n = 0 then some (a, s) else
      if l + n ≤ c then none else
      match cut row off (l * sz) with
      | some old => if (l + n) * bytes ≤ 140737488355328 then some (fresh s (.flat (old ++ news) false) fun id => .osl id 0 sz (l + n) none) else none
      | none => none
    | .osl id off sz' l (some c) =>
      if sz' = sz then
        match s.mem[id]? with
        | some (.flat cs mv) =>
          if l + n ≤ c then
            if off + (l + n) * sz ≤ cs.length then some (.osl id off sz (l + n) (some c), { s with mem := s.mem.set id (.flat (setAll cs (off + l * sz) news) mv) }) else none
          else
            match cut cs off (l * sz) with
            | some old => if (l + n) * bytes ≤ 140737488355328 then some (fresh s (.flat (old ++ news) false) fun id => .osl id 0 sz (l + n) none) else none
            | none => none
        | _ => none
      else none
    | .osl id 0 sz' l none =>
      if sz' = sz ∧ s.k ≤ id then
        match s.mem[id]? with
        | some (.flat cs _) =>
          match cut cs 0 (l * sz) with
          | some old =>
            if (l + n) * bytes ≤ 140737488355328 then
              let s' := s.scrub id
              some (.osl id 0 sz (l + n) none, { s' with mem := s'.mem.set id (.flat (old ++ news) false) })
            else none
          | none => none
        | _ => none
      else none
    | _ => none
def elemsR (m : Mem) (sz : Nat) : AV → Option (Nat × List AV)
  | .osl id off _ len _ => match m[id]? with
    | some (.rich cs) => (cut cs off (len * sz)).map fun r => (len, r)
    | some (.flat cs _) => (cut cs off (len * sz)).map fun r => (len, r.map .imm)
    | _ => none
  | _ => none
def richOf (m : Mem) (id : Nat) : Option (List AV) :=
  match m[id]? with
  | some (.rich cs) => some cs
  | some (.flat cs false) => some (cs.map .imm)
  | _ => none
def exAppendR (s : St) (sz bytes : Nat) (a x : AV) : Option (AV × St) :=
  match elemsR s.mem sz x with
  | none => none
  | some (n, news) =>
    if n = 0 then none else
    match a with
    | .imm (.val (.slice none 0 0)) => if n * bytes ≤ 140737488355328 then some (fresh s (.rich news) fun id => .osl id 0 sz n none) else none
    | .osl id 0 sz' l none =>
      if sz' = sz then
        match elemsR s.mem sz (.osl id 0 sz' l none) with
        | some (_, old) => if (l + n) * bytes ≤ 140737488355328 then some (.osl s.mem.length 0 sz (l + n) none, { s with mem := s.mem.set id .dead ++ [.rich (old ++ news)] }) else none
        | none => none
      else none
    | .osl id off sz' l (some c) =>
      if sz' = sz ∧ l + n ≤ c then
        match richOf s.mem id with
        | some cs => if off + (l + n) * sz ≤ cs.length then some (.osl id off sz (l + n) (some c), { s with mem := s.mem.set id (.rich (setAll cs (off + l * sz) news)) }) else none
        | none => none
      else if sz' = sz then
        match elemsR s.mem sz (.osl id off sz' l (some c)) with
        | some (_, old) => if (l + n) * bytes ≤ 140737488355328 then some (fresh s (.rich (old ++ news)) fun id => .osl id 0 sz (l + n) none) else none
        | none => none
      else none
    | _ => none
def exAppendX (s : St) (sz bytes : Nat) (a x : AV) : Option (AV × St) :=
  match exAppend s sz bytes a x with
  | some r => some r
  | none => exAppendR s sz bytes a x
def exAppendK (s : St) (sz bytes : Nat) (a x : AV) : Option (AV × St) :=
  match a with
  | .osl id 0 sz' l none =>
    if sz' = sz then
      match elems s.mem sz x with
      | none => none
      | some (n, news) =>
        match s.mem[id]? with
        | some (.flat cs mv) =>
          if cs.length = l * sz ∧ 0 < n ∧ (l + n) * bytes ≤ 140737488355328 then some (.osl s.mem.length 0 sz (l + n) none, { s with mem := s.mem.set id (.fix cs mv false) ++ [.fix (cs ++ news) false true] }) else none
        | some (.fix cs mv true) =>
          if cs.length = l * sz ∧ 0 < n ∧ (l + n) * bytes ≤ 140737488355328 then some (.osl s.mem.length 0 sz (l + n) none, { s with mem := s.mem.set id (.fix cs mv false) ++ [.fix (cs ++ news) false true] }) else none
        | _ => none
    else none
  | _ => exAppend s sz bytes a x
def exAppendS (s : St) (a x : AV) : Option (AV × St) :=
  match elems s.mem 1 x with
  | none => none
  | some (n, news) =>
    match a with
    | .imm (.val (.slice none 0 0)) =>
      if n = 0 then some (a, s) else
      if n ≤ 140737488355328 then some (fresh s (.text news) fun id => .osl id 0 1 n none) else none
    | .osl id 0 1 l none =>
      match s.mem[id]? with
      | some (.text cs) => if cs.length = l ∧ 0 < l ∧ l + n ≤ 140737488355328 then some (.osl s.mem.length 0 1 (l + n) none, { s with mem := s.mem.set id .dead ++ [.text (cs ++ news)] }) else none
      | _ => none
    | _ => none
def intOf : AV → Option Int
  | .imm (.val (.int _ i)) => some i
  | _ => none
def bndOf (d : Nat) : Option AV → Option Int
  | none => some d
  | some v => intOf v
def bounds (len top : Nat) (lo hi : Option AV) : Option (Nat × Nat) :=
  match bndOf len hi, bndOf 0 lo with
  | some h, some l => if 0 ≤ l ∧ l ≤ h ∧ h ≤ top then some (l.toNat, h.toNat) else none
  | _, _ => none
def exSlice (sz : Nat) (x : AV) (lo hi : Option AV) : Option AV :=
  match x with
  | .imm (.val (.slice none 0 0)) => (bounds 0 0 lo hi).map fun _ => x
  | .imm (.slice row off len cap) => (bounds len (cap.getD len) lo hi).map fun (l, h) => .imm (.slice row (off + l * sz) (h - l) (cap.map (· - l)))
  | .osl id off sz' len cap => if sz' = sz then (bounds len (cap.getD len) lo hi).map fun (l, h) => .osl id (off + l * sz) sz (h - l) (cap.map (· - l)) else none
  | _ => none
def exSlice3 (sz : Nat) (x hi mx : AV) : Option AV :=
  match intOf hi, intOf mx with
  | some h, some m => match x with
    | .imm (.val (.slice none 0 0)) => if h = 0 ∧ m = 0 then some x else none
    | .imm (.slice row off len cap) => if 0 ≤ h ∧ h ≤ m ∧ m ≤ cap.getD len then some (.imm (.slice row off h.toNat (some m.toNat))) else none
    | .osl id off sz' len cap => if sz' = sz ∧ 0 ≤ h ∧ h ≤ m ∧ m ≤ cap.getD len then some (.osl id off sz h.toNat (some m.toNat)) else none
    | _ => none
  | _, _ => none
def fillAll : List AV → List (Nat × Nat × AV) → Option (List AV)
  | cs, [] => some cs
  | cs, (off, n, v) :: r => match v.cells with
    | some vs => if vs.length = n ∧ off + n ≤ cs.length then fillAll (setAll cs off vs) r else none
    | none => none
def mkObj (cells : List AV) : AObj :=
  match imms cells with
  | some xs => .flat xs false
  | none => .rich cells
def imZ (zs : List Value) : List AV := zs.map fun z => .imm (.val z)
def copies {α : Type} (n : Nat) (l : List α) : List α :=
  match n with
  | 0 => []
  | n + 1 => l ++ copies n l
def lenOf : AV → Option Nat
  | .imm (.val (.slice none 0 0)) => some 0
  | .imm (.slice _ _ len _) => some len
  | .osl _ _ _ len _ => some len
  | _ => none
def shorten (k : Nat) : AV → AV
  | .imm (.slice row off _ cap) => .imm (.slice row off k cap)
  | .osl id off sz _ cap => .osl id off sz k cap
  | x => x
def capOf : AV → Option Nat
  | .imm (.val (.slice none 0 0)) => some 0
  | .imm (.slice _ _ _ cap) => cap
  | .osl _ _ _ _ cap => cap
  | _ => none
def sameCells : List Nat → List AV → List AV → Option Bool
  | [], [], [] => some true
  | 0 :: ks, .imm (.val (.int k a)) :: xs, .imm (.val (.int j b)) :: ys => if k = j then (sameCells ks xs ys).map fun r => a == b && r else none
  | 1 :: ks, .imm (.val (.bool a)) :: xs, .imm (.val (.bool b)) :: ys => (sameCells ks xs ys).map fun r => a == b && r
  | 2 :: ks, .imm (.val (.string a)) :: xs, .imm (.val (.string b)) :: ys => (sameCells ks xs ys).map fun r => a == b && r
  | _, _, _ => none
def AObj.hasCells : AObj → Bool
  | .flat .. => true
  | .rich _ => true
  | _ => false
def digits : Nat → Nat → List Nat
  | 0, _ => []
  | f + 1, n => if n = 0 then [] else (n % 4 - 1) :: digits f (n / 4)
def keyEq (m : Mem) : Nat → AV → AV → Option Bool
  | 0, .imm (.val (.int k a)), .imm (.val (.int j b)) => if k = j then some (a == b) else none
  | 1, .imm (.val (.bool a)), .imm (.val (.bool b)) => some (a == b)
  | 2, .imm (.val (.string a)), .imm (.val (.string b)) => some (a == b)
  | 3, .optr i o, .optr j p => if ((m[i]?).getD .dead).hasCells && ((m[j]?).getD .dead).hasCells then some (i == j && o == p) else none
  | n + 4, .agg xs, .agg ys => sameCells (digits 64 n) xs ys
  | _, _, _ => none
def findK (m : Mem) (kind : Nat) (k : AV) : List (AV × AV) → Nat → Option (Option Nat)
  | [], _ => some none
  | e :: es, i => match keyEq m kind k e.1 with
    | some true => some (some i)
    | some false => findK m kind k es (i + 1)
    | none => none
def isKeyAV : Nat → AV → Bool
  | 0, .imm (.val (.int ..)) | 1, .imm (.val (.bool _)) | 2, .imm (.val (.string _)) => true
  | 3, .optr .. => true
  | n + 4, .agg xs => (sameCells (digits 64 n) xs xs).isSome
  | _, _ => false
def zeroAV (zs : List Value) (agg : Bool) : AV := if agg then .agg (imZ zs) else match zs with
  | [z] => .imm (.val z)
  | _ => .junk
def isNil : AV → Option Bool
  | .imm (.val (.slice none _ _)) | .imm (.val (.pointer none)) | .imm (.val (.map none)) | .imm (.val .nilFunc) => some true
  | .imm (.slice ..) | .imm (.ptr ..) | .osl .. | .optr .. | .omap _ | .clo .. => some false
  | _ => none
def isNilK : Nat → AV → Option Bool
  | 0, .imm (.val (.slice none _ _)) => some true
  | 0, .imm (.slice ..) => some false
  | 0, .osl .. => some false
  | 1, .imm (.val (.pointer none)) => some true
  | 1, .seat .. => some true
  | 1, .imm (.ptr ..) => some false
  | 1, .optr .. => some false
  | 2, .imm (.val (.map none)) => some true
  | 3, .imm (.val .nilFunc) => some true
  | 3, .clo .. => some false
  | _, _ => none
abbrev Calls' := Nat → List AV → Mem → Option (AV × Mem)
def exView (call : Calls') (s : St) (fn : Nat) (args : List AV) : Option (AV × St) :=
  match args.mapM (frz s.mem) with
  | none => none
  | some as => match call fn as [] with
    | none => none
    | some (r, mc) => if r.plain then some (r, s) else
      if args.all AV.isImm then (frz mc r).map fun r => (r, s) else none
def exOwn (call : Calls') (s : St) (fn : Nat) (args : List AV) : Option (AV × St) :=
  match args.mapM (frz s.mem) with
  | none => none
  | some as => match call fn as [] with
    | none => none
    | some (r, mc) =>
      if args.all AV.isImm || (r.own && mc.all AObj.own) then
        let up := fun i => some (s.mem.length + i)
        some (r.ren up, { s with mem := s.mem ++ mc.map (AObj.ren up) })
      else none
def AObj.moved : AObj → Bool
  | .flat _ m => m
  | .rich _ => false
  | .map _ => false
  | .dead => true
  | .fix _ m _ => m
  | .loop .. => false
  | .text _ => false
def AObj.orMoved : AObj → Bool → AObj
  | .flat cs m, b => .flat cs (m || b)
  | .fix cs m o, b => .fix cs (m || b) o
  | o, _ => o
def shareAt (s : St) (l : List Nat) (mc : Mem) (back stay : Nat → Option Nat) (id : Nat) : AObj :=
  match place l id with
  | some i => (((mc[i]?).getD .dead).ren back).orMoved (((s.mem[id]?).getD .dead).moved)
  | none => if id < s.mem.length then ((s.mem[id]?).getD .dead).ren stay else ((mc[l.length + (id - s.mem.length)]?).getD .dead).ren back
def shareOk (m : Mem) (l : List Nat) : Bool :=
  (l.all fun id => !((m[id]?).getD .dead).isFix) || (List.range m.length).all fun id => l.contains id || !((m[id]?).getD .dead).isFix
def exShare (call : Calls') (s : St) (fn : Nat) (args : List AV) : Option (AV × St) :=
  let l := order 0 (AV.refs.refsL args) s.mem
  if shareOk s.mem l = false then none else
  match call fn (AV.ren.renL (place l) args) (s.mem.pickAll l) with
  | none => none
  | some (r, mc) =>
    let back := fun i => if i < l.length then l[i]? else some (s.mem.length + (i - l.length))
    let stay := fun id => match place l id with
      | some i => if ((mc[i]?).getD .dead).moved then none else some id
      | none => some id
    some (r.ren back, { s with env := s.env.ren stay, mem := (List.range (s.mem.length + (mc.length - l.length))).map (shareAt s l mc back stay) })
noncomputable def exPeek (call : Calls') (s : St) (fn : Nat) (args : List AV) : Option (AV × St) :=
  let l := order 0 (AV.refs.refsL args) s.mem
  match call fn (AV.ren.renL (place l) args) (s.mem.pickAll l) with
  | none => none
  | some (r, mc) => if mc = s.mem.pickAll l ∧ r.plain = true ∧ (l.all fun id => !((s.mem[id]?).getD .dead).isFix && (!((s.mem[id]?).getD .dead).moved && ((s.mem[id]?).getD .dead).refs.all fun j => l.contains j)) = true then some (r, s) else none
noncomputable def exLook (call : Calls') (s : St) (fn : Nat) (args : List AV) : Option (AV × St) :=
  let l := order 0 (AV.refs.refsL args) s.mem
  match call fn (AV.ren.renL (place l) args) (s.mem.pickAll l) with
  | none => none
  | some (r, mc) => if mc.take l.length = s.mem.pickAll l ∧ ((l.all fun id => !((s.mem[id]?).getD .dead).isFix && (!((s.mem[id]?).getD .dead).moved && ((s.mem[id]?).getD .dead).refs.all fun j => l.contains j)) && (r.refs.all (fun j => decide (j < mc.length)) && mc.all fun o => o.refs.all fun j => decide (j < mc.length))) = true then
      let back := fun i => if i < l.length then l[i]? else some (s.mem.length + (i - l.length))
      some (r.ren back, { s with mem := s.mem ++ (mc.drop l.length).map (AObj.ren back) })
    else none
def yieldNo : Nat := 99999
noncomputable def exOp (call : Calls') (s : St) (op : XOp) : Option (AV × St) :=
  let e := s.env.ev
  match op with
  | .mv x => some (e x, s)
  | .frz _ => none
  | .pick c a b => match e c with
    | .imm (.val (.bool t)) => some (if t then e a else e b, s)
    | _ => none
  | .alloc zs => some (fresh s (.rich (imZ zs)) fun id => .optr id 0)
  | .box _ x => (e x).cells.map fun cs => fresh s (.rich cs) fun id => .optr id 0
  | .allocB off zs => some (fresh s (.rich ((imZ zs).set off (.seat s.mem.length off))) fun id => .optr id 0)
  | .boxB off n x => match (e x).cells with
    | some cs => if cs.length = n then match cs[off]? with
      | some (.imm (.val (.pointer none))) => some (fresh s (.rich (cs.set off (.seat s.mem.length off))) fun id => .optr id 0)
      | _ => none else none
    | none => none
  | .build zs parts => (fillAll (imZ zs) (parts.map fun (o, n, x) => (o, n, e x))).map fun cs => (.agg cs, s)
  | .buildSlice sz zs len parts => (fillAll (imZ (copies len zs)) (parts.map fun (o, n, x) => (o, n, e x))).map fun cs => fresh s (mkObj cs) fun id => .osl id 0 sz len (some len)
  | .load agg a => (loadAt s.mem agg (e a)).map fun v => (v, s)
  | .store n a x => match (e x).cells with
    | some cs => if cs.length = n then (storeAt s.mem (e a) cs).map fun m => (.junk, { s with mem := m }) else none
    | none => none
  | .nilCheck x => match isNil (e x) with
    | some false => some (e x, s)
    | _ => none
  | .bin op x y => match e x, e y with
    | .imm (.val a), .imm (.val b) => (valBin op a b).map fun v => (.imm (.val v), s)
    | _, _ => none
  | .binB op x y => match e x, e y with
    | .imm (.val a), .imm (.val b) => (boolBin op a b).map fun v => (.imm (.val v), s)
    | _, _ => none
  | .eqNil neg kind x => (isNilK kind (e x)).map fun b => (.imm (.val (.bool (if neg then !b else b))), s)
  | .eqCells neg kinds x y => match e x, e y with
    | .agg xs, .agg ys => (sameCells kinds xs ys).map fun b => (.imm (.val (.bool (if neg then !b else b))), s)
    | _, _ => none
  | .un op x => match e x with
    | .imm (.val a) => (valUn op a).map fun v => (.imm (.val v), s)
    | _ => none
  | .conv k x => (intOf (e x)).map fun i => (.imm (.val (.int k (k.wrap i))), s)
  | .convS x => match e x with
    | .imm (.val (.string b)) => some (.imm (.val (.string b)), s)
    | _ => none
  | .fieldA off x => match e x with
    | .imm (.ptr row o) => some (.imm (.ptr row (o + off)), s)
    | .optr id o => some (.optr id (o + off), s)
    | _ => none
  | .field off agg x => match e x with
    | .agg cs => (getCells agg cs off).map fun v => (v, s)
    | _ => none
  | .idxA sz x i => match intOf (e i) with
    | none => none
    | some i => match e x with
      | .imm (.slice row off len _) => if 0 ≤ i ∧ i < len then some (.imm (.ptr row (off + i.toNat * sz)), s) else none
      | .osl id off _ len _ => if 0 ≤ i ∧ i < len then some (.optr id (off + i.toNat * sz), s) else none
      | _ => none
  | .idxS x i => match intOf (e i), e x with
    | some i, .imm (.val (.string b)) => if 0 ≤ i then match b[i.toNat]? with | some c => some (.imm (.val (.int .u8 c.toNat)), s) | none => none else none
    | _, _ => none
  | .slice sz x lo hi => (exSlice sz (e x) (lo.map e) (hi.map e)).map fun v => (v, s)
  | .slice3 sz x hi mx => (exSlice3 sz (e x) (e hi) (e mx)).map fun v => (v, s)
  | .sliceS x lo hi => match e x with
    | .imm (.val (.string b)) => (bounds b.size b.size (lo.map e) (hi.map e)).map fun (l, h) => (.imm (.val (.string (b.extract l h))), s)
    | _ => none
  | .len x => (lenOf (e x)).map fun (n : Nat) => (.imm (.val (.int .i64 (n : Int))), s)
  | .lenS x => match e x with
    | .imm (.val (.string b)) => some (.imm (.val (.int .i64 (b.size : Int))), s)
    | _ => none
  | .cap x => (capOf (e x)).map fun (n : Nat) => (.imm (.val (.int .i64 (n : Int))), s)
  | .append sz bytes a x => exAppendX s sz bytes (e a) (e x)
  | .appendK sz bytes a x => exAppendK s sz bytes (e a) (e x)
  | .appendS a x => exAppendS s (e a) (e x)
  | .makeSlice sz bytes zs l c => match intOf (e l), intOf (e c) with
    | some l, some c => if 0 ≤ l ∧ l ≤ c ∧ bytes * c ≤ 281474976710656 ∧ c ≤ 9223372036854775807 then some (fresh s (.flat (copies c.toNat (zs.map .val)) false) fun id => .osl id 0 sz l.toNat (some c.toNat)) else none
    | _, _ => none
  | .extract x i => match e x with
    | .tup vs => (vs[i]?).map fun v => (v, s)
    | _ => none
  | .mkClo fn caps => some (.clo fn (caps.map e), s)
  | .call mode fn args => match mode with
    | .view => exView call s fn (args.map e)
    | .own => exOwn call s fn (args.map e)
    | .share => exShare call s fn (args.map e)
    | .peek => exPeek call s fn (args.map e)
    | .look => exLook call s fn (args.map e)
  | .callV f args => match e f with
    | .clo fn caps => exShare call s fn (args.map e ++ caps)
    | .yld id => exShare call s yieldNo (.yld id :: args.map e)
    | _ => none
  | .copy sz d x => match lenOf (e d), lenOf (e x) with
    | some dl, some n =>
      if min n dl = 0 then some (.imm (.val (.int .i64 0)), s) else
      match e d with
      | .osl id off sz' _ _ => if sz' = sz then match elems s.mem sz (shorten (min n dl) (e x)) with
        | some (_, cs) => (storeAt s.mem (.optr id off) (cs.map .imm)).map fun m => (.imm (.val (.int .i64 (min n dl : Nat))), { s with mem := m })
        | none => none else none
      | _ => none
    | _, _ => none
  | .clear sz zs x => match lenOf (e x) with
    | some n => if n = 0 then some (.tup [], s) else match e x with
      | .osl id off sz' _ _ => if sz' = sz ∧ zs.length = sz then (storeAt s.mem (.optr id off) ((copies n zs).map fun z => .imm (.val z))).map fun m => (.tup [], { s with mem := m }) else none
      | _ => none
    | _ => none
  | .makeMap hint => match hint with
    | none => some (fresh s (.map []) fun id => .omap id)
    | some x => match intOf (e x) with
      | some _ => some (fresh s (.map []) fun id => .omap id)
      | none => none
  | .lookup kind zs agg m k ok =>
    let out := fun (v : AV) (b : Bool) => if ok then (AV.tup [v, .imm (.val (.bool b))], s) else (v, s)
    if isKeyAV kind (e k) then
      match e m with
      | .imm (.val (.map none)) => some (out (zeroAV zs agg) false)
      | .omap id => match s.mem[id]? with
        | some (.map es) => match findK s.mem kind (e k) es 0 with
          | some none => some (out (zeroAV zs agg) false)
          | some (some i) => (es[i]?).map fun p => out p.2 true
          | none => none
        | _ => none
      | _ => none
    else none
  | .mapSet kind m k v =>
    if isKeyAV kind (e k) then
      match e m with
      | .omap id => match s.mem[id]? with
        | some (.map es) => match findK s.mem kind (e k) es 0 with
          | some none => some (.junk, { s with mem := s.mem.set id (.map (es ++ [(e k, e v)])) })
          | some (some i) => some (.junk, { s with mem := s.mem.set id (.map (es.set i (e k, e v))) })
          | none => none
        | _ => none
      | _ => none
    else none
  | .lenM m => match e m with
    | .imm (.val (.map none)) => some (.imm (.val (.int .i64 0)), s)
    | .omap id => match s.mem[id]? with
      | some (.map es) => some (.imm (.val (.int .i64 (es.length : Nat))), s)
      | _ => none
    | _ => none
  | .idxP n sz x i => match intOf (e i) with
    | none => none
    | some i => if 0 ≤ i ∧ i < n then match e x with
      | .imm (.ptr row o) => some (.imm (.ptr row (o + i.toNat * sz)), s)
      | .optr id o => some (.optr id (o + i.toNat * sz), s)
      | _ => none else none
  | .idxV n sz agg x i => match intOf (e i) with
    | none => none
    | some i => if 0 ≤ i ∧ i < n then match e x with
      | .agg cs => (getCells agg cs (i.toNat * sz)).map fun v => (v, s)
      | _ => none else none
  | .strOf x => (strOfV s.mem (e x)).map fun b => (.imm (.val (.string b)), s)
  | .bytesOf x => match e x with
    | .imm (.val (.string b)) => some (.imm (.slice (rowOfS b) 0 b.size none), s)
    | _ => none
  | .junk => some (.junk, s)
  | .litA => none
  | .litI .. => none
  | .litM _ => none
  | .litL .. => none
  | .minmax mn x y => match e x, e y with
    | .imm (.val (.int k a)), .imm (.val (.int _ b)) => some (.imm (.val (.int k (if mn then (if b < a then b else a) else (if a < b then b else a)))), s)
    | _, _ => none
noncomputable def exOne (call : Calls') (s : St) (o : XO) : Option St :=
  let go : Option St := (exOp call s o.op).map fun (v, s') => match o.dst with | some d => { s' with env := (d, v) :: s'.env } | none => s'
  match o.guard with
  | none => go
  | some (t, b) => match s.env.get t with
    | .imm (.val (.bool c)) => if c = b then go else some (match o.dst with | some d => { s with env := (d, .tup []) :: s.env } | none => s)
    | .tup [] => some (match o.dst with | some d => { s with env := (d, .tup []) :: s.env } | none => s)
    | _ => none
noncomputable def exOps (call : Calls') : St → List XO → Option St
  | s, [] => some s
  | s, o :: r => (exOne call s o).bind fun s' => exOps call s' r
noncomputable def rounds (body : St → Option (XExit × St)) : Nat → St → Option (XExit × St)
  | 0, _ => none
  | n + 1, s => match body s with
    | some (.normal, s') => rounds body n s'
    | r => r
noncomputable def exRange (call : Calls') (s : St) (f : Src) (ps keep : List Nat) (as b : XCode) : Option (XExit × St) :=
  match s.env.ev f with
  | .clo it caps =>
    if (as.still && b.still) = true then
      match exShare call { k := s.mem.length + 1, env := s.env, mem := s.mem ++ [.loop (s.env.keep keep) ps as b false] } it (.yld s.mem.length :: caps) with
      | some (_, s') => match s'.mem[s.mem.length]? with
        | some (.loop _ _ _ _ false) => some (.normal, { k := s.k, env := s'.env, mem := s'.mem.set s.mem.length .dead })
        | _ => none
      | none => none
    else none
  | _ => none
noncomputable def exCode (call : Calls') (n : Nat) : XCode → St → Option (XExit × St)
  | .skip, s => some (.normal, s)
  | .region keep ops, s => (exOps call s ops).map fun s' => (.normal, { s' with env := s'.env.keep keep })
  | .lregion keep ops, s => (exOps call s (ops.map XO.unlit)).map fun s' => (.normal, { s' with env := s'.env.keep keep })
  | .seq a b, s => match exCode call n a s with
    | some (.normal, s') => exCode call n b s'
    | r => r
  | .cond c a b, s => match s.env.ev c with
    | .imm (.val (.bool t)) => if t then exCode call n a s else exCode call n b s
    | _ => none
  | .block id b, s => match exCode call n b s with
    | some (.exit j, s') => if j = id then some (.normal, s') else some (.exit j, s')
    | r => r
  | .loop keep b, s => rounds (fun s => exCode call n b (s.tidy keep)) n s
  | .exit id, s => some (.exit id, s)
  | .ret, s => some (.ret, s)
  | .rangeF f ps keep as b, s => exRange call s f ps keep as b
def resOf (s : St) : XRes → Option AV
  | .tmp t => some (s.env.get t)
  | .cell t agg => loadAt s.mem agg (s.env.get t)
def wrapRes : List AV → AV
  | [x] => x
  | l => .tup l
def enter (i : Nat) : List AV → Env
  | [] => []
  | x :: r => (i, x) :: enter (i + 1) r
def leave (s : St) (f : XFun) : Option (AV × Mem) :=
  (f.res.mapM (resOf s)).map fun vs =>
    let r := wrapRes vs
    if s.mem.length = s.k then (r, s.mem) else
    let l := order s.k r.refs s.mem
    (r.ren (place l), s.mem.pickAll l)
noncomputable def exFun (call : Calls') (n : Nat) (f : XFun) (args : List AV) (m : Mem) : Option (AV × Mem) :=
  match exCode call n f.body { k := m.length, env := enter 0 args, mem := m } with
  | some (.normal, s) | some (.ret, s) => leave s f
  | _ => none
def Env.enterAt (e : Env) : List Nat → List AV → Env
  | p :: ps, x :: xs => Env.enterAt ((p, x) :: e) ps xs
  | _, _ => e
def Mem.trim (m : Mem) (k : Nat) : Mem := if m.length = k then m else m.pickAll (order k [] m)
def exRound (run : XCode → St → Option (XExit × St)) (args : List AV) (m : Mem) : Option (AV × Mem) :=
  match args with
  | .yld id :: xs => match m[id]? with
    | some (.loop env ps as b false) =>
      if xs.length = ps.length then
        match run as { k := m.length, env := env.enterAt ps xs, mem := m } with
        | some (.normal, s1) => match s1.mem[id]? with
          | some (.loop e1 p1 a1 b1 false) => match run b { k := s1.k, env := s1.env, mem := s1.mem.set id (.loop e1 p1 a1 b1 true) } with
            | some (.normal, s2) => match s2.mem[id]? with
              | some (.loop e2 p2 a2 b2 true) => some (.imm (.val (.bool true)), Mem.trim (s2.mem.set id (.loop e2 p2 a2 b2 false)) m.length)
              | _ => none
            | _ => none
          | _ => none
        | _ => none
      else none
    | _ => none
  | _ => none
noncomputable def callN (code : Nat → Option XFun) (ext : Calls') : Nat → Calls'
  | 0, _, _, _ => none
  | n + 1, fn, args, m => match code fn with
    | some f => exFun (callN code ext n) n f args m
    | none => if fn = yieldNo then exRound (exCode (callN code ext n) n) args m else ext fn args m
end Go.EX


set_option linter.unusedVariables false
set_option linter.unusedSimpArgs false
namespace Go.EX
def zeroCellsOf (P : Program) (t : TypeId) : Option (List Value) := ((P.info? t).bind (·.zero)).map fun v => v.cells.toList
def aggOf (P : Program) (t : TypeId) : Option Nat :=
  match P.underlying t with
  | some (.struct _) | some (.array ..) => some (P.cellsOf t)
  | _ => none
def known (P : Program) (t : TypeId) : Bool := (P.info? t).isSome && (P.underlying t).isSome
def oneCellV : Value → Bool
  | .agg _ | .tuple _ => false
  | _ => true
def builderTy (P : Program) : Option TypeId := P.types.findIdx? fun i => i.str == "strings.Builder"
def liesB (P : Program) (e : TypeId) (n off : Nat) : Bool := match builderTy P with
  | some u => liesAt P P.depth e (n / P.cellsOf e) off u 1
  | none => false
def seatPat : List Value → Nat → Option Nat
  | .pointer none :: .slice none 0 0 :: _, i => some i
  | _ :: r, i => seatPat r (i + 1)
  | [], _ => none
def seatOff (P : Program) (t : TypeId) (zs : List Value) : Option Nat := match seatPat zs 0 with
  | some off => if liesB P t zs.length off && (zs[off]?).any (fun z => match z with | .pointer none => true | _ => false) then some off else none
  | none => none
section
variable (P : Program) (num : FuncId → Nat) (N : Nat)
def trSrc : Operand → Option Src
  | .tmp t => some (.t t)
  | .const v => if oneCellV v then some (.c v) else none
  | .global _ => none
  | .func f => some (.f (num f))
def nilKind (d : TypeDesc) (y : Operand) : Option Nat :=
  match d, y with
  | .slice _, .const (.slice none 0 0) => some 0
  | .pointer _, .const (.pointer none) => some 1
  | .map .., .const (.map none) => some 2
  | .func .., .const .nilFunc => some 3
  | _, _ => none
def zeroOk (t : TypeId) : Bool :=
  match zeroCellsOf P t with
  | some zs => zs.length == P.cellsOf t
  | none => false
def notIntD : TypeDesc → Bool
  | .int _ => false
  | _ => true
def leavesF (g : TypeId → Option (List Nat)) : Nat → List Field → Option (List Nat)
  | _, [] => some []
  | k, f :: fs => if f.offset == k && f.name != "_" && known P f.type then match g f.type with
      | some l => if P.cellsOf f.type = l.length then (leavesF g (k + l.length) fs).map (l ++ ·) else none
      | none => none
    else none
def leaves : Nat → TypeId → Option (List Nat)
  | 0, _ => none
  | n + 1, t => match P.underlying t with
    | some (.int _) => some [0]
    | some .bool => some [1]
    | some .string => some [2]
    | some (.struct fs) => if P.stoodInHeld t then none else leavesF P (leaves n) 0 fs.toList
    | _ => none
def undigits : List Nat → Nat
  | [] => 0
  | k :: ks => k + 1 + 4 * undigits ks
def keyKind (k : TypeId) : Option Nat :=
  match P.underlying k with
  | some (.int _) => some 0
  | some .bool => some 1
  | some .string => some 2
  | some (.pointer e) => if known P e && 0 < P.cellsOf e then some 3 else none
  | some (.struct _) => match leaves P 100 k with
    | some ks => if digits 64 (undigits ks) = ks then some (undigits ks + 4) else none
    | none => none
  | _ => none
def zeroOf (t : TypeId) : Option (List Value × Bool) :=
  match (P.info? t).bind (·.zero) with
  | some (.agg cs) => if cs.toList.all oneCellV then some (cs.toList, true) else none
  | some z => if oneCellV z then some ([z], false) else none
  | none => none
def kindOf : Option TypeDesc → Option Nat
  | some (.int _) => some 0
  | some .bool => some 1
  | some .string => some 2
  | _ => none
def flatStruct (t : TypeId) : Option (List Nat) :=
  match P.underlying t with
  | some (.struct fs) =>
    if !P.stoodInHeld t && !P.eqGuardType P.depth t && fs.all (fun f => f.name != "_") && (fs.toList.map (·.offset)) == List.range fs.size
    then fs.toList.mapM fun f => kindOf (P.underlying f.type) else none
  | _ => none
def trParts (place : Nat → Option (Nat × Nat)) (ps : List (Nat × Operand)) : Option (List (Nat × Nat × Src)) :=
  ps.mapM fun (i, x) => match place i, trSrc num x with
    | some (off, n), some s => some (off, n, s)
    | _, _ => none
def isU8 (e : TypeId) : Bool := match P.underlying e with
  | some (.int .u8) => true
  | _ => false
def trCall (c : Call) : Option XOp :=
  match c.callee with
  | .builtin b =>
    match b, c.args.toList, c.argTypes.toList with
    | .len, [x], [t] => match P.underlying t with
      | some .string => (trSrc num x).map .lenS
      | some (.slice _) => (trSrc num x).map .len
      | some (.map ..) => (trSrc num x).map .lenM
      | _ => none
    | .min, [x, y], _ => match trSrc num x, trSrc num y with
      | some x, some y => some (.minmax true x y)
      | _, _ => none
    | .max, [x, y], _ => match trSrc num x, trSrc num y with
      | some x, some y => some (.minmax false x y)
      | _, _ => none
    | .cap, [x], [t] => match P.underlying t with
      | some (.slice _) => (trSrc num x).map .cap
      | _ => none
    | .copy, [d, x], [t, u] => match P.underlying t, P.underlying u, trSrc num d, trSrc num x with
      | some (.slice e), some (.slice _), some d, some x =>
        if known P e && 0 < P.cellsOf e then some (.copy (P.cellsOf e) d x) else none
      | _, _, _, _ => none
    | .clear, [x], [t] => match P.underlying t, trSrc num x with
      | some (.slice e), some x => match zeroCellsOf P e with
        | some zs => if known P e && zs.length = P.cellsOf e && 0 < P.cellsOf e && zs.all oneCellV then some (.clear (P.cellsOf e) zs x) else none
        | none => none
      | _, _ => none
    | .append, [a, x], [t, u] => match P.underlying t, P.underlying u, trSrc num a, trSrc num x with
      | some (.slice e), some d, some a, some x =>
        if known P e && 0 < P.cellsOf e && 0 < P.bytesOf e && zeroOk P e && notIntD d && (P.bytesOf e != 1 || isU8 P e) then some (.append (P.cellsOf e) (P.bytesOf e) a x) else none
      | _, _, _, _ => none
    | _, _, _ => none
  | .value (.func f) => (c.args.toList.mapM (trSrc num)).map (.call .view (num f))
  | .value f => match trSrc num f, c.args.toList.mapM (trSrc num) with
    | some f, some as => some (.callV f as)
    | _, _ => none
  | .invoke .. => none
def trOp : Op → Option XOp
  | .move x | .assign x => (trSrc num x).map .mv
  | .pick c a b => match trSrc num c, trSrc num a, trSrc num b with
    | some c, some a, some b => some (.pick c a b)
    | _, _, _ => none
  | .alloc t => match zeroCellsOf P t with
    | some zs => if zs.all oneCellV then (match seatOff P t zs with
      | some off => some (.allocB off zs)
      | none => some (.alloc zs)) else none
    | none => none
  | .box t x => if known P t then (match zeroCellsOf P t with
    | some zs => match seatOff P t zs with
      | some off => if zs.length = P.cellsOf t then (trSrc num x).map (.boxB off (P.cellsOf t)) else none
      | none => (trSrc num x).map (.box (P.cellsOf t))
    | none => (trSrc num x).map (.box (P.cellsOf t))) else none
  | .build t ps => match zeroCellsOf P t with
    | none => none
    | some zs => if !zs.all oneCellV then none else match P.underlying t with
      | some (.struct fs) => if fs.all (fun f => known P f.type) then (trParts num (fun i => (fs[i]?).map fun f => (f.offset, P.cellsOf f.type)) ps.toList).map (.build zs) else none
      | some (.array _ e) => if known P e then (trParts num (fun i => some (i * P.cellsOf e, P.cellsOf e)) ps.toList).map (.build zs) else none
      | _ => none
  | .buildSlice t len ps => match P.underlying t with
    | some (.slice e) => match zeroCellsOf P e with
      | some zs => if known P e && zs.all oneCellV && len * P.cellsOf e ≤ 16777216 && 0 < P.cellsOf e && zs.length = P.cellsOf e then (trParts num (fun i => some (i * P.cellsOf e, P.cellsOf e)) ps.toList).map (.buildSlice (P.cellsOf e) zs len) else none
      | none => none
    | _ => none
  | .load t a => if known P t then (trSrc num a).map (.load (aggOf P t)) else none
  | .store t a x => if known P t then match trSrc num a, trSrc num x with
    | some a, some x => some (.store (P.cellsOf t) a x)
    | _, _ => none else none
  | .nilCheck x => (trSrc num x).map .nilCheck
  | .binOp op t x y _ =>
    match P.underlying t, trSrc num x, trSrc num y with
    | some (.int _), some x, some y | some .string, some x, some y => some (.bin op x y)
    | some .bool, some x, some y => some (.binB op x y)
    | some (.struct _), some x', some y' => match flatStruct P t, op with
      | some n, .eql => some (.eqCells false n x' y')
      | some n, .neq => some (.eqCells true n x' y')
      | _, _ => none
    | some d, some x', some _ => match nilKind d y, op with
      | some k, .eql => some (.eqNil false k x')
      | some k, .neq => some (.eqNil true k x')
      | _, _ => none
    | _, _, _ => none
  | .unOp op _ x => (trSrc num x).map (.un op)
  | .convert src dst x => match P.underlying src, P.underlying dst, trSrc num x with
    | some (.int _), some (.int k), some x => some (.conv k x)
    | some .string, some .string, some x => some (.convS x)
    | some (.slice e), some .string, some x => if isU8 P e then some (.strOf x) else none
    | some .string, some (.slice e), some x => if isU8 P e then some (.bytesOf x) else none
    | _, _, _ => none
  | .makeFunc (.func f) first caps => if first.isEmpty then (caps.toList.mapM (trSrc num)).map (.mkClo (num f)) else none
  | .makeSlice t l c => match P.underlying t with
    | some (.slice e) => match zeroCellsOf P e, trSrc num l, trSrc num c with
      | some zs, some l, some c => if known P e && zs.length = P.cellsOf e && 0 < P.cellsOf e && zs.all oneCellV then some (.makeSlice (P.cellsOf e) (P.bytesOf e) zs l c) else none
      | _, _, _ => none
    | _ => none
  | .slice t x lo hi none => match P.underlying t, trSrc num x, lo.mapM (trSrc num), hi.mapM (trSrc num) with
    | some (.slice e), some x, some lo, some hi => if known P e then some (.slice (P.cellsOf e) x lo hi) else none
    | some .string, some x, some lo, some hi => some (.sliceS x lo hi)
    | _, _, _, _ => none
  | .slice t x none (some h) (some mx) => match P.underlying t, trSrc num x, trSrc num h, trSrc num mx with
    | some (.slice e), some x, some h, some mx => if known P e then some (.slice3 (P.cellsOf e) x h mx) else none
    | _, _, _, _ => none
  | .fieldAddr t x f => match P.underlying t, trSrc num x with
    | some (.struct fs), some x => match fs[f]? with
      | some f => if known P f.type && 0 < P.cellsOf f.type then some (.fieldA f.offset x) else none
      | none => none
    | _, _ => none
  | .field t x f => match P.underlying t, trSrc num x with
    | some (.struct fs), some x => match fs[f]? with
      | some f => if known P f.type then some (.field f.offset (aggOf P f.type) x) else none
      | none => none
    | _, _ => none
  | .indexAddr t x i => match P.underlying t, trSrc num x, trSrc num i with
    | some (.slice e), some x, some i => if known P e then some (.idxA (P.cellsOf e) x i) else none
    | some (.array n e), some x, some i => if known P e then some (.idxP n (P.cellsOf e) x i) else none
    | _, _, _ => none
  | .index t x i => match P.underlying t, trSrc num x, trSrc num i with
    | some .string, some x, some i => some (.idxS x i)
    | some (.array n e), some x, some i => if known P e then some (.idxV n (P.cellsOf e) (aggOf P e) x i) else none
    | _, _, _ => none
  | .extract x i => (trSrc num x).map fun x => .extract x i
  | .call c => trCall P num c
  | .makeMap t r => match P.underlying t, r.mapM (trSrc num) with
    | some (.map ..), some r => some (.makeMap r)
    | _, _ => none
  | .lookup t m k ok => match P.underlying t, trSrc num m, trSrc num k with
    | some (.map kt e), some m, some k => match keyKind P kt, zeroOf P e with
      | some kind, some (zs, agg) => some (.lookup kind zs agg m k ok)
      | _, _ => none
    | _, _, _ => none
  | .mapUpdate t m k v | .insert t m k v => match P.underlying t, trSrc num m, trSrc num k, trSrc num v with
    | some (.map kt _), some m, some k, some v => match keyKind P kt with
      | some kind => some (.mapSet kind m k v)
      | none => none
    | _, _, _, _ => none
  | _ => none
def trGuard (ops : Array Oper) : Option (Nat × Bool) → Option (Option (Nat × Bool))
  | none => some none
  | some (j, b) => match (ops[j]?).bind (·.dst) with
    | some t => some (some (t, b))
    | none => none
def dstOk : Option Tmp → Bool
  | some d => d < N
  | none => true
def trOper (ops : Array Oper) (o : Oper) : Option XO :=
  match trOp P num o.op, trGuard ops o.guard with
  | some x, some g => if dstOk N o.dst && dstOk N (g.map (·.1)) then some { dst := o.dst, op := x, guard := g } else none
  | _, _ => none
def badOp : XO := { dst := none, op := .callV (.c (.bool true)) [], guard := none }
def trOps (ops : Array Oper) : List Oper → List XO
  | [] => []
  | o :: r => match trOper P num N ops o with
    | some x => x :: trOps ops r
    | none => [badOp]
def tr : Code → XCode
  | .skip => .skip
  | .region _ ops _ => .region [] (trOps P num N ops ops.toList)
  | .seq a b => .seq (tr a) (tr b)
  | .cond c a b => match trSrc num c with
    | some c => .cond c (tr a) (tr b)
    | none => .cond (.c .nilFunc) .skip .skip
  | .block id b => .block id (tr b)
  | .loop b => .loop [] (tr b)
  | .scope b => tr b
  | .label _ => .skip
  | .exit id => .exit id
  | .ret => .ret
  | .rangeFunc f ps a b => match trSrc num f with
    | some f => if ps.toList.all (· < N) then .rangeF f ps.toList [] (tr a) (tr b) else .cond (.c .nilFunc) .skip .skip
    | none => .cond (.c .nilFunc) .skip .skip
  | _ => .cond (.c .nilFunc) .skip .skip
def trRes : ResultVar → XRes
  | .tmp t => .tmp t
  | .cell t ty => .cell t (aggOf P ty)
end
def calmOp : XOp → Bool
  | .call .view .. | .call .peek .. => true
  | .alloc _ | .allocB .. | .box .. | .boxB .. | .buildSlice .. | .store .. | .frz _ | .append .. | .appendK .. | .appendS .. | .makeSlice .. | .copy .. | .clear .. | .callV .. | .call .. | .makeMap .. | .mapSet .. => false
  | _ => true
def srcTmp : Src → List Nat
  | .t n => [n]
  | _ => []
def srcTmpO : Option Src → List Nat
  | some x => srcTmp x
  | none => []
def XOp.reads : XOp → List Nat
  | .mv x | .load _ x | .nilCheck x | .eqNil _ _ x | .un _ x | .conv _ x | .convS x | .fieldA _ x | .field _ _ x | .len x | .lenS x | .cap x | .extract x _ | .lenM x | .strOf x | .bytesOf x => srcTmp x
  | .pick a b c => srcTmp a ++ (srcTmp b ++ srcTmp c)
  | .bin _ x y | .binB _ x y | .eqCells _ _ x y | .idxA _ x y | .idxS x y | .lookup _ _ _ x y _ | .idxP _ _ x y | .idxV _ _ _ x y | .minmax _ x y => srcTmp x ++ srcTmp y
  | .build _ ps => ps.flatMap fun p => srcTmp p.2.2
  | .slice3 _ x h m => srcTmp x ++ (srcTmp h ++ srcTmp m)
  | .slice _ x lo hi | .sliceS x lo hi => srcTmp x ++ (srcTmpO lo ++ srcTmpO hi)
  | .mkClo _ l | .call _ _ l => l.flatMap srcTmp
  | _ => []
def makeOp : XOp → Bool
  | .alloc _ | .allocB .. | .box .. | .boxB .. | .buildSlice .. | .makeSlice .. | .makeMap _ | .call .own .. | .call .look .. => true
  | _ => false
def XOp.needs : XOp → List Nat
  | .box _ x | .boxB _ _ x => srcTmp x
  | .buildSlice _ _ _ ps => ps.flatMap fun p => srcTmp p.2.2
  | .makeSlice _ _ _ l c => srcTmp l ++ srcTmp c
  | .makeMap h => srcTmpO h
  | .call .own _ l | .call .look _ l => l.flatMap srcTmp
  | _ => []
def XO.reads (o : XO) : List Nat := o.op.reads ++ (o.op.needs ++ match o.guard with
  | some (t, _) => [t]
  | none => [])
def headArr (m n : Nat) : Array Bool := ((List.range m).map fun i => decide (i < n)).toArray
def drawOk (ops : Array Oper) (xs : List XO) (n : Nat) : Bool :=
  (xs.take n).all (fun x => calmOp x.op || makeOp x.op) &&
  ((List.range n).all fun i => (List.range n).all fun j => match xs[i]?, xs[j]? with
    | some x, some y => match y.dst with
      | none => true
      | some d => (i == j || x.dst != some d) && (!x.reads.contains d || (decide (j < i) && Region.waitsFor .any ops i j))
    | _, _ => false) &&
  ((List.range n).all fun i => match ops[i]? with
    | some o => o.after.all fun e => !Region.binds .any e || decide (e.on < i)
    | none => false) &&
  (n == ops.size || (decide (n < ops.size) && Region.sinkB .any ops n && Region.chainB .any ops n)) &&
  Region.seqB .any ops (ops.size - n) n (headArr ops.size n)
def tailOp : XOp → Bool
  | .store .. | .append .. | .appendK .. | .appendS .. | .callV .. | .mapSet .. | .call .share .. => true
  | x => calmOp x
def XOp.takes : XOp → List Nat
  | .store _ a x | .append _ _ a x | .appendK _ _ a x | .appendS a x => srcTmp a ++ srcTmp x
  | .callV f l => srcTmp f ++ l.flatMap srcTmp
  | .mapSet _ m k v => srcTmp m ++ (srcTmp k ++ srcTmp v)
  | x => x.reads
def XO.takes (o : XO) : List Nat := o.op.takes ++ match o.guard with
  | some (t, _) => [t]
  | none => []
def lateB (ops : Array Oper) (xs : List XO) (n i : Nat) : Bool :=
  match xs[i]? with
  | some x => match x.op, x.dst, x.guard with
    | .mv (.t y), some d, none => y != d && (List.range xs.length).all fun j => decide (j < n) || match xs[j]? with
      | some z => z.dst != some d && (z.dst != some y && (!z.takes.contains d || Region.waitsFor .any ops j i))
      | none => false
    | _, _, _ => false
  | none => false
def drawOkL (ops : Array Oper) (xs : List XO) (n : Nat) : Bool :=
  (xs.take n).all (fun x => calmOp x.op || makeOp x.op) &&
  ((List.range n).all fun i => (List.range n).all fun j => match xs[i]?, xs[j]? with
    | some x, some y => match y.dst with
      | none => true
      | some d => (i == j || x.dst != some d) && (!x.reads.contains d || (decide (j < i) && Region.waitsFor .any ops i j))
    | _, _ => false) &&
  ((List.range n).all fun i => match ops[i]? with
    | some o => o.after.all fun e => !Region.binds .any e || decide (e.on < i)
    | none => false) &&
  (xs.drop n).all (fun x => tailOp x.op) &&
  ((List.range n).all fun i => lateB ops xs n i || (List.range (n + 1)).any fun j => decide (i < j) && (Region.waitsFor .any ops j i && (j == n || !lateB ops xs n j))) &&
  (decide (n < ops.size) && Region.chainB .any ops n) &&
  ((List.range ops.size).all fun i => match ops[i]? with
    | some o => o.after.all fun e => !Region.binds .any e || decide (e.on < i)
    | none => false)
def calmRun : List XO → Nat
  | [] => 0
  | x :: r => if calmOp x.op || makeOp x.op then calmRun r + 1 else 0
def XOp.isLitA : XOp → Bool
  | .litA => true
  | _ => false
def XOp.isLitI : XOp → Bool
  | .litI .. => true
  | _ => false
def XOp.isLitM : XOp → Bool
  | .litM _ => true
  | _ => false
def XOp.isLitL : XOp → Bool
  | .litL .. => true
  | _ => false
structure LitAt where
  im : Nat
  i1 : Nat
  i2 : Nat
  iv : Nat
  il : Nat
  tA : Nat
  tM : Nat
  y : Value
  n : Value
def LitAt.ok (l : LitAt) (ops : Array Oper) (xs : List XO) (n : Nat) : Bool :=
  (match xs[l.im]?, xs[l.i1]?, xs[l.i2]?, xs[l.iv]?, xs[l.il]? with
    | some ⟨some a, .litA, none⟩, some ⟨none, .litI 1 (.t b) (.c (.bool true)) (.c _), none⟩, some ⟨none, .litI 1 (.t d) (.c (.bool false)) (.c _), none⟩, some ⟨some f, .litM (.t g), none⟩, some ⟨some _, .litL 1 _ (.t h) _ _ _, none⟩ =>
      a == l.tA && b == l.tA && d == l.tA && f == l.tM && g == l.tA && h == l.tM
    | _, _, _, _, _ => false) &&
  (match xs[l.i1]?, xs[l.i2]?, xs[l.il]? with
    | some ⟨_, .litI _ _ _ (.c y), _⟩, some ⟨_, .litI _ _ _ (.c z), _⟩, some ⟨_, .litL _ _ _ _ u v, _⟩ => oneCellV y && oneCellV z && (vsame y l.y && vsame z l.n && vsame u l.y && vsame v l.n)
    | _, _, _ => false) &&
  (decide (l.im < n) && decide (l.i1 < n) && decide (l.i2 < n) && decide (l.iv < n) && decide (l.il < n)) &&
  (l.im != l.i1 && l.im != l.i2 && l.im != l.iv && l.im != l.il && l.i1 != l.i2 && l.i1 != l.iv && l.i1 != l.il && l.i2 != l.iv && l.i2 != l.il && l.iv != l.il && l.tA != l.tM) &&
  (Region.waitsFor .any ops l.i1 l.im && Region.waitsFor .any ops l.i2 l.im && Region.waitsFor .any ops l.iv l.im && Region.waitsFor .any ops l.iv l.i1 && Region.waitsFor .any ops l.iv l.i2 && Region.waitsFor .any ops l.il l.iv) &&
  ((List.range n).all fun i => i == l.im || i == l.i1 || i == l.i2 || i == l.iv || i == l.il || match xs[i]? with
    | some x => !(x.op.isLitA || x.op.isLitI || x.op.isLitM || x.op.isLitL)
    | none => false) &&
  ((xs.drop n).all fun x => !(x.op.isLitA || x.op.isLitI || x.op.isLitM || x.op.isLitL))
def litAt (xs : List XO) : LitAt :=
  let im := xs.findIdx fun x => x.op.isLitA
  let i1 := xs.findIdx fun x => x.op.isLitI
  let i2 := i1 + 1 + (xs.drop (i1 + 1)).findIdx fun x => x.op.isLitI
  let iv := xs.findIdx fun x => x.op.isLitM
  let il := xs.findIdx fun x => x.op.isLitL
  { im := im, i1 := i1, i2 := i2, iv := iv, il := il,
    tA := ((xs[im]?).bind (·.dst)).getD 0, tM := ((xs[iv]?).bind (·.dst)).getD 0,
    y := match xs[i1]? with | some ⟨_, .litI _ _ _ (.c y), _⟩ => y | _ => .nilFunc,
    n := match xs[i2]? with | some ⟨_, .litI _ _ _ (.c y), _⟩ => y | _ => .nilFunc }
def litOk (ops : Array Oper) (xs : List XO) : Bool :=
  let us := xs.map XO.unlit
  let n := calmRun us
  drawOk ops us n && decide (n < ops.size) && (litAt xs).ok ops xs n
def drawsOk : Code → XCode → Bool
  | .scope b, y => drawsOk b y
  | .label _, _ => true
  | .region _ ops true, .region _ xs => ((List.range (calmRun xs + 1)).reverse.any fun n => drawOk ops xs n || drawOkL ops xs n) && xs.length == ops.size
  | .seq a b, .seq x y => drawsOk a x && drawsOk b y
  | .cond _ a b, .cond _ x y => drawsOk a x && drawsOk b y
  | .block _ b, .block _ y => drawsOk b y
  | .loop b, .loop _ y => drawsOk b y
  | .rangeFunc _ _ a b, .rangeF _ _ _ x y => drawsOk a x && drawsOk b y
  | .region _ ops true, .lregion _ xs => litOk ops xs && xs.length == ops.size
  | .region _ _ false, .lregion .. => false
  | .region .., _ => true
  | .skip, _ | .exit _, _ | .ret, _ => true
  | _, _ => false
def XOp.wipe : XOp → XOp
  | .frz x => .mv x
  | .call _ fn args => .call .view fn args
  | .appendK sz b a x => .append sz b a x
  | .appendS a x => .append 1 1 a x
  | .litA => .makeMap none
  | .litI kind m k v => .mapSet kind m k v
  | .litM x => .mv x
  | .litL kind zs m k _ _ => .lookup kind zs false m k false
  | o => o
def XO.wipe (o : XO) : XO := { o with op := o.op.wipe }
def XCode.wipe : XCode → XCode
  | .region _ ops => .region [] (ops.map XO.wipe)
  | .lregion _ ops => .region [] (ops.map XO.wipe)
  | .seq a b => .seq a.wipe b.wipe
  | .cond c a b => .cond c a.wipe b.wipe
  | .block id b => .block id b.wipe
  | .loop _ b => .loop [] b.wipe
  | .rangeF f ps _ a b => .rangeF f ps [] a.wipe b.wipe
  | c => c
def LoopOK (P : Program) (num : FuncId → Nat) (a b : Code) (ps : List Nat) (N : Nat) (as bs : XCode) : Prop :=
  tr P num N a = as.wipe ∧ tr P num N b = bs.wipe ∧ drawsOk a as = true ∧ drawsOk b bs = true ∧ as.still = true ∧ bs.still = true ∧ ps.all (· < N) = true
end Go.EX


set_option linter.unusedVariables false
set_option linter.unusedSimpArgs false
namespace Go.EX
theorem addr_add (b o n : Nat) : (⟨b, o, none⟩ : Addr).add n = ⟨b, o + n, none⟩ := by
  unfold Addr.add; split <;> simp_all
theorem oneCell_eq (v : Value) : oneCellV v = v.oneCell' := by cases v <;> rfl
inductive IRep (I : Nat → Prop) (w : World) : IV → Value → Prop
  | val (v : Value) (h : v.oneCell' = true) : IRep I w (.val v) v
  | slice (row : List IV) (off len : Nat) (cap : Option Nat) (b o c a : Nat) (u : Nat → Value) (hb : I b)
      (hc : ∀ (j : Nat) (x : IV), row[j]? = some x → w.cell? ⟨b, o + j, none⟩ = some (u j)) (hu : ∀ (j : Nat) (x : IV), row[j]? = some x → IRep I w x (u j))
      (hl : len ≤ c) (hk : ∀ k, cap = some k → c = k) (ha : a = o + off ∨ c = 0) : IRep I w (.slice row off len cap) (.slice (some ⟨b, a, none⟩) len c)
  | vac (row : List IV) (off : Nat) (a : Addr) : IRep I w (.slice row off 0 (some 0)) (.slice (some a) 0 0)
  | ptr (row : List IV) (off : Nat) (b o : Nat) (u : Nat → Value) (hb : I b)
      (hc : ∀ (j : Nat) (x : IV), row[j]? = some x → w.cell? ⟨b, o + j, none⟩ = some (u j)) (hu : ∀ (j : Nat) (x : IV), row[j]? = some x → IRep I w x (u j)) :
      IRep I w (.ptr row off) (.pointer (some ⟨b, o + off, none⟩))
theorem IRep.one {I : Nat → Prop} {w : World} {x : IV} {v : Value} (h : IRep I w x v) : v.oneCell' = true := by
  cases h with
  | val v h => exact h
  | slice => rfl
  | vac => rfl
  | ptr => rfl
theorem IRep.mono {I J : Nat → Prop} {w w' : World} (hI : ∀ b, I b → J b) (hw : ∀ b, I b → w'.heap[b]? = w.heap[b]?) {x : IV} {v : Value} (h : IRep I w x v) : IRep J w' x v := by
  induction h with
  | val v h => exact .val v h
  | slice row off len cap b o c a u hb hc hu hl hk ha ih =>
    exact .slice row off len cap b o c a u (hI b hb) (fun j x hx => by
      have := hc j x hx
      simp only [World.cell?] at this ⊢
      rw [hw b hb]; exact this) ih hl hk ha
  | vac row off a => exact .vac row off a
  | ptr row off b o u hb hc hu ih =>
    exact .ptr row off b o u (hI b hb) (fun j x hx => by
      have := hc j x hx
      simp only [World.cell?] at this ⊢
      rw [hw b hb]; exact this) ih
def RowAt (w : World) (b n : Nat) (e : TypeId) : Prop := ∃ (arr : Array Value) (fz : Nat × Nat), w.heap[b]? = some (.cells arr e fz) ∧ arr.size = n
theorem RowAt.of {w : World} {b : Nat} {arr : Array Value} {e : TypeId} {fz : Nat × Nat} (h : w.heap[b]? = some (.cells arr e fz)) : RowAt w b arr.size e := ⟨arr, fz, h, rfl⟩
theorem RowAt.same {w w' : World} {b n : Nat} {e : TypeId} (h : RowAt w b n e) (hk : w'.heap[b]? = w.heap[b]?) : RowAt w' b n e := by
  obtain ⟨arr, fz, h1, h2⟩ := h
  exact ⟨arr, fz, hk.trans h1, h2⟩
theorem RowAt.lt {w : World} {b n : Nat} {e : TypeId} (h : RowAt w b n e) : b < w.heap.size := by
  obtain ⟨arr, fz, h1, h2⟩ := h
  exact (Array.getElem?_eq_some_iff.1 h1).1
theorem RowAt.put {w w' : World} {b n : Nat} {e e0 : TypeId} {arr cs : Array Value} {fz fz' : Nat × Nat} (h : RowAt w b n e) (h0 : w.heap[b]? = some (.cells arr e0 fz)) (h1 : w'.heap[b]? = some (.cells cs e0 fz')) (hs : cs.size = arr.size) : RowAt w' b n e := by
  obtain ⟨arr2, fz2, h2, h3⟩ := h
  rw [h0] at h2
  cases h2
  exact ⟨cs, fz', h1, hs.trans h3⟩
structure Cx where
  σ : Nat → Nat
  I : Nat → Prop
  n : Nat
  w : World
structure Names where
  num : FuncId → Nat
  G : (Nat → Prop) → World → Prop
  up : ∀ {I J : Nat → Prop} {w w' : World}, G I w → (∀ b, I b → J b) → (∀ b, I b → w'.heap[b]? = w.heap[b]?) → G J w'
  L : Code → Code → List Nat → Nat → XCode → XCode → Prop
  B : TypeId → Nat → Nat → Prop
  U : TypeId → Prop
instance : CoeFun Names (fun _ => FuncId → Nat) := ⟨Names.num⟩
@[reducible] def Names.of (P : Program) (f : FuncId → Nat) : Names := ⟨f, fun _ _ => True, fun _ _ _ => trivial, LoopOK P f, fun e n off => liesB P e n off = true, fun e => isU8 P e = true ∧ P.cellsOf e = 1⟩
section
variable (num : Names)
inductive ARep (C : Cx) : AV → Value → Prop
  | imm (x : IV) (v : Value) (h : IRep C.I C.w x v) : ARep C (.imm x) v
  | osl (id off sz len : Nat) (cap : Option Nat) (c a n : Nat) (e : TypeId) (hid : id < C.n) (hl : len ≤ c ∧ c ≤ 9223372036854775807) (hk : ∀ k, cap = some k → c = k) (ha : a = off ∨ c = 0)
      (hw : RowAt C.w (C.σ id) n e) (hs : c = 0 ∨ off + c * sz ≤ n) : ARep C (.osl id off sz len cap) (.slice (some ⟨C.σ id, a, none⟩) len c)
  | optr (id off : Nat) (hid : id < C.n) : ARep C (.optr id off) (.pointer (some ⟨C.σ id, off, none⟩))
  | clo (f : FuncId) (caps : List AV) (vs : Array Value) (hl : caps.length = vs.size) (h : ∀ (j : Nat) (x : AV) (u : Value), caps[j]? = some x → vs[j]? = some u → ARep C x u) : ARep C (.clo (num f) caps) (.func (.func f) #[] vs)
  | agg (cells : List AV) (vs : Array Value) (hl : cells.length = vs.size) (h1 : ∀ (j : Nat) (u : Value), vs[j]? = some u → u.oneCell' = true) (h : ∀ (j : Nat) (x : AV) (u : Value), cells[j]? = some x → vs[j]? = some u → ARep C x u) : ARep C (.agg cells) (.agg vs)
  | tup (xs : List AV) (vs : Array Value) (hl : xs.length = vs.size) (h : ∀ (j : Nat) (x : AV) (u : Value), xs[j]? = some x → vs[j]? = some u → ARep C x u) : ARep C (.tup xs) (.tuple vs)
  | omap (id : Nat) (hid : id < C.n) : ARep C (.omap id) (.map (some (C.σ id)))
  | yld (id : Nat) (hid : id < C.n) : ARep C (.yld id) (.func (.yield (C.σ id)) #[] #[])
  | seat (id off n : Nat) (e : TypeId) (hid : id < C.n) (hw : RowAt C.w (C.σ id) n e) (hb : num.B e n off) : ARep C (.seat id off) (.pointer none)
  | junk (v : Value) : ARep C .junk v
theorem ARep.osl0 {num : Names} {C : Cx} (id off sz len : Nat) (cap : Option Nat) (c a : Nat) (arr : Array Value) (e : TypeId) (hid : id < C.n) (hl : len ≤ c ∧ c ≤ 9223372036854775807) (hk : ∀ k, cap = some k → c = k) (ha : a = off ∨ c = 0)
    (hw : C.w.heap[C.σ id]? = some (.cells arr e (0, 0))) (hs : c = 0 ∨ off + c * sz ≤ arr.size) : ARep num C (.osl id off sz len cap) (.slice (some ⟨C.σ id, a, none⟩) len c) :=
  .osl id off sz len cap c a arr.size e hid hl hk ha (.of hw) hs
structure Tr (f : Nat → Option Nat) (C D : Cx) : Prop where
  imm : ∀ b, C.I b → D.I b
  keep : ∀ b, C.I b → D.w.heap[b]? = C.w.heap[b]?
  ids : ∀ id j, id < C.n → f id = some j → j < D.n ∧ D.σ j = C.σ id ∧ ∀ n e, RowAt C.w (C.σ id) n e → RowAt (D.w) (C.σ id) n e
theorem renL_get (f : Nat → Option Nat) : ∀ (l : List AV) (j : Nat), (AV.ren.renL f l)[j]? = (l[j]?).map (AV.ren f)
  | [], j => by simp [AV.ren.renL]
  | x :: r, 0 => by simp [AV.ren.renL]
  | x :: r, j + 1 => by simp [AV.ren.renL, renL_get f r j]
theorem renL_length (f : Nat → Option Nat) : ∀ (l : List AV), (AV.ren.renL f l).length = l.length
  | [] => rfl
  | x :: r => by simp [AV.ren.renL, renL_length f r]
theorem renL_eq (f : Nat → Option Nat) : ∀ (l : List AV), AV.ren.renL f l = l.map (AV.ren f)
  | [] => rfl
  | x :: r => by simp [AV.ren.renL, renL_eq f r]
variable {num}
theorem ARep.tr {f : Nat → Option Nat} {C D : Cx} (t : Tr f C D) {x : AV} {v : Value} (h : ARep num C x v) : ARep num D (x.ren f) v := by
  induction h with
  | imm x v h => exact .imm x v (h.mono t.imm t.keep)
  | osl id off sz len cap c a arr e hid hl hk ha hw hs =>
    simp only [AV.ren]
    cases hf : f id with
    | none => exact .junk _
    | some j =>
      obtain ⟨h1, h2, h3⟩ := t.ids id j hid hf
      have h4 := h3 arr e hw
      dsimp only
      rw [← h2] at h4 ⊢
      exact .osl j off sz len cap c a arr e h1 hl hk ha h4 hs
  | optr id off hid =>
    simp only [AV.ren]
    cases hf : f id with
    | none => exact .junk _
    | some j =>
      obtain ⟨h1, h2, _⟩ := t.ids id j hid hf
      dsimp only
      rw [← h2]
      exact .optr j off h1
  | clo g caps vs hl h ih =>
    simp only [AV.ren]
    refine .clo g _ vs (by rw [renL_length]; exact hl) fun j x u hx hu => ?_
    rw [renL_get] at hx
    cases hc : caps[j]? with
    | none => simp [hc] at hx
    | some y => simp [hc] at hx; subst hx; exact ih j y u hc hu
  | agg cells vs hl h1 h ih =>
    simp only [AV.ren]
    refine .agg _ vs (by rw [renL_length]; exact hl) h1 fun j x u hx hu => ?_
    rw [renL_get] at hx
    cases hc : cells[j]? with
    | none => simp [hc] at hx
    | some y => simp [hc] at hx; subst hx; exact ih j y u hc hu
  | tup xs vs hl h ih =>
    simp only [AV.ren]
    refine .tup _ vs (by rw [renL_length]; exact hl) fun j x u hx hu => ?_
    rw [renL_get] at hx
    cases hc : xs[j]? with
    | none => simp [hc] at hx
    | some y => simp [hc] at hx; subst hx; exact ih j y u hc hu
  | omap id hid =>
    simp only [AV.ren]
    cases hf : f id with
    | none => exact .junk _
    | some j =>
      obtain ⟨h1, h2, _⟩ := t.ids id j hid hf
      dsimp only
      rw [← h2]
      exact .omap j h1
  | yld id hid =>
    simp only [AV.ren]
    cases hf : f id with
    | none => exact .junk _
    | some j =>
      obtain ⟨h1, h2, _⟩ := t.ids id j hid hf
      dsimp only
      rw [← h2]
      exact .yld j h1
  | seat id off n e hid hw hb =>
    simp only [AV.ren]
    cases hf : f id with
    | none => exact .junk _
    | some j =>
      obtain ⟨h1, h2, h3⟩ := t.ids id j hid hf
      have h4 := h3 n e hw
      rw [← h2] at h4
      exact .seat j off n e h1 h4 hb
  | junk v => exact .junk v
mutual
theorem ren_some : ∀ (x : AV), x.ren some = x
  | .imm _ => rfl
  | .osl .. => rfl
  | .optr .. => rfl
  | .omap _ => rfl
  | .clo fn caps => by simp only [AV.ren, renL_some caps]
  | .agg cells => by simp only [AV.ren, renL_some cells]
  | .tup vs => by simp only [AV.ren, renL_some vs]
  | .yld _ => rfl
  | .seat .. => rfl
  | .junk => rfl
theorem renL_some : ∀ (l : List AV), AV.ren.renL some l = l
  | [] => rfl
  | x :: r => by simp only [AV.ren.renL, ren_some x, renL_some r]
end
theorem ARep.mono {C D : Cx} (t : Tr some C D) {x : AV} {v : Value} (h : ARep num C x v) : ARep num D x v := by
  have := h.tr t
  rwa [ren_some] at this
theorem Tr.refl (C : Cx) : Tr some C C := ⟨fun _ h => h, fun _ _ => rfl, fun id j hid hj => by cases hj; exact ⟨hid, rfl, fun _ _ h => h⟩⟩
variable (num)
def ORep (C : Cx) (id : Nat) : AObj → Prop
  | .flat cells _ => ∃ arr e, C.w.heap[C.σ id]? = some (.cells arr e (0, 0)) ∧ ∀ (j : Nat) x, cells[j]? = some x → ∃ u : Value, arr[j]? = some u ∧ IRep C.I C.w x u
  | .rich cells => ∃ arr e, C.w.heap[C.σ id]? = some (.cells arr e (0, 0)) ∧ ∀ (j : Nat) x, cells[j]? = some x → ∃ u : Value, arr[j]? = some u ∧ u.oneCell' = true ∧ ARep num C x u
  | .map es => ∃ (es' : Array MapEntry) (clock : Nat), C.w.heap[C.σ id]? = some (.map es' clock) ∧ es'.size = es.length ∧ ∀ (j : Nat) (p : AV × AV) (x : MapEntry), es[j]? = some p → es'[j]? = some x → ARep num C p.1 x.key ∧ ARep num C p.2 x.val
  | .dead => True
  | .fix cells _ _ => ∃ arr e, C.w.heap[C.σ id]? = some (.cells arr e (0, 0)) ∧ ∀ (j : Nat) x, cells[j]? = some x → ∃ u : Value, arr[j]? = some u ∧ IRep C.I C.w x u
  | .loop env ps as b y => ∃ (R : Loop) (N : Nat), C.w.heap[C.σ id]? = some (.loop R) ∧ R.state = (if y then .busy else .ready) ∧ R.pending = none ∧ R.params.toList = ps ∧ N ≤ R.tmps.size ∧ num.L R.assign R.body ps N as b ∧ ∀ p ∈ env, ARep num C p.2 (R.tmps.getD p.1 undef)
  | .text cells => ∃ arr e, C.w.heap[C.σ id]? = some (.cells arr e (0, 0)) ∧ num.U e ∧ ∀ (j : Nat) x, cells[j]? = some x → ∃ u : Value, arr[j]? = some u ∧ IRep C.I C.w x u
theorem env_ren_get (f : Nat → Option Nat) (t : Nat) : ∀ (e : Env), (Env.ren f e).get t = (e.get t).ren f
  | [] => rfl
  | (k, v) :: r => by
    simp only [Env.ren, Env.get]
    split
    · rfl
    · exact env_ren_get f t r
theorem env_ren_mem {f : Nat → Option Nat} {q : Nat × AV} : ∀ {e : Env}, q ∈ Env.ren f e → ∃ p ∈ e, q = (p.1, p.2.ren f)
  | (k, v) :: r, h => by
    simp only [Env.ren, List.mem_cons] at h
    rcases h with rfl | h
    · exact ⟨(k, v), List.mem_cons_self .., rfl⟩
    · obtain ⟨p, hp, rfl⟩ := env_ren_mem h
      exact ⟨p, List.mem_cons_of_mem _ hp, rfl⟩
theorem env_ren_some : ∀ (e : Env), Env.ren some e = e
  | [] => rfl
  | (k, v) :: r => by simp only [Env.ren, ren_some, env_ren_some r]
variable {num} in
theorem orep_tr {f : Nat → Option Nat} {C D : Cx} {id id' : Nat} (t : Tr f C D) (hσ : D.σ id' = C.σ id) (hb : ∀ x : Obj, C.w.heap[C.σ id]? = some x → D.w.heap[C.σ id]? = some x) {o : AObj} (h : ORep num C id o) : ORep num D id' (o.ren f) := by
  cases o with
  | flat cs mv =>
    obtain ⟨arr, e, h1, h2⟩ := h
    refine ⟨arr, e, by rw [hσ]; exact hb _ h1, fun k x hx => ?_⟩
    obtain ⟨u, hu, hr⟩ := h2 k x hx
    exact ⟨u, hu, hr.mono t.imm t.keep⟩
  | rich cs =>
    obtain ⟨arr, e, h1, h2⟩ := h
    refine ⟨arr, e, by rw [hσ]; exact hb _ h1, fun k x hx => ?_⟩
    rw [renL_get] at hx
    cases hq : cs[k]? with
    | none => simp [hq] at hx
    | some y =>
      simp [hq] at hx
      subst hx
      obtain ⟨u, hu, ho, hr⟩ := h2 k y hq
      exact ⟨u, hu, ho, hr.tr t⟩
  | map es =>
    obtain ⟨es', clock, h1, h2, h3⟩ := h
    refine ⟨es', clock, by rw [hσ]; exact hb _ h1, by simpa using h2, fun j p x hp hx => ?_⟩
    rw [List.getElem?_map] at hp
    cases hq : es[j]? with
    | none => simp [hq] at hp
    | some q =>
      simp [hq] at hp
      subst hp
      obtain ⟨h4, h5⟩ := h3 j q x hq hx
      exact ⟨h4.tr t, h5.tr t⟩
  | dead => trivial
  | fix cs mv op =>
    obtain ⟨arr, e, h1, h2⟩ := h
    refine ⟨arr, e, by rw [hσ]; exact hb _ h1, fun k x hx => ?_⟩
    obtain ⟨u, hu, hr⟩ := h2 k x hx
    exact ⟨u, hu, hr.mono t.imm t.keep⟩
  | loop env ps as b y =>
    obtain ⟨R, N, h1, h2, h3, h4, h5, h6, h7⟩ := h
    refine ⟨R, N, by rw [hσ]; exact hb _ h1, h2, h3, h4, h5, h6, fun q hq => ?_⟩
    obtain ⟨p, hp, rfl⟩ := env_ren_mem hq
    exact (h7 p hp).tr t
  | text cs =>
    obtain ⟨arr, e, h1, hu, h2⟩ := h
    refine ⟨arr, e, by rw [hσ]; exact hb _ h1, hu, fun k x hx => ?_⟩
    obtain ⟨u, hu, hr⟩ := h2 k x hx
    exact ⟨u, hu, hr.mono t.imm t.keep⟩
theorem obj_ren_some (o : AObj) : o.ren some = o := by
  cases o with
  | flat => rfl
  | rich cs => simp only [AObj.ren, renL_some]
  | map es => simp only [AObj.ren, ren_some]; simp
  | dead => rfl
  | fix => rfl
  | loop env ps as b y => simp only [AObj.ren, env_ren_some]
  | text => rfl
variable {num} in
theorem orep_mono {C D : Cx} {id : Nat} (t : Tr some C D) (hσ : D.σ id = C.σ id) (hb : ∀ x : Obj, C.w.heap[C.σ id]? = some x → D.w.heap[C.σ id]? = some x) {o : AObj} (h : ORep num C id o) : ORep num D id o := by
  have := orep_tr t hσ hb h
  rwa [obj_ren_some] at this
def Own (C : Cx) (m : Mem) (b : Nat) : Prop := ∃ id o, m[id]? = some o ∧ o.live = true ∧ C.σ id = b
def AObj.twin : AObj → AObj → Prop
  | .fix a _ s, .fix b _ t => (s && t) = false ∧ (s = true → b.length ≤ a.length) ∧ (t = true → a.length ≤ b.length)
  | _, _ => False
theorem twin_fix {o p : AObj} (h : o.twin p) : o.isFix = true ∧ p.isFix = true := by
  unfold AObj.twin at h
  split at h
  · exact ⟨rfl, rfl⟩
  · cases h
theorem twin_ren (f g : Nat → Option Nat) (o p : AObj) : (o.ren f).twin (p.ren g) ↔ o.twin p := by
  cases o <;> cases p <;> simp [AObj.ren, AObj.twin]
theorem twin_orMoved (b c : Bool) (o p : AObj) : (o.orMoved b).twin (p.orMoved c) ↔ o.twin p := by
  cases o <;> cases p <;> simp [AObj.orMoved, AObj.twin]
structure MRep (C : Cx) (m : Mem) : Prop where
  len : m.length = C.n
  obj : ∀ id o, m[id]? = some o → ORep num C id o
  inj : ∀ i j o p, m[i]? = some o → m[j]? = some p → o.live = true → p.live = true → C.σ i = C.σ j → i = j ∨ o.twin p
  imm : ∀ b, Own C m b → ¬ C.I b
  bd : ∀ b, C.I b → b < C.w.heap.size
  glo : num.G C.I C.w
theorem MRep.inj1 {C : Cx} {m : Mem} (h : MRep num C m) (i j : Nat) (o p : AObj) (ho : m[i]? = some o) (hp : m[j]? = some p) (hlo : o.live = true) (hlp : p.live = true) (hf : o.isFix = false) (he : C.σ i = C.σ j) : i = j := by
  rcases h.inj i j o p ho hp hlo hlp he with h | h
  · exact h
  · rw [(twin_fix h).1] at hf; cases hf
theorem MRep.inj2 {C : Cx} {m : Mem} (h : MRep num C m) (i j : Nat) (o p : AObj) (ho : m[i]? = some o) (hp : m[j]? = some p) (hlo : o.live = true) (hlp : p.live = true) (hf : p.isFix = false) (he : C.σ i = C.σ j) : i = j :=
  (h.inj1 num j i p o hp ho hlp hlo hf he.symm).symm
theorem MRep.lt {C : Cx} {m : Mem} (h : MRep num C m) {b : Nat} (hb : Own C m b) : b < C.w.heap.size := by
  obtain ⟨id, o, ho, hl, rfl⟩ := hb
  have := h.obj id o ho
  cases o with
  | flat cells mv => obtain ⟨arr, e, h1, _⟩ := this; exact (Array.getElem?_eq_some_iff.1 h1).1
  | rich cells => obtain ⟨arr, e, h1, _⟩ := this; exact (Array.getElem?_eq_some_iff.1 h1).1
  | map es => obtain ⟨es', clock, h1, _⟩ := this; exact (Array.getElem?_eq_some_iff.1 h1).1
  | dead => cases hl
  | fix cells mv op => obtain ⟨arr, e, h1, _⟩ := this; exact (Array.getElem?_eq_some_iff.1 h1).1
  | loop => obtain ⟨R, N, h1, _⟩ := this; exact (Array.getElem?_eq_some_iff.1 h1).1
  | text => obtain ⟨arr, e, h1, _⟩ := this; exact (Array.getElem?_eq_some_iff.1 h1).1
structure Step (k : Nat) (C : Cx) (m : Mem) (D : Cx) (m' : Mem) : Prop where
  rep : MRep num D m'
  os : D.w.os = C.w.os
  tape : D.w.tape = C.w.tape
  out : D.w.output = C.w.output
  size : C.w.heap.size ≤ D.w.heap.size
  keep : ∀ b, b < C.w.heap.size → ¬ Own C m b → D.w.heap[b]? = C.w.heap[b]?
  sz : ∀ (b n : Nat) e, RowAt C.w b n e → RowAt D.w b n e
  imm : ∀ b, C.I b → D.I b
  imm' : ∀ b, D.I b → C.I b ∨ C.w.heap.size ≤ b ∨ Own C m b
  own : ∀ b, Own D m' b → C.w.heap.size ≤ b ∨ Own C m b
  same : ∀ i, i < k → ∀ o', m'[i]? = some o' → o'.moved = false → ∃ o, m[i]? = some o ∧ o.moved = false ∧ D.σ i = C.σ i
  len : k ≤ m'.length
variable {num}
theorem Step.refl {C : Cx} {m : Mem} {k : Nat} (h : MRep num C m) (hk : k ≤ m.length) : Step num k C m C m :=
  ⟨h, rfl, rfl, rfl, Nat.le_refl _, fun _ _ _ => rfl, fun _ _ _ h => h, fun _ h => h, fun _ h => .inl h, fun _ h => .inr h, fun i _ o' ho hm => ⟨o', ho, hm, rfl⟩, hk⟩
theorem Step.trans {k : Nat} {C D E : Cx} {m m' m'' : Mem} (h : Step num k C m D m') (g : Step num k D m' E m'') : Step num k C m E m'' := by
  refine ⟨g.rep, g.os.trans h.os, g.tape.trans h.tape, g.out.trans h.out, Nat.le_trans h.size g.size, ?_, ?_, fun b hb => g.imm b (h.imm b hb), ?_, ?_, ?_, g.len⟩
  · intro b hb hno
    have h1 : ¬ Own D m' b := fun ho => by rcases h.own b ho with h' | h'; omega; exact hno h'
    exact (g.keep b (Nat.lt_of_lt_of_le hb h.size) h1).trans (h.keep b hb hno)
  · intro b n e hw
    exact g.sz b n e (h.sz b n e hw)
  · intro b hb
    rcases g.imm' b hb with h1 | h1 | h1
    · exact h.imm' b h1
    · exact .inr (.inl (Nat.le_trans h.size h1))
    · exact .inr (h.own b h1)
  · intro b hb
    rcases g.own b hb with h1 | h1
    · exact .inl (Nat.le_trans h.size h1)
    · exact h.own b h1
  · intro i hi o' ho hm
    obtain ⟨o1, h1, h2, h3⟩ := g.same i hi o' ho hm
    obtain ⟨o2, h4, h5, h6⟩ := h.same i hi o1 h1 h2
    exact ⟨o2, h4, h5, h3.trans h6⟩
theorem Step.le {k j : Nat} {C D : Cx} {m m' : Mem} (h : Step num k C m D m') (hj : j ≤ k) : Step num j C m D m' :=
  ⟨h.rep, h.os, h.tape, h.out, h.size, h.keep, h.sz, h.imm, h.imm', h.own, fun i hi => h.same i (by omega), Nat.le_trans hj h.len⟩
variable (num)
def ERep (C : Cx) (e : Env) (tmps : Array Value) : Prop := ∀ t, ARep num C (e.get t) (tmps.getD t undef)
variable {num}
theorem ERep.tr {f : Nat → Option Nat} {C D : Cx} (t : Tr f C D) {e : Env} {tmps : Array Value} (h : ERep num C e tmps) : ERep num D (e.ren f) tmps := by
  intro n
  rw [env_ren_get]
  exact (h n).tr t
theorem ERep.mono {C D : Cx} (t : Tr some C D) {e : Env} {tmps : Array Value} (h : ERep num C e tmps) : ERep num D e tmps := fun n => (h n).mono t
theorem env_keep_get (e : Env) (t : Nat) : ∀ (l : List Nat), (Env.get (l.map fun n => (n, e.get n)) t) = if t ∈ l then e.get t else .junk
  | [] => rfl
  | k :: r => by
    simp only [List.map_cons, Env.get]
    by_cases h : t = k
    · subst h; simp
    · rw [if_neg h, env_keep_get e t r]
      by_cases h' : t ∈ r
      · simp [h']
      · simp [h', h]
theorem ERep.keep {C : Cx} {e : Env} {tmps : Array Value} (h : ERep num C e tmps) (l : List Nat) : ERep num C (e.keep l) tmps := by
  intro t
  unfold Env.keep
  rw [env_keep_get]
  split
  · exact h t
  · exact .junk _
theorem ERep.put {C : Cx} {e : Env} {a : Act} (h : ERep num C e a.tmps) {d : Nat} (hd : d < a.tmps.size) {x : AV} {v : Value} (hx : ARep num C x v) : ERep num C ((d, x) :: e) (a.put (some d) v).tmps := by
  intro t
  simp only [Env.get, Act.put]
  by_cases ht : t = d
  · subst ht
    rw [if_pos rfl]
    simpa [Array.getD, hd] using hx
  · rw [if_neg ht]
    have : (a.tmps.setIfInBounds d v).getD t undef = a.tmps.getD t undef := by
      simp only [Array.getD_eq_getD_getElem?, Array.getElem?_setIfInBounds]
      rw [if_neg (by omega)]
    rw [this]
    exact h t
end
end Go.EX


set_option linter.unusedVariables false
set_option linter.unusedSimpArgs false
namespace Go.EX
section
variable {num : Names}
def CellsAt (num : Names) (C : Cx) (b o : Nat) (l : List AV) : Prop := ∀ (j : Nat) x, l[j]? = some x → ∃ u : Value, C.w.cell? ⟨b, o + j, none⟩ = some u ∧ u.oneCell' = true ∧ ARep num C x u
theorem cut_length {α : Type} {l c : List α} {o n : Nat} (h : cut l o n = some c) : c.length = n := by
  unfold cut at h
  dsimp only at h
  split at h
  · obtain rfl := Option.some.inj h; assumption
  · cases h
theorem cut_get {α : Type} {l c : List α} {o n : Nat} (h : cut l o n = some c) (j : Nat) (hj : j < n) : l[o + j]? = c[j]? := by
  unfold cut at h
  dsimp only at h
  split at h
  · obtain rfl := Option.some.inj h
    rw [List.getElem?_take_of_lt hj, List.getElem?_drop]
  · cases h
theorem cut_map {α β : Type} (f : α → β) (l : List α) (o n : Nat) : cut (l.map f) o n = (cut l o n).map (List.map f) := by
  unfold cut
  simp only [← List.map_drop, ← List.map_take, List.length_map]
  split <;> simp
theorem getCellsI_eq (agg : Option Nat) (l : List IV) (off : Nat) : getCellsI agg l off = getCells agg (l.map .imm) off := by
  cases agg with
  | none => simp [getCellsI, getCells]
  | some n => simp only [getCellsI, getCells, cut_map, Option.map_map]; rfl
theorem cellsAt_row {C : Cx} {row : List IV} {b o : Nat} {u : Nat → Value} (hc : ∀ (j : Nat) (x : IV), row[j]? = some x → C.w.cell? ⟨b, o + j, none⟩ = some (u j)) (hu : ∀ (j : Nat) (x : IV), row[j]? = some x → IRep C.I C.w x (u j)) :
    CellsAt num C b o (row.map .imm) := by
  intro j x hx
  rw [List.getElem?_map] at hx
  cases hr : row[j]? with
  | none => simp [hr] at hx
  | some y => simp [hr] at hx; subst hx; exact ⟨u j, hc j y hr, (hu j y hr).one, .imm y _ (hu j y hr)⟩
theorem cellsAt_flat {C : Cx} {cs : List IV} {id : Nat} {mv : Bool} (h : ORep num C id (.flat cs mv)) : CellsAt num C (C.σ id) 0 (cs.map .imm) := by
  obtain ⟨arr, e, h1, h2⟩ := h
  intro j x hx
  rw [List.getElem?_map] at hx
  cases hr : cs[j]? with
  | none => simp [hr] at hx
  | some y =>
    simp [hr] at hx; subst hx
    obtain ⟨u, hu, hr'⟩ := h2 j y hr
    exact ⟨u, by rw [cell_of_row C.w _ _ arr e _ h1]; simpa using hu, hr'.one, .imm y _ hr'⟩
theorem cellsAt_rich {C : Cx} {cs : List AV} {id : Nat} (h : ORep num C id (.rich cs)) : CellsAt num C (C.σ id) 0 cs := by
  obtain ⟨arr, e, h1, h2⟩ := h
  intro j x hx
  obtain ⟨u, hu, ho, hr'⟩ := h2 j x hx
  exact ⟨u, by rw [cell_of_row C.w _ _ arr e _ h1]; simpa using hu, ho, hr'⟩
theorem id_fix {C : Cx} {cs : List IV} {mv op : Bool} {id : Nat} (h : ORep num C id (.fix cs mv op)) : ORep num C id (.flat cs mv) := h
theorem ptr_cells {C : Cx} {m : Mem} (hm : MRep num C m) {p : AV} {v : Value} (hp : ARep num C p v) {agg : Option Nat} {x : AV} (hx : loadAt m agg p = some x) :
    ∃ b o off l, v = .pointer (some ⟨b, o + off, none⟩) ∧ CellsAt num C b o l ∧ getCells agg l off = some x := by
  unfold loadAt at hx
  split at hx
  · rename_i row off
    cases hp with
    | imm _ _ h =>
      cases h with
      | ptr _ _ b o u hb hc hu => exact ⟨b, o, off, _, rfl, cellsAt_row hc hu, by rw [← getCellsI_eq]; exact hx⟩
  · rename_i id off
    cases hp with
    | optr _ _ hid =>
      split at hx
      · rename_i cs mv ho
        exact ⟨C.σ id, 0, off, _, by rw [Nat.zero_add], cellsAt_flat (hm.obj id _ ho), by rw [← getCellsI_eq]; exact hx⟩
      · rename_i cs ho
        exact ⟨C.σ id, 0, off, _, by rw [Nat.zero_add], cellsAt_rich (hm.obj id _ ho), hx⟩
      · rename_i cs mv op ho
        exact ⟨C.σ id, 0, off, _, by rw [Nat.zero_add], cellsAt_flat (mv := mv) (id_fix (hm.obj id _ ho)), by rw [← getCellsI_eq]; exact hx⟩
      · cases hx
  · cases hx
theorem load_cells {P : Program} {C : Cx} {b o off n : Nat} {l r : List AV} (h : CellsAt num C b o l) (hr : cut l off n = some r) :
    ∃ vs : Array Value, (loadCells ⟨b, o + off, none⟩ n).run P C.w = .ok vs C.w ∧ vs.size = n ∧ (∀ (j : Nat) u, vs[j]? = some u → u.oneCell' = true) ∧ ∀ (j : Nat) x u, r[j]? = some x → vs[j]? = some u → ARep num C x u := by
  have hlen := cut_length hr
  have hx : ∀ j, j < n → ∃ u : Value, C.w.cell? ⟨b, o + off + j, none⟩ = some u ∧ u.oneCell' = true ∧ ∀ x, r[j]? = some x → ARep num C x u := by
    intro j hj
    have h1 := cut_get hr j hj
    have hjr : j < r.length := by omega
    rw [List.getElem?_eq_getElem hjr] at h1
    obtain ⟨u, hu, h2, h3⟩ := h _ _ h1
    refine ⟨u, by rw [Nat.add_assoc]; exact hu, h2, fun x hx => ?_⟩
    rw [List.getElem?_eq_getElem hjr] at hx
    obtain rfl := Option.some.inj hx
    exact h3
  let f : Nat → Value := fun j => (C.w.cell? ⟨b, o + off + j, none⟩).getD undef
  have hf : ∀ j, j < n → C.w.cell? ((⟨b, o + off, none⟩ : Addr).add j) = some (f j) := by
    intro j hj
    obtain ⟨u, hu, _⟩ := hx j hj
    rw [addr_add, hu]
    simp [f, hu]
  refine ⟨((List.range n).map f).toArray, run_loadCells C.w _ n f hf, by simp, ?_, ?_⟩
  · intro j u hu
    simp only [List.getElem?_toArray, List.getElem?_map] at hu
    by_cases hj : j < n
    · rw [List.getElem?_range hj] at hu
      obtain ⟨u', hu', h2, _⟩ := hx j hj
      simp [f, hu'] at hu
      subst hu
      exact h2
    · rw [List.getElem?_eq_none (by simp; omega)] at hu; simp at hu
  · intro j x u hxr hu
    simp only [List.getElem?_toArray, List.getElem?_map] at hu
    have hj : j < n := by
      have := (List.getElem?_eq_some_iff.1 hxr).1
      omega
    rw [List.getElem?_range hj] at hu
    obtain ⟨u', hu', _, h3⟩ := hx j hj
    simp [f, hu'] at hu
    subst hu
    exact h3 x hxr
theorem setRow_get (w : World) (g : Nat) (arr cs : Array Value) (e : TypeId) (h : w.heap[g]? = some (.cells arr e (0, 0))) (k : Nat) :
    (w.setRow g cs).heap[k]? = if k = g then some (.cells cs e (0, 0)) else w.heap[k]? := by
  by_cases hk : k = g
  · subst hk; rw [if_pos rfl]; exact setRow_heap w k arr cs e _ h
  · rw [if_neg hk]; exact setRow_other w g k cs hk
theorem update_tr {C : Cx} {m : Mem} (hm : MRep num C m) {id : Nat} {o : AObj} (ho : m[id]? = some o) (hlo : o.live = true) {arr cs : Array Value} {e : TypeId}
    (hw : C.w.heap[C.σ id]? = some (.cells arr e (0, 0))) (hs : cs.size = arr.size) : Tr some C { C with w := C.w.setRow (C.σ id) cs } := by
  refine ⟨fun _ h => h, fun b hb => ?_, fun i j hi hj => ?_⟩
  · show (C.w.setRow (C.σ id) cs).heap[b]? = _
    rw [setRow_get _ _ _ _ _ hw, if_neg]
    intro hb'
    exact hm.imm b ⟨id, o, ho, hlo, hb'.symm⟩ hb
  · cases hj
    refine ⟨hi, rfl, fun arr' e' h' => ?_⟩
    by_cases hc : C.σ i = C.σ id
    · rw [hc] at h' ⊢
      exact h'.put hw (by show (C.w.setRow (C.σ id) cs).heap[C.σ id]? = _; rw [setRow_get _ _ _ _ _ hw, if_pos rfl]) hs
    · exact h'.same (by show (C.w.setRow (C.σ id) cs).heap[C.σ i]? = _; rw [setRow_get _ _ _ _ _ hw, if_neg hc])
theorem set_get {α : Type} (l : List α) (i : Nat) (x : α) (j : Nat) : (l.set i x)[j]? = if i = j ∧ j < l.length then some x else l[j]? := by
  rw [List.getElem?_set]
  by_cases h : i = j
  · subst h
    by_cases h2 : i < l.length
    · simp [h2]
    · simp [h2, List.getElem?_eq_none (Nat.le_of_not_lt h2)]
  · simp [h]
theorem update_step {C : Cx} {m : Mem} (hm : MRep num C m) {id : Nat} {o o' : AObj} (ho : m[id]? = some o) (hlo : o.live = true) {arr cs : Array Value} {e : TypeId}
    (hw : C.w.heap[C.σ id]? = some (.cells arr e (0, 0))) (hs : cs.size = arr.size) (hlo' : o'.live = true) (hmv : o'.moved = false → o.moved = false)
    (hr : ORep num { C with w := C.w.setRow (C.σ id) cs } id o') {k : Nat} (hk : k ≤ m.length) (hof : o.isFix = false := by rfl) :
    Step num k C m { C with w := C.w.setRow (C.σ id) cs } (m.set id o') := by
  have ht := update_tr hm ho hlo hw hs
  have hid : id < m.length := (List.getElem?_eq_some_iff.1 ho).1
  have hg : ∀ b, (C.w.setRow (C.σ id) cs).heap[b]? = if b = C.σ id then some (.cells cs e (0, 0)) else C.w.heap[b]? := fun b => setRow_get _ _ _ _ _ hw b
  have hown : ∀ b, Own { C with w := C.w.setRow (C.σ id) cs } (m.set id o') b → Own C m b := by
    rintro b ⟨i, p, hp, hl, hb⟩
    rw [set_get] at hp
    split at hp
    · rename_i hi
      obtain ⟨rfl, _⟩ := hi
      exact ⟨id, o, ho, hlo, hb⟩
    · exact ⟨i, p, hp, hl, hb⟩
  refine ⟨⟨by simpa using hm.len, ?_, ?_, fun b hb => hm.imm b (hown b hb), fun b hb => by show b < (C.w.setRow (C.σ id) cs).heap.size; rw [size_setRow]; exact hm.bd b hb, num.up hm.glo ht.imm ht.keep⟩, rfl, rfl, rfl, by show _ ≤ (C.w.setRow (C.σ id) cs).heap.size; rw [size_setRow]; exact Nat.le_refl _, ?_, ?_, fun _ h => h, fun _ h => .inl h, fun b hb => .inr (hown b hb), ?_, by simpa using hk⟩
  · intro i p hp
    rw [set_get] at hp
    split at hp
    · rename_i hi
      obtain ⟨rfl, _⟩ := hi
      obtain rfl := Option.some.inj hp
      exact hr
    · rename_i hi
      have hne : i ≠ id := fun e => hi ⟨e.symm, by have := (List.getElem?_eq_some_iff.1 hp).1; exact this⟩
      by_cases hlp : p.live = true
      · refine orep_mono ht rfl (fun x hx => ?_) (hm.obj i p hp)
        show (C.w.setRow (C.σ id) cs).heap[C.σ i]? = _
        rw [hg, if_neg fun e => hne (hm.inj2 num i id _ _ hp ho hlp hlo hof e)]; exact hx
      · cases p with
        | dead => trivial
        | _ => exact absurd rfl hlp
  · intro i j p q hp hq hlp hlq hσ
    have back : ∀ (i : Nat) (p : AObj), (m.set id o')[i]? = some p → p.live = true → ∃ p' : AObj, m[i]? = some p' ∧ p'.live = true ∧ (p' = p ∨ p'.isFix = false) := by
      intro i p hp hl
      rw [set_get] at hp
      split at hp
      · rename_i hi; obtain ⟨rfl, _⟩ := hi; exact ⟨o, ho, hlo, .inr hof⟩
      · exact ⟨p, hp, hl, .inl rfl⟩
    obtain ⟨p', hp', hlp', hp3⟩ := back i p hp hlp
    obtain ⟨q', hq', hlq', hq3⟩ := back j q hq hlq
    rcases hm.inj i j p' q' hp' hq' hlp' hlq' hσ with h | h
    · exact .inl h
    · rcases hp3 with rfl | h3
      · rcases hq3 with rfl | h4
        · exact .inr h
        · rw [(twin_fix h).2] at h4; cases h4
      · rw [(twin_fix h).1] at h3; cases h3
  · intro b _ hno
    show (C.w.setRow (C.σ id) cs).heap[b]? = _
    rw [hg, if_neg fun e => hno ⟨id, o, ho, hlo, e.symm⟩]
  · intro b arr' e' hw'
    by_cases hb : b = C.σ id
    · subst hb
      exact hw'.put hw (by show (C.w.setRow (C.σ id) cs).heap[C.σ id]? = _; rw [hg, if_pos rfl]) hs
    · exact hw'.same (by show (C.w.setRow (C.σ id) cs).heap[b]? = _; rw [hg, if_neg hb])
  · intro i _ p hp hmp
    rw [set_get] at hp
    split at hp
    · rename_i hi
      obtain ⟨rfl, _⟩ := hi
      obtain rfl := Option.some.inj hp
      exact ⟨o, ho, hmv hmp, rfl⟩
    · exact ⟨p, hp, hmp, rfl⟩
def Cx.more (C : Cx) (w1 : World) (o : Obj) : Cx := { σ := fun i => if i = C.n then C.w.heap.size else C.σ i, I := C.I, n := C.n + 1, w := w1.alloc o }
theorem alloc_get {w : World} {o : Obj} {k : Nat} : (w.alloc o).heap[k]? = if k = w.heap.size then some o else w.heap[k]? := by
  by_cases h : k = w.heap.size
  · subst h; rw [if_pos rfl]; exact heap_alloc_new w o
  · rw [if_neg h]
    rcases Nat.lt_or_ge k w.heap.size with h' | h'
    · exact heap_alloc_old w o k h'
    · rw [Array.getElem?_eq_none (by simp; omega), Array.getElem?_eq_none h']
theorem more_tr {C : Cx} {m : Mem} (hm : MRep num C m) {w1 : World} (hw1 : w1.heap = C.w.heap) (o : Obj) : Tr some C (C.more w1 o) := by
  have lt : ∀ k (x : Obj), C.w.heap[k]? = some x → k < C.w.heap.size := fun k x h => (Array.getElem?_eq_some_iff.1 h).1
  refine ⟨fun _ h => h, fun b hb => ?_, fun i j hi hj => ?_⟩
  · show (w1.alloc o).heap[b]? = _
    rw [alloc_get, hw1, if_neg (by have := hm.bd b hb; omega)]
  · cases hj
    have hne : i ≠ C.n := by omega
    refine ⟨Nat.lt_succ_of_lt hi, by simp [Cx.more, hne], fun arr e h => h.same ?_⟩
    show (w1.alloc o).heap[C.σ i]? = _
    rw [alloc_get, hw1, if_neg (by have := h.lt; omega)]
theorem more_step {C : Cx} {m : Mem} (hm : MRep num C m) {w1 : World} (hw1 : w1.heap = C.w.heap) (hos : w1.os = C.w.os) (htp : w1.tape = C.w.tape) (hout : w1.output = C.w.output) (ob : Obj) (o' : AObj)
    (hr : ORep num (C.more w1 ob) C.n o') {k : Nat} (hk : k ≤ m.length) :
    Step num k C m (C.more w1 ob) (m ++ [o']) := by
  have ht := more_tr hm hw1 ob
  have hlen := hm.len
  have hsz : C.w.heap.size ≤ (w1.alloc ob).heap.size := by rw [World.size_alloc, hw1]; omega
  have hσ : ∀ i, i < m.length → (C.more w1 ob).σ i = C.σ i := fun i hi => by simp only [Cx.more]; rw [if_neg (by omega)]
  have split : ∀ (i : Nat) (p : AObj), (m ++ [o'])[i]? = some p → (i < m.length ∧ m[i]? = some p) ∨ (i = C.n ∧ p = o') := by
    intro i p hp
    rcases Nat.lt_or_ge i m.length with h | h
    · rw [List.getElem?_append_left h] at hp; exact .inl ⟨h, hp⟩
    · rw [List.getElem?_append_right h] at hp
      have h0 : i - m.length = 0 := by
        rcases Nat.eq_zero_or_pos (i - m.length) with h0 | h0
        · exact h0
        · rw [List.getElem?_eq_none (by simp; omega)] at hp; cases hp
      rw [h0] at hp
      exact .inr ⟨by omega, by simpa using hp.symm⟩
  have hown : ∀ b, Own (C.more w1 ob) (m ++ [o']) b → C.w.heap.size ≤ b ∨ Own C m b := by
    rintro b ⟨i, p, hp, hl, hb⟩
    rcases split i p hp with ⟨hi, hp'⟩ | ⟨rfl, rfl⟩
    · rw [hσ i hi] at hb; exact .inr ⟨i, p, hp', hl, hb⟩
    · simp [Cx.more] at hb; exact .inl (by omega)
  refine ⟨⟨by simp [Cx.more, hlen], ?_, ?_, ?_, ?_, num.up hm.glo ht.imm ht.keep⟩, hos, htp, hout, hsz, ?_, ?_, fun _ h => h, fun _ h => .inl h, hown, ?_, by simp; omega⟩
  · intro i p hp
    rcases split i p hp with ⟨hi, hp'⟩ | ⟨rfl, rfl⟩
    · refine orep_mono ht (hσ i hi) (fun x hx => ?_) (hm.obj i p hp')
      show (w1.alloc _).heap[_]? = _
      rw [alloc_get, hw1, if_neg (by have := (Array.getElem?_eq_some_iff.1 hx).1; omega)]; exact hx
    · exact hr
  · intro i j p q hp hq hlp hlq hσe
    rcases split i p hp with ⟨hi, hp'⟩ | ⟨rfl, rfl⟩ <;> rcases split j q hq with ⟨hj, hq'⟩ | ⟨rfl, rfl⟩
    · rw [hσ i hi, hσ j hj] at hσe
      exact hm.inj i j p q hp' hq' hlp hlq hσe
    · rw [hσ i hi] at hσe
      have : Own C m (C.σ i) := ⟨i, p, hp', hlp, rfl⟩
      have := MRep.lt num hm this
      simp [Cx.more] at hσe
      omega
    · rw [hσ j hj] at hσe
      have : Own C m (C.σ j) := ⟨j, q, hq', hlq, rfl⟩
      have := MRep.lt num hm this
      simp [Cx.more] at hσe
      omega
    · exact .inl rfl
  · intro b hb hI
    rcases hown b hb with h | h
    · have := hm.bd b hI; omega
    · exact hm.imm b h hI
  · intro b hb
    exact Nat.lt_of_lt_of_le (hm.bd b hb) hsz
  · intro b hb _
    show (w1.alloc _).heap[b]? = _
    rw [alloc_get, hw1, if_neg (by omega)]
  · intro b arr' e' hw'
    refine hw'.same ?_
    show (w1.alloc _).heap[b]? = _
    rw [alloc_get, hw1, if_neg (by have := hw'.lt; omega)]
  · intro i hi p hp hmp
    rcases split i p hp with ⟨hi', hp'⟩ | ⟨rfl, rfl⟩
    · exact ⟨p, hp', hmp, hσ i hi'⟩
    · omega
end
end Go.EX


set_option linter.unusedVariables false
set_option linter.unusedSimpArgs false
namespace Go.EX
section
variable {num : Names} {P : Program}
structure SRep (num : Names) (C : Cx) (s : St) (a : Act) : Prop where
  mem : MRep num C s.mem
  env : ERep num C s.env a.tmps
  k : s.k ≤ s.mem.length
def Yields (num : Names) (P : Program) (op : Op) (ty : TypeId) (pos : String) (after : Array Edge) (a : Act) (C : Cx) (s : St) (x : AV) (s' : St) : Prop :=
  ∃ v D, (∀ dst g, (execOp a.eval ⟨dst, op, ty, pos, after, g⟩).run P C.w = .ok (.value v) D.w ∨ ((execOp a.eval ⟨dst, op, ty, pos, after, g⟩).run P C.w = .ok .skip D.w ∧ v = undef)) ∧
    Step num s.k C s.mem D s'.mem ∧ ERep num D s'.env a.tmps ∧ ARep num D x v ∧ s'.k = s.k
variable {ty : TypeId} {pos : String} {after : Array Edge} {a : Act} {C : Cx} {s : St}
theorem yields_pure (hs : SRep num C s a) {op : Op} {v : Value} (h : ∀ dst g, (execOp a.eval ⟨dst, op, ty, pos, after, g⟩).run P C.w = .ok (.value v) C.w) {x : AV} (hx : ARep num C x v) :
    Yields num P op ty pos after a C s x s := ⟨v, C, fun dst g => .inl (h dst g), .refl hs.mem hs.k, hs.env, hx, rfl⟩
theorem src_rep (hs : SRep num C s a) {x : Operand} {y : Src} (h : trSrc num x = some y) : ARep num C (s.env.ev y) (a.eval x) := by
  cases x with
  | tmp t => cases h; exact hs.env t
  | const v =>
    simp only [trSrc] at h
    split at h
    · cases h; rename_i hv; exact .imm _ _ (.val v (by rw [← oneCell_eq]; exact hv))
    · cases h
  | global g => cases h
  | func f => cases h; exact .clo f [] #[] rfl (fun j x u hx _ => by simp at hx)
theorem rep_val {v u : Value} (h : ARep num C (.imm (.val v)) u) : u = v := by
  cases h with | imm _ _ h => cases h with | val => rfl
theorem src_val (hs : SRep num C s a) {x : Operand} {y : Src} (h : trSrc num x = some y) {v : Value} (hv : s.env.ev y = .imm (.val v)) : a.eval x = v := by
  have := src_rep hs h
  rw [hv] at this
  exact rep_val this
theorem rep_int {x : AV} {u : Value} (h : ARep num C x u) {i : Int} (hi : intOf x = some i) : ∃ k, u = .int k i ∧ x = .imm (.val (.int k i)) := by
  unfold intOf at hi
  split at hi
  · rename_i k j
    cases hi
    exact ⟨k, rep_val h, rfl⟩
  · cases hi
theorem known_some {t : TypeId} (h : known P t = true) : ∃ i d, P.info? t = some i ∧ P.underlying t = some d ∧ P.cellsOf t = i.size ∧ P.bytesOf t = i.bytes := by
  unfold known at h
  simp only [Bool.and_eq_true, Option.isSome_iff_exists] at h
  obtain ⟨⟨i, hi⟩, d, hd⟩ := h
  exact ⟨i, d, hi, hd, by simp [Program.cellsOf, hi], by simp [Program.bytesOf, hi]⟩
theorem run_sizeOf' {t : TypeId} {i : TypeInfo} (h : P.info? t = some i) (w : World) : (sizeOf t).run P w = .ok i.size w := by simp [sizeOf, typeInfo, h]
theorem run_isAgg' {t : TypeId} {d : TypeDesc} (h : P.underlying t = some d) (w : World) : (isAgg t).run P w = .ok (aggOf P t).isSome w := by
  simp only [isAgg, aggOf, h, Sem.run_bind, run_underlying h, Result.andThen_ok]
  cases d <;> rfl
theorem rep_cells {x : AV} {v : Value} (h : ARep num C x v) {cs : List AV} (hc : x.cells = some cs) :
    cs.length = v.cells.size ∧ (∀ (j : Nat) u, v.cells[j]? = some u → u.oneCell' = true) ∧ ∀ (j : Nat) y u, cs[j]? = some y → v.cells[j]? = some u → ARep num C y u := by
  have one : ∀ (y : AV) (u : Value), u.cells = #[u] → u.oneCell' = true → ARep num C y u → [y].length = u.cells.size ∧ (∀ (j : Nat) u', u.cells[j]? = some u' → u'.oneCell' = true) ∧ ∀ (j : Nat) z u', [y][j]? = some z → u.cells[j]? = some u' → ARep num C z u' := by
    intro y u hu h1 hr
    rw [hu]
    refine ⟨rfl, fun j u' hj => ?_, fun j z u' hz hj => ?_⟩
    · cases j with
      | zero => simp at hj; subst hj; exact h1
      | succ j => simp at hj
    · cases j with
      | zero => simp at hj hz; subst hj hz; exact hr
      | succ j => simp at hj
  cases h with
  | imm y u h =>
    cases hc
    have h1 := h.one
    exact one _ _ (by cases v <;> first | rfl | cases h1) h1 (.imm y v h)
  | osl id off sz len cap c a arr e hid hl hk ha hw hs => cases hc; exact one _ _ rfl rfl (.osl id off sz len cap c a arr e hid hl hk ha hw hs)
  | optr id off hid => cases hc; exact one _ _ rfl rfl (.optr id off hid)
  | clo f caps vs hl h => cases hc; exact one _ _ rfl rfl (.clo f caps vs hl h)
  | omap id hid => cases hc; exact one _ _ rfl rfl (.omap id hid)
  | yld id hid => cases hc; exact one _ _ rfl rfl (.yld id hid)
  | seat id off n e hid hw hb => cases hc; exact one _ _ rfl rfl (.seat id off n e hid hw hb)
  | agg cells vs hl h1 h => cases hc; exact ⟨hl, h1, h⟩
  | tup xs vs hl h => cases hc
  | junk v => cases hc
theorem y_mv (hs : SRep num C s a) {x : Operand} {y : Src} (h : trSrc num x = some y) : Yields num P (.move x) ty pos after a C s (s.env.ev y) s :=
  yields_pure hs (fun _ _ => rfl) (src_rep hs h)
theorem y_assign (hs : SRep num C s a) {x : Operand} {y : Src} (h : trSrc num x = some y) : Yields num P (.assign x) ty pos after a C s (s.env.ev y) s :=
  yields_pure hs (fun _ _ => rfl) (src_rep hs h)
theorem y_pick (hs : SRep num C s a) {x y z : Operand} {x' y' z' : Src} (hx : trSrc num x = some x') (hy : trSrc num y = some y') (hz : trSrc num z = some z') {t : Bool} (ht : s.env.ev x' = .imm (.val (.bool t))) :
    Yields num P (.pick x y z) ty pos after a C s (if t then s.env.ev y' else s.env.ev z') s := by
  have h1 := src_val hs hx ht
  refine yields_pure (v := if t then a.eval y else a.eval z) hs (fun _ _ => ?_) ?_
  · simp [execOp, h1, asBool]
  · cases t
    · exact src_rep hs hz
    · exact src_rep hs hy
theorem run_equalIn_bool (d : Nat) {t : TypeId} (ht : P.underlying t = some .bool) (x y : Bool) (w : World) : (Op.equalIn (d + 1) t (.bool x) (.bool y)).run P w = .ok (x == y) w := by
  simp only [Op.equalIn, Sem.run_bind, run_underlying ht, Result.andThen_ok, Sem.run_pure]
theorem run_equal_bool {t : TypeId} (ht : P.underlying t = some .bool) (x y : Bool) (w : World) : (Op.equal t (.bool x) (.bool y)).run P w = .ok (x == y) w :=
  run_equalIn_bool 9999 ht x y w
theorem run_valBin {op : BinOp} {t : TypeId} {x y v : Value} (h : valBin op x y = some v) (w : World) : (binOp op t x y).run P w = .ok v w := by
  unfold valBin at h
  split at h
  · rename_i k a j b
    split at h
    · simp only [shiftBin] at h
      split at h
      · cases h
      · rename_i hb
        cases h
        simp [binOp, Op.shift, hb]
    · simp only [shiftBin] at h
      split at h
      · cases h
      · rename_i hb
        cases h
        simp [binOp, Op.shift, hb]
    · split at h
      · rename_i hk
        subst hk
        cases op <;> simp only [intBin] at h <;> first
          | (cases h; done)
          | (obtain rfl := Option.some.inj h; simp [binOp, Op.intArith, Op.intBits, Op.intCmp]; done)
          | (split at h <;> first | (cases h; done) | (rename_i hb; obtain rfl := Option.some.inj h; simp [binOp, Op.intDiv, hb]; done))
          | simp_all
      · cases h
  · rename_i a b
    cases op <;> simp only [strBin] at h <;> first
      | (cases h; done)
      | (obtain rfl := Option.some.inj h; simp [binOp, Op.stringOp]; done)
      | (split at h
         · rename_i hb
           obtain rfl := Option.some.inj h
           have : ¬ (((a.size + b.size : Nat) : Int) > IntKind.i64.max) := by simp [IntKind.max, IntKind.signed, IntKind.bits]; omega
           simp only [binOp, Op.stringOp]
           rw [if_neg this]
           rfl
         · cases h)
  · cases h
theorem run_boolBin {op : BinOp} {t : TypeId} {x y v : Value} (h : boolBin op x y = some v) (w : World) (ht : P.underlying t = some .bool) : (binOp op t x y).run P w = .ok v w := by
  unfold boolBin at h
  split at h
  · split at h
    · cases h
      simp [binOp, run_equal_bool ht]
    · cases h
      simp [binOp, run_equal_bool ht]
    · cases h
  · cases h
theorem run_eqGuard_plain {op : BinOp} {t : TypeId} {x y : Operand} {u v : Value} (hu : u.oneCell' = true) (h : u ≠ .nilIface) (w : World) : (eqGuard op t x y u v).run P w = .ok () w := by
  unfold eqGuard
  cases op <;> cases u <;> first | rfl | (cases hu; done) | (exact absurd rfl h) | (cases v <;> rfl)
theorem y_bin (hs : SRep num C s a) {op : BinOp} {t yt : TypeId} {x y : Operand} {x' y' : Src} (hx : trSrc num x = some x') (hy : trSrc num y = some y')
    {u v r : Value} (hu : s.env.ev x' = .imm (.val u)) (hv : s.env.ev y' = .imm (.val v)) (hr : valBin op u v = some r) :
    Yields num P (.binOp op t x y yt) ty pos after a C s (.imm (.val r)) s := by
  have h1 := src_val hs hx hu
  have h2 := src_val hs hy hv
  have hone : u.oneCell' = true ∧ u ≠ .nilIface ∧ r.oneCell' = true := by
    unfold valBin at hr
    split at hr
    · refine ⟨rfl, by simp, ?_⟩
      split at hr
      · simp only [shiftBin] at hr; split at hr <;> cases hr; rfl
      · simp only [shiftBin] at hr; split at hr <;> cases hr; rfl
      · split at hr
        · unfold intBin at hr
          split at hr <;> first | (cases hr; done) | (cases hr; rfl) | (split at hr <;> cases hr; rfl)
        · cases hr
    · refine ⟨rfl, by simp, ?_⟩
      unfold strBin at hr
      split at hr <;> first | (cases hr; done) | (cases hr; rfl) | (split at hr <;> cases hr; rfl)
    · cases hr
  refine yields_pure (v := r) hs (fun _ _ => ?_) (.imm _ _ (.val r hone.2.2))
  simp only [execOp, h1, h2, Sem.run_bind, run_eqGuard_plain hone.1 hone.2.1, Result.andThen_ok]
  rw [run_valBin hr C.w]
  rfl
theorem y_binB (hs : SRep num C s a) {op : BinOp} {t yt : TypeId} {x y : Operand} {x' y' : Src} (hx : trSrc num x = some x') (hy : trSrc num y = some y')
    (ht : P.underlying t = some .bool) {u v r : Value} (hu : s.env.ev x' = .imm (.val u)) (hv : s.env.ev y' = .imm (.val v)) (hr : boolBin op u v = some r) :
    Yields num P (.binOp op t x y yt) ty pos after a C s (.imm (.val r)) s := by
  have h1 := src_val hs hx hu
  have h2 := src_val hs hy hv
  have hone : u.oneCell' = true ∧ u ≠ .nilIface ∧ r.oneCell' = true := by
    unfold boolBin at hr
    split at hr
    · refine ⟨rfl, by simp, ?_⟩
      split at hr <;> cases hr <;> rfl
    · cases hr
  refine yields_pure (v := r) hs (fun _ _ => ?_) (.imm _ _ (.val r hone.2.2))
  simp only [execOp, h1, h2, Sem.run_bind, run_eqGuard_plain hone.1 hone.2.1, Result.andThen_ok]
  rw [run_boolBin hr C.w ht]
  rfl
theorem y_un (hs : SRep num C s a) {op : UnOp} {t : TypeId} {x : Operand} {x' : Src} (hx : trSrc num x = some x') {u r : Value} (hu : s.env.ev x' = .imm (.val u)) (hr : valUn op u = some r) :
    Yields num P (.unOp op t x) ty pos after a C s (.imm (.val r)) s := by
  have h1 := src_val hs hx hu
  have h2 : (Op.unary op u).run P C.w = .ok r C.w ∧ r.oneCell' = true := by
    unfold valUn at hr
    split at hr <;> first | (cases hr; done) | (cases hr; exact ⟨by simp [Op.unary, Op.intArith, Op.intBits], rfl⟩)
  refine yields_pure (v := r) hs (fun _ _ => ?_) (.imm _ _ (.val r h2.2))
  simp only [execOp, h1, Sem.run_bind, h2.1, Result.andThen_ok]
  rfl
theorem y_conv (hs : SRep num C s a) {src dst : TypeId} {j k : IntKind} {x : Operand} {x' : Src} (hx : trSrc num x = some x') (h1 : P.underlying src = some (.int j)) (h2 : P.underlying dst = some (.int k)) {i : Int} (hi : intOf (s.env.ev x') = some i) :
    Yields num P (.convert src dst x) ty pos after a C s (.imm (.val (.int k (k.wrap i)))) s := by
  obtain ⟨kk, hu, _⟩ := rep_int (src_rep hs hx) hi
  refine yields_pure (v := .int k (k.wrap i)) hs (fun _ _ => ?_) (.imm _ _ (.val _ rfl))
  simp [execOp, hu, convert, run_underlying h1, run_underlying h2, Conv.intToInt]
theorem y_convS (hs : SRep num C s a) {src dst : TypeId} {x : Operand} {x' : Src} (hx : trSrc num x = some x') (h1 : P.underlying src = some .string) (h2 : P.underlying dst = some .string) {b : ByteArray} (hb : s.env.ev x' = .imm (.val (.string b))) :
    Yields num P (.convert src dst x) ty pos after a C s (.imm (.val (.string b))) s := by
  have hu := src_val hs hx hb
  refine yields_pure (v := .string b) hs (fun _ _ => ?_) (.imm _ _ (.val _ rfl))
  simp [execOp, hu, convert, run_underlying h1, run_underlying h2]
theorem y_extract (hs : SRep num C s a) {x : Operand} {x' : Src} {i : Nat} (hx : trSrc num x = some x') {vs : List AV} (hv : s.env.ev x' = .tup vs) {y : AV} (hy : vs[i]? = some y) :
    Yields num P (.extract x i) ty pos after a C s y s := by
  have h1 := src_rep hs hx
  rw [hv] at h1
  generalize hu : a.eval x = u at h1
  cases h1 with
  | tup _ us hl h =>
    have hi : i < us.size := by rw [← hl]; exact (List.getElem?_eq_some_iff.1 hy).1
    refine yields_pure (v := us[i]) hs (fun _ _ => ?_) (h i y _ hy (by simp [hi]))
    simp [execOp, hu, Instr.extract, hi]
theorem y_fieldA (hs : SRep num C s a) {t : TypeId} {fs : Array Field} {f : Nat} {fd : Field} {x : Operand} {x' : Src} (hx : trSrc num x = some x') (ht : P.underlying t = some (.struct fs)) (hf : fs[f]? = some fd)
    (hk : known P fd.type = true) (h0 : 0 < P.cellsOf fd.type) {y : AV} (hy : (match s.env.ev x' with | .imm (.ptr row o) => some (AV.imm (.ptr row (o + fd.offset))) | .optr id o => some (.optr id (o + fd.offset)) | _ => none) = some y) :
    Yields num P (.fieldAddr t x f) ty pos after a C s y s := by
  obtain ⟨i, d, hi, hd, hsz, _⟩ := known_some hk
  have h1 := src_rep hs hx
  generalize hu : a.eval x = u at h1
  have hne : ¬ (i.size = 0) := by omega
  have run : ∀ b o, u = .pointer (some ⟨b, o, none⟩) → ∀ dst g, (execOp a.eval ⟨dst, .fieldAddr t x f, ty, pos, after, g⟩).run P C.w = .ok (.value (.pointer (some ⟨b, o + fd.offset, none⟩))) C.w := by
    intro b o hb dst g
    simp [execOp, hu, hb, Instr.fieldAt, run_underlying ht, hf, Instr.sureAddr, fieldPlace, run_sizeOf' hi, hne, addr_add]
  split at hy
  · rename_i row o heq
    cases hy
    rw [heq] at h1
    cases h1 with
    | imm _ _ h => cases h with
      | ptr _ _ b o' u' hb hc hu' =>
        refine yields_pure hs (run b (o' + o) rfl) ?_
        rw [Nat.add_assoc]
        exact .imm _ _ (.ptr row (o + fd.offset) b o' u' hb hc hu')
  · rename_i id o heq
    cases hy
    rw [heq] at h1
    cases h1 with
    | optr _ _ hid => exact yields_pure hs (run (C.σ id) o rfl) (.optr id _ hid)
  · cases hy
theorem y_idxA (hs : SRep num C s a) {t e : TypeId} {x i : Operand} {x' i' : Src} (hx : trSrc num x = some x') (hi : trSrc num i = some i') (ht : P.underlying t = some (.slice e)) (hk : known P e = true)
    {n : Int} (hn : intOf (s.env.ev i') = some n) {y : AV} (hy : (match s.env.ev x' with | .imm (.slice row off len _) => if 0 ≤ n ∧ n < len then some (AV.imm (.ptr row (off + n.toNat * P.cellsOf e))) else none | .osl id off _ len _ => if 0 ≤ n ∧ n < len then some (.optr id (off + n.toNat * P.cellsOf e)) else none | _ => none) = some y) :
    Yields num P (.indexAddr t x i) ty pos after a C s y s := by
  obtain ⟨inf, d, hinf, hd, hsz, _⟩ := known_some hk
  obtain ⟨kk, hie, _⟩ := rep_int (src_rep hs hi) hn
  have h1 := src_rep hs hx
  generalize hu : a.eval x = u at h1
  have run : ∀ b o len c, u = .slice (some ⟨b, o, none⟩) len c → 0 ≤ n → n < len → ∀ dst g, (execOp a.eval ⟨dst, .indexAddr t x i, ty, pos, after, g⟩).run P C.w = .ok (.value (.pointer (some ⟨b, o + n.toNat * P.cellsOf e, none⟩))) C.w := by
    intro b o len c hb h0 h2 dst g
    simp [execOp, hu, hb, hie, Instr.indexAt, asIntOf, run_underlying ht, run_sizeOf' hinf, h0, h2, addr_add, hsz]
  split at hy
  · rename_i row off len cap heq
    split at hy
    · rename_i hb
      cases hy
      rw [heq] at h1
      cases h1 with
      | imm _ _ h => cases h with
        | slice _ _ _ _ b o c ad u' hI hc hu' hl hk' ha =>
          rcases ha with rfl | rfl
          · refine yields_pure hs (run b (o + off) len c rfl hb.1 hb.2) ?_
            rw [Nat.add_assoc]
            exact .imm _ _ (.ptr row _ b o u' hI hc hu')
          · omega
        | vac => omega
    · cases hy
  · rename_i id off sz len cap heq
    split at hy
    · rename_i hb
      cases hy
      rw [heq] at h1
      cases h1 with
      | osl _ _ _ _ _ c ad arr e' hid hl hk' ha hw hs' =>
        rcases ha with rfl | rfl
        · exact yields_pure hs (run (C.σ id) ad len c rfl hb.1 hb.2) (.optr id _ hid)
        · omega
    · cases hy
  · cases hy
theorem y_idxS (hs : SRep num C s a) {t : TypeId} {x i : Operand} {x' i' : Src} (hx : trSrc num x = some x') (hi : trSrc num i = some i') (ht : P.underlying t = some .string)
    {n : Int} (hn : intOf (s.env.ev i') = some n) {b : ByteArray} (hb : s.env.ev x' = .imm (.val (.string b))) (h0 : 0 ≤ n) {c : UInt8} (hc : b[n.toNat]? = some c) :
    Yields num P (.index t x i) ty pos after a C s (.imm (.val (.int .u8 c.toNat))) s := by
  obtain ⟨kk, hie, _⟩ := rep_int (src_rep hs hi) hn
  have hu := src_val hs hx hb
  refine yields_pure (v := .int .u8 c.toNat) hs (fun _ _ => ?_) (.imm _ _ (.val _ rfl))
  simp [execOp, hu, hie, Instr.index, asIntOf, run_underlying ht, h0, hc]
theorem y_nilCheck (hs : SRep num C s a) {x : Operand} {x' : Src} (hx : trSrc num x = some x') (hn : isNil (s.env.ev x') = some false) : Yields num P (.nilCheck x) ty pos after a C s (s.env.ev x') s := by
  have h1 := src_rep hs hx
  refine yields_pure (v := a.eval x) hs (fun _ _ => ?_) h1
  generalize hu : a.eval x = u at h1
  generalize s.env.ev x' = y at h1 hn
  cases h1 with
  | imm z _ h =>
    cases h with
    | val v hv => simp only [isNil] at hn; split at hn <;> simp_all
    | slice => simp [execOp, hu]
    | vac => simp [execOp, hu]
    | ptr => simp [execOp, hu]
  | osl => simp [execOp, hu]
  | optr => simp [execOp, hu]
  | clo => simp [execOp, hu]
  | omap => simp [execOp, hu]
  | yld => simp [isNil] at hn
  | seat => simp [isNil] at hn
  | agg => simp [isNil] at hn
  | tup => simp [isNil] at hn
  | junk => simp [isNil] at hn
theorem y_lenS (hs : SRep num C s a) {t : TypeId} {x : Operand} {x' : Src} (hx : trSrc num x = some x') (ht : P.underlying t = some .string) {b : ByteArray} (hb : s.env.ev x' = .imm (.val (.string b))) :
    Yields num P (.call { callee := .builtin .len, args := #[x], argTypes := #[t] }) ty pos after a C s (.imm (.val (.int .i64 (b.size : Int)))) s := by
  have hu := src_val hs hx hb
  refine yields_pure (v := .int .i64 (b.size : Int)) hs (fun _ _ => ?_) (.imm _ _ (.val _ rfl))
  simp [execOp, resolve, invoke, builtin, hu, Builtin.len_, run_underlying ht, goInt]
theorem y_len (hs : SRep num C s a) {t e : TypeId} {x : Operand} {x' : Src} (hx : trSrc num x = some x') (he : P.underlying t = some (.slice e)) {n : Nat} (hn : lenOf (s.env.ev x') = some n) :
    Yields num P (.call { callee := .builtin .len, args := #[x], argTypes := #[t] }) ty pos after a C s (.imm (.val (.int .i64 (n : Int)))) s := by
  have h1 := src_rep hs hx
  refine yields_pure (v := .int .i64 (n : Int)) hs (fun _ _ => ?_) (.imm _ _ (.val _ rfl))
  generalize hu : a.eval x = u at h1
  generalize s.env.ev x' = y at h1 hn
  unfold lenOf at hn
  split at hn
  · cases hn
    have := rep_val h1
    subst this
    simp [execOp, resolve, invoke, builtin, hu, Builtin.len_, run_underlying he, goInt]
  · cases hn
    cases h1 with | imm _ _ h => cases h with
      | slice => simp [execOp, resolve, invoke, builtin, hu, Builtin.len_, run_underlying he, goInt]
      | vac => simp [execOp, resolve, invoke, builtin, hu, Builtin.len_, run_underlying he, goInt]
  · cases hn
    cases h1 with
      | osl => simp [execOp, resolve, invoke, builtin, hu, Builtin.len_, run_underlying he, goInt]
  · cases hn
theorem y_cap (hs : SRep num C s a) {t e : TypeId} {x : Operand} {x' : Src} (hx : trSrc num x = some x') (he : P.underlying t = some (.slice e)) {n : Nat} (hn : capOf (s.env.ev x') = some n) :
    Yields num P (.call { callee := .builtin .cap, args := #[x], argTypes := #[t] }) ty pos after a C s (.imm (.val (.int .i64 n))) s := by
  have h1 := src_rep hs hx
  refine yields_pure (v := .int .i64 n) hs (fun _ _ => ?_) (.imm _ _ (.val _ rfl))
  generalize hu : a.eval x = u at h1
  generalize s.env.ev x' = y at h1 hn
  unfold capOf at hn
  split at hn
  · cases hn
    have := rep_val h1
    subst this
    simp [execOp, resolve, invoke, builtin, hu, Builtin.cap_, run_underlying he, goInt]
  · subst hn
    cases h1 with | imm _ _ h => cases h with
      | slice _ _ _ _ b o c ad u' hI hc hu' hl hk' ha => simp [execOp, resolve, invoke, builtin, hu, Builtin.cap_, run_underlying he, goInt, hk' n rfl]
      | vac => simp [execOp, resolve, invoke, builtin, hu, Builtin.cap_, run_underlying he, goInt]
  · subst hn
    cases h1 with
      | osl _ _ _ _ _ c ad arr e' hid hl hk' ha hw hs' => simp [execOp, resolve, invoke, builtin, hu, Builtin.cap_, run_underlying he, goInt, hk' n rfl]
  · cases hn
end
end Go.EX


set_option linter.unusedVariables false
set_option linter.unusedSimpArgs false
namespace Go.EX
section
variable {num : Names} {P : Program}
variable {ty : TypeId} {pos : String} {after : Array Edge} {a : Act} {C : Cx} {s : St}
def Found (num : Names) (P : Program) (C : Cx) (ad : Addr) (x : AV) : Option Nat → Prop
  | none => ∃ u, C.w.cell? ad = some u ∧ ARep num C x u
  | some n => ∃ vs : Array Value, (loadCells ad n).run P C.w = .ok vs C.w ∧ ARep num C x (.agg vs)
theorem getCells_rep {l : List AV} {b o off : Nat} {agg : Option Nat} {x : AV} (h : CellsAt num C b o l) (hx : getCells agg l off = some x) : Found num P C ⟨b, o + off, none⟩ x agg := by
  cases agg with
  | none =>
    obtain ⟨u, h1, _, h3⟩ := h off x hx
    exact ⟨u, h1, h3⟩
  | some n =>
    simp only [getCells] at hx
    cases hc : cut l off n with
    | none => simp [hc] at hx
    | some r =>
      simp [hc] at hx
      subst hx
      obtain ⟨vs, h1, h2, h3, h4⟩ := load_cells (P := P) h hc
      exact ⟨vs, h1, .agg r vs (by rw [cut_length hc, h2]) h3 h4⟩
theorem run_loadVar {t : TypeId} (hk : known P t = true) {m : Mem} (hm : MRep num C m) {p x : AV} {v : Value} (hp : ARep num C p v) (hx : loadAt m (aggOf P t) p = some x) :
    ∃ b o u, v = .pointer (some ⟨b, o, none⟩) ∧ (loadVar t ⟨b, o, none⟩).run P C.w = .ok u C.w ∧ ARep num C x u := by
  obtain ⟨i, d, hi, hd, hsz, _⟩ := known_some hk
  obtain ⟨b, o, off, l, rfl, hl, hg⟩ := ptr_cells hm hp hx
  have hgr := getCells_rep (P := P) hl hg
  have hag : (isAgg t).run P C.w = .ok (aggOf P t).isSome C.w := run_isAgg' hd C.w
  cases hagg : aggOf P t with
  | none =>
    rw [hagg] at hgr hag
    obtain ⟨u, h1, h2⟩ := hgr
    exact ⟨b, o + off, u, rfl, by simp [loadVar, hag, h1], h2⟩
  | some n =>
    have hn : n = P.cellsOf t := by
      unfold aggOf at hagg
      rw [hd] at hagg
      cases d <;> simp at hagg <;> exact hagg.symm
    rw [hagg] at hgr hag
    obtain ⟨vs, h1, h2⟩ := hgr
    refine ⟨b, o + off, .agg vs, rfl, ?_, h2⟩
    simp only [loadVar, Sem.run_bind, hag, Result.andThen_ok, Option.isSome_some, if_true, run_sizeOf' hi, Sem.run_map]
    rw [← hsz, ← hn, h1]
    rfl
theorem y_load (hs : SRep num C s a) {t : TypeId} {x : Operand} {x' : Src} (hk : known P t = true) (hx : trSrc num x = some x') {y : AV} (hy : loadAt s.mem (aggOf P t) (s.env.ev x') = some y) :
    Yields num P (.load t x) ty pos after a C s y s := by
  have h1 := src_rep hs hx
  obtain ⟨b, o, u, hv, h2, h3⟩ := run_loadVar hk hs.mem h1 hy
  refine yields_pure (v := u) hs (fun _ _ => ?_) h3
  simp [execOp, hv, Instr.loadAt, Instr.sureAddr, h2]
theorem y_field (hs : SRep num C s a) {t : TypeId} {fs : Array Field} {f : Nat} {fd : Field} {x : Operand} {x' : Src} (hx : trSrc num x = some x') (ht : P.underlying t = some (.struct fs)) (hf : fs[f]? = some fd)
    (hk : known P fd.type = true) {cs : List AV} (hc : s.env.ev x' = .agg cs) {y : AV} (hy : getCells (aggOf P fd.type) cs fd.offset = some y) :
    Yields num P (.field t x f) ty pos after a C s y s := by
  obtain ⟨i, d, hi, hd, hsz, _⟩ := known_some hk
  have h1 := src_rep hs hx
  rw [hc] at h1
  generalize hu : a.eval x = u at h1
  cases h1 with
  | agg _ vs hl hone h =>
    have hag : (isAgg fd.type).run P C.w = .ok (aggOf P fd.type).isSome C.w := run_isAgg' hd C.w
    cases hagg : aggOf P fd.type with
    | none =>
      rw [hagg] at hag hy
      simp only [getCells] at hy
      have hi' : fd.offset < vs.size := by rw [← hl]; exact (List.getElem?_eq_some_iff.1 hy).1
      refine yields_pure (v := vs[fd.offset]) hs (fun _ _ => ?_) (h _ y _ hy (by simp [hi']))
      simp [execOp, hu, Instr.field, run_underlying ht, hf, asAgg, part, hag, hi']
    | some n =>
      have hn : n = P.cellsOf fd.type := by
        unfold aggOf at hagg
        rw [hd] at hagg
        cases d <;> simp at hagg <;> exact hagg.symm
      rw [hagg] at hag hy
      simp only [getCells] at hy
      cases hc' : cut cs fd.offset n with
      | none => simp [hc'] at hy
      | some r =>
        simp [hc'] at hy
        subst hy
        have hrl := cut_length hc'
        have hb : n = 0 ∨ fd.offset + n ≤ cs.length := by
          rcases Nat.eq_zero_or_pos n with h0 | h0
          · exact .inl h0
          · right
            have h2 := cut_get hc' (n - 1) (by omega)
            rw [List.getElem?_eq_getElem (l := r) (i := n - 1) (by omega)] at h2
            have := (List.getElem?_eq_some_iff.1 h2).1
            omega
        have hex : ∀ j, j < n → (vs.extract fd.offset (fd.offset + n))[j]? = vs[fd.offset + j]? := by
          intro j hj
          rw [Array.getElem?_extract]
          rw [if_pos (by rcases hb with h0 | h0 <;> omega)]
        refine yields_pure (v := .agg (vs.extract fd.offset (fd.offset + n))) hs (fun _ _ => ?_) ?_
        · simp only [execOp, hu, Instr.field, Sem.run_bind, run_underlying ht, Result.andThen_ok, hf, asAgg, Sem.run_pure, part, hag, Option.isSome_some, if_true, run_sizeOf' hi]
          rw [← hsz, ← hn]
        · have hsize : (vs.extract fd.offset (fd.offset + n)).size = n := by
            rcases hb with rfl | hb
            · simp; omega
            · simp only [Array.size_extract]; omega
          refine .agg r _ (by rw [hrl, hsize]) ?_ ?_
          · intro j u hj
            have hj' : j < n := by rw [← hsize]; exact (Array.getElem?_eq_some_iff.1 hj).1
            rw [hex j hj'] at hj
            exact hone _ u hj
          · intro j y u hy' hj
            have hj' : j < n := by rw [← hsize]; exact (Array.getElem?_eq_some_iff.1 hj).1
            rw [hex j hj'] at hj
            exact h (fd.offset + j) y u (by rw [cut_get hc' j hj']; exact hy') hj
theorem run_equalIn_nil (n : Nat) {t : TypeId} {d : TypeDesc} (ht : P.underlying t = some d) {z : Value} {k : Nat} (hk : nilKind d (.const z) = some k) {x : AV} {v : Value} (hx : ARep num C x v) {b : Bool} (hb : isNilK k x = some b) (w : World) :
    (Op.equalIn (n + 1) t v z).run P w = .ok b w := by
  unfold nilKind at hk
  split at hk <;> cases hk
  all_goals (rename_i heq; cases heq)
  all_goals (unfold isNilK at hb; split at hb <;> first | (cases hb; done) | (rename_i h0; first | (cases h0; done) | skip))
  all_goals (cases hb)
  all_goals first
    | (have := rep_val hx; subst this; simp only [Op.equalIn, Sem.run_bind, run_underlying ht, Result.andThen_ok]; rfl)
    | (cases hx with | imm _ _ h => cases h <;> (simp only [Op.equalIn, Sem.run_bind, run_underlying ht, Result.andThen_ok]; rfl))
    | (cases hx <;> (simp only [Op.equalIn, Sem.run_bind, run_underlying ht, Result.andThen_ok]; rfl))
theorem nil_eqGuard {op : BinOp} {t : TypeId} {d : TypeDesc} {z : Value} {k : Nat} (hk : nilKind d (.const z) = some k) {x y : Operand} {v : Value} (w : World) : (eqGuard op t x y v z).run P w = .ok () w := by
  unfold nilKind at hk
  split at hk <;> cases hk
  all_goals (rename_i heq; cases heq)
  all_goals (unfold eqGuard; cases op <;> first | rfl | (cases v <;> rfl))
theorem y_eqNil (hs : SRep num C s a) {t yt : TypeId} {d : TypeDesc} {x y : Operand} {x' : Src} {neg : Bool} (hx : trSrc num x = some x') (ht : P.underlying t = some d) {k : Nat} (hk : nilKind d y = some k) {b : Bool} (hb : isNilK k (s.env.ev x') = some b) :
    Yields num P (.binOp (if neg then .neq else .eql) t x y yt) ty pos after a C s (.imm (.val (.bool (if neg then !b else b)))) s := by
  have h1 := src_rep hs hx
  obtain ⟨z, rfl⟩ : ∃ z, y = .const z := by
    unfold nilKind at hk
    split at hk <;> first | (cases hk; done) | exact ⟨_, rfl⟩
  have h2 := run_equalIn_nil (P := P) 9999 ht hk h1 hb C.w
  have h3 : (Op.equal t (a.eval x) z).run P C.w = .ok b C.w := h2
  have hb2 : ∀ op : BinOp, (op = .eql ∨ op = .neq) → (binOp op t (a.eval x) z).run P C.w = .ok (.bool (if op = .neq then !b else b)) C.w := by
    intro op hop
    have : ∀ v : Value, (∀ j n, z ≠ .int j n) → (∀ k' n', z ≠ .float k' n') → True := fun _ _ _ => trivial
    unfold nilKind at hk
    split at hk <;> cases hk
    all_goals (rename_i heq; cases heq)
    all_goals (rcases hop with rfl | rfl)
    all_goals (generalize a.eval x = v at h3 ⊢; cases v <;> simp [binOp, h3])
  refine yields_pure (v := .bool (if neg then !b else b)) hs (fun _ _ => ?_) (.imm _ _ (.val _ rfl))
  have hz : a.eval (.const z) = z := rfl
  cases neg
  · simp only [execOp, Sem.run_bind, hz, nil_eqGuard hk, Result.andThen_ok, Bool.false_eq_true, if_false]
    rw [hb2 .eql (.inl rfl)]
    simp
  · simp only [execOp, Sem.run_bind, hz, nil_eqGuard hk, Result.andThen_ok, if_true]
    rw [hb2 .neq (.inr rfl)]
    simp
theorem more_obj_rich {m : Mem} (hm : MRep num C m) {w1 : World} (hw1 : w1.heap = C.w.heap) {v : Value} {cs : List AV} (hl : cs.length = v.cells.size) (h1 : ∀ (j : Nat) u, v.cells[j]? = some u → u.oneCell' = true) (h : ∀ (j : Nat) y u, cs[j]? = some y → v.cells[j]? = some u → ARep num C y u) (e : TypeId) :
    ORep num (C.more w1 (.cells v.cells e (0, 0))) C.n (.rich cs) := by
  refine ⟨v.cells, e, ?_, fun j x hx => ?_⟩
  · simp only [Cx.more, if_true]
    rw [alloc_get, if_pos (by rw [hw1])]
  · have hj : j < v.cells.size := by rw [← hl]; exact (List.getElem?_eq_some_iff.1 hx).1
    have hu : v.cells[j]? = some v.cells[j] := by simp [hj]
    exact ⟨v.cells[j], hu, h1 j _ hu, (h j x _ hx hu).mono (more_tr hm hw1 _)⟩
theorem y_box (hs : SRep num C s a) {t : TypeId} {x : Operand} {x' : Src} (hx : trSrc num x = some x') {cs : List AV} (hc : (s.env.ev x').cells = some cs) :
    Yields num P (.box t x) ty pos after a C s (.optr s.mem.length 0) { s with mem := s.mem ++ [.rich cs] } := by
  have h1 := src_rep hs hx
  obtain ⟨hl, ho, hr⟩ := rep_cells h1 hc
  have hlen := hs.mem.len
  refine ⟨.pointer (some ⟨C.w.heap.size, 0, none⟩), C.more C.w (.cells (a.eval x).cells t (0, 0)), fun _ _ => .inl ?_, more_step hs.mem rfl rfl rfl rfl _ _ (more_obj_rich hs.mem rfl hl ho hr t) hs.k, hs.env.mono (more_tr hs.mem rfl _), ?_, rfl⟩
  · simp [execOp, Instr.box, newVar, newRow, Cx.more]
  · rw [hlen]
    have : C.w.heap.size = (C.more C.w (.cells (a.eval x).cells t (0, 0))).σ C.n := by simp [Cx.more]
    rw [this]
    exact .optr _ _ (by simp [Cx.more])
theorem y_alloc (hs : SRep num C s a) {t : TypeId} {zs : List Value} (hz : zeroCellsOf P t = some zs) (h1 : zs.all oneCellV = true) :
    Yields num P (.alloc t) ty pos after a C s (.optr s.mem.length 0) { s with mem := s.mem ++ [.rich (imZ zs)] } := by
  have hlen := hs.mem.len
  obtain ⟨i, z, hi, hzi, rfl⟩ : ∃ i z, P.info? t = some i ∧ i.zero = some z ∧ zs = z.cells.toList := by
    unfold zeroCellsOf at hz
    cases hi : P.info? t with
    | none => simp [hi] at hz
    | some i => cases hzi : i.zero with
      | none => simp [hi, hzi] at hz
      | some z => simp [hi, hzi] at hz; exact ⟨i, z, rfl, hzi, hz.symm⟩
  have hone : ∀ (j : Nat) u, z.cells[j]? = some u → u.oneCell' = true := by
    intro j u hu
    rw [← oneCell_eq]
    exact List.all_eq_true.1 h1 u (by rw [Array.mem_toList_iff]; exact Array.mem_of_getElem? hu)
  refine ⟨.pointer (some ⟨C.w.heap.size, 0, none⟩), C.more C.w (.cells z.cells t (0, 0)), fun _ _ => .inl ?_, more_step hs.mem rfl rfl rfl rfl _ _ (more_obj_rich hs.mem rfl (by simp [imZ]) hone ?_ t) hs.k, hs.env.mono (more_tr hs.mem rfl _), ?_, rfl⟩
  · simp [execOp, Instr.alloc, zeroValue, typeInfo, hi, hzi, newVar, newRow, Cx.more]
  · intro j y u hy hu
    simp only [imZ, List.getElem?_map, Array.getElem?_toList, hu, Option.map_some, Option.some.injEq] at hy
    subst hy
    exact .imm _ _ (.val u (hone j u hu))
  · rw [hlen]
    have : C.w.heap.size = (C.more C.w (.cells z.cells t (0, 0))).σ C.n := by simp [Cx.more]
    rw [this]
    exact .optr _ _ (by simp [Cx.more])
theorem more_obj_seat {m : Mem} (hm : MRep num C m) {w1 : World} (hw1 : w1.heap = C.w.heap) {v : Value} {cs : List AV} {off : Nat} (hl : cs.length = v.cells.size) (h1 : ∀ (j : Nat) u, v.cells[j]? = some u → u.oneCell' = true) (h : ∀ (j : Nat) y u, cs[j]? = some y → v.cells[j]? = some u → ARep num C y u) (e : TypeId)
    (hoff : v.cells[off]? = some (.pointer none)) (hB : num.B e v.cells.size off) :
    ORep num (C.more w1 (.cells v.cells e (0, 0))) C.n (.rich (cs.set off (.seat C.n off))) := by
  obtain ⟨arr, e', hw, hc⟩ := more_obj_rich hm hw1 hl h1 h e
  have hw0 : (C.more w1 (.cells v.cells e (0, 0))).w.heap[(C.more w1 (.cells v.cells e (0, 0))).σ C.n]? = some (.cells v.cells e (0, 0)) := by
    simp only [Cx.more, if_true]
    rw [alloc_get, if_pos (by rw [hw1])]
  rw [hw] at hw0
  obtain ⟨rfl, rfl⟩ : arr = v.cells ∧ e' = e := by simpa using hw0
  refine ⟨v.cells, e', hw, fun j x hx => ?_⟩
  rw [set_get] at hx
  split at hx
  · rename_i hj
    obtain ⟨rfl, hj⟩ := hj
    cases hx
    exact ⟨.pointer none, hoff, rfl, .seat _ _ v.cells.size e' (by simp [Cx.more]) (.of hw) hB⟩
  · exact hc j x hx
theorem seatOff_at {t : TypeId} {zs : List Value} {off : Nat} (h : seatOff P t zs = some off) : liesB P t zs.length off = true ∧ zs[off]? = some (.pointer none) := by
  unfold seatOff at h
  split at h
  · rename_i o ho
    split at h
    · rename_i hc
      cases h
      rw [Bool.and_eq_true] at hc
      refine ⟨hc.1, ?_⟩
      have h2 := hc.2
      cases hz : zs[off]? with
      | none => simp [hz] at h2
      | some z =>
        rw [hz] at h2
        simp only [Option.any_some] at h2
        split at h2
        · rfl
        · cases h2
    · cases h
  · cases h
theorem y_boxB (hB : ∀ e n off, liesB P e n off = true → num.B e n off) (hs : SRep num C s a) {t : TypeId} {zs : List Value} {x : Operand} {x' : Src} {off : Nat} (hx : trSrc num x = some x') {cs : List AV} (hc : (s.env.ev x').cells = some cs) (hoff : seatOff P t zs = some off) (hlen : cs.length = zs.length)
    (hnil : cs[off]? = some (.imm (.val (.pointer none)))) :
    Yields num P (.box t x) ty pos after a C s (.optr s.mem.length 0) { s with mem := s.mem ++ [.rich (cs.set off (.seat s.mem.length off))] } := by
  have h1 := src_rep hs hx
  obtain ⟨hl, ho, hr⟩ := rep_cells h1 hc
  have hlen' := hs.mem.len
  obtain ⟨hlies, _⟩ := seatOff_at hoff
  have hv : (a.eval x).cells[off]? = some (.pointer none) := by
    have hlt : off < (a.eval x).cells.size := by rw [← hl]; exact (List.getElem?_eq_some_iff.1 hnil).1
    have hq := hr off _ _ hnil (Array.getElem?_eq_getElem hlt)
    rw [Array.getElem?_eq_getElem hlt, rep_val hq]
  have hb : num.B t (a.eval x).cells.size off := hB _ _ _ (by rw [← hl, hlen]; exact hlies)
  rw [hlen']
  refine ⟨.pointer (some ⟨C.w.heap.size, 0, none⟩), C.more C.w (.cells (a.eval x).cells t (0, 0)), fun _ _ => .inl ?_, more_step hs.mem rfl rfl rfl rfl _ _ (more_obj_seat hs.mem rfl hl ho hr t hv hb) hs.k, hs.env.mono (more_tr hs.mem rfl _), ?_, rfl⟩
  · simp [execOp, Instr.box, newVar, newRow, Cx.more]
  · have : C.w.heap.size = (C.more C.w (.cells (a.eval x).cells t (0, 0))).σ C.n := by simp [Cx.more]
    rw [this]
    exact .optr _ _ (by simp [Cx.more])
theorem y_allocB (hB : ∀ e n off, liesB P e n off = true → num.B e n off) (hs : SRep num C s a) {t : TypeId} {zs : List Value} {off : Nat} (hz : zeroCellsOf P t = some zs) (h1 : zs.all oneCellV = true) (hoff : seatOff P t zs = some off) :
    Yields num P (.alloc t) ty pos after a C s (.optr s.mem.length 0) { s with mem := s.mem ++ [.rich ((imZ zs).set off (.seat s.mem.length off))] } := by
  have hlen := hs.mem.len
  obtain ⟨hlies, hat⟩ := seatOff_at hoff
  obtain ⟨i, z, hi, hzi, rfl⟩ : ∃ i z, P.info? t = some i ∧ i.zero = some z ∧ zs = z.cells.toList := by
    unfold zeroCellsOf at hz
    cases hi : P.info? t with
    | none => simp [hi] at hz
    | some i => cases hzi : i.zero with
      | none => simp [hi, hzi] at hz
      | some z => simp [hi, hzi] at hz; exact ⟨i, z, rfl, hzi, hz.symm⟩
  have hone : ∀ (j : Nat) u, z.cells[j]? = some u → u.oneCell' = true := by
    intro j u hu
    rw [← oneCell_eq]
    exact List.all_eq_true.1 h1 u (by rw [Array.mem_toList_iff]; exact Array.mem_of_getElem? hu)
  have hb : num.B t z.cells.size off := hB _ _ _ (by simpa using hlies)
  rw [hlen]
  refine ⟨.pointer (some ⟨C.w.heap.size, 0, none⟩), C.more C.w (.cells z.cells t (0, 0)), fun _ _ => .inl ?_, more_step hs.mem rfl rfl rfl rfl _ _ (more_obj_seat hs.mem rfl (by simp [imZ]) hone ?_ t (by simpa using hat) hb) hs.k, hs.env.mono (more_tr hs.mem rfl _), ?_, rfl⟩
  · simp [execOp, Instr.alloc, zeroValue, typeInfo, hi, hzi, newVar, newRow, Cx.more]
  · intro j y u hy hu
    simp only [imZ, List.getElem?_map, Array.getElem?_toList, hu, Option.map_some, Option.some.injEq] at hy
    subst hy
    exact .imm _ _ (.val u (hone j u hu))
  · have : C.w.heap.size = (C.more C.w (.cells z.cells t (0, 0))).σ C.n := by simp [Cx.more]
    rw [this]
    exact .optr _ _ (by simp [Cx.more])
theorem setAll_length {α : Type} : ∀ (xs l : List α) (off : Nat), (setAll l off xs).length = l.length
  | [], l, off => rfl
  | x :: xs, l, off => by simp [setAll, setAll_length xs]
theorem setAll_get {α : Type} : ∀ (xs l : List α) (off j : Nat), (setAll l off xs)[j]? = if off ≤ j ∧ j < off + xs.length ∧ j < l.length then xs[j - off]? else l[j]?
  | [], l, off, j => by simp only [setAll, List.length_nil, Nat.add_zero]; rw [if_neg (by omega)]
  | x :: xs, l, off, j => by
    simp only [setAll]
    rw [setAll_get xs (l.set off x) (off + 1) j]
    simp only [List.length_set, List.length_cons]
    by_cases h : off + 1 ≤ j ∧ j < off + 1 + xs.length ∧ j < l.length
    · rw [if_pos h, if_pos (by omega)]
      obtain ⟨k, hk⟩ : ∃ k, j - off = k + 1 := ⟨j - off - 1, by omega⟩
      rw [hk, List.getElem?_cons_succ]
      congr 1
      omega
    · rw [if_neg h, set_get]
      by_cases h2 : off = j ∧ j < l.length
      · obtain ⟨rfl, h3⟩ := h2
        rw [if_pos ⟨rfl, h3⟩, if_pos (by omega)]
        simp
      · rw [if_neg h2, if_neg (by omega)]
theorem splice_get (arr : Array Value) (off : Nat) (us : List Value) (h : off + us.length ≤ arr.size) (j : Nat) :
    (arr.toList.take off ++ us ++ arr.toList.drop (off + us.length)).toArray[j]? = if off ≤ j ∧ j < off + us.length then us[j - off]? else arr[j]? := by
  rw [List.getElem?_toArray]
  have hl : (arr.toList.take off).length = off := by simp; omega
  rw [List.append_assoc]
  rcases Nat.lt_or_ge j off with h1 | h1
  · rw [List.getElem?_append_left (by omega), if_neg (by omega), List.getElem?_take_of_lt h1]; simp
  · rw [List.getElem?_append_right (by omega), hl]
    rcases Nat.lt_or_ge j (off + us.length) with h2 | h2
    · rw [List.getElem?_append_left (by omega), if_pos ⟨h1, h2⟩]
    · rw [List.getElem?_append_right (by omega), if_neg (by omega), List.getElem?_drop]
      simp
      congr 1
      omega
theorem splice_size (arr : Array Value) (off : Nat) (us : List Value) (h : off + us.length ≤ arr.size) :
    (arr.toList.take off ++ us ++ arr.toList.drop (off + us.length)).toArray.size = arr.size := by
  simp; omega
theorem imms_get : ∀ (cs : List AV) (xs : List IV), imms cs = some xs → cs = xs.map .imm
  | [], xs, h => by cases h; rfl
  | x :: r, xs, h => by
    cases x with
    | imm y =>
      simp only [imms] at h
      cases hr : imms r with
      | none => simp [hr] at h
      | some l => simp [hr] at h; subst h; simp [imms_get r l hr]
    | _ => simp [imms] at h
theorem store_step {m m' : Mem} (hm : MRep num C m) {p : AV} {v : Value} (hp : ARep num C p v) {cs : List AV} {us : List Value} (hl : cs.length = us.length) (h1 : ∀ u ∈ us, u.oneCell' = true)
    (hu : ∀ (j : Nat) y u, cs[j]? = some y → us[j]? = some u → ARep num C y u) (h : storeAt m p cs = some m') {k : Nat} (hk : k ≤ m.length) :
    ∃ b o w', v = .pointer (some ⟨b, o, none⟩) ∧ (storeCells ⟨b, o, none⟩ us).run P C.w = .ok () w' ∧ Step num k C m { C with w := w' } m' ∧ Tr some C { C with w := w' } := by
  unfold storeAt at h
  split at h
  · rename_i id off
    cases hp with
    | optr _ _ hid =>
      split at h
      · rename_i cl mv ho
        split at h
        · rename_i xs hxs
          split at h
          · rename_i hb
            cases h
            have hcx := imms_get cs xs hxs
            have hxl : xs.length = us.length := by rw [← hl, hcx]; simp
            obtain ⟨arr, e, hw, hc⟩ := hm.obj id _ ho
            have hcl : cl.length ≤ arr.size := by
              rcases Nat.eq_zero_or_pos cl.length with h0 | h0
              · omega
              · obtain ⟨u, hu', _⟩ := hc (cl.length - 1) cl[cl.length - 1] (by rw [List.getElem?_eq_getElem (by omega)])
                have := (Array.getElem?_eq_some_iff.1 hu').1
                omega
            have hfit : off + us.length ≤ arr.size := by omega
            refine ⟨C.σ id, off, _, rfl, run_storeCells_at P (C.σ id) off e us 0 arr C.w hw (by simpa using hfit) h1, ?_, ?_⟩
            · simp only [Nat.add_zero]
              refine update_step (o' := .flat (setAll cl off xs) mv) hm ho rfl hw (splice_size arr off us hfit) rfl (fun hmv => hmv) ?_ hk
              have ht := update_tr hm ho rfl hw (splice_size arr off us hfit)
              refine ⟨_, e, by show (C.w.setRow _ _).heap[_]? = _; rw [setRow_get _ _ _ _ _ hw, if_pos rfl], fun j x hx => ?_⟩
              rw [setAll_get] at hx
              rw [splice_get arr off us hfit]
              split at hx
              · rename_i hj
                rw [if_pos (by omega)]
                have hj' : j - off < us.length := by omega
                refine ⟨us[j - off], by simp [hj'], ?_⟩
                have := hu (j - off) (.imm x) us[j - off] (by rw [hcx, List.getElem?_map, hx]; rfl) (by simp [hj'])
                cases this with | imm _ _ hr => exact hr.mono ht.imm ht.keep
              · rename_i hj
                have hj2 : j < cl.length := (List.getElem?_eq_some_iff.1 hx).1
                rw [if_neg (by omega)]
                obtain ⟨u, hu', hr⟩ := hc j x hx
                exact ⟨u, hu', hr.mono ht.imm ht.keep⟩
            · simp only [Nat.add_zero]
              exact update_tr hm ho rfl hw (splice_size arr off us hfit)
          · cases h
        · split at h
          · rename_i hb
            obtain ⟨rfl, hb⟩ := hb
            cases h
            obtain ⟨arr, e, hw, hc⟩ := hm.obj id _ ho
            have hcl : cl.length ≤ arr.size := by
              rcases Nat.eq_zero_or_pos cl.length with h0 | h0
              · omega
              · obtain ⟨u, hu', _⟩ := hc (cl.length - 1) cl[cl.length - 1] (by rw [List.getElem?_eq_getElem (by omega)])
                have := (Array.getElem?_eq_some_iff.1 hu').1
                omega
            have hfit : off + us.length ≤ arr.size := by omega
            refine ⟨C.σ id, off, _, rfl, run_storeCells_at P (C.σ id) off e us 0 arr C.w hw (by simpa using hfit) h1, ?_, ?_⟩
            · simp only [Nat.add_zero]
              refine update_step (o' := .rich (setAll (cl.map .imm) off cs)) hm ho rfl hw (splice_size arr off us hfit) rfl (fun hmv => hmv) ?_ hk
              have ht := update_tr hm ho rfl hw (splice_size arr off us hfit)
              refine ⟨_, e, by show (C.w.setRow _ _).heap[_]? = _; rw [setRow_get _ _ _ _ _ hw, if_pos rfl], fun j x hx => ?_⟩
              rw [setAll_get] at hx
              rw [splice_get arr off us hfit]
              split at hx
              · rename_i hj
                rw [if_pos (by omega)]
                have hj' : j - off < us.length := by omega
                refine ⟨us[j - off], by simp [hj'], h1 _ (by simp), ?_⟩
                exact (hu (j - off) x us[j - off] hx (by simp [hj'])).mono ht
              · rename_i hj
                have hj2 : j < cl.length := by simpa using (List.getElem?_eq_some_iff.1 hx).1
                rw [List.length_map] at hj
                rw [if_neg (by omega)]
                rw [List.getElem?_map] at hx
                cases hq : cl[j]? with
                | none => simp [hq] at hx
                | some y =>
                  simp [hq] at hx
                  subst hx
                  obtain ⟨u, hu', hr⟩ := hc j y hq
                  exact ⟨u, hu', hr.one, (ARep.imm y u hr).mono ht⟩
            · simp only [Nat.add_zero]
              exact update_tr hm ho rfl hw (splice_size arr off us hfit)
          · cases h
      · rename_i cl ho
        split at h
        · rename_i hb
          cases h
          obtain ⟨arr, e, hw, hc⟩ := hm.obj id _ ho
          have hcl : cl.length ≤ arr.size := by
            rcases Nat.eq_zero_or_pos cl.length with h0 | h0
            · omega
            · obtain ⟨u, hu', _⟩ := hc (cl.length - 1) cl[cl.length - 1] (by rw [List.getElem?_eq_getElem (by omega)])
              have := (Array.getElem?_eq_some_iff.1 hu').1
              omega
          have hfit : off + us.length ≤ arr.size := by omega
          refine ⟨C.σ id, off, _, rfl, run_storeCells_at P (C.σ id) off e us 0 arr C.w hw (by simpa using hfit) h1, ?_, ?_⟩
          · simp only [Nat.add_zero]
            refine update_step (o' := .rich (setAll cl off cs)) hm ho rfl hw (splice_size arr off us hfit) rfl (fun hmv => hmv) ?_ hk
            have ht := update_tr hm ho rfl hw (splice_size arr off us hfit)
            refine ⟨_, e, by show (C.w.setRow _ _).heap[_]? = _; rw [setRow_get _ _ _ _ _ hw, if_pos rfl], fun j x hx => ?_⟩
            rw [setAll_get] at hx
            rw [splice_get arr off us hfit]
            split at hx
            · rename_i hj
              rw [if_pos (by omega)]
              have hj' : j - off < us.length := by omega
              refine ⟨us[j - off], by simp [hj'], h1 _ (by simp), ?_⟩
              exact (hu (j - off) x us[j - off] hx (by simp [hj'])).mono ht
            · rename_i hj
              have hj2 : j < cl.length := (List.getElem?_eq_some_iff.1 hx).1
              rw [if_neg (by omega)]
              obtain ⟨u, hu', ho1, hr⟩ := hc j x hx
              exact ⟨u, hu', ho1, hr.mono ht⟩
          · simp only [Nat.add_zero]
            exact update_tr hm ho rfl hw (splice_size arr off us hfit)
        · cases h
      · cases h
  · cases h
theorem y_store (hs : SRep num C s a) {t : TypeId} {p x : Operand} {p' x' : Src} (hk : known P t = true) (hp : trSrc num p = some p') (hx : trSrc num x = some x') {cs : List AV} (hc : (s.env.ev x').cells = some cs) (hn : cs.length = P.cellsOf t)
    {m' : Mem} (h : storeAt s.mem (s.env.ev p') cs = some m') : Yields num P (.store t p x) ty pos after a C s .junk { s with mem := m' } := by
  obtain ⟨i, d, hi, hd, hsz, _⟩ := known_some hk
  obtain ⟨hl, ho, hr⟩ := rep_cells (src_rep hs hx) hc
  obtain ⟨b, o, w', hv, hrun, hst, htr⟩ := store_step (P := P) hs.mem (src_rep hs hp) (us := (a.eval x).cells.toList) (by simpa using hl)
    (fun u hu => by
      obtain ⟨j, hj⟩ := List.getElem?_of_mem hu
      exact ho j u (by simpa using hj)) (fun j y u hy hu => hr j y u hy (by simpa using hu)) h hs.k
  refine ⟨undef, { C with w := w' }, fun _ _ => .inr ⟨?_, rfl⟩, hst, hs.env.mono htr, .junk _, rfl⟩
  have hne : ¬ ((a.eval x).cells.size ≠ i.size) := by simp only [ne_eq, Decidable.not_not]; omega
  simp only [execOp, Instr.storeAt, Sem.run_bind, hv, Instr.sureAddr, Sem.run_pure, Result.andThen_ok, storeVar, run_sizeOf' hi]
  rw [if_neg hne]
  simp [hrun]
theorem y_mkClo (hs : SRep num C s a) {f : FuncId} {caps : Array Operand} {cs : List Src} (hc : caps.toList.mapM (trSrc num) = some cs) :
    Yields num P (.makeFunc (.func f) #[] caps) ty pos after a C s (.clo (num f) (cs.map s.env.ev)) s := by
  have key : ∀ (l : List Operand) (cs : List Src), l.mapM (trSrc num) = some cs → l.length = cs.length ∧ ∀ (j : Nat) (x : AV) u, (cs.map s.env.ev)[j]? = some x → (l.map a.eval)[j]? = some u → ARep num C x u := by
    intro l
    induction l with
    | nil => intro cs h; simp at h; subst h; exact ⟨rfl, fun j x u hx => by simp at hx⟩
    | cons y l ih =>
      intro cs h
      simp only [List.mapM_cons, Option.bind_eq_bind, Option.bind_eq_some_iff, Option.pure_def, Option.some.injEq] at h
      obtain ⟨y', hy, l', hl, rfl⟩ := h
      obtain ⟨h1, h2⟩ := ih l' hl
      refine ⟨by simp [h1], fun j x u hx hu => ?_⟩
      cases j with
      | zero => simp at hx hu; subst hx hu; exact src_rep hs hy
      | succ j => simp at hx hu; exact h2 j x u (by simpa using hx) (by simpa using hu)
  obtain ⟨h1, h2⟩ := key _ _ hc
  refine yields_pure (v := .func (.func f) #[] (caps.map a.eval)) hs (fun _ _ => by simp [execOp, Instr.makeFunc]) (.clo f _ _ (by simp [← h1]) fun j x u hx hu => h2 j x u hx ?_)
  simpa using hu
end
end Go.EX


set_option linter.unusedVariables false
set_option linter.unusedSimpArgs false
namespace Go.EX
section
variable {num : Names} {P : Program}
variable {ty : TypeId} {pos : String} {after : Array Edge} {a : Act} {C : Cx} {s : St}
theorem run_listMapM {α β : Type} (g : α → Sem β) (h : α → β) (w : World) : ∀ (l : List α), (∀ x ∈ l, (g x).run P w = .ok (h x) w) → (l.mapM g).run P w = .ok (l.map h) w
  | [], _ => rfl
  | x :: l, hx => by
    simp only [List.mapM_cons, Sem.run_bind, hx x (by simp), Result.andThen_ok, run_listMapM g h w l (fun y hy => hx y (by simp [hy])), Sem.run_pure, List.map_cons]
theorem run_arrayMapM {α β : Type} (g : α → Sem β) (h : α → β) (w : World) (l : Array α) (hx : ∀ x ∈ l, (g x).run P w = .ok (h x) w) : (l.mapM g).run P w = .ok (l.map h) w := by
  rw [Array.mapM_eq_mapM_toList]
  simp only [Sem.run_map, run_listMapM g h w l.toList (fun x hm => hx x (by simpa using hm)), Result.andThen_ok]
  congr 1
  apply Array.ext'
  simp
theorem foldl_set (off : Nat) : ∀ (l : List Value) (k : Nat) (cur : Array Value), ((l.zipIdx k).foldl (fun cs (p : Value × Nat) => cs.setIfInBounds (off + p.2) p.1) cur).toList = setAll cur.toList (off + k) l
  | [], k, cur => rfl
  | x :: l, k, cur => by
    simp only [List.zipIdx_cons, List.foldl_cons, setAll]
    rw [foldl_set off l (k + 1)]
    simp [Array.toList_setIfInBounds, Nat.add_assoc]
structure Stands (num : Names) (C : Cx) (cs : List AV) (vs : List Value) : Prop where
  len : cs.length = vs.length
  one : ∀ (j : Nat) u, vs[j]? = some u → u.oneCell' = true
  rep : ∀ (j : Nat) x u, cs[j]? = some x → vs[j]? = some u → ARep num C x u
theorem Stands.setAll {cs xs : List AV} {vs us : List Value} (h : Stands num C cs vs) (g : Stands num C xs us) (off : Nat) : Stands num C (setAll cs off xs) (setAll vs off us) := by
  refine ⟨by rw [setAll_length, setAll_length, h.len], fun j u hu => ?_, fun j x u hx hu => ?_⟩
  · rw [setAll_get] at hu
    split at hu
    · exact g.one _ u hu
    · exact h.one _ u hu
  · rw [setAll_get] at hu hx
    rw [h.len, g.len] at hx
    split at hu
    · rename_i hj
      rw [if_pos hj] at hx
      exact g.rep _ x u hx hu
    · rename_i hj
      rw [if_neg hj] at hx
      exact h.rep _ x u hx hu
theorem stands_cells {x : AV} {v : Value} (h : ARep num C x v) {cs : List AV} (hc : x.cells = some cs) : Stands num C cs v.cells.toList := by
  obtain ⟨h1, h2, h3⟩ := rep_cells h hc
  exact ⟨by simpa using h1, fun j u hu => h2 j u (by simpa using hu), fun j y u hy hu => h3 j y u hy (by simpa using hu)⟩
theorem stands_zero {zs : List Value} (h : zs.all oneCellV = true) : Stands num C (imZ zs) zs := by
  have h1 : ∀ (j : Nat) u, zs[j]? = some u → u.oneCell' = true := by
    intro j u hu
    rw [← oneCell_eq]
    exact List.all_eq_true.1 h u (List.mem_of_getElem? hu)
  refine ⟨by simp [imZ], h1, fun j x u hx hu => ?_⟩
  simp only [imZ, List.getElem?_map, hu, Option.map_some, Option.some.injEq] at hx
  subst hx
  exact .imm _ _ (.val u (h1 j u hu))
theorem fill_stands (hs : SRep num C s a) (place : Nat → Option (Nat × Nat)) : ∀ (ps : List (Nat × Operand)) (qs : List (Nat × Nat × Src)) (cs r : List AV) (cur : Array Value), trParts num place ps = some qs →
    Stands num C cs cur.toList → fillAll cs (qs.map fun (o, n, x) => (o, n, s.env.ev x)) = some r → ∃ cur', Instr.fill place cur (ps.map fun (i, x) => (i, a.eval x)) = some cur' ∧ Stands num C r cur'.toList
  | [], qs, cs, r, cur, hq, hc, hr => by
    simp [trParts] at hq
    subst hq
    cases hr
    exact ⟨cur, rfl, hc⟩
  | (i, x) :: ps, qs, cs, r, cur, hq, hc, hr => by
    unfold trParts at hq
    simp only [List.mapM_cons, Option.bind_eq_bind, Option.bind_eq_some_iff, Option.pure_def, Option.some.injEq] at hq
    obtain ⟨q, hq1, l, hq2, rfl⟩ := hq
    cases hp : place i with
    | none => simp [hp] at hq1
    | some on =>
      obtain ⟨o, n⟩ := on
      cases hx : trSrc num x with
      | none => simp [hp, hx] at hq1
      | some y =>
        simp [hp, hx] at hq1
        subst hq1
        simp only [List.map_cons, fillAll] at hr
        cases hce : (s.env.ev y).cells with
        | none => simp [hce] at hr
        | some vs =>
          simp only [hce] at hr
          split at hr
          · rename_i hb
            have hst := stands_cells (src_rep hs hx) hce
            have hvl : (a.eval x).cells.size = n := by have := hst.len; simp at this; omega
            have hcl : cs.length = cur.size := by have := hc.len; simpa using this
            have hcur : ((a.eval x).cells.zipIdx.foldl (fun cs (p : Value × Nat) => cs.setIfInBounds (o + p.2) p.1) cur).toList = setAll cur.toList o (a.eval x).cells.toList := by
              rw [← Array.foldl_toList, Array.toList_zipIdx]
              exact foldl_set o _ 0 cur
            obtain ⟨cur', h1, h2⟩ := fill_stands hs place ps l (setAll cs o vs) r _ hq2 (by rw [hcur]; exact hc.setAll hst o) hr
            refine ⟨cur', ?_, h2⟩
            simp only [List.map_cons, Instr.fill, hp]
            have hsz : (((a.eval x).cells.size != n) || decide (o + (a.eval x).cells.size > cur.size)) = false := by
              simp only [Bool.or_eq_false_iff, bne_eq_false_iff_eq, decide_eq_false_iff_not]
              omega
            rw [if_neg (by simpa using hsz)]
            exact h1
          · cases hr
theorem zero_run {t : TypeId} {zs : List Value} (h : zeroCellsOf P t = some zs) (w : World) : ∃ z, (zeroValue t).run P w = .ok z w ∧ z.cells.toList = zs := by
  unfold zeroCellsOf at h
  cases hi : P.info? t with
  | none => simp [hi] at h
  | some i =>
    cases hz : i.zero with
    | none => simp [hi, hz] at h
    | some z => simp [hi, hz] at h; exact ⟨z, by simp [zeroValue, typeInfo, hi, hz], h⟩
theorem y_build (hs : SRep num C s a) {t : TypeId} {ps : Array (Nat × Operand)} {zs : List Value} (hz : zeroCellsOf P t = some zs) (hone : zs.all oneCellV = true) {place : Nat → Option (Nat × Nat)} {qs : List (Nat × Nat × Src)} (hq : trParts num place ps.toList = some qs)
    (hp : (∃ fs, P.underlying t = some (.struct fs) ∧ (fs.all fun f => known P f.type) = true ∧ place = fun (i : Nat) => (fs[i]?).map fun (f : Field) => (f.offset, P.cellsOf f.type)) ∨ (∃ n e, P.underlying t = some (.array n e) ∧ known P e = true ∧ place = fun i => some (i * P.cellsOf e, P.cellsOf e)))
    {r : List AV} (hr : fillAll (imZ zs) (qs.map fun (o, n, x) => (o, n, s.env.ev x)) = some r) : Yields num P (.build t ps) ty pos after a C s (.agg r) s := by
  obtain ⟨z, hzr, hzc⟩ := zero_run hz C.w
  obtain ⟨cur, h1, h2⟩ := fill_stands hs place ps.toList qs (imZ zs) r z.cells hq (by rw [hzc]; exact stands_zero hone) hr
  refine yields_pure (v := .agg cur) hs (fun _ _ => ?_) (.agg r cur (by have := h2.len; simpa using this) (fun j u hu => h2.one j u (by simpa using hu)) fun j x u hx hu => h2.rep j x u hx (by simpa using hu))
  have hlist : (ps.map fun (p : Nat × Operand) => (p.1, a.eval p.2)).toList = ps.toList.map fun (p : Nat × Operand) => (p.1, a.eval p.2) := by simp
  rcases hp with ⟨fs, ht, hk, rfl⟩ | ⟨n, e, ht, hk, rfl⟩
  · have hm : (fs.mapM fun (f : Field) => (do pure (f.offset, ← sizeOf f.type) : Sem (Nat × Nat))).run P C.w = .ok (fs.map fun (f : Field) => (f.offset, P.cellsOf f.type)) C.w := by
      refine run_arrayMapM _ _ C.w fs fun f hf => ?_
      have hkf : known P f.type = true := by
        rw [Array.all_eq_true_iff_forall_mem] at hk
        exact hk f hf
      obtain ⟨i, d, hi, hd, hsz, _⟩ := known_some hkf
      simp only [Sem.run_bind, run_sizeOf' hi, Result.andThen_ok, Sem.run_pure, hsz]
    simp only [execOp, Instr.build, Sem.run_bind, hzr, Result.andThen_ok, run_underlying ht, hm]
    have hpl : (fun (i : Nat) => (fs.map fun (f : Field) => (f.offset, P.cellsOf f.type))[i]?) = fun (i : Nat) => (fs[i]?).map fun (f : Field) => (f.offset, P.cellsOf f.type) := by funext i; simp
    rw [hpl, hlist, h1]
    rfl
  · obtain ⟨i, d, hi, hd, hsz, _⟩ := known_some hk
    simp only [execOp, Instr.build, Sem.run_bind, hzr, Result.andThen_ok, run_underlying ht, run_sizeOf' hi]
    rw [← hsz, hlist, h1]
    rfl
theorem copies_length {α : Type} (n : Nat) (l : List α) : (copies n l).length = n * l.length := by
  induction n with
  | zero => simp [copies]
  | succ n ih => simp [copies, ih, Nat.succ_mul, Nat.add_comm]
theorem copies_get {α : Type} (n : Nat) (l : List α) : ∀ (j : Nat), j < n * l.length → (copies n l)[j]? = l[j % l.length]? := by
  induction n with
  | zero => intro j h; simp at h
  | succ n ih =>
    intro j h
    simp only [copies]
    rcases Nat.lt_or_ge j l.length with h1 | h1
    · rw [List.getElem?_append_left h1, Nat.mod_eq_of_lt h1]
    · rw [List.getElem?_append_right h1, ih (j - l.length) (by rw [Nat.succ_mul] at h; omega)]
      congr 1
      rw [← Nat.mod_eq_sub_mod h1]
theorem range_cells (z : Array Value) (n k : Nat) (hz : z.size = k) (hk : 0 < k) : ((Array.range (n * k)).map (z[· % z.size]!)).toList = copies n z.toList := by
  apply List.ext_getElem?
  intro j
  have hzl : z.toList.length = k := by simpa using hz
  rcases Nat.lt_or_ge j (n * k) with h | h
  · rw [copies_get n z.toList j (by rw [hzl]; exact h)]
    have hm : j % k < z.size := by rw [hz]; exact Nat.mod_lt _ hk
    simp [h, hz, getElem!_pos z (j % k) hm, hm]
  · rw [List.getElem?_eq_none (by simp; exact h), List.getElem?_eq_none (by rw [copies_length, hzl]; exact h)]
theorem copies_all {n : Nat} {zs : List Value} (h : zs.all oneCellV = true) : (copies n zs).all oneCellV = true := by
  induction n with
  | zero => rfl
  | succ n ih => simp only [copies, List.all_append, h, ih]; rfl
theorem mkObj_rep {D : Cx} {id : Nat} {cs : List AV} {vs : Array Value} {e : TypeId} (h : Stands num D cs vs.toList) (hw : D.w.heap[D.σ id]? = some (.cells vs e (0, 0))) : ORep num D id (mkObj cs) := by
  unfold mkObj
  have hg : ∀ (j : Nat) x, cs[j]? = some x → ∃ u, vs[j]? = some u ∧ u.oneCell' = true ∧ ARep num D x u := by
    intro j x hx
    have hj : j < vs.toList.length := by rw [← h.len]; exact (List.getElem?_eq_some_iff.1 hx).1
    have hu : vs.toList[j]? = some vs.toList[j] := List.getElem?_eq_getElem hj
    exact ⟨vs.toList[j], by rw [← Array.getElem?_toList]; exact hu, h.one j _ hu, h.rep j x _ hx hu⟩
  split
  · rename_i xs hx
    refine ⟨vs, e, hw, fun j x hj => ?_⟩
    have := imms_get cs xs hx
    obtain ⟨u, h1, _, h3⟩ := hg j (.imm x) (by rw [this, List.getElem?_map, hj]; rfl)
    cases h3 with | imm _ _ hr => exact ⟨u, h1, hr⟩
  · exact ⟨vs, e, hw, hg⟩
theorem stands_mono {D : Cx} (t : Tr some C D) {cs : List AV} {vs : List Value} (h : Stands num C cs vs) : Stands num D cs vs := ⟨h.len, h.one, fun j x u hx hu => (h.rep j x u hx hu).mono t⟩
theorem more_osl {w1 : World} (hw1 : w1.heap = C.w.heap) (arr : Array Value) (e : TypeId) {len c sz : Nat} {cap : Option Nat} (hl : len ≤ c ∧ c ≤ 9223372036854775807) (hk : ∀ k, cap = some k → c = k) (hs : c = 0 ∨ c * sz ≤ arr.size) :
    ARep num (C.more w1 (.cells arr e (0, 0))) (.osl C.n 0 sz len cap) (.slice (some ⟨C.w.heap.size, 0, none⟩) len c) := by
  have : C.w.heap.size = (C.more w1 (.cells arr e (0, 0))).σ C.n := by simp [Cx.more]
  rw [this]
  refine .osl0 C.n 0 sz len cap c 0 arr e (by simp [Cx.more]) hl hk (.inl rfl) ?_ (by simpa using hs)
  simp only [Cx.more, if_true]
  rw [alloc_get, if_pos (by rw [hw1])]
theorem y_buildSlice (hs : SRep num C s a) {t e : TypeId} {len : Nat} {ps : Array (Nat × Operand)} {zs : List Value} (ht : P.underlying t = some (.slice e)) (hz : zeroCellsOf P e = some zs) (hk : known P e = true) (hone : zs.all oneCellV = true) (hbig : len * P.cellsOf e ≤ 16777216)
    (h0 : 0 < P.cellsOf e) (hzl : zs.length = P.cellsOf e) {qs : List (Nat × Nat × Src)} (hq : trParts num (fun i => some (i * P.cellsOf e, P.cellsOf e)) ps.toList = some qs)
    {r : List AV} (hr : fillAll (imZ (copies len zs)) (qs.map fun (o, n, x) => (o, n, s.env.ev x)) = some r) :
    Yields num P (.buildSlice t len ps) ty pos after a C s (.osl s.mem.length 0 (P.cellsOf e) len (some len)) { s with mem := s.mem ++ [mkObj r] } := by
  obtain ⟨i, d, hi, hd, hsz, _⟩ := known_some hk
  obtain ⟨z, hzr, hzc⟩ := zero_run hz C.w
  have hzs : z.cells.size = P.cellsOf e := by rw [← hzl, ← hzc]; simp
  have hcells := range_cells z.cells len (P.cellsOf e) hzs h0
  obtain ⟨cur, h1, h2⟩ := fill_stands hs (fun i => some (i * P.cellsOf e, P.cellsOf e)) ps.toList qs (imZ (copies len zs)) r ((Array.range (len * P.cellsOf e)).map (z.cells[· % z.cells.size]!)) hq (by rw [hcells, hzc]; exact stands_zero (copies_all hone)) hr
  have hlen := hs.mem.len
  have hrl : cur.size = len * P.cellsOf e := by
    have h3 := h2.len
    have h4 : ∀ (l : List (Nat × Nat × AV)) (cs r : List AV), fillAll cs l = some r → r.length = cs.length := by
      intro l
      induction l with
      | nil => intro cs r h; cases h; rfl
      | cons x l ih =>
        intro cs r h
        obtain ⟨o, n, v⟩ := x
        simp only [fillAll] at h
        cases hv : v.cells with
        | none => simp [hv] at h
        | some vs =>
          simp only [hv] at h
          split at h
          · rw [ih _ _ h, setAll_length]
          · cases h
    have h5 := h4 _ _ _ hr
    simp only [Array.length_toList] at h3
    rw [← h3, h5]
    simp [imZ, copies_length, hzl]
  have hlist : (ps.map fun (p : Nat × Operand) => (p.1, a.eval p.2)).toList = ps.toList.map fun (p : Nat × Operand) => (p.1, a.eval p.2) := by simp
  refine ⟨.slice (some ⟨C.w.heap.size, 0, none⟩) len len, C.more C.w (.cells cur e (0, 0)), fun _ _ => .inl ?_, more_step hs.mem rfl rfl rfl rfl _ _ (mkObj_rep (e := e) (stands_mono (more_tr hs.mem rfl _) h2) ?_) hs.k, hs.env.mono (more_tr hs.mem rfl _), ?_, rfl⟩
  · have hb : ¬ (len * P.cellsOf e > 2 ^ 24) := by omega
    have hi2 : (sizeOf e).run P C.w = .ok (P.cellsOf e) C.w := by rw [run_sizeOf' hi, hsz]
    simp only [execOp, Instr.buildSlice, Sem.run_bind, run_underlying ht, Result.andThen_ok, hi2]
    rw [if_neg hb]
    by_cases h00 : len * P.cellsOf e = 0
    · have hl0 : len = 0 := by rcases Nat.mul_eq_zero.1 h00 with h | h; exact h; omega
      subst hl0
      rw [if_pos h00]
      have hemp : ((Array.range (0 * P.cellsOf e)).map ((#[] : Array Value)[· % (#[] : Array Value).size]!)) = (Array.range (0 * P.cellsOf e)).map (z.cells[· % z.cells.size]!) := by simp
      simp only [Sem.run_pure, Result.andThen_ok, hemp, hlist, h1, newRow, Sem.run_bind, run_newObj]
      rfl
    · rw [if_neg h00]
      simp only [Sem.run_bind, hzr, Result.andThen_ok, Sem.run_pure, hlist, h1, newRow, run_newObj]
      rfl
  · simp only [Cx.more, if_true]
    rw [alloc_get, if_pos rfl]
  · rw [hlen]
    exact more_osl rfl cur e ⟨Nat.le_refl _, by have : len ≤ len * P.cellsOf e := Nat.le_mul_of_pos_right _ (by assumption); omega⟩ (fun k hk => by cases hk; rfl) (.inr (by rw [hrl]; exact Nat.le_refl _))
theorem y_makeSlice (hs : SRep num C s a) {t e : TypeId} {l c : Operand} {l' c' : Src} {zs : List Value} (ht : P.underlying t = some (.slice e)) (hz : zeroCellsOf P e = some zs) (hk : known P e = true) (hone : zs.all oneCellV = true)
    (h0 : 0 < P.cellsOf e) (hzl : zs.length = P.cellsOf e) (hl : trSrc num l = some l') (hc : trSrc num c = some c') {i j : Int} (hi : intOf (s.env.ev l') = some i) (hj : intOf (s.env.ev c') = some j) (hb : 0 ≤ i ∧ i ≤ j ∧ P.bytesOf e * j ≤ 281474976710656 ∧ j ≤ 9223372036854775807) :
    Yields num P (.makeSlice t l c) ty pos after a C s (.osl s.mem.length 0 (P.cellsOf e) i.toNat (some j.toNat)) { s with mem := s.mem ++ [.flat (copies j.toNat (zs.map .val)) false] } := by
  obtain ⟨inf, d, hinf, hd, hsz, hby⟩ := known_some hk
  obtain ⟨kl, hle, _⟩ := rep_int (src_rep hs hl) hi
  obtain ⟨kc, hce, _⟩ := rep_int (src_rep hs hc) hj
  obtain ⟨z, hzi, hzc⟩ : ∃ z, inf.zero = some z ∧ z.cells.toList = zs := by
    unfold zeroCellsOf at hz
    rw [hinf] at hz
    cases hzi : inf.zero with
    | none => simp [hzi] at hz
    | some z => simp [hzi] at hz; exact ⟨z, rfl, hz⟩
  have hzs : z.cells.size = P.cellsOf e := by rw [← hzl, ← hzc]; simp
  have hlen := hs.mem.len
  have hrun := run_make (P := P) C.w t e inf z ht hinf hzi kl kc i j hb.1 hb.2.1 (by rw [← hby]; exact hb.2.2.1) hb.2.2.2
  have hcells : (madeCells z.cells (j.toNat * inf.size)).toList = copies j.toNat zs := by
    rw [← hsz, ← hzc]; exact range_cells z.cells j.toNat (P.cellsOf e) hzs h0
  have hsize : (madeCells z.cells (j.toNat * inf.size)).size = j.toNat * P.cellsOf e := by rw [size_madeCells, hsz]
  refine ⟨.slice (some ⟨C.w.heap.size, 0, none⟩) i.toNat j.toNat, C.more C.w (.cells (madeCells z.cells (j.toNat * inf.size)) e (0, 0)), fun _ _ => .inl ?_, more_step hs.mem rfl rfl rfl rfl _ _ ?_ hs.k, hs.env.mono (more_tr hs.mem rfl _), ?_, rfl⟩
  · simp only [execOp, hle, hce, Sem.run_bind, hrun, Result.andThen_ok]
    rfl
  · refine ⟨madeCells z.cells (j.toNat * inf.size), e, ?_, fun k x hx => ?_⟩
    · simp only [Cx.more, if_true]
      rw [alloc_get, if_pos rfl]
    · have hcm : copies j.toNat (zs.map IV.val) = (copies j.toNat zs).map .val := by
        generalize j.toNat = n
        induction n with
        | zero => rfl
        | succ n ih => simp [copies, ih]
      rw [hcm, List.getElem?_map] at hx
      cases hq : (copies j.toNat zs)[k]? with
      | none => simp [hq] at hx
      | some u =>
        simp [hq] at hx
        subst hx
        rw [← hcells] at hq
        refine ⟨u, by simpa using hq, .val u ?_⟩
        rw [hcells] at hq
        rw [← oneCell_eq]
        exact List.all_eq_true.1 (copies_all hone) u (List.mem_of_getElem? hq)
  · rw [hlen]
    exact more_osl rfl _ e (by omega) (fun k hk => by cases hk; rfl) (.inr (by rw [hsize]; exact Nat.le_refl _))
end
end Go.EX


set_option linter.unusedVariables false
set_option linter.unusedSimpArgs false
namespace Go.EX
section
variable {num : Names} {P : Program}
variable {ty : TypeId} {pos : String} {after : Array Edge} {a : Act} {C : Cx} {s : St}
theorem optSrc (hs : SRep num C s a) {x : Option Operand} {y : Option Src} (h : x.mapM (trSrc num) = some y) : (x = none ∧ y = none) ∨ ∃ o z, x = some o ∧ y = some z ∧ ARep num C (s.env.ev z) (a.eval o) := by
  cases x with
  | none => simp at h; exact .inl ⟨rfl, h.symm⟩
  | some o =>
    cases ho : trSrc num o with
    | none => simp [ho] at h
    | some z => simp [ho] at h; exact .inr ⟨o, z, rfl, h.symm, src_rep hs ho⟩
theorem run_bounds (hs : SRep num C s a) {lo hi : Option Operand} {lo' hi' : Option Src} (hl : lo.mapM (trSrc num) = some lo') (hh : hi.mapM (trSrc num) = some hi') {len cap cap' : Nat} {l h : Nat} (isS : Bool)
    (hb : bounds len cap' (lo'.map s.env.ev) (hi'.map s.env.ev) = some (l, h)) (hc : cap' ≤ cap) (w : World) :
    (Instr.sliceBounds isS len cap (lo.map a.eval) (hi.map a.eval) none).run P w = .ok (l, h, cap) w ∧ l ≤ h ∧ h ≤ cap' := by
  unfold bounds at hb
  cases e1 : bndOf len (hi'.map s.env.ev) with
  | none => simp [e1] at hb
  | some h1 =>
    cases e2 : bndOf 0 (lo'.map s.env.ev) with
    | none => simp [e1, e2] at hb
    | some l1 =>
      simp only [e1, e2] at hb
      split at hb
      · rename_i hx
        simp only [Option.some.injEq, Prod.mk.injEq] at hb
        obtain ⟨rfl, rfl⟩ := hb
        refine ⟨?_, by omega, by omega⟩
        have hB : ∀ (o : Operand) (z : Src) (n : Int) (top : Nat) code, ARep num C (s.env.ev z) (a.eval o) → intOf (s.env.ev z) = some n → 0 ≤ n → n ≤ (top : Int) → (Instr.sliceBound (a.eval o) top code).run P w = .ok n.toNat w := by
          intro o z n top code ho hn h0 h1
          obtain ⟨k, hv, _⟩ := rep_int ho hn
          simp only [hv, Instr.sliceBound, asIntOf, Sem.run_bind, Sem.run_pure, Result.andThen_ok]
          rw [if_pos ⟨h0, h1⟩]
          rfl
        rcases optSrc hs hh with ⟨rfl, rfl⟩ | ⟨o, z, rfl, rfl, ho⟩ <;> rcases optSrc hs hl with ⟨rfl, rfl⟩ | ⟨o2, z2, rfl, rfl, ho2⟩
        · simp only [Option.map_none, bndOf, Option.some.injEq] at e1 e2
          subst e1 e2
          simp [Instr.sliceBounds]
        · simp only [Option.map_none, Option.map_some, bndOf, Option.some.injEq] at e1 e2
          subst e1
          have h2 := hB o2 z2 l1 len .sliceB ho2 e2 (by omega) (by omega)
          simp [Instr.sliceBounds, h2]
        · simp only [Option.map_none, Option.map_some, bndOf, Option.some.injEq] at e1 e2
          subst e2
          have h2 := hB o z h1 cap (if isS then .sliceAcap else .sliceAlen) ho e1 (by omega) (by omega)
          simp only [Option.map_some, Option.map_none, Instr.sliceBounds, Sem.run_bind, Sem.run_pure, Result.andThen_ok, h2]
          rfl
        · simp only [Option.map_some, bndOf] at e1 e2
          have h2 := hB o z h1 cap (if isS then .sliceAcap else .sliceAlen) ho e1 (by omega) (by omega)
          have h3 := hB o2 z2 l1 h1.toNat .sliceB ho2 e2 (by omega) (by omega)
          simp only [Option.map_some, Instr.sliceBounds, Sem.run_bind, Sem.run_pure, Result.andThen_ok, h2, Option.isSome_none, Bool.false_eq_true, if_false, h3]
      · cases hb
theorem y_sliceS (hs : SRep num C s a) {t : TypeId} {x : Operand} {x' : Src} {lo hi : Option Operand} {lo' hi' : Option Src} (hx : trSrc num x = some x') (hl : lo.mapM (trSrc num) = some lo') (hh : hi.mapM (trSrc num) = some hi') (ht : P.underlying t = some .string)
    {b : ByteArray} (hb : s.env.ev x' = .imm (.val (.string b))) {l h : Nat} (hbd : bounds b.size b.size (lo'.map s.env.ev) (hi'.map s.env.ev) = some (l, h)) :
    Yields num P (.slice t x lo hi none) ty pos after a C s (.imm (.val (.string (b.extract l h)))) s := by
  have hu := src_val hs hx hb
  have hr := run_bounds (P := P) hs hl hh false hbd (Nat.le_refl _) C.w
  refine yields_pure (v := .string (b.extract l h)) hs (fun _ _ => ?_) (.imm _ _ (.val _ rfl))
  simp [execOp, hu, Instr.sliceAt, Instr.slice, run_underlying ht, hr.1]
theorem y_slice (hs : SRep num C s a) {t e : TypeId} {x : Operand} {x' : Src} {lo hi : Option Operand} {lo' hi' : Option Src} (hx : trSrc num x = some x') (hl : lo.mapM (trSrc num) = some lo') (hh : hi.mapM (trSrc num) = some hi') (ht : P.underlying t = some (.slice e)) (hk : known P e = true)
    {y : AV} (hy : exSlice (P.cellsOf e) (s.env.ev x') (lo'.map s.env.ev) (hi'.map s.env.ev) = some y) :
    Yields num P (.slice t x lo hi none) ty pos after a C s y s := by
  obtain ⟨inf, d, hinf, hd, hsz, _⟩ := known_some hk
  have h1 := src_rep hs hx
  have hi2 : ∀ w, (sizeOf e).run P w = .ok (P.cellsOf e) w := fun w => by rw [run_sizeOf' hinf, hsz]
  generalize hu : a.eval x = u at h1
  have run : ∀ (b : Option Addr) len c l h, u = .slice b len c → (Instr.sliceBounds true len c (lo.map a.eval) (hi.map a.eval) none).run P C.w = .ok (l, h, c) C.w →
      ∀ dst g, (execOp a.eval ⟨dst, .slice t x lo hi none, ty, pos, after, g⟩).run P C.w = .ok (.value (.slice (if c = l then b else b.map (·.add (l * P.cellsOf e))) (h - l) (c - l))) C.w := by
    intro b len c l h hb hr dst g
    simp [execOp, hu, hb, Instr.sliceAt, Instr.slice, run_underlying ht, hr, hi2]
  unfold exSlice at hy
  split at hy
  · rename_i heq
    simp only [Option.map_eq_some_iff] at hy
    obtain ⟨⟨l, h⟩, hb, rfl⟩ := hy
    rw [heq] at h1
    have := rep_val h1
    subst this
    obtain ⟨hr1, hr2, hr3⟩ := run_bounds (P := P) hs hl hh true hb (Nat.le_refl 0) C.w
    refine yields_pure hs (run none 0 0 l h rfl hr1) ?_
    rw [heq]
    have h00 : h - l = 0 := by omega
    simp only [Option.map_none, ite_self, h00, Nat.zero_sub]
    exact h1
  · rename_i row off len cap heq
    simp only [Option.map_eq_some_iff] at hy
    obtain ⟨⟨l, h⟩, hb, rfl⟩ := hy
    rw [heq] at h1
    cases h1 with
    | imm _ _ h1 => cases h1 with
      | slice _ _ _ _ b o c ad u' hI hc hu' hlc hk' ha =>
        have hcap : cap.getD len ≤ c := by cases cap with | none => exact hlc | some k => simp [hk' k rfl]
        obtain ⟨hr1, hr2, hr3'⟩ := run_bounds (P := P) hs hl hh true hb hcap C.w
        have hr3 : h ≤ c := Nat.le_trans hr3' hcap
        refine yields_pure hs (run _ len c l h rfl hr1) ?_
        simp only [Option.map_some, addr_add]
        by_cases hcl : c = l
        · rw [if_pos hcl]
          refine .imm _ _ (.slice row _ _ _ b o (c - l) ad u' hI hc hu' (by omega) ?_ (.inr (by omega)))
          intro k hk2
          cases cap with
          | none => simp at hk2
          | some k0 => simp at hk2; rw [hk' k0 rfl]; exact hk2
        · rw [if_neg hcl]
          refine .imm _ _ (.slice row _ _ _ b o (c - l) _ u' hI hc hu' (by omega) ?_ ?_)
          · intro k hk2
            cases cap with
            | none => simp at hk2
            | some k0 => simp at hk2; rw [hk' k0 rfl]; exact hk2
          · rcases ha with rfl | rfl
            · left; omega
            · right; omega
      | vac _ _ ad =>
        obtain ⟨hr1, hr2, hr3⟩ := run_bounds (P := P) hs hl hh true hb (Nat.le_refl 0) C.w
        have hh0 : h = 0 := by simpa using hr3
        have hl0 : l = 0 := by omega
        subst hh0
        subst hl0
        refine yields_pure hs (run _ 0 0 0 0 rfl hr1) ?_
        simp only [if_true, Nat.sub_zero, Option.map_some, Nat.zero_mul, Nat.add_zero]
        exact .imm _ _ (.vac row off ad)
  · rename_i id off sz' len cap heq
    split at hy
    · rename_i hsz'
      subst hsz'
      simp only [Option.map_eq_some_iff] at hy
      obtain ⟨⟨l, h⟩, hb, rfl⟩ := hy
      rw [heq] at h1
      cases h1 with
      | osl _ _ _ _ _ c ad arr e' hid hlc hk' ha hw hss =>
        have hcap : cap.getD len ≤ c := by cases cap with | none => exact hlc.1 | some k => simp [hk' k rfl]
        obtain ⟨hr1, hr2, hr3'⟩ := run_bounds (P := P) hs hl hh true hb hcap C.w
        have hr3 : h ≤ c := Nat.le_trans hr3' hcap
        refine yields_pure hs (run _ len c l h rfl hr1) ?_
        simp only [Option.map_some, addr_add]
        have hcap2 : ∀ k, cap.map (· - l) = some k → c - l = k := by
          intro k hk2
          cases cap with
          | none => simp at hk2
          | some k0 => simp at hk2; rw [hk' k0 rfl]; exact hk2
        have hfit : c - l = 0 ∨ off + l * P.cellsOf e + (c - l) * P.cellsOf e ≤ arr := by
          rcases hss with h0 | h0
          · left; omega
          · right
            rw [Nat.add_assoc, ← Nat.add_mul]
            have : l + (c - l) = c := by omega
            rw [this]; exact h0
        by_cases hcl : c = l
        · rw [if_pos hcl]
          exact .osl id _ _ _ _ (c - l) ad arr e' hid (by omega) hcap2 (.inr (by omega)) hw (.inl (by omega))
        · rw [if_neg hcl]
          refine .osl id _ _ _ _ (c - l) _ arr e' hid (by omega) hcap2 ?_ hw hfit
          rcases ha with rfl | rfl
          · exact .inl rfl
          · right; omega
    · cases hy
  · cases hy
theorem y_slice3 (hs : SRep num C s a) {t e : TypeId} {x : Operand} {x' : Src} {h m : Operand} {h' m' : Src} (hx : trSrc num x = some x') (hh : trSrc num h = some h') (hm : trSrc num m = some m') (ht : P.underlying t = some (.slice e)) (hk : known P e = true)
    {y : AV} (hy : exSlice3 (P.cellsOf e) (s.env.ev x') (s.env.ev h') (s.env.ev m') = some y) :
    Yields num P (.slice t x none (some h) (some m)) ty pos after a C s y s := by
  obtain ⟨inf, d, hinf, hd, hsz, _⟩ := known_some hk
  have h1 := src_rep hs hx
  have h2 := src_rep hs hh
  have h3 := src_rep hs hm
  have hi2 : ∀ w, (sizeOf e).run P w = .ok (P.cellsOf e) w := fun w => by rw [run_sizeOf' hinf, hsz]
  generalize hu : a.eval x = u at h1
  unfold exSlice3 at hy
  split at hy
  · rename_i hn mn e1 e2
    obtain ⟨k1, hv1, _⟩ := rep_int h2 e1
    obtain ⟨k2, hv2, _⟩ := rep_int h3 e2
    have run : ∀ (b : Option Addr) len c, u = .slice b len c → 0 ≤ hn → hn ≤ mn → mn ≤ (c : Int) →
        ∀ dst g, (execOp a.eval ⟨dst, .slice t x none (some h) (some m), ty, pos, after, g⟩).run P C.w = .ok (.value (.slice (if mn.toNat = 0 then b else b.map (·.add (0 * P.cellsOf e))) hn.toNat mn.toNat)) C.w := by
      intro b len c hb g0 g1 g2 dst g
      have q1 : (0 : Int) ≤ mn := by omega
      have q2 : (hn : Int) ≤ (mn.toNat : Int) := by omega
      have q3 : (mn.toNat : Int) = mn := by omega
      simp [execOp, hu, hb, Instr.sliceAt, Instr.slice, run_underlying ht, hi2, Instr.sliceBounds, Instr.sliceBound, asIntOf, hv1, hv2, g0, g1, g2, q1, q2, q3]
    split at hy
    · rename_i heq
      split at hy
      · rename_i hc
        cases hy
        rw [heq] at h1 ⊢
        have := rep_val h1
        subst this
        refine yields_pure hs (run none 0 0 rfl (by omega) (by omega) (by omega)) ?_
        have q1 : hn.toNat = 0 := by omega
        have q2 : mn.toNat = 0 := by omega
        simp only [Option.map_none, ite_self, q1, q2]
        exact h1
      · cases hy
    · rename_i row off len cap heq
      split at hy
      · rename_i hc
        cases hy
        rw [heq] at h1
        cases h1 with
        | imm _ _ h1 => cases h1 with
          | slice _ _ _ _ b o c ad u' hI hc' hu' hlc hk' ha =>
            have hcap : cap.getD len ≤ c := by cases cap with | none => exact hlc | some k => simp [hk' k rfl]
            refine yields_pure hs (run _ len c rfl hc.1 hc.2.1 (by omega)) ?_
            simp only [Option.map_some, addr_add, Nat.zero_mul, Nat.add_zero, ite_self]
            refine .imm _ _ (.slice row _ _ _ b o mn.toNat ad u' hI hc' hu' (by omega) (fun k hk2 => Option.some.inj hk2) ?_)
            rcases ha with rfl | rfl
            · exact .inl rfl
            · right; omega
          | vac _ _ ad =>
            have hc2 := hc.2.2
            simp only [Option.getD_some] at hc2
            refine yields_pure hs (run _ 0 0 rfl hc.1 hc.2.1 (by omega)) ?_
            have q1 : hn.toNat = 0 := by omega
            have q2 : mn.toNat = 0 := by omega
            simp only [if_true, q1, q2]
            exact .imm _ _ (.vac row off ad)
      · cases hy
    · rename_i id off sz' len cap heq
      split at hy
      · rename_i hc
        cases hy
        rw [heq] at h1
        cases h1 with
        | osl _ _ _ _ _ c ad arr e' hid hlc hk' ha hw hss =>
          have hcap : cap.getD len ≤ c := by cases cap with | none => exact hlc.1 | some k => simp [hk' k rfl]
          obtain ⟨rfl, hc1, hc2, hc3⟩ := hc
          refine yields_pure hs (run _ len c rfl hc1 hc2 (by omega)) ?_
          simp only [Option.map_some, addr_add, Nat.zero_mul, Nat.add_zero, ite_self]
          refine .osl id off _ _ _ mn.toNat ad arr e' hid ⟨by omega, by omega⟩ (fun k hk2 => Option.some.inj hk2) ?_ hw ?_
          · rcases ha with rfl | rfl
            · exact .inl rfl
            · right; omega
          · rcases hss with h0 | h0
            · left; omega
            · right
              have : mn.toNat * P.cellsOf e ≤ c * P.cellsOf e := Nat.mul_le_mul_right _ (by omega)
              omega
      · cases hy
    · cases hy
  · cases hy
end
end Go.EX


set_option linter.unusedVariables false
set_option linter.unusedSimpArgs false
namespace Go.EX
section
variable {num : Names} {P : Program}
variable {ty : TypeId} {pos : String} {after : Array Edge} {a : Act} {C : Cx} {s : St}
structure Given (num : Names) (P : Program) (C : Cx) (sz : Nat) (v : Value) (n : Nat) (news : List IV) (us : Array Value) : Prop where
  len : ∀ w, (Builtin.lenOf v).run P w = .ok n w
  cells : ∀ w, w.heap = C.w.heap → (Builtin.firstCells sz n v).run P w = .ok us w
  size : us.size = n * sz
  count : news.length = n * sz
  rep : ∀ (j : Nat) x, news[j]? = some x → ∃ u, us[j]? = some u ∧ IRep C.I C.w x u
theorem heap_cell {w w' : World} (h : w'.heap = w.heap) (ad : Addr) : w'.cell? ad = w.cell? ad := by simp [World.cell?, h]
theorem read_row {b o n : Nat} {r : List IV} (h : ∀ (j : Nat) x, r[j]? = some x → ∃ u : Value, C.w.cell? ⟨b, o + j, none⟩ = some u ∧ IRep C.I C.w x u) (hl : r.length = n) :
    ∃ us : Array Value, (∀ w, w.heap = C.w.heap → (loadCells ⟨b, o, none⟩ n).run P w = .ok us w) ∧ us.size = n ∧ ∀ (j : Nat) x, r[j]? = some x → ∃ u, us[j]? = some u ∧ IRep C.I C.w x u := by
  let f : Nat → Value := fun j => (C.w.cell? ⟨b, o + j, none⟩).getD undef
  have hf : ∀ j, j < n → C.w.cell? ((⟨b, o, none⟩ : Addr).add j) = some (f j) := by
    intro j hj
    obtain ⟨u, hu, _⟩ := h j r[j] (List.getElem?_eq_getElem (by omega))
    rw [addr_add, hu]
    simp [f, hu]
  refine ⟨((List.range n).map f).toArray, fun w hw => run_loadCells w _ n f (fun j hj => by rw [heap_cell hw]; exact hf j hj), by simp, fun j x hx => ?_⟩
  obtain ⟨u, hu, hr⟩ := h j x hx
  have hj : j < n := by rw [← hl]; exact (List.getElem?_eq_some_iff.1 hx).1
  exact ⟨u, by simp [f, hu, hj], hr⟩
theorem given_of {m : Mem} (hm : MRep num C m) {sz : Nat} {x : AV} {v : Value} (hx : ARep num C x v) {n : Nat} {news : List IV} (h : elems m sz x = some (n, news)) :
    ∃ us, Given num P C sz v n news us := by
  unfold elems at h
  split at h
  · cases h
    have := rep_val hx
    subst this
    exact ⟨#[], ⟨fun w => rfl, fun w _ => rfl, by simp, by simp, fun j x hx => by simp at hx⟩⟩
  · rename_i b
    split at h
    · rename_i h1
      cases h
      subst h1
      have := rep_val hx
      subst this
      have hex : (b.extract 0 b.size).data = b.data := by rw [ByteArray.data_extract]; exact Array.extract_size
      refine ⟨b.data.map fun c => .int .u8 c.toNat, ⟨fun w => rfl, fun w _ => by simp only [Builtin.firstCells, hex, Sem.run_pure], by rw [Array.size_map, Nat.mul_one]; rfl, by rw [List.length_map, Nat.mul_one]; exact Array.length_toList, fun j x hx => ?_⟩⟩
      rw [List.getElem?_map] at hx
      cases hq : b.data.toList[j]? with
      | none => simp [hq] at hx
      | some c =>
        simp [hq] at hx
        subst hx
        have hq' : b.data[j]? = some c := by rw [← Array.getElem?_toList]; exact hq
        exact ⟨_, by simp [hq'], .val _ rfl⟩
    · cases h
  · rename_i row off len cap
    cases hc : cut row off (len * sz) with
    | none => simp [hc] at h
    | some r =>
      simp [hc] at h
      obtain ⟨rfl, rfl⟩ := h
      cases hx with | imm _ _ hx => cases hx with
        | slice _ _ _ _ b o c ad u hI hcl hu hl hk ha =>
          have hrl := cut_length hc
          rcases ha with rfl | rfl
          · have hh : ∀ (j : Nat) x, r[j]? = some x → ∃ u' : Value, C.w.cell? ⟨b, o + off + j, none⟩ = some u' ∧ IRep C.I C.w x u' := by
              intro j x hx
              have hj : j < len * sz := by rw [← hrl]; exact (List.getElem?_eq_some_iff.1 hx).1
              have h2 := cut_get hc j hj
              rw [hx] at h2
              exact ⟨u (off + j), by rw [Nat.add_assoc]; exact hcl _ x h2, hu _ x h2⟩
            obtain ⟨us, h1, h2, h3⟩ := read_row (P := P) hh hrl
            exact ⟨us, ⟨fun w => rfl, fun w hw => h1 w hw, h2, hrl, h3⟩⟩
          · have hl0 : len = 0 := by omega
            subst hl0
            have hr0 : r = [] := List.eq_nil_of_length_eq_zero (by omega)
            subst hr0
            exact ⟨#[], ⟨fun w => rfl, fun w _ => by simp [Builtin.firstCells, loadCells, loadCellsFrom], by simp, by simp, fun j x hx => by simp at hx⟩⟩
        | vac _ _ ad =>
          have hrl := cut_length hc
          have hr0 : r = [] := List.eq_nil_of_length_eq_zero (by omega)
          subst hr0
          exact ⟨#[], ⟨fun w => rfl, fun w _ => by simp [Builtin.firstCells, loadCells, loadCellsFrom], by simp, by simp, fun j x hx => by simp at hx⟩⟩
  · rename_i id off sz' len cap
    have key : ∀ r : List IV, r.length = len * sz → (∀ (j : Nat) x, r[j]? = some x → ∃ u : Value, C.w.cell? ⟨C.σ id, off + j, none⟩ = some u ∧ IRep C.I C.w x u) → ∃ us, Given num P C sz v len r us := by
      intro r hrl hh
      cases hx with
      | osl _ _ _ _ _ c ad arr e hid hl hk ha hw hs =>
        rcases ha with rfl | rfl
        · obtain ⟨us, h1, h2, h3⟩ := read_row (P := P) hh hrl
          exact ⟨us, ⟨fun w => rfl, fun w hw => h1 w hw, h2, hrl, h3⟩⟩
        · have hl0 : len = 0 := by omega
          subst hl0
          have hr0 : r = [] := List.eq_nil_of_length_eq_zero (by omega)
          subst hr0
          exact ⟨#[], ⟨fun w => rfl, fun w _ => by simp [Builtin.firstCells, loadCells, loadCellsFrom], by simp, by simp, fun j x hx => by simp at hx⟩⟩
    have hcutmem : ∀ (l : List AV) (r : List IV), CellsAt num C (C.σ id) 0 l → cut l off (len * sz) = some (r.map .imm) → n = len → news = r → ∃ us, Given num P C sz v n news us := by
      rintro l r hl hc rfl rfl
      have hrl := cut_length hc
      rw [List.length_map] at hrl
      refine key news hrl fun j x hx => ?_
      have hj : j < n * sz := by rw [← hrl]; exact (List.getElem?_eq_some_iff.1 hx).1
      have h2 := cut_get hc j hj
      rw [List.getElem?_map, hx] at h2
      obtain ⟨u, hu, _, hr⟩ := hl _ _ h2
      cases hr with | imm _ _ hr => exact ⟨u, by rw [Nat.zero_add] at hu; exact hu, hr⟩
    split at h
    · rename_i cs mv ho
      cases hc : cut cs off (len * sz) with
      | none => simp [hc] at h
      | some r =>
        simp [hc] at h
        obtain ⟨rfl, rfl⟩ := h
        exact hcutmem _ r (cellsAt_flat (hm.obj id _ ho)) (by rw [cut_map, hc]; rfl) rfl rfl
    · rename_i cs ho
      cases hc : cut cs off (len * sz) with
      | none => simp [hc] at h
      | some r =>
        simp only [hc] at h
        cases hi : imms r with
        | none => simp [hi] at h
        | some r' =>
          simp [hi] at h
          obtain ⟨rfl, rfl⟩ := h
          exact hcutmem _ r' (cellsAt_rich (hm.obj id _ ho)) (by rw [hc, imms_get r r' hi]) rfl rfl
    · rename_i cs mv op ho
      cases hc : cut cs off (len * sz) with
      | none => simp [hc] at h
      | some r =>
        simp [hc] at h
        obtain ⟨rfl, rfl⟩ := h
        exact hcutmem _ r (cellsAt_flat (mv := mv) (id_fix (hm.obj id _ ho))) (by rw [cut_map, hc]; rfl) rfl rfl
    · rename_i cs ho
      cases hc : cut cs off (len * sz) with
      | none => simp [hc] at h
      | some r =>
        simp [hc] at h
        obtain ⟨rfl, rfl⟩ := h
        obtain ⟨arr, e, h1, _, h2⟩ := hm.obj id _ ho
        exact hcutmem _ r (cellsAt_flat (mv := false) ⟨arr, e, h1, h2⟩) (by rw [cut_map, hc]; rfl) rfl rfl
    · cases h
  · cases h
theorem run_append_grows {t u e : TypeId} {d : TypeDesc} {i : TypeInfo} {z : Value} (ht : P.underlying t = some (.slice e)) (hu : P.underlying u = some d) (hd : notIntD d = true) (hi : P.info? e = some i) (hz : i.zero = some z)
    (w : World) (b : Option Addr) (l c n : Nat) (v : Value) (olds us : Array Value) (hlen : (Builtin.lenOf v).run P w = .ok n w) (hnew : (Builtin.firstCells i.size n v).run P w.drew = .ok us w.drew)
    (hold : (Builtin.firstCells i.size l (.slice b l c)).run P w.drew = .ok olds w.drew) (hgt : c < l + n) (hby : (l + n) * i.bytes ≤ 140737488355328) (h1 : 0 < i.bytes) :
    (Builtin.append_ #[t, u] ty #[.slice b l c, v]).run P w = .ok (.slice (some ⟨w.heap.size, 0, none⟩) (l + n) (grownCap w (l + n) c e)) (w.drew.alloc (.cells (olds ++ us ++ Builtin.zeroCells z.cells (grownCap w (l + n) c e - (l + n))) e)) := by
  have hn : ¬ (l + n ≤ c) := by omega
  have hle : l + n ≤ 140737488355328 := by
    have := Nat.le_mul_of_pos_right (l + n) h1
    omega
  have h63 : ¬ ((l : Int) + (n : Int) > IntKind.i64.max) := by simp [IntKind.max, IntKind.signed, IntKind.bits]; omega
  have h48 : ¬ (Builtin.nextslicecap (l + n) c * i.bytes > 2 ^ 48) := by have := growslice_fits hgt hby; omega
  have hzr : (zeroValue e).run P w.drew = .ok z w.drew := by simp [zeroValue, typeInfo, hi, hz]
  have hti : ∀ w', (typeInfo e).run P w' = .ok i w' := fun w' => by simp [typeInfo, hi]
  cases d <;> first
    | (cases hd; done)
    | (simp only [Builtin.append_, List.getElem?_toArray, List.getElem?_cons_zero, List.getElem?_cons_succ, Sem.run_bind, run_underlying ht, Result.andThen_ok, sizeOf, hti, Sem.run_pure, run_underlying hu, Bool.false_eq_true, if_false, hlen, hn]
       simp [h63, h48, hti, Question.forced, hold, hnew, hzr, newRow, grownCap]
       intro h9
       exfalso
       omega)
theorem run_append_rooms {t u e : TypeId} {d : TypeDesc} {i : TypeInfo} (ht : P.underlying t = some (.slice e)) (hu : P.underlying u = some d) (hd : notIntD d = true) (hi : P.info? e = some i)
    (w : World) (b : Option Addr) (l c n : Nat) (v : Value) (us : Array Value) (hlen : (Builtin.lenOf v).run P w = .ok n w) (hnew : (Builtin.firstCells i.size n v).run P w = .ok us w) (hle : l + n ≤ c) {w' : World}
    (hst : ∀ ad, b = some ad → (storeCells (ad.add (l * i.size)) us.toList).run P w = .ok () w') (hno : b = none → w' = w) :
    (Builtin.append_ #[t, u] ty #[.slice b l c, v]).run P w = .ok (.slice b (l + n) c) w' := by
  have hti : ∀ w', (typeInfo e).run P w' = .ok i w' := fun w' => by simp [typeInfo, hi]
  cases d <;> first
    | (cases hd; done)
    | (simp only [Builtin.append_, List.getElem?_toArray, List.getElem?_cons_zero, List.getElem?_cons_succ, Sem.run_bind, run_underlying ht, Result.andThen_ok, sizeOf, hti, Sem.run_pure, run_underlying hu, Bool.false_eq_true, if_false, hlen, hle, if_true]
       cases b with
       | none => simp [hnew, hno rfl]
       | some ad => simp [hnew, hst ad rfl])
theorem grown_fits {w : World} {need old b : Nat} {e : TypeId} (h : need * b ≤ 140737488355328) (h0 : 0 < b) : need ≤ grownCap w need old e ∧ grownCap w need old e ≤ 9223372036854775807 :=
  ⟨grownCap_ge _ _ _ _, by
    have h1 : need ≤ 140737488355328 := Nat.le_trans (Nat.le_mul_of_pos_right _ h0) h
    have := grownCap_le_maxLen w need old e (by unfold maxLen; omega)
    unfold maxLen at this
    omega⟩
theorem zeroCells_size (z : Array Value) (n : Nat) : (Builtin.zeroCells z n).size = n * z.size := by simp [Builtin.zeroCells]
end
end Go.EX


set_option linter.unusedVariables false
set_option linter.unusedSimpArgs false
namespace Go.EX
section
variable {num : Names} {P : Program}
variable {ty : TypeId} {pos : String} {after : Array Edge} {a : Act} {C : Cx} {s : St}
def hide (id : Nat) : Nat → Option Nat := fun j => if j = id then none else some j
theorem map_get {α β : Type} (f : α → β) (l : List α) (i : Nat) (p : β) (h : (l.map f)[i]? = some p) : ∃ q, l[i]? = some q ∧ p = f q := by
  rw [List.getElem?_map] at h
  cases hq : l[i]? with
  | none => simp [hq] at h
  | some q => simp [hq] at h; exact ⟨q, rfl, h.symm⟩
theorem ren_live (f : Nat → Option Nat) (o : AObj) : (o.ren f).live = o.live := by cases o <;> rfl
theorem ren_moved (f : Nat → Option Nat) (o : AObj) : (o.ren f).moved = o.moved := by cases o <;> rfl
theorem move_tr {m : Mem} (hm : MRep num C m) {id : Nat} {o : AObj} (ho : m[id]? = some o) (hlo : o.live = true) {σ' : Nat → Nat} {w' : World} (hσ : ∀ j, j ≠ id → σ' j = C.σ j)
    (hw : ∀ b, b < C.w.heap.size → b ≠ C.σ id → w'.heap[b]? = C.w.heap[b]?) (hsz : ∀ n e, RowAt C.w (C.σ id) n e → RowAt (w') (C.σ id) n e) :
    Tr (hide id) C { C with σ := σ', w := w' } := by
  refine ⟨fun _ h => h, fun b hb => hw b (hm.bd b hb) fun e => hm.imm b ⟨id, o, ho, hlo, e.symm⟩ hb, fun i j hi hj => ?_⟩
  unfold hide at hj
  split at hj
  · cases hj
  · rename_i hne
    cases hj
    refine ⟨hi, hσ i hne, fun arr e h => ?_⟩
    by_cases hc : C.σ i = C.σ id
    · rw [hc] at h ⊢; exact hsz arr e h
    · exact h.same (hw _ h.lt hc)
theorem move_step {m : Mem} (hm : MRep num C m) {id : Nat} {o : AObj} (ho : m[id]? = some o) (hlo : o.live = true) {σ' : Nat → Nat} {w' : World} (hσ : ∀ j, j ≠ id → σ' j = C.σ j)
    (hnew : σ' id = C.σ id ∨ C.w.heap.size ≤ σ' id)
    (hos : w'.os = C.w.os) (htp : w'.tape = C.w.tape) (hout : w'.output = C.w.output) (hsize : C.w.heap.size ≤ w'.heap.size)
    (hw : ∀ b, b < C.w.heap.size → b ≠ C.σ id → w'.heap[b]? = C.w.heap[b]?) (hsz : ∀ n e, RowAt C.w (C.σ id) n e → RowAt (w') (C.σ id) n e)
    {cs : List IV} {mb : Bool} (hr : ORep num { C with σ := σ', w := w' } id (.flat cs mb)) {k : Nat} (hk : k ≤ m.length) (hof : o.isFix = false := by rfl) (hmb : id < k → mb = true := by first | exact fun _ => rfl | (intro hmb; exfalso; omega)) :
    Step num k C m { C with σ := σ', w := w' } ((m.map (AObj.ren (hide id))).set id (.flat cs mb)) := by
  have ht := move_tr hm ho hlo hσ hw hsz
  have hid : id < m.length := (List.getElem?_eq_some_iff.1 ho).1
  have split : ∀ (i : Nat) (p : AObj), ((m.map (AObj.ren (hide id))).set id (.flat cs mb))[i]? = some p → (i = id ∧ p = .flat cs mb) ∨ (i ≠ id ∧ ∃ q, m[i]? = some q ∧ p = q.ren (hide id)) := by
    intro i p hp
    rw [set_get] at hp
    split at hp
    · rename_i hi; exact .inl ⟨hi.1.symm, (Option.some.inj hp).symm⟩
    · rename_i hi
      obtain ⟨q, hq, rfl⟩ := map_get _ _ _ _ hp
      refine .inr ⟨fun e => hi ⟨e.symm, by rw [List.length_map, e]; exact hid⟩, q, hq, rfl⟩
  have hown : ∀ b, Own { C with σ := σ', w := w' } ((m.map (AObj.ren (hide id))).set id (.flat cs mb)) b → C.w.heap.size ≤ b ∨ Own C m b := by
    rintro b ⟨i, p, hp, hl, hb⟩
    rcases split i p hp with ⟨rfl, rfl⟩ | ⟨hne, q, hq, rfl⟩
    · rcases hnew with h | h
      · exact .inr ⟨i, o, ho, hlo, by rw [← h]; exact hb⟩
      · exact .inl (by rw [← hb]; exact h)
    · rw [ren_live] at hl
      exact .inr ⟨i, q, hq, hl, by rw [← hσ i hne]; exact hb⟩
  have hlt : ∀ i q, m[i]? = some q → q.live = true → C.σ i < C.w.heap.size := fun i q hq hl => MRep.lt num hm ⟨i, q, hq, hl, rfl⟩
  refine ⟨⟨by simpa using hm.len, ?_, ?_, ?_, fun b hb => Nat.lt_of_lt_of_le (hm.bd b hb) hsize, num.up hm.glo ht.imm ht.keep⟩, hos, htp, hout, hsize, ?_, ?_, fun _ h => h, fun _ h => .inl h, hown, ?_, by simpa using hk⟩
  · intro i p hp
    rcases split i p hp with ⟨rfl, rfl⟩ | ⟨hne, q, hq, rfl⟩
    · exact hr
    · by_cases hlq : q.live = true
      · refine orep_tr ht (hσ i hne) (fun x h => ?_) (hm.obj i q hq)
        show w'.heap[C.σ i]? = _
        rw [hw _ (hlt i q hq hlq) fun e => hne (hm.inj2 num i id q o hq ho hlq hlo hof e)]
        exact h
      · cases q with
        | dead => trivial
        | _ => exact absurd rfl hlq
  · intro i j p q hp hq hlp hlq he
    rcases split i p hp with ⟨rfl, rfl⟩ | ⟨hne, p', hp', rfl⟩ <;> rcases split j q hq with ⟨rfl, rfl⟩ | ⟨hne2, q', hq', rfl⟩
    · exact .inl rfl
    · rw [ren_live] at hlq
      have he' : σ' i = C.σ j := by rw [← hσ j hne2]; exact he
      rcases hnew with h | h
      · exact .inl (hm.inj1 num i j o q' ho hq' hlo hlq hof (by rw [← h]; exact he'))
      · have := hlt j q' hq' hlq; omega
    · rw [ren_live] at hlp
      have he' : C.σ i = σ' j := by rw [← hσ i hne]; exact he
      rcases hnew with h | h
      · exact .inl (hm.inj2 num i j p' o hp' ho hlp hlo hof (by rw [← h]; exact he'))
      · have := hlt i p' hp' hlp; omega
    · rw [ren_live] at hlp hlq
      have he' : C.σ i = C.σ j := by rw [← hσ i hne, ← hσ j hne2]; exact he
      rw [twin_ren]; exact hm.inj i j p' q' hp' hq' hlp hlq he'
  · intro b hb hI
    rcases hown b hb with h | h
    · have := hm.bd b hI; omega
    · exact hm.imm b h hI
  · intro b hb hno
    exact hw b hb fun e => hno ⟨id, o, ho, hlo, e.symm⟩
  · intro b arr e h
    by_cases hb : b = C.σ id
    · subst hb; exact hsz arr e h
    · exact h.same (hw b h.lt hb)
  · intro i hik p hp hmp
    rcases split i p hp with ⟨rfl, rfl⟩ | ⟨hne, q, hq, rfl⟩
    · have := hmb hik
      subst this
      cases hmp
    · rw [ren_moved] at hmp
      exact ⟨q, hq, hmp, hσ i hne⟩
theorem scrub_eq (s : St) (id : Nat) : s.scrub id = { s with env := s.env.ren (hide id), mem := s.mem.map (AObj.ren (hide id)) } := rfl
theorem grown_rep {w1 : World} (hw1 : w1.heap = C.w.heap) {m : Mem} (hm : MRep num C m) {olds us rest : Array Value} {ol nl : List IV} (ho : ∀ (j : Nat) x, ol[j]? = some x → ∃ u, olds[j]? = some u ∧ IRep C.I C.w x u) (hol : ol.length = olds.size)
    (hn : ∀ (j : Nat) x, nl[j]? = some x → ∃ u, us[j]? = some u ∧ IRep C.I C.w x u) (hnl : nl.length = us.size) (e : TypeId) :
    ∀ (j : Nat) x, (ol ++ nl)[j]? = some x → ∃ u, (olds ++ us ++ rest)[j]? = some u ∧ IRep C.I (w1.alloc (.cells (olds ++ us ++ rest) e (0, 0))) x u := by
  have hk : ∀ b, C.I b → (w1.alloc (.cells (olds ++ us ++ rest) e (0, 0))).heap[b]? = C.w.heap[b]? := by
    intro b hb
    rw [alloc_get, hw1, if_neg (by have := hm.bd b hb; omega)]
  intro j x hx
  rcases Nat.lt_or_ge j ol.length with h | h
  · rw [List.getElem?_append_left h] at hx
    obtain ⟨u, hu, hr⟩ := ho j x hx
    refine ⟨u, ?_, hr.mono (fun _ h => h) hk⟩
    rw [Array.append_assoc, Array.getElem?_append_left (by omega)]
    exact hu
  · rw [List.getElem?_append_right h] at hx
    obtain ⟨u, hu, hr⟩ := hn _ x hx
    refine ⟨u, ?_, hr.mono (fun _ h => h) hk⟩
    have hj := (Array.getElem?_eq_some_iff.1 hu).1
    rw [Array.append_assoc, Array.getElem?_append_right (by omega), Array.getElem?_append_left (by omega), ← hol]
    exact hu
theorem flat_le {arr : Array Value} {cs : List IV} (h : ∀ (j : Nat) x, cs[j]? = some x → ∃ u, arr[j]? = some u ∧ IRep C.I C.w x u) : cs.length ≤ arr.size := by
  rcases Nat.eq_zero_or_pos cs.length with h0 | h0
  · omega
  · obtain ⟨u, hu, _⟩ := h (cs.length - 1) cs[cs.length - 1] (by rw [List.getElem?_eq_getElem (by omega)])
    have := (Array.getElem?_eq_some_iff.1 hu).1
    omega
theorem given_one {sz n : Nat} {v : Value} {news : List IV} {us : Array Value} (h : Given num P C sz v n news us) : ∀ u ∈ us.toList, u.oneCell' = true := by
  intro u hu
  obtain ⟨j, hj⟩ := List.getElem?_of_mem hu
  rw [Array.getElem?_toList] at hj
  have hlt : j < news.length := by rw [h.count, ← h.size]; exact (Array.getElem?_eq_some_iff.1 hj).1
  obtain ⟨u', hu', hr⟩ := h.rep j news[j] (List.getElem?_eq_getElem hlt)
  rw [hj] at hu'
  cases hu'
  exact hr.one
theorem y_append (hs : SRep num C s a) {t u e : TypeId} {d : TypeDesc} {x y : Operand} {x' y' : Src} (ht : P.underlying t = some (.slice e)) (hu : P.underlying u = some d) (hd : notIntD d = true) (hk : known P e = true) (h0 : 0 < P.cellsOf e) (hb0 : 0 < P.bytesOf e)
    (hz : zeroOk P e = true) (hx : trSrc num x = some x') (hy : trSrc num y = some y') {r : AV} {s' : St} (h : exAppend s (P.cellsOf e) (P.bytesOf e) (s.env.ev x') (s.env.ev y') = some (r, s')) :
    Yields num P (.call { callee := .builtin .append, args := #[x, y], argTypes := #[t, u] }) ty pos after a C s r s' := by
  obtain ⟨i, dd, hi, _, hsz, hby⟩ := known_some hk
  obtain ⟨z, hzi, hzs⟩ : ∃ z, i.zero = some z ∧ z.cells.size = P.cellsOf e := by
    unfold zeroOk zeroCellsOf at hz
    rw [hi] at hz
    cases hq : i.zero with
    | none => simp [hq] at hz
    | some z => simp [hq] at hz; exact ⟨z, rfl, hz⟩
  have hm := hs.mem
  have hlen := hm.len
  unfold exAppend at h
  cases hel : elems s.mem (P.cellsOf e) (s.env.ev y') with
  | none => simp [hel] at h
  | some nn =>
    obtain ⟨n, news⟩ := nn
    simp only [hel] at h
    obtain ⟨us, hg⟩ := given_of (P := P) hm (src_rep hs hy) hel
    have hax := src_rep hs hx
    have hexec : ∀ (b : Option Addr) (l c : Nat) (v : Value) (w' : World), a.eval x = .slice b l c → (Builtin.append_ #[t, u] ty #[.slice b l c, a.eval y]).run P C.w = .ok v w' →
        ∀ dst g, (execOp a.eval ⟨dst, .call { callee := .builtin .append, args := #[x, y], argTypes := #[t, u] }, ty, pos, after, g⟩).run P C.w = .ok (.value v) w' := by
      intro b l c v w' hb hr dst g
      simp [execOp, resolve, invoke, builtin, hb, hr]
    have grow : ∀ (b : Option Addr) (l c : Nat) (olds : Array Value) (ol : List IV), a.eval x = .slice b l c → (∀ w, w.heap = C.w.heap → (Builtin.firstCells (P.cellsOf e) l (.slice b l c)).run P w = .ok olds w) → ol.length = olds.size → olds.size = l * P.cellsOf e →
        (∀ (j : Nat) x, ol[j]? = some x → ∃ u, olds[j]? = some u ∧ IRep C.I C.w x u) → c < l + n → (l + n) * P.bytesOf e ≤ 140737488355328 →
        Yields num P (.call { callee := .builtin .append, args := #[x, y], argTypes := #[t, u] }) ty pos after a C s (.osl s.mem.length 0 (P.cellsOf e) (l + n) none) { s with mem := s.mem ++ [.flat (ol ++ news) false] } := by
      intro b l c olds ol hb hold hol hos hor hc hbd
      have hr := run_append_grows (P := P) (ty := ty) ht hu hd hi hzi C.w b l c n (a.eval y) olds us (hg.len _) (by rw [← hsz]; exact hg.cells _ rfl) (by rw [← hsz]; exact hold _ rfl) hc (by rw [← hby]; exact hbd) (by rw [← hby]; exact hb0)
      generalize hrest : Builtin.zeroCells z.cells (grownCap C.w (l + n) c e - (l + n)) = rest at hr
      refine ⟨_, C.more C.w.drew (.cells (olds ++ us ++ rest) e (0, 0)), fun dst g => .inl (hexec b l c _ _ hb hr dst g), more_step (w1 := C.w.drew) hm rfl rfl rfl rfl _ _ ?_ hs.k, hs.env.mono (more_tr (w1 := C.w.drew) hm rfl _), ?_, rfl⟩
      · refine ⟨olds ++ us ++ rest, e, ?_, grown_rep (w1 := C.w.drew) rfl hm hor hol hg.rep (by rw [hg.count, hg.size]) e⟩
        simp only [Cx.more, if_true]
        rw [alloc_get, if_pos (show C.w.heap.size = C.w.drew.heap.size from rfl)]
      · rw [hlen]
        refine more_osl (w1 := C.w.drew) rfl _ e (grown_fits hbd hb0) (fun k hk => by cases hk) (.inr ?_)
        have hge := grownCap_ge C.w (l + n) c e
        have hrs : rest.size = (grownCap C.w (l + n) c e - (l + n)) * P.cellsOf e := by rw [← hrest, zeroCells_size, hzs]
        rw [Array.size_append, Array.size_append, hos, hg.size, hrs, ← Nat.add_mul, ← Nat.add_mul]
        exact Nat.le_of_eq (by congr 1; omega)
    have same : ∀ (b : Option Addr) (l c : Nat), a.eval x = .slice b l c → n = 0 → l ≤ c → Yields num P (.call { callee := .builtin .append, args := #[x, y], argTypes := #[t, u] }) ty pos after a C s (s.env.ev x') s := by
      intro b l c hb hn hlc
      subst hn
      have hus : us.toList = [] := List.eq_nil_of_length_eq_zero (by have := hg.size; simp at this; simpa using this)
      have hr := run_append_rooms (P := P) (ty := ty) ht hu hd hi C.w b l c 0 (a.eval y) us (hg.len _) (by rw [← hsz]; exact hg.cells _ rfl) (by omega) (w' := C.w) (fun ad _ => by rw [hus]; rfl) (fun _ => rfl)
      exact yields_pure hs (fun dst g => hexec b l c _ _ hb hr dst g) (by rw [Nat.add_zero, ← hb]; exact hax)
    split at h
    · rename_i heq
      have hxv : a.eval x = .slice none 0 0 := by rw [heq] at hax; exact rep_val hax
      split at h
      · rename_i hn
        cases h
        exact same none 0 0 hxv hn (Nat.le_refl 0)
      · rename_i hn
        split at h
        · rename_i hbd
          simp only [fresh, Option.some.injEq, Prod.mk.injEq] at h
          obtain ⟨rfl, rfl⟩ := h
          have := grow none 0 0 #[] [] hxv (fun w _ => rfl) rfl (by simp) (fun j x hx => by simp at hx) (by omega) (by rw [Nat.zero_add]; exact hbd)
          rw [Nat.zero_add, List.nil_append] at this
          exact this
        · cases h
    · rename_i row off l c heq
      rw [heq] at hax
      generalize hxv : a.eval x = v at hax
      cases hax with | imm _ _ hax => cases hax with
        | slice _ _ _ _ b o c' ad u' hI hc hu' hl hk' ha =>
          have hcc := hk' c rfl
          subst hcc
          split at h
          · rename_i hn
            cases h
            exact same _ l c' hxv hn hl
          · rename_i hn
            split at h
            · cases h
            · rename_i hroom
              cases hcut : cut row off (l * P.cellsOf e) with
              | none => simp [hcut] at h
              | some old =>
                simp only [hcut] at h
                split at h
                · rename_i hbd
                  simp only [fresh, Option.some.injEq, Prod.mk.injEq] at h
                  obtain ⟨rfl, rfl⟩ := h
                  have hrl := cut_length hcut
                  rcases ha with rfl | h00
                  · have hh : ∀ (j : Nat) x, old[j]? = some x → ∃ u'' : Value, C.w.cell? ⟨b, o + off + j, none⟩ = some u'' ∧ IRep C.I C.w x u'' := by
                      intro j x hx
                      have hj : j < l * P.cellsOf e := by rw [← hrl]; exact (List.getElem?_eq_some_iff.1 hx).1
                      have h2 := cut_get hcut j hj
                      rw [hx] at h2
                      exact ⟨u' (off + j), by rw [Nat.add_assoc]; exact hc _ x h2, hu' _ x h2⟩
                    obtain ⟨olds, h1, h2, h3⟩ := read_row (P := P) hh hrl
                    exact grow _ l c' olds old hxv (fun w hw => by simp only [Builtin.firstCells]; exact h1 w hw) (by rw [hrl, h2]) h2 h3 (by omega) hbd
                  · have hl0 : l = 0 := by omega
                    subst hl0
                    have : old = [] := List.eq_nil_of_length_eq_zero (by omega)
                    subst this
                    exact grow _ 0 c' #[] [] hxv (fun w _ => by simp [Builtin.firstCells, loadCells, loadCellsFrom]) rfl (by simp) (fun j x hx => by simp at hx) (by omega) hbd
                · cases h
        | vac _ _ ad =>
          split at h
          · rename_i hn
            cases h
            exact same _ 0 0 hxv hn (Nat.le_refl 0)
          · rename_i hn
            split at h
            · cases h
            · rename_i hroom
              cases hcut : cut row off (0 * P.cellsOf e) with
              | none => rw [hcut] at h; cases h
              | some old =>
                simp only [hcut] at h
                split at h
                · rename_i hbd
                  simp only [fresh, Option.some.injEq, Prod.mk.injEq] at h
                  obtain ⟨rfl, rfl⟩ := h
                  have hrl := cut_length hcut
                  have : old = [] := List.eq_nil_of_length_eq_zero (by omega)
                  subst this
                  exact grow _ 0 0 #[] [] hxv (fun w _ => by simp [Builtin.firstCells, loadCells, loadCellsFrom]) rfl (by simp) (fun j x hx => by simp at hx) (by omega) hbd
                · cases h
    · rename_i id off sz' l c heq
      split at h
      · rename_i hsz'
        subst hsz'
        have hax0 := hax
        rw [heq] at hax
        generalize hxv : a.eval x = v at hax
        cases hax with
        | osl _ _ _ _ _ c' ad arr e' hid hl hk' ha hw hss =>
          obtain ⟨arr, fz0, hw, rfl⟩ := hw
          have hcc := hk' c rfl
          subst hcc
          split at h
          · rename_i cs mv ho
            obtain ⟨arr2, e2, hw2, hcs⟩ := hm.obj id _ ho
            rw [hw] at hw2
            obtain ⟨rfl, rfl, rfl⟩ : arr = arr2 ∧ e' = e2 ∧ fz0 = (0, 0) := by simpa using hw2
            split at h
            · rename_i hroom
              split at h
              · rename_i hfitc
                simp only [Option.some.injEq, Prod.mk.injEq] at h
                obtain ⟨rfl, rfl⟩ := h
                have hcl := flat_le hcs
                rcases ha with rfl | h00
                · have hus : us.toList.length = n * P.cellsOf e := by rw [Array.length_toList, hg.size]
                  have hfit : ad + l * P.cellsOf e + us.toList.length ≤ arr.size := by rw [hus, Nat.add_assoc, ← Nat.add_mul]; omega
                  have hone : ∀ u ∈ us.toList, u.oneCell' = true := given_one hg
                  have hst := run_storeCells_at P (C.σ id) (ad + l * P.cellsOf e) e' us.toList 0 arr C.w hw (by rw [Nat.add_zero]; exact hfit) hone
                  simp only [Nat.add_zero] at hst
                  have hr := run_append_rooms (P := P) (ty := ty) ht hu hd hi C.w (some ⟨C.σ id, ad, none⟩) l c' n (a.eval y) us (hg.len _) (by rw [← hsz]; exact hg.cells _ rfl) hroom
                    (fun ad' had => by cases had; rw [addr_add, ← hsz]; exact hst) (fun h => by cases h)
                  have hsp := splice_size arr (ad + l * P.cellsOf e) us.toList hfit
                  have htr := update_tr hm ho rfl hw hsp
                  refine ⟨_, _, fun dst g => .inl (hexec _ l c' _ _ hxv hr dst g), update_step (o' := .flat (setAll cs (ad + l * P.cellsOf e) news) mv) hm ho rfl hw hsp rfl (fun hmv => hmv) ?_ hs.k, hs.env.mono htr, ?_, rfl⟩
                  · refine ⟨_, e', by show (C.w.setRow _ _).heap[_]? = _; rw [setRow_get _ _ _ _ _ hw, if_pos rfl], fun j x hx => ?_⟩
                    have hnl : news.length = us.toList.length := by rw [hg.count, hus]
                    rw [setAll_get] at hx
                    rw [splice_get arr _ us.toList hfit]
                    split at hx
                    · rename_i hj
                      rw [if_pos (by omega)]
                      obtain ⟨u, hu', hr'⟩ := hg.rep _ x hx
                      exact ⟨u, by rw [Array.getElem?_toList]; exact hu', hr'.mono htr.imm htr.keep⟩
                    · rename_i hj
                      have hj2 : j < cs.length := (List.getElem?_eq_some_iff.1 hx).1
                      rw [if_neg (by omega)]
                      obtain ⟨u, hu', hr'⟩ := hcs j x hx
                      exact ⟨u, hu', hr'.mono htr.imm htr.keep⟩
                  · refine .osl0 id ad _ _ _ c' ad _ e' hid (by omega) (fun k hk => by cases hk; rfl) (.inl rfl) (by show (C.w.setRow _ _).heap[_]? = _; rw [setRow_get _ _ _ _ _ hw, if_pos rfl]) (by rw [hsp]; exact hss)
                · have hn : n = 0 := by omega
                  have hl0 : l = 0 := by omega
                  have hnews : news = [] := List.eq_nil_of_length_eq_zero (by rw [hg.count, hn]; simp)
                  have hset : s.mem.set id (.flat (setAll cs (off + l * P.cellsOf e) news) mv) = s.mem := by
                    rw [hnews]
                    simp only [setAll]
                    apply List.ext_getElem?
                    intro j
                    rw [set_get]
                    split
                    · rename_i hj; rw [← hj.1, ho]
                    · rfl
                  rw [hset, hn, Nat.add_zero, ← heq]
                  exact same _ l c' hxv hn hl.1
              · cases h
            · rename_i hroom
              cases hcut : cut cs off (l * P.cellsOf e) with
              | none => simp [hcut] at h
              | some old =>
                simp only [hcut] at h
                split at h
                · rename_i hbd
                  simp only [fresh, Option.some.injEq, Prod.mk.injEq] at h
                  obtain ⟨rfl, rfl⟩ := h
                  obtain ⟨olds, hg2⟩ := given_of (P := P) hm hax0 (sz := P.cellsOf e) (n := l) (news := old) (by rw [heq]; simp only [elems, ho, hcut]; rfl)
                  rw [hxv] at hg2
                  exact grow _ l c' olds old hxv hg2.cells (by rw [hg2.count, hg2.size]) hg2.size hg2.rep (by omega) hbd
                · cases h
          · cases h
      · cases h
    · rename_i id sz' l heq
      split at h
      · rename_i hsk
        obtain ⟨hsz', hki⟩ := hsk
        subst hsz'
        have hax0 := hax
        rw [heq] at hax
        generalize hxv : a.eval x = v at hax
        cases hax with
        | osl _ _ _ _ _ c' ad arr e' hid hl hk' ha hw hss =>
          obtain ⟨arr, fz0, hw, rfl⟩ := hw
          split at h
          · rename_i cs mv ho
            obtain ⟨arr2, e2, hw2, hcs⟩ := hm.obj id _ ho
            rw [hw] at hw2
            obtain ⟨rfl, rfl, rfl⟩ : arr = arr2 ∧ e' = e2 ∧ fz0 = (0, 0) := by simpa using hw2
            cases hcut : cut cs 0 (l * P.cellsOf e) with
            | none => simp [hcut] at h
            | some old =>
              simp only [hcut] at h
              split at h
              · rename_i hbd
                simp only [Option.some.injEq, Prod.mk.injEq] at h
                obtain ⟨rfl, rfl⟩ := h
                rw [scrub_eq]
                obtain ⟨olds, hg2⟩ := given_of (P := P) hm hax0 (sz := P.cellsOf e) (n := l) (news := old) (by rw [heq]; simp only [elems, ho, hcut]; rfl)
                rw [hxv] at hg2
                rcases Nat.lt_or_ge c' (l + n) with hgt | hroom
                ·
                  have hr := run_append_grows (P := P) (ty := ty) ht hu hd hi hzi C.w (some ⟨C.σ id, ad, none⟩) l c' n (a.eval y) olds us (hg.len _) (by rw [← hsz]; exact hg.cells _ rfl) (by rw [← hsz]; exact hg2.cells _ rfl) hgt (by rw [← hby]; exact hbd) (by rw [← hby]; exact hb0)
                  generalize hrest : Builtin.zeroCells z.cells (grownCap C.w (l + n) c' e - (l + n)) = rest at hr
                  have hlt : C.σ id < C.w.heap.size := (Array.getElem?_eq_some_iff.1 hw).1
                  have hwk : ∀ b, b < C.w.heap.size → (C.w.drew.alloc (.cells (olds ++ us ++ rest) e)).heap[b]? = C.w.heap[b]? := by
                    intro b hb
                    rw [alloc_get, if_neg (show ¬ b = C.w.drew.heap.size by show ¬ b = C.w.heap.size; omega)]
                    rfl
                  have hnew : (C.w.drew.alloc (.cells (olds ++ us ++ rest) e)).heap[C.w.heap.size]? = some (.cells (olds ++ us ++ rest) e (0, 0)) := by
                    rw [alloc_get, if_pos (show C.w.heap.size = C.w.drew.heap.size from rfl)]
                  let σ' : Nat → Nat := fun j => if j = id then C.w.heap.size else C.σ j
                  have hσ : ∀ j, j ≠ id → σ' j = C.σ j := fun j hj => by simp [σ', hj]
                  have hσi : σ' id = C.w.heap.size := by simp [σ']
                  have htr := move_tr hm ho rfl (σ' := σ') (w' := C.w.drew.alloc (.cells (olds ++ us ++ rest) e)) hσ (fun b hb _ => hwk b hb) (fun _ _ h => h.same (hwk _ hlt))
                  refine ⟨_, { C with σ := σ', w := C.w.drew.alloc (.cells (olds ++ us ++ rest) e) }, fun dst g => .inl (hexec _ l c' _ _ hxv hr dst g), move_step hm ho rfl (w' := C.w.drew.alloc (.cells (olds ++ us ++ rest) e)) hσ (.inr (by rw [hσi]; exact Nat.le_refl _)) rfl rfl rfl (by rw [World.size_alloc]; exact Nat.le_succ C.w.heap.size) (fun b hb _ => hwk b hb) (fun _ _ h => h.same (hwk _ hlt)) ?_ hs.k, hs.env.tr htr, ?_, rfl⟩
                  · refine ⟨olds ++ us ++ rest, e, by show (C.w.drew.alloc _).heap[σ' id]? = _; rw [hσi]; exact hnew, grown_rep (w1 := C.w.drew) rfl hm hg2.rep (by rw [hg2.count, hg2.size]) hg.rep (by rw [hg.count, hg.size]) e⟩
                  · have hrs : rest.size = (grownCap C.w (l + n) c' e - (l + n)) * P.cellsOf e := by rw [← hrest, zeroCells_size, hzs]
                    have hge := grownCap_ge C.w (l + n) c' e
                    rw [← hσi]
                    refine .osl0 id 0 _ _ none _ 0 _ e hid (grown_fits (by assumption) hb0) (fun k hk => by cases hk) (.inl rfl) (by show (C.w.drew.alloc _).heap[σ' id]? = _; rw [hσi]; exact hnew) (.inr ?_)
                    rw [Array.size_append, Array.size_append, hg2.size, hg.size, hrs, ← Nat.add_mul, ← Nat.add_mul, Nat.zero_add]
                    exact Nat.le_of_eq (by congr 1; omega)
                ·
                  have hus : us.toList.length = n * P.cellsOf e := by rw [Array.length_toList, hg.size]
                  have holdl := cut_length hcut
                  rcases ha with rfl | h00
                  · have hfit : l * P.cellsOf e + us.toList.length ≤ arr.size := by
                      rw [hus, ← Nat.add_mul]
                      rcases hss with h0 | h0
                      · have : l + n = 0 := by omega
                        rw [this]; simp
                      · have := Nat.mul_le_mul_right (P.cellsOf e) hroom
                        omega
                    have hone : ∀ u ∈ us.toList, u.oneCell' = true := given_one hg
                    have hst := run_storeCells_at P (C.σ id) (l * P.cellsOf e) e' us.toList 0 arr C.w hw (by rw [Nat.add_zero]; exact hfit) hone
                    simp only [Nat.add_zero] at hst
                    have hr := run_append_rooms (P := P) (ty := ty) ht hu hd hi C.w (some ⟨C.σ id, 0, none⟩) l c' n (a.eval y) us (hg.len _) (by rw [← hsz]; exact hg.cells _ rfl) hroom
                      (fun ad' had => by cases had; rw [addr_add, ← hsz, Nat.zero_add]; exact hst) (fun h => by cases h)
                    have hsp := splice_size arr (l * P.cellsOf e) us.toList hfit
                    have hwk : ∀ b, b < C.w.heap.size → b ≠ C.σ id → (C.w.setRow (C.σ id) (arr.toList.take (l * P.cellsOf e) ++ us.toList ++ arr.toList.drop (l * P.cellsOf e + us.toList.length)).toArray).heap[b]? = C.w.heap[b]? := by
                      intro b _ hb
                      rw [setRow_get _ _ _ _ _ hw, if_neg hb]
                    have hws : (C.w.setRow (C.σ id) (arr.toList.take (l * P.cellsOf e) ++ us.toList ++ arr.toList.drop (l * P.cellsOf e + us.toList.length)).toArray).heap[C.σ id]? = some (.cells (arr.toList.take (l * P.cellsOf e) ++ us.toList ++ arr.toList.drop (l * P.cellsOf e + us.toList.length)).toArray e' (0, 0)) := by
                      rw [setRow_get _ _ _ _ _ hw, if_pos rfl]
                    have hsz3 : ∀ n9 e9, RowAt C.w (C.σ id) n9 e9 → RowAt (C.w.setRow (C.σ id) (arr.toList.take (l * P.cellsOf e) ++ us.toList ++ arr.toList.drop (l * P.cellsOf e + us.toList.length)).toArray) (C.σ id) n9 e9 := by
                      intro n0 e0 h0'
                      exact h0'.put hw hws hsp
                    have htr := move_tr hm ho rfl (σ' := C.σ) (fun _ _ => rfl) hwk hsz3
                    refine ⟨_, _, fun dst g => .inl (hexec _ l c' _ _ hxv hr dst g), move_step hm ho rfl (σ' := C.σ) (w' := (C.w.setRow (C.σ id) (arr.toList.take (l * P.cellsOf e) ++ us.toList ++ arr.toList.drop (l * P.cellsOf e + us.toList.length)).toArray)) (fun _ _ => rfl) (.inl rfl) rfl rfl rfl (by rw [size_setRow]; exact Nat.le_refl _) hwk hsz3 ?_ hs.k, hs.env.tr htr, ?_, rfl⟩
                    · refine ⟨_, e', hws, fun j x hx => ?_⟩
                      rw [splice_get arr _ us.toList hfit]
                      rcases Nat.lt_or_ge j old.length with hj | hj
                      · rw [List.getElem?_append_left hj] at hx
                        rw [if_neg (by omega)]
                        have h2 := cut_get hcut j (by omega)
                        rw [hx, Nat.zero_add] at h2
                        obtain ⟨u, hu', hr'⟩ := hcs j x h2
                        exact ⟨u, hu', hr'.mono htr.imm htr.keep⟩
                      · rw [List.getElem?_append_right hj] at hx
                        have hjn : j - old.length < news.length := (List.getElem?_eq_some_iff.1 hx).1
                        rw [if_pos (by rw [hus, ← hg.count]; omega)]
                        obtain ⟨u, hu', hr'⟩ := hg.rep _ x hx
                        exact ⟨u, by rw [Array.getElem?_toList, ← holdl]; exact hu', hr'.mono htr.imm htr.keep⟩
                    · exact .osl0 id 0 _ _ none c' 0 _ e' hid (by omega) (fun k hk => by cases hk) (.inl rfl) hws (by rw [hsp]; exact hss)
                  · have hn : n = 0 := by omega
                    have hl0 : l = 0 := by omega
                    have hnews : news = [] := List.eq_nil_of_length_eq_zero (by rw [hg.count, hn]; simp)
                    have hold0 : old = [] := List.eq_nil_of_length_eq_zero (by rw [holdl, hl0]; simp)
                    have hus0 : us.toList = [] := List.eq_nil_of_length_eq_zero (by rw [hus, hn]; simp)
                    have hr := run_append_rooms (P := P) (ty := ty) ht hu hd hi C.w (some ⟨C.σ id, ad, none⟩) l c' n (a.eval y) us (hg.len _) (by rw [← hsz]; exact hg.cells _ rfl) hroom (w' := C.w) (fun ad _ => by rw [hus0]; rfl) (fun _ => rfl)
                    have htr := move_tr hm ho rfl (σ' := C.σ) (w' := C.w) (fun _ _ => rfl) (fun _ _ _ => rfl) (fun _ _ h => h)
                    refine ⟨_, _, fun dst g => .inl (hexec _ l c' _ _ hxv hr dst g), move_step hm ho rfl (σ' := C.σ) (w' := C.w) (fun _ _ => rfl) (.inl rfl) rfl rfl rfl (Nat.le_refl _) (fun _ _ _ => rfl) (fun _ _ h => h) ?_ hs.k, hs.env.tr htr, ?_, rfl⟩
                    · refine ⟨arr, e', hw, fun j x hx => ?_⟩
                      rw [hold0, hnews] at hx
                      simp at hx
                    · exact .osl0 id 0 _ _ none c' ad arr e' hid (by omega) (fun k hk => by cases hk) (.inr h00) hw (.inl h00)
              · cases h
          · cases h
      · cases h
    · cases h
end
end Go.EX

