import Derived.Test.YtfmpeoickjggiaaGreatDoorCc9
import Derived.Test.YtfmpeoickjggiaaGreatDoorIns
import Derived.Test.YtfmpeoickjggiaaGreatDoorK3
set_option linter.unusedVariables false
set_option linter.unusedSimpArgs false
namespace Go.EX
noncomputable abbrev run9 : Calls' := callW code9 (extInsert 766)
theorem run9_insert (args : List AV) (m : Mem) : run9 766 args m = exInsert args m := by
  unfold run9
  rw [callW_ext code9 (extInsert 766) (rfl : code9 766 = none)]
  simp [extInsert]
end Go.EX

set_option maxRecDepth 100000
set_option linter.unusedVariables false
set_option linter.unusedSimpArgs false
namespace Go.EX
structure Ins where
  op : Int
  a : Int
structure Cap where
  up : Bool
  n : Int
structure Const where
  k : Int
  n : Int
  s : ByteArray
structure Handler where
  fr : Int
  to : Int
  at' : Int
  deep : Int
def tIns : Ty Ins := ⟨2, true, fun x => [.val (.int .u8 x.op), .val (.int .i64 x.a)], fun x => (tInt .u8).wf x.op ∧ (tInt .i64).wf x.a, fun _ => rfl⟩
def tCap : Ty Cap := ⟨2, true, fun x => [.val (.bool x.up), .val (.int .i64 x.n)], fun x => (tInt .i64).wf x.n, fun _ => rfl⟩
def tConst : Ty Const := ⟨3, true, fun x => [.val (.int .u8 x.k), .val (.int .i64 x.n), .val (.string x.s)], fun x => (tInt .u8).wf x.k ∧ (tInt .i64).wf x.n ∧ tStr.wf x.s, fun _ => rfl⟩
def tHandler : Ty Handler := ⟨4, true, fun x => [.val (.int .i64 x.fr), .val (.int .i64 x.to), .val (.int .i64 x.at'), .val (.int .i64 x.deep)],
  fun x => (tInt .i64).wf x.fr ∧ (tInt .i64).wf x.to ∧ (tInt .i64).wf x.at' ∧ (tInt .i64).wf x.deep, fun _ => rfl⟩
structure Fn where
  name : ByteArray
  params : Int
  locals : Int
  caps : Sl tCap
  consts : Sl tConst
  code : Sl tIns
  lines : Sl (tInt .i64)
  handlers : Sl tHandler
def tFn : Ty Fn := ⟨8, true, fun f => [.val (.string f.name), .val (.int .i64 f.params), .val (.int .i64 f.locals), f.caps.iv, f.consts.iv, f.code.iv, f.lines.iv, f.handlers.iv],
  fun f => tStr.wf f.name ∧ (tInt .i64).wf f.params ∧ (tInt .i64).wf f.locals, fun _ => rfl⟩
abbrev fnAV (f : Fn) : AV := .agg [.imm (.val (.string f.name)), int64 f.params, int64 f.locals, .imm f.caps.iv, .imm f.consts.iv, .imm f.code.iv, .imm f.lines.iv, .imm f.handlers.iv]
def isB (a b c : Int) : Bool := decide (b ≤ a) && decide (a < c)
theorem is_spec (a b c : Int) : run9 660 [int64 a, int64 b, int64 c] [] = some (avb (isB a b c), []) := by
  unfold run9
  rw [callW_fun code9 (extInsert 766) (rfl : code9 660 = some x660)]
  unfold isB
  by_cases h1 : b ≤ a
  · by_cases h2 : a < c <;> simp -implicitDefEqProofs [x660, h1, h2]
  · simp -implicitDefEqProofs [x660, h1]
def rowTab : List (Nat × Nat × Nat × Nat) := [(0, 0, 0, 0), (1, 0, 1, 0), (0, 0, 1, 0), (0, 0, 1, 0), (0, 0, 1, 0), (2, 0, 1, 0), (2, 1, 0, 0), (2, 0, 0, 0), (2, 0, 1, 0), (2, 1, 0, 0), (3, 0, 1, 0), (3, 1, 0, 0), (0, 1, 0, 0), (0, 1, 2, 0),
  (4, 2, 1, 0), (0, 1, 1, 0), (0, 1, 1, 0), (0, 1, 1, 0), (0, 1, 1, 0), (5, 0, 0, 0), (5, 1, 0, 0), (6, 0, 0, 0), (7, 0, 1, 1), (7, 0, 1, 2), (0, 2, 1, 0), (0, 3, 0, 0), (8, 0, 1, 0), (7, 1, 1, 1), (0, 1, 0, 0), (0, 1, 0, 0), (0, 1, 0, 0)]
def rowIV (r : Nat × Nat × Nat × Nat) : List IV := [.val (.int .u8 r.1), .val (.int .i64 r.2.1), .val (.int .i64 r.2.2.1), .val (.int .i64 r.2.2.2)]
def rowsIV : List IV := rowTab.flatMap rowIV
theorem rows_spec : run9 662 [] [] = some (.agg (rowsIV.map .imm), []) := (callW_some code9 (extInsert 766)).2 ⟨10, by kernel_rfl⟩
def ckCells (pv : IV) : List AV := .imm pv :: (rowsIV.map AV.imm ++ [.omap 1])
def mkMap (l : List (Int × Int)) : List (AV × AV) := l.map fun p => (int64 p.1, int64 p.2)
def ckMem (pv : IV) (l : List (Int × Int)) : Mem := [.rich (ckCells pv), .map (mkMap l)]
def opRow (op : Int) : Nat × Nat × Nat × Nat := (rowTab[op.toNat]?).getD (0, 0, 0, 0)
@[simp] theorem ck_p (pv : IV) : (ckCells pv)[0]? = some (.imm pv) := rfl
@[simp] theorem ck_m (pv : IV) : (ckCells pv)[125]? = some (.omap 1) := rfl
@[simp] theorem ck_refs (pv : IV) : AV.refs.refsL (ckCells pv) = [1] := rfl
theorem renL_app (f : Nat → Option Nat) (a b : List AV) : AV.ren.renL f (a ++ b) = AV.ren.renL f a ++ AV.ren.renL f b := by simp only [renL_eq, List.map_append]
theorem renL_imms (f : Nat → Option Nat) (l : List IV) : AV.ren.renL f (l.map AV.imm) = l.map AV.imm := by
  rw [renL_eq, List.map_map]; rfl
theorem ck_ren (f : Nat → Option Nat) (h : f 1 = some 1) (pv : IV) : AV.ren.renL f (ckCells pv) = ckCells pv := by
  simp only [ckCells, AV.ren.renL, AV.ren, renL_app, renL_imms, h]
@[simp] theorem map_refs1 (l : List (Int × Int)) : AV.refs.refsL (List.map (fun x => x.1) (mkMap l)) = [] := by
  unfold mkMap
  induction l with
  | nil => rfl
  | cons x r ih => simp only [List.map_cons, AV.refs.refsL, ih, AV.refs, List.append_nil]
@[simp] theorem map_refs2 (l : List (Int × Int)) : AV.refs.refsL (List.map (fun x => x.2) (mkMap l)) = [] := by
  unfold mkMap
  induction l with
  | nil => rfl
  | cons x r ih => simp only [List.map_cons, AV.refs.refsL, ih, AV.refs, List.append_nil]
@[simp] theorem map_ren (f : Nat → Option Nat) (l : List (Int × Int)) : List.map (fun p => (AV.ren f p.1, AV.ren f p.2)) (mkMap l) = mkMap l := by
  simp [mkMap, AV.ren]
theorem tab_all : ∀ n : Fin 31, cut rowsIV (n.val * 4) 4 = some (rowIV ((rowTab[n.val]?).getD (0, 0, 0, 0))) := by
  intro n
  have : ∀ k < 31, cut rowsIV (k * 4) 4 = some (rowIV ((rowTab[k]?).getD (0, 0, 0, 0))) := by
    intro k hk
    have hl : k < rowTab.length := hk
    have := flatMap_cut (t := (⟨4, true, rowIV, fun _ => True, fun _ => rfl⟩ : Ty (Nat × Nat × Nat × Nat))) (fun _ => rfl) rowTab k 1 hk
    simp only [Nat.one_mul] at this
    have hd : List.take 1 (List.drop k rowTab) = [rowTab[k]] := by rw [List.drop_eq_getElem_cons hl]; rfl
    rw [rowsIV, this, List.getElem?_eq_getElem hl, hd]
    simp
  exact this n.val n.isLt
theorem ck_row (pv : IV) (op : Int) (h0 : 0 ≤ op) (h1 : op < 31) : cut (ckCells pv) (1 + op.toNat * 4) 4 = some ((rowIV (opRow op)).map .imm) := by
  have h := tab_all ⟨op.toNat, by omega⟩
  obtain ⟨h2, h3⟩ := cut_some h
  have hlen : rowsIV.length = 124 := rfl
  refine cut_mk ?_ (by simp [rowIV])
  unfold ckCells
  rw [Nat.add_comm 1, List.drop_succ_cons, List.drop_append, List.take_append]
  have hl : (List.drop (op.toNat * 4) (rowsIV.map AV.imm)).length = 124 - op.toNat * 4 := by simp [hlen]
  rw [hl]
  have : 4 - (124 - op.toNat * 4) = 0 := by omega
  rw [this, List.take_zero, List.append_nil, ← List.map_drop, ← List.map_take, ← h2]
  rfl
theorem ck_row0 (pv : IV) (op : Int) (h0 : 0 ≤ op) (h1 : op < 31) : (ckCells pv)[1 + op.toNat * 4]? = some (.imm (.val (.int .u8 (opRow op).1))) := by
  have := cut_get (ck_row pv op h0 h1) 0 (by omega)
  rwa [Nat.add_zero] at this
theorem opRow_le (op : Int) : (opRow op).1 ≤ 8 ∧ (opRow op).2.1 ≤ 3 ∧ (opRow op).2.2.1 ≤ 2 ∧ (opRow op).2.2.2 ≤ 2 := by
  have : ∀ k : Nat, ((rowTab[k]?).getD (0, 0, 0, 0)).1 ≤ 8 ∧ ((rowTab[k]?).getD (0, 0, 0, 0)).2.1 ≤ 3 ∧ ((rowTab[k]?).getD (0, 0, 0, 0)).2.2.1 ≤ 2 ∧ ((rowTab[k]?).getD (0, 0, 0, 0)).2.2.2 ≤ 2 := by
    intro k
    by_cases hk : k < 31
    · exact (by decide : ∀ k : Fin 31, ((rowTab[k.val]?).getD (0, 0, 0, 0)).1 ≤ 8 ∧ ((rowTab[k.val]?).getD (0, 0, 0, 0)).2.1 ≤ 3 ∧ ((rowTab[k.val]?).getD (0, 0, 0, 0)).2.2.1 ≤ 2 ∧ ((rowTab[k.val]?).getD (0, 0, 0, 0)).2.2.2 ≤ 2) ⟨k, hk⟩
    · rw [List.getElem?_eq_none (by show 31 ≤ k; omega)]; simp
  exact this _
end Go.EX

