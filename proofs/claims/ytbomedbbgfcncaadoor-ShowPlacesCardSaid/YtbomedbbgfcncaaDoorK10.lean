import Derived.Test.YtbomedbbgfcncaaDoorK9
import Derived.Lib.ItoaLen
import Derived.Test.YtbomedbbgfcncaaDoorRows
import Derived.Test.YtbomedbbgfcncaaDoorK8
import Derived.Test.YtbomedbbgfcncaaDoorCk4
import Derived.Test.YtbomedbbgfcncaaDoorFmt2
import Derived.Test.YtbomedbbgfcncaaDoorK4
set_option linter.unusedVariables false
set_option linter.unusedSimpArgs false
namespace Go.EX
theorem zcu {n : Int} (h : (tInt .i64).wf n) : (dig n).size ≤ 21 := by
 obtain ⟨h0, h1⟩ := wfI64.1 h
 have := Go.Lib.itoa_length_le n h0 h1
 show (Go.Lib.itoa n).toArray.size ≤ 21
 simpa using this
theorem zjb {S : List Obj} {v : Val} {o : Obj} (h : objOf S v = some o) : o ∈ S ∧ o.k = v.k := by
 unfold objOf at h
 rw [Option.bind_eq_some_iff] at h
 obtain ⟨k, hk, ho⟩ := h
 obtain ⟨_, _, _, _, o', ho', hk'⟩ := zg7 hk
 rw [ho'] at ho
 cases ho
 exact ⟨List.mem_of_getElem? ho', hk'⟩
theorem zku {S : List Obj} {deep : Bool} {v : Val} {x : ByteArray} (hv : tVal.wf v) (hS : ∀ o ∈ S, tObj.wf o) (hs : ∀ o ∈ S, o.s.size ≤ 1048576) (h : pieceOf S deep v = some x) : x.size ≤ 1048600 := by
 unfold pieceOf at h
 split at h
 ·cases h; decide
 split at h
 ·cases h; split <;> decide
 split at h
 ·cases h; have := zcu hv.2; omega
 split at h
 ·cases h; decide
 rename_i o ho
 obtain ⟨hm, _⟩ := zjb ho
 split at h
 ·cases h; decide
 split at h
 ·cases h; have := hs o hm; omega
 split at h
 ·cases h
  have := zcu (hS o hm).2.2.2
  rw [zoe]
  have : fnT.size = 3 := rfl
  omega
 split at h
 ·cases h; decide
 ·cases h
theorem zkt {S : List Obj} {deep : Bool} {v : Val} (h : pieceOf S deep v = none) : deep = false ∧ v.k ≠ 0 ∧ v.k ≠ 1 ∧ v.k ≠ 2 ∧ v.k ≠ 7 ∧ v.k ≠ 3 ∧ v.k ≠ 6 ∧ ∃ o, objOf S v = some o := by
 unfold pieceOf at h
 by_cases h0 : v.k = 0
 ·simp [h0] at h
 by_cases h1 : v.k = 1
 ·simp [h0, h1] at h
 by_cases h2 : v.k = 2
 ·simp [h0, h1, h2] at h
 rw [if_neg h0, if_neg h1, if_neg h2] at h
 cases ho : objOf S v with
 | none => rw [ho] at h; cases h
 | some o =>
  rw [ho] at h
  dsimp only at h
  by_cases h7 : v.k = 7
  ·rw [if_pos h7] at h; cases h
  by_cases h3 : v.k = 3
  ·rw [if_neg h7, if_pos h3] at h; cases h
  by_cases h6 : v.k = 6
  ·rw [if_neg h7, if_neg h3, if_pos h6] at h; cases h
  rw [if_neg h7, if_neg h3, if_neg h6] at h
  cases deep with
  | true => cases h
  | false => exact ⟨rfl, h0, h1, h2, h7, h3, h6, o, rfl⟩
theorem zgc {f : Val → ByteArray → ByteArray} {m : Bool} {X : Nat} (hX : 5000 ≤ X) : ∀ (xs : List Val) (i : Nat) (c : ByteArray), (∀ v ∈ xs, ∀ c : ByteArray, c.size ≤ 5000 → (f v c).size ≤ X) → c.size ≤ X → (itemsV f m xs i c).1.size ≤ X
 | [], i, c, _, h => h
 | v :: r, i, c, hf, h => by
  unfold itemsV
  split
  ·exact h
  ·rename_i h4
   refine zgc hX r (i + 1) _ (fun w hw => hf w (List.mem_cons_of_mem _ hw)) (hf v (List.mem_cons_self ..) _ ?_)
   split
   ·rw [zgq]; omega
   ·split
    ·rw [ziy]; omega
    ·omega
theorem zmu {f : Val → ByteArray → ByteArray} {o : Obj} {X : Nat} (hX : 5001 ≤ X) (hf : ∀ v ∈ o.l.xs, ∀ c : ByteArray, c.size ≤ 5000 → (f v c).size ≤ X) (c : ByteArray) (hc : c.size ≤ 5000) : (rowV f o c).size ≤ X + 6 := by
 have hop : (c ++ if decide (o.k = 5) then openM else openL).size = c.size + 1 := by split <;> exact zjw _ _
 have h := zgc (m := decide (o.k = 5)) (by omega) o.l.xs 0 (c ++ if decide (o.k = 5) then openM else openL) hf (by omega)
 have hen : ∀ x : ByteArray, (x ++ if decide (o.k = 5) then endM else endL).size = x.size + 1 := fun x => by split <;> exact zjw _ _
 unfold rowV
 dsimp only
 generalize decide (o.k = 5) = m at *
 generalize itemsV f m o.l.xs 0 (c ++ if m = true then openM else openL) = q at *
 by_cases h2 : q.2 = true
 ·rw [if_pos h2]; omega
 ·rw [if_neg h2, hen]
  split
  ·rw [zgz]; omega
  ·omega
theorem zgb {f : Val → ByteArray → ByteArray} {m : Bool} : ∀ (xs : List Val) (i : Nat) (c : ByteArray), (∀ v ∈ xs, ∀ c : ByteArray, 0 < c.size → 0 < (f v c).size) → 0 < c.size → 0 < (itemsV f m xs i c).1.size
 | [], i, c, _, h => h
 | v :: r, i, c, hf, h => by
  unfold itemsV
  split
  ·exact h
  ·refine zgb r (i + 1) _ (fun w hw => hf w (List.mem_cons_of_mem _ hw)) (hf v (List.mem_cons_self ..) _ ?_)
   split
   ·rw [zgq]; omega
   ·split
    ·rw [ziy]; omega
    ·omega
theorem zmt {f : Val → ByteArray → ByteArray} {o : Obj} (hf : ∀ v ∈ o.l.xs, ∀ c : ByteArray, 0 < c.size → 0 < (f v c).size) (c : ByteArray) : 0 < (rowV f o c).size := by
 have hop : (c ++ if decide (o.k = 5) then openM else openL).size = c.size + 1 := by split <;> exact zjw _ _
 have h := zgb (m := decide (o.k = 5)) o.l.xs 0 (c ++ if decide (o.k = 5) then openM else openL) hf (by omega)
 have hen : ∀ x : ByteArray, (x ++ if decide (o.k = 5) then endM else endL).size = x.size + 1 := fun x => by split <;> exact zjw _ _
 unfold rowV
 dsimp only
 generalize decide (o.k = 5) = m at *
 generalize itemsV f m o.l.xs 0 (c ++ if m = true then openM else openL) = q at *
 by_cases h2 : q.2 = true
 ·rw [if_pos h2]; exact h
 ·rw [if_neg h2, hen]; omega
structure StoreOK (S : List Obj) : Prop where
 wf : ∀ o ∈ S, tObj.wf o
 s : ∀ o ∈ S, o.s.size ≤ 1048576
 l : ∀ o ∈ S, o.l.xs.length ≤ 1000000
theorem zgf {S : List Obj} (h : StoreOK S) {o : Obj} (ho : o ∈ S) : ∀ v ∈ o.l.xs, tVal.wf v := o.l.ok.1
theorem zpd {S : List Obj} {d : Nat} {v : Val} {o : Obj} (hp : pieceOf S (d + 1 == 0) v = none) (ho : objOf S v = some o) (c : ByteArray) : tellV S (d + 1) v c = rowV (tellV S d) o c := by
 unfold tellV
 rw [hp, ho]
theorem zpa {S : List Obj} (h : StoreOK S) : ∀ (d : Nat) (v : Val) (c : ByteArray), tVal.wf v → (c.size ≤ 5000 → (tellV S d v c).size ≤ 1054000 + 10 * d) ∧ (0 < c.size → 0 < (tellV S d v c).size)
 | d, v, c, hv => by
  unfold tellV
  cases hp : pieceOf S (d == 0) v with
  | some x =>
   have := zku hv h.wf h.s hp
   exact ⟨fun hc => by dsimp only; rw [zoe]; omega, fun hc => by dsimp only; rw [zoe]; omega⟩
  | none =>
   obtain ⟨hd, _, _, _, _, _, _, o, ho⟩ := zkt hp
   obtain ⟨hm, _⟩ := zjb ho
   rw [ho]
   cases d with
   | zero => cases hd
   | succ d =>
    dsimp only
    have hw := zgf h hm
    refine ⟨fun hc => ?_, fun hc => zmt (fun w hw' c hc => (zpa h d w c (hw w hw')).2 hc) c⟩
    have := zmu (X := 1054000 + 10 * d) (by omega) (fun w hw' c hc => (zpa h d w c (hw w hw')).1 hc) c hc
    omega
section
variable {code : Nat → Option XFun} {ext : Calls'}
theorem zqp (c : TextCode code ext) (h : code 651 = some x651) (h246 : code 246 = some x246) {sv : IV} {S : List Obj} (hr : Reads tObj sv S) (v : Val) (hv : tVal.wf v) (inn : Int) (hd : ¬ (8 < inn)) (hk : v.k ≠ 0 ∧ v.k ≠ 1 ∧ v.k ≠ 2 ∧ v.k ≠ 7 ∧ v.k ≠ 3 ∧ v.k ≠ 6) {o : Obj} (ho : objOf S v = some o) :
  ∃ row off, cut row off 5 = some [.val (.int .u8 o.k), .val (.string o.s), o.l.iv, .val (.int .i64 o.room), .val (.int .i64 o.fn)] ∧
   (∀ b b', callW code ext 245 [.optr 0 0, .imm (.ptr row off), int64 inn] (bOne sv b) = some (.tup [], bTwo sv b') → callW code ext 246 [.optr 0 0, .agg [.imm (.val (.int .u8 v.k)), int64 v.n], int64 inn] (bOne sv b) = some (.tup [], bTwo sv b')) ∧
   (∀ b', callW code ext 245 [.optr 0 0, .imm (.ptr row off), int64 inn] (bNil false sv) = some (.tup [], bOne sv b') → callW code ext 246 [.optr 0 0, .agg [.imm (.val (.int .u8 v.k)), int64 v.n], int64 inn] (bNil false sv) = some (.tup [], bOne sv b')) := by
 obtain ⟨k0, k1, k2, k7, k3, k6⟩ := hk
 rcases zg5 (ext := ext) h hr v hv.2 with ⟨hn, _⟩ | ⟨k, o', row, off, hle, hso, hget, hl⟩
 ·simp [objOf, hn] at ho
 ·simp only [objOf, hle, Option.bind_some, hso, Option.some.injEq] at ho
  subst ho
  refine ⟨row, off, hget, fun b b' hw => ?_, fun b' hw => ?_⟩
  ·rw [zbe code ext h246]
   simp only [bOne, bTwo] at hw ⊢
   simp -implicitDefEqProofs [x246, hl, hw, k0, k1, k2, k7, k3, k6, hd]
  ·rw [zbe code ext h246]
   simp only [bNil, bAddr, bOne] at hw ⊢
   simp -implicitDefEqProofs [x246, hl, hw, k0, k1, k2, k7, k3, k6, hd]
theorem zpc (c : TextCode code ext) (h : code 651 = some x651) (h246 : code 246 = some x246) (h245 : code 245 = some x245) {sv : IV} {S : List Obj} (hr : Reads tObj sv S) (hS : StoreOK S) : ∀ (d : Nat), d ≤ 9 → ∀ (v : Val) (b : ByteArray), tVal.wf v → 0 < b.size → b.size ≤ 5000 →
  callW code ext 246 [.optr 0 0, .agg [.imm (.val (.int .u8 v.k)), int64 v.n], int64 (9 - d)] (bOne sv b) = some (.tup [], bTwo sv (tellV S d v b))
 | d, hd9, v, b, hv, hb, hb5 => by
  have hdd : decide ((8 : Int) < 9 - d) = (d == 0) := by
   cases d with
   | zero => rfl
   | succ d => simp; omega
  have hfn := fun o ho => (hS.wf o ho).2.2.2
  cases hp : pieceOf S (d == 0) v with
  | some x =>
   have hx := zku hv hS.wf hS.s hp
   have he : tellV S d v b = b ++ x := by unfold tellV; rw [hp]
   rw [he]
   exact zqo c h h246 hr v hv (9 - d) b x (by rw [hdd]; exact hp) (nw := x.size) (zq6 c sv b x hb (by omega)) hfn (by omega)
  | none =>
   obtain ⟨hd0, k0, k1, k2, k7, k3, k6, o, ho⟩ := zkt hp
   obtain ⟨hm, _⟩ := zjb ho
   cases d with
   | zero => cases hd0
   | succ d =>
    have he : tellV S (d + 1) v b = rowV (tellV S d) o b := zpd hp ho b
    rw [he]
    obtain ⟨row, off, hget, hF, _⟩ := zqp c h h246 hr v hv (9 - (d + 1 : Nat)) (by omega) ⟨k0, k1, k2, k7, k3, k6⟩ ho
    have hl := hS.l o hm
    refine hF b _ (zo9 c h245 (B := 2000000) (by omega) (by omega) (by omega) ⟨fun w hw c' hc hc5 => ?_, fun w hw c' hc => (zpa hS d w c' (o.l.ok.1 w hw)).2 hc, fun w hw c' hc => by have := (zpa hS d w c' (o.l.ok.1 w hw)).1 hc; omega⟩ (by omega) hget b hb hb5)
    have := zpc c h h246 h245 hr hS d (by omega) w c' (o.l.ok.1 w hw) hc hc5
    rw [show (9 - ((d + 1 : Nat) : Int) + 1) = 9 - d by omega]
    exact this
theorem zpb (c : TextCode code ext) (h : code 651 = some x651) (h246 : code 246 = some x246) (h245 : code 245 = some x245) {sv : IV} {S : List Obj} (hr : Reads tObj sv S) (hS : StoreOK S) (v : Val) (hv : tVal.wf v) :
  callW code ext 246 [.optr 0 0, .agg [.imm (.val (.int .u8 v.k)), int64 v.n], int64 0] (bNil false sv) = some (.tup [], if (tellV S 9 v .empty).size = 0 then bNil true sv else bOne sv (tellV S 9 v .empty)) := by
 have hfn := fun o ho => (hS.wf o ho).2.2.2
 cases hp : pieceOf S (9 == 0) v with
 | some x =>
  have hx := zku hv hS.wf hS.s hp
  have he : tellV S 9 v .empty = x := by unfold tellV; rw [hp]; simp
  rw [he]
  by_cases h0 : x.size = 0
  ·have := zc4 h0
   subst this
   rw [if_pos h0]
   exact zqn c h h246 hr v hv 0 false .empty hp (zq5 c false sv) hfn (by decide)
  ·rw [if_neg h0]
   exact zqm c h h246 hr v hv 0 false x hp (zq4 c false sv x (by omega) (by omega)) hfn (by omega)
 | none =>
  obtain ⟨hd0, k0, k1, k2, k7, k3, k6, o, ho⟩ := zkt hp
  obtain ⟨hm, _⟩ := zjb ho
  have he : tellV S 9 v .empty = rowV (tellV S 8) o .empty := zpd (d := 8) hp ho .empty
  rw [he]
  have hpos : 0 < (rowV (tellV S 8) o .empty).size := zmt (fun w hw c hc => (zpa hS 8 w c (o.l.ok.1 w hw)).2 hc) _
  rw [if_neg (by omega)]
  obtain ⟨row, off, hget, _, hF⟩ := zqp c h h246 hr v hv 0 (by omega) ⟨k0, k1, k2, k7, k3, k6⟩ ho
  have hl := hS.l o hm
  refine hF _ (zo8 c h245 (B := 2000000) (by omega) (by omega) (by omega) ⟨fun w hw c' hc hc5 => ?_, fun w hw c' hc => (zpa hS 8 w c' (o.l.ok.1 w hw)).2 hc, fun w hw c' hc => by have := (zpa hS 8 w c' (o.l.ok.1 w hw)).1 hc; omega⟩ (by omega) hget)
  exact zpc c h h246 h245 hr hS 8 (by omega) w c' (o.l.ok.1 w hw) hc hc5
end
end Go.EX


set_option linter.unusedVariables false
set_option linter.unusedSimpArgs false
namespace Go.EX
def textOf (S : List Obj) (v : Val) : ByteArray × Bool := if 4096 < (tellV S 9 v .empty).size then (.empty, false) else (tellV S 9 v .empty, true)
theorem zqc (l : List UInt8) : u8s (l.map fun c => IV.val (.int .u8 c.toNat)) = some (l.map fun c => (c.toNat : Int)) := by
 induction l with
 | nil => rfl
 | cons c l ih => simp [u8s, ih]
theorem za9 (b : ByteArray) : pushAll (b.data.toList.map fun c => (c.toNat : Int)) = b := by
 rw [zlb]
 cases b with
 | mk d =>
  simp only [List.map_map]
  congr 1
  have : ((fun n : Int => UInt8.ofNat n.toNat) ∘ fun c : UInt8 => (c.toNat : Int)) = id := by
   funext c
   simp
  rw [this]
  simp
theorem mem_of {x : Option (AV × Mem)} {r : AV} (h : x.map Prod.fst = some r) : ∃ m, x = some (r, m) := by
 cases x with
 | none => cases h
 | some p => obtain ⟨a, m⟩ := p; cases h; exact ⟨m, rfl⟩
section
variable {code : Nat → Option XFun} {ext : Calls'}
theorem zoz (c : TextCode code ext) (sv : IV) (b : ByteArray) (hb : 0 < b.size) : callW code ext 670 [.optr 0 0] (bOne sv b) = some (strV b, [.rich [.optr 0 0, .osl 1 0 1 b.size none, .imm sv], .dead, .dead]) := by
 rw [zbd code ext c.n670 (by decide), c.e670]
 have h1 : u8s (rowOfS b) = some (b.data.toList.map fun c => (c.toNat : Int)) := zqc _
 have h2 := zmr b
 have h3 : ((b.data.toList.map fun c => (c.toNat : Int)).all fun n => decide (0 ≤ n) && decide (n < 256)) = true := by
  rw [List.all_eq_true]
  intro n hn
  rw [List.mem_map] at hn
  obtain ⟨c, _, rfl⟩ := hn
  have := c.toNat_lt
  simp
  omega
 simp only [extStr, bOne, if_true, List.getElem?_cons_zero, List.getElem?_cons_succ, Nat.zero_add, h1, h2, h3, hb, and_self, if_true, za9]
 rfl
theorem zoy (c : TextCode code ext) (u : Bool) (sv : IV) : callW code ext 670 [.optr 0 0] (bNil u sv) = some (strV .empty, bNil u sv) := by
 rw [zbd code ext c.n670 (by decide), c.e670]
 cases u <;> rfl
theorem zph (c : TextCode code ext) (h : code 651 = some x651) (h246 : code 246 = some x246) (h245 : code 245 = some x245) (h648 : code 648 = some x648) {sv : IV} {S : List Obj} (hr : Reads tObj sv S) (hS : StoreOK S) (v : Val) (hv : tVal.wf v) :
  ∃ m, callW code ext 648 [.imm sv, .agg [.imm (.val (.int .u8 v.k)), int64 v.n]] [] = some (.tup [strV (textOf S v).1, avb (textOf S v).2], m) := by
 have hT := zpb c h h246 h245 hr hS v hv
 refine mem_of ?_
 unfold textOf
 rw [zbe code ext h648]
 by_cases h0 : (tellV S 9 v .empty).size = 0
 ·rw [if_pos h0] at hT
  have he := zc4 h0
  have hl := zhk c true sv
  have hs := zoy c true sv
  rw [if_neg (by omega), he]
  simp only [bNil, bAddr] at hT hl hs ⊢
  simp -implicitDefEqProofs [x648, hT, hl, hs]
 ·rw [if_neg h0] at hT
  generalize tellV S 9 v .empty = t at hT h0 ⊢
  have hl := zhl c sv t
  have hs := zoz c sv t (by omega)
  by_cases h4 : 4096 < t.size
  ·rw [if_pos h4]
   simp only [h4, decide_true] at hl
   simp only [bNil, bAddr, bOne] at hT hl hs ⊢
   simp -implicitDefEqProofs [x648, hT, hl, hs]
  ·rw [if_neg h4]
   simp only [h4, decide_false] at hl
   simp only [bNil, bAddr, bOne] at hT hl hs ⊢
   simp -implicitDefEqProofs [x648, hT, hl, hs]
end
end Go.EX


set_option linter.unusedVariables false
set_option linter.unusedSimpArgs false
namespace Go.EX
section
variable {code : Nat → Option XFun} {ext : Calls'}
def Ty.part {α : Type} (t : Ty α) (z : α) (xs : List α) (n : Nat) : List IV := t.row (xs ++ List.replicate n z)
section
variable {α : Type} (t : Ty α) (z sp : α) (bytes : Nat) (zs : List Value)
end
end
end Go.EX


set_option linter.unusedVariables false
set_option linter.unusedSimpArgs false
namespace Go.EX
section
variable {code : Nat → Option XFun} {ext : Calls'}
theorem zq3 (a b : Int) : IntKind.wrap .i64 (IntKind.wrap .i64 a + b) = IntKind.wrap .i64 (a + b) := by
 simp only [IntKind.wrap, IntKind.signed, IntKind.bits]
 simp
 omega
theorem zqj (h : code 380 = some x380) {iv : IV} {xs : List Val} (hr : Reads tVal iv xs) : callW code ext 380 [.imm iv] [] = some (int64 xs.length, []) := by
 rw [zbe code ext h]
 simp -implicitDefEqProofs [x380, zlu hr]
def objSize (o : Obj) : Int := if (1 + o.s.size : Int) ≤ 1048576 then 1 + o.s.size + o.l.xs.length else 1 + o.s.size
theorem zje (h : code 380 = some x380) (h' : code 338 = some x338) (o : Obj) (hw : tObj.wf o) :
  callW code ext 338 [.agg [.imm (.val (.int .u8 o.k)), .imm (.val (.string o.s)), .imm o.l.iv, int64 o.room, int64 o.fn]] [] = some (int64 (objSize o), []) := by
 rw [zbe code ext h']
 have hs : o.s.size ≤ 140737488355328 := hw.2.1
 have hl := o.l.ok.2.1
 have e1 : IntKind.wrap .i64 (1 + (o.s.size : Int)) = 1 + o.s.size := wrapI64 (by omega) (by omega)
 have e2 : IntKind.wrap .i64 (1 + (o.s.size : Int) + o.l.xs.length) = 1 + o.s.size + o.l.xs.length := wrapI64 (by omega) (by omega)
 have hv := zqj (ext := ext) h o.l.ok
 by_cases hc : (1 + o.s.size : Int) ≤ 1048576
 ·simp -implicitDefEqProofs [x338, e1, e2, hc, hv, objSize]
 ·simp -implicitDefEqProofs [x338, e1, hc, objSize]
def sizeGo : Int → List Obj → Int
 | n, [] => n
 | n, o :: r => if n ≤ 1048576 then sizeGo (n + objSize o) r else n
theorem zjd (o : Obj) (hw : tObj.wf o) : 1 ≤ objSize o ∧ objSize o ≤ 281474976710658 := by
 have hs : o.s.size ≤ 140737488355328 := hw.2.1
 have hl := o.l.ok.2.1
 unfold objSize
 split <;> omega
theorem zjm (h : code 380 = some x380) (h' : code 338 = some x338) (h2 : code 339 = some x339) {iv : IV} {xs : List Obj} (hr : Reads tObj iv xs) : callW code ext 339 [.imm iv] [] = some (int64 (sizeGo xs.length xs), []) := by
 have hlen := zlu hr
 have hb := hr.2.1
 have loop : ∃ e s', den code ext (.loop [0, 3, 4] x339L1) ⟨0, [(0, .imm iv), (3, int64 xs.length), (4, int64 0)], []⟩ = some (e, s') ∧ e ≠ .normal ∧
   (e = .exit 0 ∧ s'.k = 0 ∧ s'.mem = [] ∧ s'.env.get 3 = int64 (sizeGo xs.length xs)) := by
  refine zho (fun n s => ∃ (i : Nat) (m : Int), i + n = xs.length ∧ 0 ≤ m ∧ m ≤ 1000000000000000 ∧ sizeGo xs.length xs = sizeGo m (xs.drop i) ∧ s = ⟨0, [(0, .imm iv), (3, int64 m), (4, int64 (i : Nat))], []⟩) _ ?_ xs.length _ ⟨0, xs.length, by simp, by omega, by omega, by simp, rfl⟩
  rintro n _ ⟨i, m, hi, hm0, hm1, hg, rfl⟩
  by_cases hlt : i < xs.length
  ·obtain ⟨row, off, cap, rfl, hc, hcut, hget⟩ := zlv hr (List.getElem?_eq_getElem hlt)
   have e1 : IntKind.wrap .i64 ((i : Int) + 1) = (i : Int) + 1 := wrapI64 (by omega) (by omega)
   rw [List.drop_eq_getElem_cons hlt, sizeGo] at hg
   have hw := hr.1 _ (List.getElem_mem hlt)
   generalize xs[i] = o at hget hg hw
   have hbd := zjd o hw
   have hs := zje (ext := ext) h h' o hw
   simp only [tObj] at hget
   by_cases hc2 : m ≤ 1048576
   ·rw [if_pos hc2] at hg
    have e2 : IntKind.wrap .i64 (m + objSize o) = m + objSize o := wrapI64 (by omega) (by omega)
    refine ⟨.normal, ⟨0, [(0, .imm (.slice row off xs.length cap)), (3, int64 (m + objSize o)), (4, int64 ((i : Int) + 1))], []⟩, ?_, .inl ⟨rfl, n - 1, by omega, i + 1, _, by omega, by omega, by omega, hg, rfl⟩⟩
    simp -implicitDefEqProofs [x339L1, hlt, hget, hc2, hs, e1, e2]
   ·rw [if_neg hc2] at hg
    refine ⟨.exit 0, ⟨0, [(0, .imm (.slice row off xs.length cap)), (3, int64 m), (4, int64 (i : Int)), (14, avb false)], []⟩, ?_, .inr ⟨by simp, rfl, rfl, rfl, by rw [hg]; simp⟩⟩
    simp -implicitDefEqProofs [x339L1, hlt, hc2]
  ·have : ¬ ((i : Int) < xs.length) := by omega
   refine ⟨.exit 0, ⟨0, [(0, .imm iv), (3, int64 m), (4, int64 (i : Int)), (14, avb false)], []⟩, ?_, .inr ⟨by simp, rfl, rfl, rfl, ?_⟩⟩
   ·simp -implicitDefEqProofs [x339L1, hlen, this]
   ·rw [hg, List.drop_eq_nil_of_le (by omega)]; simp [sizeGo]
 obtain ⟨e, s', h1, _, rfl, h3, h4, h5⟩ := loop
 rw [zbe code ext h2]
 simp -implicitDefEqProofs [x339, hlen, h1, h3, h4, h5]
theorem zos (h : code 380 = some x380) (h' : code 338 = some x338) (h2 : code 339 = some x339) (h3 : code 361 = some x361) {iv : IV} {xs : List Obj} (hr : Reads tObj iv xs) : callW code ext 361 [.imm iv] [] = some (int64 (sizeGo xs.length xs), []) := by
 rw [zbe code ext h3]
 simp -implicitDefEqProofs [x361, zjm h h' h2 hr]
theorem za2 (h : code 303 = some x303) (n : Int) (h0 : 0 ≤ n) (h1 : n ≤ 4611686018427387904) : callW code ext 303 [.imm (.slice [.val (.int .i64 n)] 0 1 (some 1))] [] = some (avb (decide (1048576 < n)), []) := by
 rw [zbe code ext h]
 have e1 : IntKind.wrap .i64 n = n := wrapI64 (by omega) (by omega)
 have e2 : IntKind.wrap .i64 1 = 1 := rfl
 by_cases hc : 1048576 < n
 ·simp -implicitDefEqProofs [x303, x303L1, zcm, e1, e2, hc]
 ·have hl : ∀ m : Int, den code ext (.loop [0, 3, 4] x303L1) ⟨0, [(0, .imm (.slice [.val (.int .i64 n)] 0 1 (some 1))), (3, int64 m), (4, int64 1)], []⟩ = some (.exit 0, ⟨0, [(0, .imm (.slice [.val (.int .i64 n)] 0 1 (some 1))), (3, int64 m), (4, int64 1), (8, avb false)], []⟩) := by
   intro m
   rw [zcm]
   simp -implicitDefEqProofs [x303L1]
  have hl2 : den code ext (.loop [0, 3, 4] x303L1) ⟨0, [(0, .imm (.slice [.val (.int .i64 n)] 0 1 (some 1))), (3, int64 0), (4, int64 0)], []⟩ = some (.exit 0, ⟨0, [(0, .imm (.slice [.val (.int .i64 n)] 0 1 (some 1))), (3, int64 n), (4, int64 1), (8, avb false)], []⟩) := by
   rw [zcm]
   have hb : den code ext x303L1 (St.tidy ⟨0, [(0, .imm (.slice [.val (.int .i64 n)] 0 1 (some 1))), (3, int64 0), (4, int64 0)], []⟩ [0, 3, 4]) = some (.normal, ⟨0, [(0, .imm (.slice [.val (.int .i64 n)] 0 1 (some 1))), (3, int64 n), (4, int64 1)], []⟩) := by
    simp -implicitDefEqProofs [x303L1, e1, e2, hc]
   rw [hb]
   simp only [andThen]
   exact hl n
  simp -implicitDefEqProofs [x303, hl2, hc]
end
end Go.EX


set_option linter.unusedVariables false
set_option linter.unusedSimpArgs false
namespace Go.EX
section
variable {code : Nat → Option XFun} {ext : Calls'}
def sumL : List Obj → Int
 | [] => 0
 | o :: r => o.l.xs.length + sumL r
theorem zo0 : ∀ (l : List Obj) (o : Obj), sumL (l ++ [o]) = sumL l + o.l.xs.length
 | [], o => by simp [sumL]
 | x :: l, o => by rw [List.cons_append, sumL, sumL, zo0 l o]; omega
theorem zod : ∀ (l : List Obj) (m : Int), (∀ o ∈ l, tObj.wf o) → 0 ≤ m → m ≤ 1000000000000000 → m ≤ sizeGo m l ∧ sizeGo m l ≤ 1000000000000000
 | [], m, _, h0, h1 => ⟨Int.le_refl _, h1⟩
 | o :: r, m, hw, h0, h1 => by
  have hb := zjd o (hw o (List.mem_cons_self ..))
  rw [sizeGo]
  split
  ·have := zod r (m + objSize o) (fun x hx => hw x (List.mem_cons_of_mem _ hx)) (by omega) (by omega)
   omega
  ·omega
def greatOf (S : List Obj) : Bool := if ∃ o ∈ S, (5000 : Int) < o.l.xs.length then true else decide (20000 < IntKind.wrap .i64 (sumL S)) || decide (1048576 < sizeGo S.length S)
theorem zfm (h0 : code 303 = some x303) (h : code 380 = some x380) (h' : code 338 = some x338) (h2 : code 339 = some x339) (h3 : code 361 = some x361) (h4 : code 445 = some x445) {iv : IV} {S : List Obj} (hr : Reads tObj iv S) :
  callW code ext 445 [.imm iv] [] = some (avb (greatOf S), []) := by
 have hlen := zlu hr
 have hb := hr.2.1
 have loop : ∃ e s', den code ext (.loop [0, 3, 4] x445L1) ⟨0, [(0, .imm iv), (3, int64 0), (4, int64 0)], []⟩ = some (e, s') ∧ e ≠ .normal ∧
   ((e = .exit 0 ∧ (¬ ∃ o ∈ S, (5000 : Int) < o.l.xs.length) ∧ s' = ⟨0, [(0, .imm iv), (3, int64 (IntKind.wrap .i64 (sumL S))), (4, int64 S.length), (8, avb false)], []⟩) ∨ (e = .ret ∧ (∃ o ∈ S, (5000 : Int) < o.l.xs.length) ∧ s' = ⟨0, [(2, avb true)], []⟩)) := by
  refine zho (fun n s => ∃ (i : Nat), i + n = S.length ∧ (∀ o ∈ S.take i, ¬ (5000 : Int) < o.l.xs.length) ∧ s = ⟨0, [(0, .imm iv), (3, int64 (IntKind.wrap .i64 (sumL (S.take i)))), (4, int64 (i : Nat))], []⟩) _ ?_ S.length _ ⟨0, by simp, by simp, by simp [sumL]; rfl⟩
  rintro n _ ⟨i, hi, hall, rfl⟩
  by_cases hlt : i < S.length
  ·obtain ⟨row, off, cap, rfl, hc, hcut, hget⟩ := zlv hr (List.getElem?_eq_getElem hlt)
   have e1 : IntKind.wrap .i64 ((i : Int) + 1) = (i : Int) + 1 := wrapI64 (by omega) (by omega)
   have htk : S.take (i + 1) = S.take i ++ [S[i]] := by rw [List.take_add_one, List.getElem?_eq_getElem hlt]; rfl
   have hw := hr.1 _ (List.getElem_mem hlt)
   have hmem := List.getElem_mem hlt
   generalize S[i] = o at hget hw htk hmem
   simp only [tObj] at hget
   have g2 : row[off + i * 5 + 2]? = some o.l.iv := zcc hget 2 (by omega)
   have hll := zlu o.l.ok
   by_cases hc2 : (5000 : Int) < o.l.xs.length
   ·refine ⟨.ret, ⟨0, [(2, avb true)], []⟩, ?_, .inr ⟨by simp, .inr ⟨rfl, ⟨o, hmem, hc2⟩, rfl⟩⟩⟩
    simp -implicitDefEqProofs [x445L1, hlt, g2, hll, hc2]
   ·refine ⟨.normal, ⟨0, [(0, .imm (.slice row off S.length cap)), (3, int64 (IntKind.wrap .i64 (sumL (S.take (i + 1))))), (4, int64 ((i : Int) + 1))], []⟩, ?_, .inl ⟨rfl, n - 1, by omega, i + 1, by omega, fun q hq => ?_, rfl⟩⟩
    ·have e2 := zq3 (sumL (S.take i)) o.l.xs.length
     rw [htk, zo0]
     simp -implicitDefEqProofs [x445L1, hlt, g2, hll, hc2, e1, e2]
    ·rw [htk, List.mem_append, List.mem_singleton] at hq
     rcases hq with hq | rfl
     ·exact hall q hq
     ·exact hc2
  ·have : i = S.length := by omega
   subst this
   rw [List.take_length] at hall ⊢
   refine ⟨.exit 0, ⟨0, [(0, .imm iv), (3, int64 (IntKind.wrap .i64 (sumL S))), (4, int64 S.length), (8, avb false)], []⟩, ?_, .inr ⟨by simp, .inl ⟨rfl, fun ⟨o, ho, h⟩ => hall o ho h, rfl⟩⟩⟩
   simp -implicitDefEqProofs [x445L1, hlen]
 have hsb := zod S S.length hr.1 (by omega) (by omega)
 have hst := zos (ext := ext) h h' h2 h3 hr
 have hby := za2 (ext := ext) h0 (sizeGo S.length S) (by omega) (by omega)
 obtain ⟨e, s', h1, _, ⟨rfl, hn, rfl⟩ | ⟨rfl, hn, rfl⟩⟩ := loop
 ·rw [zbe code ext h4]
  unfold greatOf
  rw [if_neg hn]
  by_cases hc : 20000 < IntKind.wrap .i64 (sumL S)
  ·simp -implicitDefEqProofs [x445, h1, hc]
  ·simp -implicitDefEqProofs [x445, h1, hc, hst, hby]
 ·rw [zbe code ext h4]
  unfold greatOf
  rw [if_pos hn]
  simp -implicitDefEqProofs [x445, h1]
theorem zfl {S : List Obj} (hw : ∀ o ∈ S, tObj.wf o) (hlb : S.length ≤ 140737488355328) (h : greatOf S = false) : (∀ o ∈ S, o.l.xs.length ≤ 5000) ∧ S.length ≤ 1048576 ∧ sumL S ≤ 20000 := by
 unfold greatOf at h
 split at h
 ·cases h
 rename_i hn
 simp only [Bool.or_eq_false_iff, decide_eq_false_iff_not] at h
 have hsb := zod S S.length hw (by omega) (by omega)
 have h1 : ∀ o ∈ S, o.l.xs.length ≤ 5000 := fun o ho => by
  rcases Nat.lt_or_ge 5000 o.l.xs.length with h | h
  ·exact absurd ⟨o, ho, by omega⟩ hn
  ·exact h
 have h2 : ∀ (l : List Obj), (∀ o ∈ l, o.l.xs.length ≤ 5000) → 0 ≤ sumL l ∧ sumL l ≤ 5000 * l.length := by
  intro l
  induction l with
  | nil => intro _; simp [sumL]
  | cons o l ih =>
   intro hl
   have := ih fun x hx => hl x (List.mem_cons_of_mem _ hx)
   have := hl o (List.mem_cons_self ..)
   rw [sumL, List.length_cons]
   omega
 have h3 := h2 S h1
 refine ⟨h1, by omega, ?_⟩
 have : IntKind.wrap .i64 (sumL S) = sumL S := wrapI64 (by omega) (by omega)
 omega
end
end Go.EX


set_option linter.unusedVariables false
set_option linter.unusedSimpArgs false
namespace Go.EX
def code4L : Nat → Option XFun
 | 244 => some x244
 | 245 => some x245
 | 246 => some x246
 | 303 => some x303
 | 338 => some x338
 | 339 => some x339
 | 361 => some x361
 | 380 => some x380
 | 440 => some x440
 | 444 => some x444
 | 445 => some x445
 | 446 => some x446
 | 646 => some x646
 | 647 => some x647
 | 648 => some x648
 | 649 => some x649
 | 650 => some x650
 | 651 => some x651
 | 652 => some x652
 | 653 => some x653
 | 654 => some x654
 | 655 => some x655
 | 656 => some x656
 | 657 => some x657
 | 669 => some x669
 | 673 => some x673
 | 709 => some x709
 | 745 => some x745
 | 749 => some x749
 | 755 => some x755
 | 759 => some x759
 | 785 => some x785
 | 786 => some x786
 | _ => none
theorem zb3 : code4L yieldNo = none := by
 unfold code4L
 split <;> first | (rename_i h; exact absurd h (by decide)) | rfl
def ext4 (dg : Int → ByteArray) : Calls' := fun f a m =>
 if f = 674 then extCheck 674 674 a m
 else if f = 670 then extStr 670 670 a m
 else if f = 708 then match a with
  | [.imm (.val (.int .i64 n)), .imm (.val (.int .i64 10))] => if -9223372036854775808 ≤ n ∧ n ≤ 9223372036854775807 then some (.imm (.val (.string (dg n))), m) else none
  | _ => none
 else none
def dig1 (n : Int) : ByteArray := if n = 1 then ⟨#[49]⟩ else dig n
theorem zct : dig1 = dig := by
 funext n
 unfold dig1
 split
 ·rename_i h
  subst h
  simp [dig, Lib.itoa, Lib.decDigits]
 ·rfl
theorem lives4 : callW code4L (ext4 dig) 444 [] [] = some (avb true, []) := by
 rw [← zct]
 exact (zbf code4L (ext4 dig1)).2 ⟨60, by kernel_rfl⟩
theorem zd7 {num : Names} {P : Program} (h1 : ExtOK num P (extCheck 674)) (h2 : ExtOK num P (extStr 670)) (h3 : ExtOK num P (extItoa 708)) : ExtOK num P (ext4 dig) := by
 intro f args m r m' C vals hc hm hl hr
 unfold ext4 at hc
 split at hc
 ·rename_i hf
  exact h1 f args m r m' C vals (by rw [hf]; exact hc) hm hl hr
 split at hc
 ·rename_i hf
  exact h2 f args m r m' C vals (by rw [hf]; exact hc) hm hl hr
 split at hc
 ·rename_i hf
  exact h3 f args m r m' C vals (by rw [hf]; exact hc) hm hl hr
 ·cases hc
theorem text4L : TextCode code4L (ext4 dig) :=
 ⟨rfl, rfl, rfl, rfl, fun _ _ => rfl, rfl, fun _ _ => rfl, rfl, rfl, rfl, rfl, fun _ _ => rfl⟩
theorem zof {o : Obj} : ∀ (S : List Obj) (n : Int), (∀ p ∈ S, tObj.wf p) → o ∈ S → 0 ≤ n → sizeGo n S ≤ 1048576 → objSize o ≤ 1048576
 | [], n, _, h, _, _ => by cases h
 | p :: r, n, hw, h, h0, hz => by
  unfold sizeGo at hz
  have hp := zjd p (hw p (List.mem_cons_self ..))
  split at hz
  ·rcases List.mem_cons.1 h with rfl | h
   ·have hmono : ∀ (r : List Obj) (n : Int), (∀ p ∈ r, tObj.wf p) → n ≤ sizeGo n r := by
     intro r
     induction r with
     | nil => intro n _; exact Int.le_refl _
     | cons q r ih =>
      intro n hq
      unfold sizeGo
      have := zjd q (hq q (List.mem_cons_self ..))
      split
      ·have := ih (n + objSize q) fun p hp => hq p (List.mem_cons_of_mem _ hp)
       omega
      ·exact Int.le_refl _
    have := hmono r (n + objSize o) fun p hp => hw p (List.mem_cons_of_mem _ hp)
    omega
   ·exact zof r _ (fun p hp => hw p (List.mem_cons_of_mem _ hp)) h (by omega) hz
  ·omega
theorem zor {S : List Obj} (hwf : ∀ o ∈ S, tObj.wf o) (hlb : S.length ≤ 140737488355328) (hg : greatOf S = false) : StoreOK S := by
 obtain ⟨hl, hn, hs⟩ := zfl hwf hlb hg
 refine ⟨hwf, fun o ho => ?_, fun o ho => Nat.le_trans (hl o ho) (by omega)⟩
 have hz : sizeGo S.length S ≤ 1048576 := by
  unfold greatOf at hg
  split at hg
  ·cases hg
  ·simp only [Bool.or_eq_false_iff, decide_eq_false_iff_not] at hg
   omega
 have := zof (o := o) S S.length hwf ho (by omega) hz
 have hq := o.l.ok.2.1
 unfold objSize at this
 split at this <;> omega
end Go.EX


namespace Go.Proofs.YtbomedbbgfcncaaDoor
open Go.EX Go.Shelf
def gids : List Nat := [100000, 100001, 703, 442, 441, 440, 438, 445, 377, 648, 504, 334, 444, 447, 646, 649, 303, 361, 373, 246, 244, 670, 100, 330, 446, 448, 656, 745, 654, 647, 652, 657, 339, 372, 651, 673, 785, 786, 245, 669, 502, 98, 501, 99, 329, 755, 655, 749, 653, 650, 338, 379, 674, 708, 709, 336, 759, 380, 100058, 719, 718, 713, 714, 716, 732, 712, 715, 733, 734, 735, 100070, 100071, 100072, 100073, 100074, 100075, 100076, 100077, 100078, 100079, 100080, 100081, 100082, 100083, 100084, 100085, 100086, 100087, 100088, 100089, 100090, 100091, 704]
def num (f : FuncId) : Nat := (gids[f]?).getD (100000 + f)
theorem ok5 : FunOK Tryd.prog num 5 x440 := .of Tryd.func5 (by kernel_rfl) (by kernel_rfl) (by kernel_rfl) (by kernel_rfl) (by kernel_rfl)
theorem ok7 : FunOK Tryd.prog num 7 x445 := .of Tryd.func7 (by kernel_rfl) (by kernel_rfl) (by kernel_rfl) (by kernel_rfl) (by kernel_rfl)
theorem ok9 : FunOK Tryd.prog num 9 x648 := .of Tryd.func9 (by kernel_rfl) (by kernel_rfl) (by kernel_rfl) (by kernel_rfl) (by kernel_rfl)
theorem ok12 : FunOK Tryd.prog num 12 x444 := .of Tryd.func12 (by kernel_rfl) (by kernel_rfl) (by kernel_rfl) (by kernel_rfl) (by kernel_rfl)
theorem ok14 : FunOK Tryd.prog num 14 x646 := .of Tryd.func14 (by kernel_rfl) (by kernel_rfl) (by kernel_rfl) (by kernel_rfl) (by kernel_rfl)
theorem ok15 : FunOK Tryd.prog num 15 x649 := .of Tryd.func15 (by kernel_rfl) (by kernel_rfl) (by kernel_rfl) (by kernel_rfl) (by kernel_rfl)
theorem ok16 : FunOK Tryd.prog num 16 x303 := .of Tryd.func16 (by kernel_rfl) (by kernel_rfl) (by kernel_rfl) (by kernel_rfl) (by kernel_rfl)
theorem ok17 : FunOK Tryd.prog num 17 x361 := .of Tryd.func17 (by kernel_rfl) (by kernel_rfl) (by kernel_rfl) (by kernel_rfl) (by kernel_rfl)
theorem ok19 : FunOK Tryd.prog num 19 x246 := .of Tryd.func19 (by kernel_rfl) (by kernel_rfl) (by kernel_rfl) (by kernel_rfl) (by kernel_rfl)
theorem ok20 : FunOK Tryd.prog num 20 x244 := .of Tryd.func20 (by kernel_rfl) (by kernel_rfl) (by kernel_rfl) (by kernel_rfl) (by kernel_rfl)
theorem ok24 : FunOK Tryd.prog num 24 x446 := .of Tryd.func24 (by kernel_rfl) (by kernel_rfl) (by kernel_rfl) (by kernel_rfl) (by kernel_rfl)
theorem ok26 : FunOK Tryd.prog num 26 x656 := .of Tryd.func26 (by kernel_rfl) (by kernel_rfl) (by kernel_rfl) (by kernel_rfl) (by kernel_rfl)
theorem ok27 : FunOK Tryd.prog num 27 x745 := .of Tryd.func27 (by kernel_rfl) (by kernel_rfl) (by kernel_rfl) (by kernel_rfl) (by kernel_rfl)
theorem ok28 : FunOK Tryd.prog num 28 x654 := .of Tryd.func28 (by kernel_rfl) (by kernel_rfl) (by kernel_rfl) (by kernel_rfl) (by kernel_rfl)
theorem ok29 : FunOK Tryd.prog num 29 x647 := .of Tryd.func29 (by kernel_rfl) (by kernel_rfl) (by kernel_rfl) (by kernel_rfl) (by kernel_rfl)
theorem ok30 : FunOK Tryd.prog num 30 x652 := .of Tryd.func30 (by kernel_rfl) (by kernel_rfl) (by kernel_rfl) (by kernel_rfl) (by kernel_rfl)
theorem ok31 : FunOK Tryd.prog num 31 x657 := .of Tryd.func31 (by kernel_rfl) (by kernel_rfl) (by kernel_rfl) (by kernel_rfl) (by kernel_rfl)
theorem ok32 : FunOK Tryd.prog num 32 x339 := .of Tryd.func32 (by kernel_rfl) (by kernel_rfl) (by kernel_rfl) (by kernel_rfl) (by kernel_rfl)
theorem ok34 : FunOK Tryd.prog num 34 x651 := .of Tryd.func34 (by kernel_rfl) (by kernel_rfl) (by kernel_rfl) (by kernel_rfl) (by kernel_rfl)
theorem ok35 : FunOK Tryd.prog num 35 x673 := .of Tryd.func35 (by kernel_rfl) (by kernel_rfl) (by kernel_rfl) (by kernel_rfl) (by kernel_rfl)
theorem ok36 : FunOK Tryd.prog num 36 x785 := .of Tryd.func36 (by kernel_rfl) (by kernel_rfl) (by kernel_rfl) (by kernel_rfl) (by kernel_rfl)
theorem ok37 : FunOK Tryd.prog num 37 x786 := .of Tryd.func37 (by kernel_rfl) (by kernel_rfl) (by kernel_rfl) (by kernel_rfl) (by kernel_rfl)
theorem ok38 : FunOK Tryd.prog num 38 x245 := .of Tryd.func38 (by kernel_rfl) (by kernel_rfl) (by kernel_rfl) (by kernel_rfl) (by kernel_rfl)
theorem ok39 : FunOK Tryd.prog num 39 x669 := .of Tryd.func39 (by kernel_rfl) (by kernel_rfl) (by kernel_rfl) (by kernel_rfl) (by kernel_rfl)
theorem ok45 : FunOK Tryd.prog num 45 x755 := .of Tryd.func45 (by kernel_rfl) (by kernel_rfl) (by kernel_rfl) (by kernel_rfl) (by kernel_rfl)
theorem ok46 : FunOK Tryd.prog num 46 x655 := .of Tryd.func46 (by kernel_rfl) (by kernel_rfl) (by kernel_rfl) (by kernel_rfl) (by kernel_rfl)
theorem ok47 : FunOK Tryd.prog num 47 x749 := .of Tryd.func47 (by kernel_rfl) (by kernel_rfl) (by kernel_rfl) (by kernel_rfl) (by kernel_rfl)
theorem ok48 : FunOK Tryd.prog num 48 x653 := .of Tryd.func48 (by kernel_rfl) (by kernel_rfl) (by kernel_rfl) (by kernel_rfl) (by kernel_rfl)
theorem ok49 : FunOK Tryd.prog num 49 x650 := .of Tryd.func49 (by kernel_rfl) (by kernel_rfl) (by kernel_rfl) (by kernel_rfl) (by kernel_rfl)
theorem ok50 : FunOK Tryd.prog num 50 x338 := .of Tryd.func50 (by kernel_rfl) (by kernel_rfl) (by kernel_rfl) (by kernel_rfl) (by kernel_rfl)
theorem ok54 : FunOK Tryd.prog num 54 x709 := .of Tryd.func54 (by kernel_rfl) (by kernel_rfl) (by kernel_rfl) (by kernel_rfl) (by kernel_rfl)
theorem ok56 : FunOK Tryd.prog num 56 x759 := .of Tryd.func56 (by kernel_rfl) (by kernel_rfl) (by kernel_rfl) (by kernel_rfl) (by kernel_rfl)
theorem ok57 : FunOK Tryd.prog num 57 x380 := .of Tryd.func57 (by kernel_rfl) (by kernel_rfl) (by kernel_rfl) (by kernel_rfl) (by kernel_rfl)
abbrev FnAt (f : Nat) : Prop := ∀ xf, code4L (num f) = some xf → FunOK Tryd.prog num f xf
theorem hit {n : Nat} {x : XFun} (e : code4L (num n) = some x) (k : FunOK Tryd.prog num n x) (r : ∀ f, f < n → FnAt f) : ∀ f, f < n + 1 → FnAt f := fun f h xf hx => by
 rcases Nat.lt_or_eq_of_le (Nat.le_of_lt_succ h) with h | rfl
 ·exact r f h xf hx
 ·rw [e] at hx; cases hx; exact k
theorem nix {n : Nat} (e : code4L (num n) = none) (r : ∀ f, f < n → FnAt f) : ∀ f, f < n + 1 → FnAt f := fun f h xf hx => by
 rcases Nat.lt_or_eq_of_le (Nat.le_of_lt_succ h) with h | rfl
 ·exact r f h xf hx
 ·rw [e] at hx; cases hx
theorem upto20 : ∀ f, f < 20 → FnAt f :=
 hit (by kernel_rfl) ok19 <|
 nix (by kernel_rfl) <|
 hit (by kernel_rfl) ok17 <|
 hit (by kernel_rfl) ok16 <|
 hit (by kernel_rfl) ok15 <|
 hit (by kernel_rfl) ok14 <|
 nix (by kernel_rfl) <|
 hit (by kernel_rfl) ok12 <|
 nix (by kernel_rfl) <|
 nix (by kernel_rfl) <|
 hit (by kernel_rfl) ok9 <|
 nix (by kernel_rfl) <|
 hit (by kernel_rfl) ok7 <|
 nix (by kernel_rfl) <|
 hit (by kernel_rfl) ok5 <|
 nix (by kernel_rfl) <|
 nix (by kernel_rfl) <|
 nix (by kernel_rfl) <|
 nix (by kernel_rfl) <|
 nix (by kernel_rfl) (fun f h => absurd h (Nat.not_lt_zero f))
theorem upto40 : ∀ f, f < 40 → FnAt f :=
 hit (by kernel_rfl) ok39 <|
 hit (by kernel_rfl) ok38 <|
 hit (by kernel_rfl) ok37 <|
 hit (by kernel_rfl) ok36 <|
 hit (by kernel_rfl) ok35 <|
 hit (by kernel_rfl) ok34 <|
 nix (by kernel_rfl) <|
 hit (by kernel_rfl) ok32 <|
 hit (by kernel_rfl) ok31 <|
 hit (by kernel_rfl) ok30 <|
 hit (by kernel_rfl) ok29 <|
 hit (by kernel_rfl) ok28 <|
 hit (by kernel_rfl) ok27 <|
 hit (by kernel_rfl) ok26 <|
 nix (by kernel_rfl) <|
 hit (by kernel_rfl) ok24 <|
 nix (by kernel_rfl) <|
 nix (by kernel_rfl) <|
 nix (by kernel_rfl) <|
 hit (by kernel_rfl) ok20 upto20
theorem upto60 : ∀ f, f < 60 → FnAt f :=
 nix (by kernel_rfl) <|
 nix (by kernel_rfl) <|
 hit (by kernel_rfl) ok57 <|
 hit (by kernel_rfl) ok56 <|
 nix (by kernel_rfl) <|
 hit (by kernel_rfl) ok54 <|
 nix (by kernel_rfl) <|
 nix (by kernel_rfl) <|
 nix (by kernel_rfl) <|
 hit (by kernel_rfl) ok50 <|
 hit (by kernel_rfl) ok49 <|
 hit (by kernel_rfl) ok48 <|
 hit (by kernel_rfl) ok47 <|
 hit (by kernel_rfl) ok46 <|
 hit (by kernel_rfl) ok45 <|
 nix (by kernel_rfl) <|
 nix (by kernel_rfl) <|
 nix (by kernel_rfl) <|
 nix (by kernel_rfl) <|
 nix (by kernel_rfl) upto40
theorem upto80 : ∀ f, f < 80 → FnAt f :=
 nix (by kernel_rfl) <|
 nix (by kernel_rfl) <|
 nix (by kernel_rfl) <|
 nix (by kernel_rfl) <|
 nix (by kernel_rfl) <|
 nix (by kernel_rfl) <|
 nix (by kernel_rfl) <|
 nix (by kernel_rfl) <|
 nix (by kernel_rfl) <|
 nix (by kernel_rfl) <|
 nix (by kernel_rfl) <|
 nix (by kernel_rfl) <|
 nix (by kernel_rfl) <|
 nix (by kernel_rfl) <|
 nix (by kernel_rfl) <|
 nix (by kernel_rfl) <|
 nix (by kernel_rfl) <|
 nix (by kernel_rfl) <|
 nix (by kernel_rfl) <|
 nix (by kernel_rfl) upto60
theorem upto93 : ∀ f, f < 93 → FnAt f :=
 nix (by kernel_rfl) <|
 nix (by kernel_rfl) <|
 nix (by kernel_rfl) <|
 nix (by kernel_rfl) <|
 nix (by kernel_rfl) <|
 nix (by kernel_rfl) <|
 nix (by kernel_rfl) <|
 nix (by kernel_rfl) <|
 nix (by kernel_rfl) <|
 nix (by kernel_rfl) <|
 nix (by kernel_rfl) <|
 nix (by kernel_rfl) <|
 nix (by kernel_rfl) upto80
theorem fns (f : FuncId) (xf : XFun) (h : code4L (num f) = some xf) : FunOK Tryd.prog num f xf := by
 by_cases hf : f < 93
 ·exact upto93 f hf xf h
 ·have hn : num f = 100000 + f := by
   unfold num
   rw [List.getElem?_eq_none (by rw [show gids.length = 93 from by kernel_rfl]; simp only [FuncId] at *; omega)]; rfl
  rw [hn] at h
  unfold code4L at h
  split at h <;> first | (exfalso; simp only [FuncId] at *; omega) | cases h
theorem nz (f : FuncId) : num f ≠ yieldNo := by
 by_cases hf : f < 93
 ·exact (by decide +kernel : ∀ f : Fin 93, num f.val ≠ yieldNo) ⟨f, hf⟩
 ·have hn : num f = 100000 + f := by
   unfold num
   rw [List.getElem?_eq_none (by rw [show gids.length = 93 from by kernel_rfl]; simp only [FuncId] at *; omega)]; rfl
  rw [hn, yieldNo]
  simp only [FuncId] at *; omega
def ren169 : Go.Shelf.Ren := ⟨fun | 169 => 21 | n => n, fun | 70 => 45 | 9 => 9 | 0 => 0 | 72 => 48 | 37 => 46 | 127 => 79 | 3 => 3 | 5 => 5 | n => n, fun | n => n⟩
theorem lays169 : Go.Proofs.Lays.n169 Tryd.prog ren169 := {
 mixed := by kernel_rfl
 f169 := Tryd.func21.trans (congrArg some (by kernel_rfl))
 t0 := Tryd.underlying0
 a0 := Tryd.isAgg0
 z0 := Tryd.sizeOf0
 v0 := Tryd.zeroValue0
 t3 := Tryd.underlying3
 a3 := Tryd.isAgg3
 z3 := Tryd.sizeOf3
 v3 := Tryd.zeroValue3
 t9 := Tryd.underlying9
 a9 := Tryd.isAgg9
 z9 := Tryd.sizeOf9
 v9 := Tryd.zeroValue9
 t37 := Tryd.underlying46
 a37 := Tryd.isAgg46
 z37 := Tryd.sizeOf46
 v37 := Tryd.zeroValue46
 t70 := Tryd.underlying45
 a70 := Tryd.isAgg45
 z70 := Tryd.sizeOf45
 v70 := Tryd.zeroValue45
 t72 := Tryd.underlying48
 a72 := Tryd.isAgg48
 z72 := Tryd.sizeOf48
 v72 := Tryd.zeroValue48
 t127 := Tryd.underlying79
 a127 := Tryd.isAgg79
 z127 := Tryd.sizeOf79
 v127 := Tryd.zeroValue79 }
def ren246 : Go.Shelf.Ren := ⟨fun | 246 => 53 | 283 => 59 | 284 => 60 | 285 => 61 | 286 => 62 | 129 => 64 | 317 => 63 | 318 => 65 | 319 => 66 | 320 => 67 | 337 => 68 | 338 => 69 | n => n, fun | 2 => 2 | 3 => 3 | 9 => 9 | 4 => 4 | 171 => 102 | 0 => 0 | 53 => 93 | 37 => 46 | 5 => 5 | 173 => 105 | 212 => 109 | 51 => 110 | 20 => 20 | 213 => 111 | 46 => 113 | 232 => 116 | 233 => 117 | n => n, fun | 17 => 0 | 18 => 1 | 19 => 2 | n => n⟩
theorem lays246 : Go.Proofs.LaysM.n246 Tryd.prog ren246 := {
 mixed := by kernel_rfl
 f129 := Tryd.func64.trans (congrArg some (by kernel_rfl))
 f246 := Tryd.func53.trans (congrArg some (by kernel_rfl))
 f283 := Tryd.func59.trans (congrArg some (by kernel_rfl))
 f284 := Tryd.func60.trans (congrArg some (by kernel_rfl))
 f285 := Tryd.func61.trans (congrArg some (by kernel_rfl))
 f286 := Tryd.func62.trans (congrArg some (by kernel_rfl))
 f317 := Tryd.func63.trans (congrArg some (by kernel_rfl))
 f318 := Tryd.func65.trans (congrArg some (by kernel_rfl))
 f319 := Tryd.func66.trans (congrArg some (by kernel_rfl))
 f320 := Tryd.func67.trans (congrArg some (by kernel_rfl))
 f337 := Tryd.func68.trans (congrArg some (by kernel_rfl))
 f338 := Tryd.func69.trans (congrArg some (by kernel_rfl))
 t0 := Tryd.underlying0
 a0 := Tryd.isAgg0
 z0 := Tryd.sizeOf0
 v0 := Tryd.zeroValue0
 t2 := Tryd.underlying2
 a2 := Tryd.isAgg2
 z2 := Tryd.sizeOf2
 v2 := Tryd.zeroValue2
 t3 := Tryd.underlying3
 a3 := Tryd.isAgg3
 z3 := Tryd.sizeOf3
 v3 := Tryd.zeroValue3
 t4 := Tryd.underlying4
 a4 := Tryd.isAgg4
 z4 := Tryd.sizeOf4
 v4 := Tryd.zeroValue4
 t5 := Tryd.underlying5
 a5 := Tryd.isAgg5
 z5 := Tryd.sizeOf5
 v5 := Tryd.zeroValue5
 t9 := Tryd.underlying9
 a9 := Tryd.isAgg9
 z9 := Tryd.sizeOf9
 v9 := Tryd.zeroValue9
 t20 := Tryd.underlying20
 a20 := Tryd.isAgg20
 z20 := Tryd.sizeOf20
 v20 := Tryd.zeroValue20
 t37 := Tryd.underlying46
 a37 := Tryd.isAgg46
 z37 := Tryd.sizeOf46
 v37 := Tryd.zeroValue46
 t46 := Tryd.underlying113
 a46 := Tryd.isAgg113
 z46 := Tryd.sizeOf113
 v46 := Tryd.zeroValue113
 t51 := Tryd.underlying110
 a51 := Tryd.isAgg110
 z51 := Tryd.sizeOf110
 v51 := Tryd.zeroValue110
 t53 := Tryd.underlying93
 a53 := Tryd.isAgg93
 z53 := Tryd.sizeOf93
 v53 := Tryd.zeroValue93
 t171 := Tryd.underlying102
 a171 := Tryd.isAgg102
 z171 := Tryd.sizeOf102
 v171 := Tryd.zeroValue102
 t173 := Tryd.underlying105
 a173 := Tryd.isAgg105
 z173 := Tryd.sizeOf105
 v173 := Tryd.zeroValue105
 t212 := Tryd.underlying109
 a212 := Tryd.isAgg109
 z212 := Tryd.sizeOf109
 v212 := Tryd.zeroValue109
 t213 := Tryd.underlying111
 a213 := Tryd.isAgg111
 z213 := Tryd.sizeOf111
 t232 := Tryd.underlying116
 a232 := Tryd.isAgg116
 z232 := Tryd.sizeOf116
 v232 := Tryd.zeroValue116
 t233 := Tryd.underlying117
 a233 := Tryd.isAgg117
 z233 := Tryd.sizeOf117
 v233 := Tryd.zeroValue117
 g17 := by kernel_rfl
 g18 := by kernel_rfl
 g19 := by kernel_rfl
 i0 := by kernel_rfl
 i2 := by kernel_rfl
 i3 := by kernel_rfl
 i4 := by kernel_rfl
 i5 := by kernel_rfl
 i9 := by kernel_rfl
 i20 := by kernel_rfl
 i37 := by kernel_rfl
 i46 := by kernel_rfl
 i51 := by kernel_rfl
 i53 := by kernel_rfl
 i171 := by kernel_rfl
 i173 := by kernel_rfl
 i212 := by kernel_rfl
 i232 := by kernel_rfl
 i233 := by kernel_rfl
 m17 := by kernel_rfl
 m18 := by kernel_rfl
 m19 := by kernel_rfl }
theorem ck_num (f : FuncId) (h : num f = 674) : f = 52 := by
 by_cases hf : f < 93
 ·exact (by decide +kernel : ∀ f : Fin 93, num f.val = 674 → f.val = 52) ⟨f, hf⟩ h
 ·have hn : num f = 100000 + f := by
   unfold num
   rw [List.getElem?_eq_none (by rw [show gids.length = 93 from by kernel_rfl]; simp only [FuncId] at *; omega)]; rfl
  rw [hn] at h
  exfalso; simp only [FuncId] at *; omega
theorem str_num (f : FuncId) (h : num f = 670) : f = ren169.f 169 := by
 by_cases hf : f < 93
 ·exact (by decide +kernel : ∀ f : Fin 93, num f.val = 670 → f.val = ren169.f 169) ⟨f, hf⟩ h
 ·have hn : num f = 100000 + f := by
   unfold num
   rw [List.getElem?_eq_none (by rw [show gids.length = 93 from by kernel_rfl]; simp only [FuncId] at *; omega)]; rfl
  rw [hn] at h
  exfalso; simp only [FuncId] at *; omega
theorem fmt_num (f : FuncId) (h : num f = 708) : f = ren246.f 246 := by
 by_cases hf : f < 93
 ·exact (by decide +kernel : ∀ f : Fin 93, num f.val = 708 → f.val = ren246.f 246) ⟨f, hf⟩ h
 ·have hn : num f = 100000 + f := by
   unfold num
   rw [List.getElem?_eq_none (by rw [show gids.length = 93 from by kernel_rfl]; simp only [FuncId] at *; omega)]; rfl
  rw [hn] at h
  exfalso; simp only [FuncId] at *; omega
theorem zbz : Callable Tryd.prog 52 := ⟨Tryd.f52, Tryd.func52, by decide +kernel, by kernel_rfl⟩
theorem zox : Callable Tryd.prog (ren169.f 169) := ⟨Tryd.f21, Tryd.func21, by decide +kernel, by kernel_rfl⟩
theorem zew : Callable Tryd.prog (ren246.f 246) := ⟨Tryd.f53, Tryd.func53, by decide +kernel, by kernel_rfl⟩
theorem strExtra : Builder.Extra Tryd.prog ren169 := {
 sizeBuilder := by kernel_rfl
 liesBuilder := by kernel_rfl
 t5 := Tryd.underlying5
 a5 := Tryd.isAgg5
 z5 := Tryd.sizeOf5
 v5 := Tryd.zeroValue5
 infoByte := by kernel_rfl
 cellsByte := by kernel_rfl
 sizeByte := by kernel_rfl
 neB5 := by decide }
abbrev powTab : Tab := ("internal/strconv.uint64pow10", .u64, Lib.pow10Tab)
theorem runs : Runs Tryd.prog (Names.tabs num Tryd.prog [powTab]) code4L (ext4 dig) :=
 ⟨by kernel_rfl, fns, zd7 (zd8 checkFacts (by kernel_rfl) ck_num zbz) (zec lays169 strExtra str_num zox) (zd9 lays246 (List.mem_cons_self ..) fmt_num zew), nz, zb3, fun _ _ _ _ _ _ => Iff.rfl, fun _ _ _ h => h, fun _ h1 h2 => ⟨h1, h2⟩⟩
end Go.Proofs.YtbomedbbgfcncaaDoor


set_option linter.unusedVariables false
set_option linter.unusedSimpArgs false
namespace Go.EX
@[simp] theorem isNilK_tagP (b a : Nat) (row : List IV) (off : Nat) : isNilK 1 (.tag b a (.ptr row off)) = some false := rfl
@[simp] theorem isNilK_tagS (b a : Nat) (row : List IV) (off len : Nat) (cap : Option Nat) : isNilK 0 (.tag b a (.slice row off len cap)) = some false := rfl
@[simp] theorem isNil_tag (b a : Nat) (x : IV) : isNil (.tag b a x) = some false := rfl
@[simp] theorem lenOf_tag (b a : Nat) (row : List IV) (off len : Nat) (cap : Option Nat) : lenOf (.tag b a (.slice row off len cap)) = some len := rfl
structure TP where
 b : Nat
 a : Nat
 row : List IV
 off : Nat
def TP.at (t : TP) (k : Nat) : AV := .tag t.b (t.a + k * 5) (.ptr t.row (t.off + k * 5))
def TP.sl (t : TP) (n : Nat) (cap : Option Nat) : AV := .tag t.b t.a (.slice t.row t.off n cap)
@[simp] theorem at_ren (f : Nat → Option Nat) (t : TP) (k : Nat) : (t.at k).ren f = t.at k := rfl
@[simp] theorem at_refs (t : TP) (k : Nat) : (t.at k).refs = [] := rfl
def ptrsT (t : TP) (out : List Nat) : List AV := out.map t.at
def seenT (t : TP) (out : List Nat) : List (AV × AV) := out.map fun k => (t.at k, avb true)
@[simp] theorem renL_ptrsT (f : Nat → Option Nat) (t : TP) (out : List Nat) : AV.ren.renL f (ptrsT t out) = ptrsT t out := by
 rw [zl2]
 simp [ptrsT]
@[simp] theorem seenT_ren (f : Nat → Option Nat) (t : TP) (out : List Nat) : List.map (fun p => (AV.ren f p.1, AV.ren f p.2)) (seenT t out) = seenT t out := by
 simp [seenT, AV.ren]
@[simp] theorem refs_ptrsT (t : TP) (out : List Nat) : AV.refs.refsL (ptrsT t out) = [] := by
 unfold ptrsT
 induction out with
 | nil => rfl
 | cons x r ih => simp only [List.map_cons, AV.refs.refsL, ih, at_refs]; rfl
@[simp] theorem refs_seenT1 (t : TP) (out : List Nat) : AV.refs.refsL (List.map (fun x => x.1) (seenT t out)) = [] := by
 unfold seenT
 induction out with
 | nil => rfl
 | cons x r ih => simp only [List.map_cons, AV.refs.refsL, ih, at_refs]; rfl
@[simp] theorem refs_seenT2 (t : TP) (out : List Nat) : AV.refs.refsL (List.map (fun x => x.2) (seenT t out)) = [] := by
 unfold seenT
 induction out with
 | nil => rfl
 | cons x r ih => simp only [List.map_cons, AV.refs.refsL, ih, AV.refs]; rfl
theorem zgm (m : Mem) (t : TP) (k x : Nat) : keyEq m 3 (t.at k) (t.at x) = some (decide (k = x)) := by
 have h : (t.a + k * 5 == t.a + x * 5) = decide (k = x) := by
  by_cases h : k = x
  ·subst h; simp
  ·simp [h]
   omega
 simp [keyEq, TP.at, h]
theorem zen (t : TP) (k : Nat) : ∀ (out : List Nat) (i : Nat),
  (k ∉ out ∧ ∀ m : Mem, findK m 3 (t.at k) (seenT t out) i = some none) ∨
  (k ∈ out ∧ ∃ j, (∀ m : Mem, findK m 3 (t.at k) (seenT t out) i = some (some (i + j))) ∧ (seenT t out)[j]? = some (t.at k, avb true))
 | [], i => .inl ⟨by simp, fun _ => rfl⟩
 | x :: r, i => by
  by_cases h : k = x
  ·subst h
   exact .inr ⟨by simp, 0, fun m => by simp [seenT, findK, zgm], rfl⟩
  ·have hf : ∀ m : Mem, findK m 3 (t.at k) (seenT t (x :: r)) i = findK m 3 (t.at k) (seenT t r) (i + 1) := fun m => by simp [seenT, findK, zgm, h]
   rcases zen t k r (i + 1) with ⟨h1, h2⟩ | ⟨h1, j, h2, h3⟩
   ·exact .inl ⟨by simp [h, h1], fun m => by rw [hf, h2]⟩
   ·refine .inr ⟨by simp [h1], j + 1, fun m => ?_, h3⟩
    rw [hf, h2]; congr 2; omega
theorem znu (t : TP) (k : Nat) (out : List Nat) : seenT t out ++ [(t.at k, avb true)] = seenT t (out ++ [k]) := by simp [seenT]
theorem zla (t : TP) (k : Nat) (out : List Nat) : ptrsT t out ++ [t.at k] = ptrsT t (out ++ [k]) := by simp [ptrsT]
theorem zcf (t : TP) (out : List Nat) : cut (ptrsT t out) 0 out.length = some (ptrsT t out) := zca _ (by simp [ptrsT])
section
variable {code : Nat → Option XFun} {ext : Calls'}
def leadT (t : TP) : Option Nat → AV
 | some k => t.at k
 | none => .imm (.val (.pointer none))
structure StoreT (code : Nat → Option XFun) (ext : Calls') (sA : AV) (t : TP) (S : List Obj) : Prop where
 refs : sA.refs = []
 ren : ∀ f, sA.ren f = sA
 box : AV.cells sA = some [sA]
 lead : ∀ v : Val, (tInt .i64).wf v.n → callW code ext 651 [sA, .agg [.imm (.val (.int .u8 v.k)), int64 v.n]] [] = some (leadT t (leadsOf S v), [])
 obj : ∀ (k : Nat) (o : Obj), S[k]? = some o → cut t.row (t.off + k * 5) 5 = some [.val (.int .u8 o.k), .val (.string o.s), o.l.iv, .val (.int .i64 o.room), .val (.int .i64 o.fn)]
theorem zg8 (h : code 651 = some x651) (t : TP) (S : List Obj) (cap : Option Nat) (hr : Reads tObj (.slice t.row t.off S.length cap) S) (v : Val) (hv : (tInt .i64).wf v.n) :
  callW code ext 651 [t.sl S.length cap, .agg [.imm (.val (.int .u8 v.k)), int64 v.n]] [] = some (leadT t (leadsOf S v), []) := by
 have hb := hr.2.1
 rw [zbe code ext h]
 unfold leadsOf TP.sl
 by_cases c1 : v.k < 3
 ·simp -implicitDefEqProofs [x651, c1, leadT]
 by_cases c2 : 7 < v.k
 ·simp -implicitDefEqProofs [x651, c1, c2, leadT]
 by_cases c3 : v.n < 1
 ·simp -implicitDefEqProofs [x651, c1, c2, c3, leadT]
 by_cases c4 : (S.length : Int) < v.n
 ·simp -implicitDefEqProofs [x651, c1, c2, c3, c4, leadT, lenOf]
 obtain ⟨vk, vn⟩ := v
 simp only at c1 c2 c3 c4 ⊢
 obtain ⟨p, rfl⟩ : ∃ p : Nat, vn = (p : Int) + 1 := ⟨(vn - 1).toNat, by omega⟩
 have hlt : p < S.length := by omega
 have hi := List.getElem?_eq_getElem hlt
 have ep : ((p : Int) + 1 - 1).toNat = p := by omega
 rw [if_neg c1, if_neg c2, if_neg c3, if_neg c4, ep, hi]
 obtain ⟨row', off', cap', he, _, _, hget⟩ := zlv hr hi
 cases he
 generalize S[p] = o at hget
 simp only [tObj] at hget
 have g0 : t.row[t.off + p * 5]? = some (.val (.int .u8 o.k)) := zcc hget 0 (by omega)
 have e1 : IntKind.wrap .i64 (p : Int) = p := wrapI64 (by omega) (by omega)
 by_cases c5 : o.k = vk
 ·simp -implicitDefEqProofs [x651, c1, c2, c3, c4, e1, g0, c5, hlt, leadT, lenOf, TP.at]
 ·simp -implicitDefEqProofs [x651, c1, c2, c3, c4, e1, g0, c5, hlt, leadT, lenOf, TP.at]
theorem zg6 (h : code 651 = some x651) (t : TP) {sv : IV} (hr : Reads tObj sv []) (v : Val) (hv : (tInt .i64).wf v.n) :
  callW code ext 651 [.imm sv, .agg [.imm (.val (.int .u8 v.k)), int64 v.n]] [] = some (leadT t (leadsOf [] v), []) := by
 have hlen : lenOf (.imm sv) = some 0 := zlu hr
 have hn : leadsOf [] v = none := by
  cases hq : leadsOf [] v with
  | none => rfl
  | some k => exact absurd (zg7 hq).1 (by simp)
 rw [hn, zbe code ext h]
 by_cases c1 : v.k < 3
 ·simp -implicitDefEqProofs [x651, c1, leadT]
 by_cases c2 : 7 < v.k
 ·simp -implicitDefEqProofs [x651, c1, c2, leadT]
 by_cases c3 : v.n < 1
 ·simp -implicitDefEqProofs [x651, c1, c2, c3, leadT]
 have c4 : (0 : Int) < v.n := by omega
 simp -implicitDefEqProofs [x651, c1, c2, c3, c4, leadT, hlen]
theorem zou (h : code 651 = some x651) (t : TP) (S : List Obj) (cap : Option Nat) (hr : Reads tObj (.slice t.row t.off S.length cap) S) : StoreT code ext (t.sl S.length cap) t S :=
 ⟨rfl, fun _ => rfl, rfl, fun v hv => zg8 h t S cap hr v hv, fun k o ho => by
  obtain ⟨row', off', cap', he, _, _, hget⟩ := zlv hr ho
  cases he
  exact hget⟩
theorem zot (h : code 651 = some x651) (t : TP) {sv : IV} (hr : Reads tObj sv []) : StoreT code ext (.imm sv) t [] :=
 ⟨rfl, fun _ => rfl, rfl, fun v hv => zg6 h t hr v hv, fun k o ho => by simp at ho⟩
end
end Go.EX


set_option linter.unusedVariables false
set_option linter.unusedSimpArgs false
namespace Go.EX
section
variable {code : Nat → Option XFun} {ext : Calls'}
def addBaseT (sA : AV) (t : TP) (out : List Nat) (o : AV) : Mem := [.rich [sA], .rich [.omap 3], .rich [o], .map (seenT t out)]
abbrev addEnvT (lv : IV) (n i : Int) : Env := [(1, .optr 0 0), (2, .optr 1 0), (3, .optr 2 0), (8, .imm lv), (9, int64 n), (10, int64 i)]
theorem zag {sA : AV} {t : TP} {T : List Obj} (hT : StoreT code ext sA t T) (row : List IV) (off : Nat) (cap : Option Nat) (l : List Val) (hl : Reads tVal (.slice row off l.length cap) l) (out : List Nat) (i : Nat) (v : Val) (hv : l[i]? = some v)
  (hold : leadsOf T v = none ∨ ∃ k, leadsOf T v = some k ∧ k ∈ out) (k : Nat) (o : AV) (tail : Mem) (hk : (k = 4 ∧ ((out = [] ∧ o = nilS ∧ tail = []) ∨ (o = .osl 4 0 1 out.length none ∧ tail = [.rich (ptrsT t out)]))) ∨ (k = 5 ∧ ((o = .osl 4 0 1 out.length none ∧ tail = [.rich (ptrsT t out)]) ∨ (o = .osl 5 0 1 out.length none ∧ tail = [.dead, .rich (ptrsT t out)])))) :
  ∃ s', den code ext x655L1 ⟨k, addEnvT (.slice row off l.length cap) l.length i, addBaseT sA t out o ++ tail⟩ = some (.normal, s') ∧ s'.tidy [1, 2, 3, 8, 9, 10] = ⟨k, addEnvT (.slice row off l.length cap) l.length ((i : Int) + 1), addBaseT sA t out o ++ tail⟩ := by
 have hlt := (List.getElem?_eq_some_iff.1 hv).1
 obtain ⟨row', off', cap', he, hc, hcut, hget⟩ := zlv hl hv
 cases he
 simp only [tVal] at hget
 have hb2 := hl.2.1
 have hw := (hl.1 v (List.mem_of_getElem? hv)).2
 have e1 : IntKind.wrap .i64 ((i : Int) + 1) = (i : Int) + 1 := wrapI64 (by omega) (by omega)
 have hld := hT.lead v hw
 have hsr := hT.refs
 have hsn := hT.ren
 rcases hold with hn | ⟨q, hq, hm⟩
 ·rw [hn, leadT] at hld
  rcases hk with ⟨rfl, ⟨rfl, rfl, rfl⟩ | ⟨rfl, rfl⟩⟩ | ⟨rfl, ⟨rfl, rfl⟩ | ⟨rfl, rfl⟩⟩
  ·refine ⟨⟨4, addEnvT (.slice row off l.length cap) l.length ((i : Int) + 1), addBaseT sA t [] nilS ++ [.rich [.imm (.val (.int .u8 v.k)), int64 v.n]]⟩, ?_, ?_⟩
   ·simp -implicitDefEqProofs [x655L1, addBaseT, TP.at, hsr, hsn, hlt, hget, hld, e1]
   ·simp -implicitDefEqProofs [addBaseT, TP.at, hsr, hsn]
  ·refine ⟨⟨4, addEnvT (.slice row off l.length cap) l.length ((i : Int) + 1), addBaseT sA t out (.osl 4 0 1 out.length none) ++ [.rich (ptrsT t out), .rich [.imm (.val (.int .u8 v.k)), int64 v.n]]⟩, ?_, ?_⟩
   ·simp -implicitDefEqProofs [x655L1, addBaseT, TP.at, hsr, hsn, hlt, hget, hld, e1]
   ·simp -implicitDefEqProofs [addBaseT, TP.at, hsr, hsn]
  ·refine ⟨⟨5, addEnvT (.slice row off l.length cap) l.length ((i : Int) + 1), addBaseT sA t out (.osl 4 0 1 out.length none) ++ [.rich (ptrsT t out), .rich [.imm (.val (.int .u8 v.k)), int64 v.n]]⟩, ?_, ?_⟩
   ·simp -implicitDefEqProofs [x655L1, addBaseT, TP.at, hsr, hsn, hlt, hget, hld, e1]
   ·simp -implicitDefEqProofs [addBaseT, TP.at, hsr, hsn]
  ·refine ⟨⟨5, addEnvT (.slice row off l.length cap) l.length ((i : Int) + 1), addBaseT sA t out (.osl 5 0 1 out.length none) ++ [.dead, .rich (ptrsT t out), .rich [.imm (.val (.int .u8 v.k)), int64 v.n]]⟩, ?_, ?_⟩
   ·simp -implicitDefEqProofs [x655L1, addBaseT, TP.at, hsr, hsn, hlt, hget, hld, e1]
   ·simp -implicitDefEqProofs [addBaseT, TP.at, hsr, hsn]
 ·rw [hq, leadT] at hld
  rcases zen t q out 0 with ⟨h1, _⟩ | ⟨_, j, hf, hj⟩
  ·exact absurd hm h1
  simp only [Nat.zero_add] at hf
  simp only [TP.at] at hld hf hj
  rcases hk with ⟨rfl, ⟨rfl, rfl, rfl⟩ | ⟨rfl, rfl⟩⟩ | ⟨rfl, ⟨rfl, rfl⟩ | ⟨rfl, rfl⟩⟩
  ·cases hm
  ·refine ⟨⟨4, addEnvT (.slice row off l.length cap) l.length ((i : Int) + 1), addBaseT sA t out (.osl 4 0 1 out.length none) ++ [.rich (ptrsT t out), .rich [.imm (.val (.int .u8 v.k)), int64 v.n]]⟩, ?_, ?_⟩
   ·simp -implicitDefEqProofs [x655L1, addBaseT, TP.at, hsr, hsn, hlt, hget, hld, e1, hf, hj]
   ·simp -implicitDefEqProofs [addBaseT, TP.at, hsr, hsn]
  ·refine ⟨⟨5, addEnvT (.slice row off l.length cap) l.length ((i : Int) + 1), addBaseT sA t out (.osl 4 0 1 out.length none) ++ [.rich (ptrsT t out), .rich [.imm (.val (.int .u8 v.k)), int64 v.n]]⟩, ?_, ?_⟩
   ·simp -implicitDefEqProofs [x655L1, addBaseT, TP.at, hsr, hsn, hlt, hget, hld, e1, hf, hj]
   ·simp -implicitDefEqProofs [addBaseT, TP.at, hsr, hsn]
  ·refine ⟨⟨5, addEnvT (.slice row off l.length cap) l.length ((i : Int) + 1), addBaseT sA t out (.osl 5 0 1 out.length none) ++ [.dead, .rich (ptrsT t out), .rich [.imm (.val (.int .u8 v.k)), int64 v.n]]⟩, ?_, ?_⟩
   ·simp -implicitDefEqProofs [x655L1, addBaseT, TP.at, hsr, hsn, hlt, hget, hld, e1, hf, hj]
   ·simp -implicitDefEqProofs [addBaseT, TP.at, hsr, hsn]
theorem zaf {sA : AV} {t : TP} {T : List Obj} (hT : StoreT code ext sA t T) (row : List IV) (off : Nat) (cap : Option Nat) (l : List Val) (hl : Reads tVal (.slice row off l.length cap) l) (out : List Nat) (hbo : out.length ≤ 1048576) (i : Nat) (v : Val) (hv : l[i]? = some v)
  (q : Nat) (hq : leadsOf T v = some q) (hm : q ∉ out) (k : Nat) (o : AV) (tail : Mem) (hk : (k = 4 ∧ ((out = [] ∧ o = nilS ∧ tail = []) ∨ (o = .osl 4 0 1 out.length none ∧ tail = [.rich (ptrsT t out)]))) ∨ (k = 5 ∧ ((o = .osl 4 0 1 out.length none ∧ tail = [.rich (ptrsT t out)]) ∨ (o = .osl 5 0 1 out.length none ∧ tail = [.dead, .rich (ptrsT t out)])))) :
  ∃ s', den code ext x655L1 ⟨k, addEnvT (.slice row off l.length cap) l.length i, addBaseT sA t out o ++ tail⟩ = some (.normal, s') ∧
   s'.tidy [1, 2, 3, 8, 9, 10] = ⟨k, addEnvT (.slice row off l.length cap) l.length ((i : Int) + 1), addBaseT sA t (out ++ [q]) (.osl k 0 1 (out.length + 1) none) ++ (if k = 4 then [] else [.dead]) ++ [.rich (ptrsT t (out ++ [q]))]⟩ := by
 have hlt := (List.getElem?_eq_some_iff.1 hv).1
 obtain ⟨row', off', cap', he, hc, hcut, hget⟩ := zlv hl hv
 cases he
 simp only [tVal] at hget
 have hb2 := hl.2.1
 have hw := (hl.1 v (List.mem_of_getElem? hv)).2
 have e1 : IntKind.wrap .i64 ((i : Int) + 1) = (i : Int) + 1 := wrapI64 (by omega) (by omega)
 have hld := hT.lead v hw
 have hsr := hT.refs
 have hsn := hT.ren
 rw [hq, leadT] at hld
 rcases zen t q out 0 with ⟨_, hf⟩ | ⟨h1, _⟩
 case inr => exact absurd h1 hm
 have hcp := zcf t out
 have hs1 := znu t q out
 have hs2 := zla t q out
 have hbd : (out.length + 1) * 8 ≤ 140737488355328 := by omega
 have h0 : seenT t [] = [] := rfl
 have h0' : [(t.at q, avb true)] = seenT t [q] := rfl
 have h0'' : [t.at q] = ptrsT t [q] := rfl
 have hf0 : ∀ (m : Mem) (x : AV), findK m 3 x [] 0 = some none := fun _ _ => rfl
 simp only [TP.at] at hld hf hs1 hs2 h0' h0''
 rcases hk with ⟨rfl, ⟨rfl, rfl, rfl⟩ | ⟨rfl, rfl⟩⟩ | ⟨rfl, ⟨rfl, rfl⟩ | ⟨rfl, rfl⟩⟩
 ·refine ⟨⟨4, addEnvT (.slice row off l.length cap) l.length ((i : Int) + 1), addBaseT sA t [q] (.osl 6 0 1 1 none) ++ [.rich [.imm (.val (.int .u8 v.k)), int64 v.n], .rich [t.at q], .rich [t.at q]]⟩, ?_, ?_⟩
  ·simp -implicitDefEqProofs [x655L1, addBaseT, TP.at, hsr, hsn, hlt, hget, hld, e1, h0, hf0, exAppendX, exAppend, exAppendR, elems, elemsR, h0']
  ·simp -implicitDefEqProofs [addBaseT, TP.at, hsr, hsn, ptrsT]
 ·refine ⟨⟨4, addEnvT (.slice row off l.length cap) l.length ((i : Int) + 1), addBaseT sA t (out ++ [q]) (.osl 7 0 1 (out.length + 1) none) ++ [.dead, .rich [.imm (.val (.int .u8 v.k)), int64 v.n], .rich [t.at q], .rich (ptrsT t (out ++ [q]))]⟩, ?_, ?_⟩
  ·simp -implicitDefEqProofs [x655L1, addBaseT, TP.at, hsr, hsn, hlt, hget, hld, e1, hf, hs1, hs2, hcp, hbd, exAppendX, exAppend, exAppendR, elems, elemsR]
  ·simp -implicitDefEqProofs [addBaseT, TP.at, hsr, hsn]
 ·refine ⟨⟨5, addEnvT (.slice row off l.length cap) l.length ((i : Int) + 1), addBaseT sA t (out ++ [q]) (.osl 7 0 1 (out.length + 1) none) ++ [.dead, .rich [.imm (.val (.int .u8 v.k)), int64 v.n], .rich [t.at q], .rich (ptrsT t (out ++ [q]))]⟩, ?_, ?_⟩
  ·simp -implicitDefEqProofs [x655L1, addBaseT, TP.at, hsr, hsn, hlt, hget, hld, e1, hf, hs1, hs2, hcp, hbd, exAppendX, exAppend, exAppendR, elems, elemsR]
  ·simp -implicitDefEqProofs [addBaseT, TP.at, hsr, hsn]
 ·refine ⟨⟨5, addEnvT (.slice row off l.length cap) l.length ((i : Int) + 1), addBaseT sA t (out ++ [q]) (.osl 8 0 1 (out.length + 1) none) ++ [.dead, .dead, .rich [.imm (.val (.int .u8 v.k)), int64 v.n], .rich [t.at q], .rich (ptrsT t (out ++ [q]))]⟩, ?_, ?_⟩
  ·simp -implicitDefEqProofs [x655L1, addBaseT, TP.at, hsr, hsn, hlt, hget, hld, e1, hf, hs1, hs2, hcp, hbd, exAppendX, exAppend, exAppendR, elems, elemsR]
  ·simp -implicitDefEqProofs [addBaseT, TP.at, hsr, hsn]
end
end Go.EX


set_option linter.unusedVariables false
set_option linter.unusedSimpArgs false
namespace Go.EX
section
variable {code : Nat → Option XFun} {ext : Calls'}
def AddShapeT (t : TP) (k : Nat) (out : List Nat) (o : AV) (tail : Mem) : Prop :=
 (k = 4 ∧ ((out = [] ∧ o = nilS ∧ tail = []) ∨ (o = .osl 4 0 1 out.length none ∧ tail = [.rich (ptrsT t out)]))) ∨ (k = 5 ∧ ((o = .osl 4 0 1 out.length none ∧ tail = [.rich (ptrsT t out)]) ∨ (o = .osl 5 0 1 out.length none ∧ tail = [.dead, .rich (ptrsT t out)])))
theorem zn9 (n : Nat) (out : List Nat) (h : out.Nodup) (hl : ∀ k ∈ out, k < n) : out.length ≤ n := by
 have hp : out.Perm ((List.range n).filter fun k => decide (k ∈ out)) := (List.perm_ext_iff_of_nodup h (List.nodup_range.filter _)).2 fun k => by
  rw [List.mem_filter, List.mem_range]
  exact ⟨fun hk => ⟨hl k hk, by simpa using hk⟩, fun hk => by simpa using hk.2⟩
 rw [hp.length_eq]
 exact Nat.le_trans (List.length_filter_le _ _) (by simp)
theorem zae {sA : AV} {t : TP} {T : List Obj} (hT : StoreT code ext sA t T) (hb : T.length ≤ 1048576) (lv : IV) (l : List Val) (hl : Reads tVal lv l) (k : Nat) (out : List Nat) (o : AV) (tail : Mem) (hsh : AddShapeT t k out o tail) (hnd : out.Nodup) (hlt : ∀ q ∈ out, q < T.length) {s : St}
  (hst : s.tidy [1, 2, 3, 8, 9, 10] = ⟨k, addEnvT lv l.length 0, addBaseT sA t out o ++ tail⟩) :
  ∃ e s', den code ext (.loop [1, 2, 3, 8, 9, 10] x655L1) s = some (e, s') ∧ e ≠ .normal ∧
   (e = .exit 0 ∧ ∃ o' tail', AddShapeT t k (addAll T out l) o' tail' ∧ (addAll T out l = out → o' = o ∧ tail' = tail) ∧ (addAll T out l ≠ out → o' = .osl k 0 1 (addAll T out l).length none) ∧
    s' = ⟨k, addEnvT lv l.length l.length ++ [(11, avb false)], addBaseT sA t (addAll T out l) o' ++ tail'⟩) := by
 refine zho (fun n s => ∃ (i : Nat) (out1 : List Nat) (o1 : AV) (tail1 : Mem), i + n = l.length ∧ addAll T out l = addAll T out1 (l.drop i) ∧ AddShapeT t k out1 o1 tail1 ∧ out1.Nodup ∧ (∀ q ∈ out1, q < T.length) ∧
  (∃ r, out1 = out ++ r ∧ (r = [] → o1 = o ∧ tail1 = tail) ∧ (r ≠ [] → o1 = .osl k 0 1 out1.length none)) ∧ s.tidy [1, 2, 3, 8, 9, 10] = ⟨k, addEnvT lv l.length i, addBaseT sA t out1 o1 ++ tail1⟩) _ ?_ l.length _ ⟨0, out, o, tail, by simp, by simp, hsh, hnd, hlt, ⟨[], by simp, fun _ => ⟨rfl, rfl⟩, fun h => absurd rfl h⟩, hst⟩
 clear hst hsh hnd hlt s
 rintro n s ⟨i, out1, o1, tail1, hi, ha, hsh, hnd, hlt, ⟨r, hr, hr1, hr2⟩, hst⟩
 rw [hst]
 by_cases hil : i < l.length
 ·have hv := List.getElem?_eq_getElem hil
  rw [List.drop_eq_getElem_cons hil, addAll] at ha
  obtain ⟨row, off, cap, rfl, _, _, _⟩ := zlv hl hv
  generalize l[i] = v at hv ha
  cases hq : leadsOf T v with
  | none =>
   rw [hq] at ha
   obtain ⟨s', g1, g2⟩ := zag (code := code) (ext := ext) hT row off cap l hl out1 i v hv (.inl hq) k o1 tail1 hsh
   exact ⟨.normal, s', g1, .inl ⟨rfl, n - 1, by omega, i + 1, out1, o1, tail1, by omega, ha, hsh, hnd, hlt, ⟨r, hr, hr1, hr2⟩, by rw [g2]; rfl⟩⟩
  | some q =>
   rw [hq] at ha
   by_cases hm : q ∈ out1
   ·dsimp only at ha
    rw [if_pos hm] at ha
    obtain ⟨s', g1, g2⟩ := zag (code := code) (ext := ext) hT row off cap l hl out1 i v hv (.inr ⟨q, hq, hm⟩) k o1 tail1 hsh
    exact ⟨.normal, s', g1, .inl ⟨rfl, n - 1, by omega, i + 1, out1, o1, tail1, by omega, ha, hsh, hnd, hlt, ⟨r, hr, hr1, hr2⟩, by rw [g2]; rfl⟩⟩
   ·dsimp only at ha
    rw [if_neg hm] at ha
    have hlen := zn9 T.length out1 hnd hlt
    obtain ⟨s', g1, g2⟩ := zaf (code := code) (ext := ext) hT row off cap l hl out1 (by omega) i v hv q hq hm k o1 tail1 hsh
    refine ⟨.normal, s', g1, .inl ⟨rfl, n - 1, by omega, i + 1, out1 ++ [q], .osl k 0 1 (out1.length + 1) none, (if k = 4 then [] else [.dead]) ++ [.rich (ptrsT t (out1 ++ [q]))], by omega, ha, ?_, ?_, ?_, ⟨r ++ [q], by rw [hr]; simp, fun h => by simp at h, fun _ => by simp⟩, by rw [g2, List.append_assoc]; rfl⟩⟩
    ·rcases hsh with ⟨rfl, _⟩ | ⟨rfl, _⟩
     ·exact .inl ⟨rfl, .inr ⟨by simp, by simp⟩⟩
     ·exact .inr ⟨rfl, .inr ⟨by simp, by simp⟩⟩
    ·rw [List.nodup_append]
     exact ⟨hnd, by simp, fun a ha' b hb' => by simp at hb'; subst hb'; exact fun e => hm (e ▸ ha')⟩
    ·intro p hp
     rw [List.mem_append, List.mem_singleton] at hp
     rcases hp with hp | rfl
     ·exact hlt p hp
     ·exact (zg7 hq).1
 ·have : i = l.length := by omega
  subst this
  rw [List.drop_eq_nil_of_le (Nat.le_refl _), addAll] at ha
  refine ⟨.exit 0, ⟨k, addEnvT lv l.length l.length ++ [(11, avb false)], addBaseT sA t (addAll T out l) o1 ++ tail1⟩, ?_, .inr ⟨by simp, rfl, o1, tail1, by rw [ha]; exact hsh, fun he => hr1 ?_, fun he => ?_, rfl⟩⟩
  ·rw [ha]
   simp -implicitDefEqProofs [x655L1]
  ·rw [ha, hr] at he
   simpa using he
  ·rw [ha]
   refine hr2 fun e => he ?_
   rw [ha, hr, e]; simp
theorem zah {sA : AV} {t : TP} {T : List Obj} (hT : StoreT code ext sA t T) (h' : code 655 = some x655) (hb : T.length ≤ 1048576) (lv : IV) (l : List Val) (hl : Reads tVal lv l) (k : Nat) (out : List Nat) (o : AV) (tail : Mem) (hsh : AddShapeT t k out o tail) (hk : (addBaseT sA t out o ++ tail).length = k) (hnd : out.Nodup) (hlt : ∀ q ∈ out, q < T.length) :
  ∃ o' tail', AddShapeT t k (addAll T out l) o' tail' ∧ (addAll T out l = out → o' = o ∧ tail' = tail) ∧ (addAll T out l ≠ out → o' = .osl k 0 1 (addAll T out l).length none) ∧
   callW code ext 655 [.imm lv, .optr 0 0, .optr 1 0, .optr 2 0] (addBaseT sA t out o ++ tail) = some (.tup [], addBaseT sA t (addAll T out l) o' ++ tail') := by
 have hlen := zlu hl
 have hsr := hT.refs
 have hsn := hT.ren
 obtain ⟨e, s', h1, _, rfl, o', tail', g1, g2, g3, rfl⟩ := zae (code := code) (ext := ext) hT hb lv l hl k out o tail hsh hnd hlt (s := ⟨k, addEnvT lv l.length 0, addBaseT sA t out o ++ tail⟩) (by
  rcases hsh with ⟨rfl, ⟨rfl, rfl, rfl⟩ | ⟨rfl, rfl⟩⟩ | ⟨rfl, ⟨rfl, rfl⟩ | ⟨rfl, rfl⟩⟩ <;> simp -implicitDefEqProofs [addBaseT, hsr, hsn])
 refine ⟨o', tail', g1, g2, g3, ?_⟩
 rw [zbe code ext h', hk]
 generalize hM : addBaseT sA t out o ++ tail = M at h1 ⊢
 generalize hout : addAll T out l = out' at *
 clear hsh g2 g3 hk hM
 rcases g1 with ⟨rfl, ⟨rfl, rfl, rfl⟩ | ⟨rfl, rfl⟩⟩ | ⟨rfl, ⟨rfl, rfl⟩ | ⟨rfl, rfl⟩⟩
 ·simp -implicitDefEqProofs [x655, hlen, h1, addBaseT, hsr, hsn]
 ·simp -implicitDefEqProofs [x655, hlen, h1, addBaseT, hsr, hsn]
 ·simp -implicitDefEqProofs [x655, hlen, h1, addBaseT, hsr, hsn]
 ·simp -implicitDefEqProofs [x655, hlen, h1, addBaseT, hsr, hsn]
end
end Go.EX


set_option linter.unusedVariables false
set_option linter.unusedSimpArgs false
namespace Go.EX
theorem zbm (n : Nat) : AV.cells (.omap n) = some [.omap n] := rfl
theorem zbo (i o z l : Nat) (c : Option Nat) : AV.cells (.osl i o z l c) = some [.osl i o z l c] := rfl
theorem zbl (x : IV) : AV.cells (.imm x) = some [.imm x] := rfl
section
variable {code : Nat → Option XFun} {ext : Calls'}
abbrev reachEnvT (i : Int) : Env := [(4, .optr 0 0), (6, .clo 655 [.optr 1 0, .optr 2 0, .optr 0 0]), (7, int64 i)]
def reachMemT (sA : AV) (t : TP) (out : List Nat) : Mem := [.rich [.osl 3 0 1 out.length none], .rich [sA], .rich [.omap 4], .rich (ptrsT t out), .map (seenT t out)]
theorem zln {sA : AV} {t : TP} {T : List Obj} (hT : StoreT code ext sA t T) (h' : code 655 = some x655) (hb : T.length ≤ 1048576) (out : List Nat) (hnd : out.Nodup) (hlt : ∀ q ∈ out, q < T.length) (i k : Nat) (hk : out[i]? = some k) (o : Obj) (ho : T[k]? = some o) :
  ∃ s', den code ext x654L1 ⟨0, reachEnvT i, reachMemT sA t out⟩ = some (.normal, s') ∧ s'.tidy [4, 6, 7] = ⟨0, reachEnvT ((i : Int) + 1), reachMemT sA t (addAll T out o.l.xs)⟩ := by
 have hi := (List.getElem?_eq_some_iff.1 hk).1
 have hlen := zn9 T.length out hnd hlt
 have e1 : IntKind.wrap .i64 ((i : Int) + 1) = (i : Int) + 1 := wrapI64 (by omega) (by omega)
 have hp : (ptrsT t out)[i]? = some (t.at k) := by simp [ptrsT, hk]
 have hL : t.row[t.off + k * 5 + 2]? = some o.l.iv := zcc (hT.obj k o ho) 2 (by omega)
 have hsr := hT.refs
 have hsn := hT.ren
 obtain ⟨o', tail', g1, g2, g3, g4⟩ := zah (ext := ext) hT h' hb o.l.iv o.l.xs o.l.ok 5 out (.osl 4 0 1 out.length none) [.rich (ptrsT t out)] (.inr ⟨rfl, .inl ⟨rfl, rfl⟩⟩) rfl hnd hlt
 simp only [addBaseT, List.cons_append, List.nil_append] at g4
 by_cases he : addAll T out o.l.xs = out
 ·obtain ⟨rfl, rfl⟩ := g2 he
  rw [he] at g4 ⊢
  refine ⟨⟨0, reachEnvT ((i : Int) + 1), reachMemT sA t out⟩, ?_, ?_⟩
  ·simp -implicitDefEqProofs [x654L1, reachMemT, TP.at, hsr, hsn, hi, hp, hL, g4, e1]
  ·simp -implicitDefEqProofs [reachMemT, hsr, hsn]
 ·have ho' := g3 he
  subst ho'
  generalize addAll T out o.l.xs = out' at *
  obtain rfl : tail' = [.dead, .rich (ptrsT t out')] := by
   rcases g1 with ⟨h5, _⟩ | ⟨_, ⟨h6, _⟩ | ⟨_, h7⟩⟩
   ·cases h5
   ·cases h6
   ·exact h7
  refine ⟨⟨0, reachEnvT ((i : Int) + 1), [.rich [.osl 5 0 1 out'.length none], .rich [sA], .rich [.omap 4], .dead, .map (seenT t out'), .rich (ptrsT t out')]⟩, ?_, ?_⟩
  ·simp -implicitDefEqProofs [x654L1, reachMemT, TP.at, hsr, hsn, hi, hp, hL, g4, e1]
  ·simp -implicitDefEqProofs [reachMemT, hsr, hsn]
def reachOutT (t : TP) (out : List Nat) : AV × Mem := if out = [] then (nilS, []) else (.osl 0 0 1 out.length none, [.rich (ptrsT t out)])
theorem zlm {sA : AV} {t : TP} {T : List Obj} (hT : StoreT code ext sA t T) (h' : code 655 = some x655) (h2 : code 654 = some x654) (hb : T.length ≤ 1048576) {rv : IV} {roots : List Val} (hr : Reads tVal rv roots) :
  ∃ out, Grown T roots out out.length ∧ callW code ext 654 [sA, .imm rv] [] = some (reachOutT t out) := by
 obtain ⟨o', tail', g1, g2, g3, g4⟩ := zah (ext := ext) hT h' hb rv roots hr 4 [] nilS [] (.inl ⟨rfl, .inl ⟨rfl, rfl, rfl⟩⟩) rfl (by simp) (by simp)
 have hsr := hT.refs
 have hsn := hT.ren
 have hs0 : seenT t [] = [] := rfl
 have hG := Grown.start T roots
 simp only [addBaseT, List.cons_append, List.nil_append, List.append_nil, hs0] at g4
 rw [zbe code ext h2]
 by_cases he : addAll T [] roots = []
 ·rw [he] at g4 hG g1
  refine ⟨[], hG, ?_⟩
  rcases g1 with ⟨_, ⟨_, rfl, rfl⟩ | ⟨rfl, rfl⟩⟩ | ⟨h6, _⟩
  ·have hl : den code ext (.loop [4, 6, 7] x654L1) ⟨0, [(4, .optr 1 0), (6, .clo 655 [.optr 0 0, .optr 3 0, .optr 1 0]), (7, int64 0)], [.rich [sA], .rich [nilS], .map [], .rich [.omap 2]]⟩ =
     some (.exit 0, ⟨0, [(4, .optr 0 0), (6, .clo 655 [.optr 1 0, .optr 2 0, .optr 0 0]), (7, int64 0), (16, avb false)], [.rich [nilS], .rich [sA], .rich [.omap 3], .map []]⟩) := by
    rw [zcm]
    simp -implicitDefEqProofs [x654L1, hsr, hsn]
   simp -implicitDefEqProofs [x654, hsr, hsn, hT.box, -AV.cells, zbm, zbo, zbl, g4, hs0, hl, reachOutT]
  ·have hn := (g2 he).1
   cases hn
  ·cases h6
 ·have ho' := g3 he
  subst ho'
  generalize hout : addAll T [] roots = out0 at *
  obtain rfl : tail' = [.rich (ptrsT t out0)] := by
   rcases g1 with ⟨_, ⟨h5, _⟩ | ⟨_, h5⟩⟩ | ⟨h6, _⟩
   ·exact absurd h5 he
   ·exact h5
   ·cases h6
  have loop : ∀ s : St, s.tidy [4, 6, 7] = ⟨0, reachEnvT 0, reachMemT sA t out0⟩ → ∃ e s', den code ext (.loop [4, 6, 7] x654L1) s = some (e, s') ∧ e ≠ .normal ∧
    (e = .exit 0 ∧ ∃ out, out ≠ [] ∧ Grown T roots out out.length ∧ s' = ⟨0, reachEnvT out.length ++ [(16, avb false)], reachMemT sA t out⟩) := by
   intro s hst
   refine zho (fun n s => ∃ (i : Nat) (out : List Nat), i ≤ out.length ∧ out ≠ [] ∧ n + i = T.length ∧ Grown T roots out i ∧ s.tidy [4, 6, 7] = ⟨0, reachEnvT i, reachMemT sA t out⟩) _ ?_ T.length s ⟨0, out0, by omega, he, by omega, hG, hst⟩
   clear hst hG hout he g1 g2 g3 g4
   rintro n s ⟨i, out, hio, hne, hn, hG, hst⟩
   rw [hst]
   have hlt : ∀ q ∈ out, q < T.length := fun q hq => (hG.reach q hq).lt
   by_cases hi : i < out.length
   ·have hk := List.getElem?_eq_getElem hi
    have hko := hlt _ (List.getElem_mem hi)
    obtain ⟨s', q1, q2⟩ := zln (code := code) (ext := ext) hT h' hb out hG.nodup hlt i _ hk _ (List.getElem?_eq_getElem hko)
    have hG' := hG.next hk (List.getElem?_eq_getElem hko)
    have hs := hG.short
    obtain ⟨r, hr⟩ := zad T T[out[i]].l.xs out
    refine ⟨.normal, s', q1, .inl ⟨rfl, n - 1, by omega, i + 1, _, ?_, ?_, by omega, hG', by rw [q2]; rfl⟩⟩
    ·rw [hr, List.length_append]; omega
    ·rw [hr]; intro e; exact hne (List.append_eq_nil_iff.1 e).1
   ·have : i = out.length := by omega
    subst this
    refine ⟨.exit 0, ⟨0, reachEnvT out.length ++ [(16, avb false)], reachMemT sA t out⟩, ?_, .inr ⟨by simp, rfl, out, hne, hG, rfl⟩⟩
    simp -implicitDefEqProofs [x654L1, reachMemT, hsr, hsn]
  obtain ⟨e, s', l1, _, rfl, out, hne, hG', rfl⟩ := loop ⟨0, [(4, .optr 1 0), (6, .clo 655 [.optr 0 0, .optr 3 0, .optr 1 0]), (7, int64 0)], [.rich [sA], .rich [.osl 4 0 1 out0.length none], .map (seenT t out0), .rich [.omap 2], .rich (ptrsT t out0)]⟩ (by simp -implicitDefEqProofs [reachMemT, hsr, hsn])
  refine ⟨out, hG', ?_⟩
  simp -implicitDefEqProofs [x654, hsr, hsn, hT.box, -AV.cells, zbm, zbo, zbl, g4, l1, reachMemT, reachOutT, hne]
end
end Go.EX


set_option linter.unusedVariables false
set_option linter.unusedSimpArgs false
namespace Go.EX
section
variable {code : Nat → Option XFun} {ext : Calls'}
theorem tdiv8T (n : Nat) : ((n : Int) + 7).tdiv 8 = (((n + 7) / 8 : Nat) : Int) := by
 have := Int.ofNat_tdiv (n + 7) 8
 simpa using this.symm
end
end Go.EX


set_option linter.unusedVariables false
set_option linter.unusedSimpArgs false
namespace Go.EX
theorem zbn (i o : Nat) : AV.cells (.optr i o) = some [.optr i o] := rfl
theorem zbk (l : List AV) : AV.cells (.agg l) = some l := rfl
theorem zbp (b a : Nat) (x : IV) : AV.cells (.tag b a x) = some [.tag b a x] := rfl
def valOf (S : List Obj) (v : Val) : Bool := if v.k = 0 then decide (v.n = 0) else if v.k = 1 then decide (v.n = 0 ∨ v.n = 1) else if v.k = 2 then true else (leadsOf S v).isSome
def heldOf (S : List Obj) (l : List Val) (c : Bool) : Bool := l.all fun v => valOf S v && (decide (v.k = 7) == c)
def sAt (S : List Obj) (i : Nat) : ByteArray := match S[i]? with
 | some o => o.s
 | none => .empty
def sameOf (S : List Obj) (a b : Val) : Bool :=
 if a.k ≠ b.k then false else if a.k = 0 then true else if a.n = b.n then true else if a.k = 3 then
  match leadsOf S a, leadsOf S b with
  | some i, some j => decide (sAt S i = sAt S j)
  | _, _ => false
 else false
def KeysOk (S : List Obj) (l : List Val) : Prop := ∀ (i k : Nat) (a b : Val), i % 2 = 0 → k % 2 = 0 → k < i → l[i]? = some a → l[k]? = some b → sameOf S a b = false
def ObjOk (S : List Obj) (o : Obj) : Prop :=
 if o.k = 3 then o.s.size ≤ 4096 ∧ o.l.xs = [] ∧ o.room = 0 ∧ o.fn = 0
 else if o.k = 4 then o.s = .empty ∧ o.fn = 0 ∧ (o.l.xs.length : Int) ≤ 65536 ∧ (o.l.xs.length : Int) ≤ o.room ∧ o.room ≤ 262144 ∧ heldOf S o.l.xs false = true
 else if o.k = 5 then o.s = .empty ∧ o.fn = 0 ∧ (o.l.xs.length : Int).tmod 2 = 0 ∧ (o.l.xs.length : Int) ≤ 131072 ∧ (o.l.xs.length : Int) ≤ o.room ∧ o.room ≤ 262144 ∧ heldOf S o.l.xs false = true ∧ KeysOk S o.l.xs
 else if o.k = 6 then o.s = .empty ∧ o.room = 0 ∧ 0 ≤ o.fn ∧ o.fn < 256 ∧ heldOf S o.l.xs true = true
 else o.s = .empty ∧ o.room = 0 ∧ o.fn = 0 ∧ (o.l.xs.length : Int) = 1 ∧ heldOf S o.l.xs false = true
def CheckOk (S : List Obj) (v : Val) : Prop := valOf S v = true ∧ ∀ (k : Nat) (o : Obj), Reach S [v] k → S[k]? = some o → ObjOk S o
def badOf (T : List Obj) (o : Obj) (v : Val) : Bool := !valOf T v || (decide (v.k = 7) != decide (o.k = 6))
theorem zan (T : List Obj) (o : Obj) (l : List Val) : l.any (badOf T o) = !heldOf T l (decide (o.k = 6)) := by
 unfold heldOf
 induction l with
 | nil => rfl
 | cons v l ih =>
  rw [List.any_cons, List.all_cons, ih, Bool.not_and]
  congr 1
  unfold badOf
  cases valOf T v <;> cases decide (v.k = 7) <;> cases decide (o.k = 6) <;> rfl
def normOf (T : List Obj) (v : Val) : Int × Int × ByteArray :=
 if v.k = 3 then match leadsOf T v with
  | some i => (3, 0, sAt T i)
  | none => (v.k, v.n, .empty)
 else (v.k, v.n, .empty)
def keyAV (x : Int × Int × ByteArray) : AV := .agg [.imm (.val (.int .u8 x.1)), int64 x.2.1, .imm (.val (.string x.2.2))]
def normMap (acc : List (Int × Int × ByteArray)) : List (AV × AV) := acc.map fun x => (keyAV x, avb true)
open Classical in
noncomputable def addNorm (acc : List (Int × Int × ByteArray)) (x : Int × Int × ByteArray) : List (Int × Int × ByteArray) := if x ∈ acc then acc else acc ++ [x]
@[simp] theorem refs_norm1 (acc : List (Int × Int × ByteArray)) : AV.refs.refsL (List.map (fun x => x.1) (normMap acc)) = [] := by
 unfold normMap
 induction acc with
 | nil => rfl
 | cons x r ih =>
  have hk : (keyAV x).refs = [] := rfl
  simp only [List.map_cons, AV.refs.refsL, ih, hk, List.append_nil]
@[simp] theorem refs_norm2 (acc : List (Int × Int × ByteArray)) : AV.refs.refsL (List.map (fun x => x.2) (normMap acc)) = [] := by
 unfold normMap
 induction acc with
 | nil => rfl
 | cons x r ih => simp only [List.map_cons, AV.refs.refsL, ih, AV.refs]; rfl
@[simp] theorem norm_ren (f : Nat → Option Nat) (acc : List (Int × Int × ByteArray)) : List.map (fun p => (AV.ren f p.1, AV.ren f p.2)) (normMap acc) = normMap acc := by
 simp [normMap, keyAV, AV.ren, AV.ren.renL]
theorem key57 (x : Int × Int × ByteArray) : isKeyAV 57 (keyAV x) = true := by
 have e : isKeyAV 57 (keyAV x) = (sameCells [0, 0, 2] [.imm (.val (.int .u8 x.1)), int64 x.2.1, .imm (.val (.string x.2.2))] [.imm (.val (.int .u8 x.1)), int64 x.2.1, .imm (.val (.string x.2.2))]).isSome := rfl
 rw [e]; simp [sameCells]
theorem za7 (a b : ByteArray) : (a == b) = decide (a = b) := by rw [Go.beq_toListBytes, bytes_beq]
theorem keyEq57 (m : Mem) (x y : Int × Int × ByteArray) : keyEq m 57 (keyAV x) (keyAV y) = some (decide (x = y)) := by
 obtain ⟨a, b, c⟩ := x
 obtain ⟨a', b', c'⟩ := y
 have e : keyEq m 57 (keyAV (a, b, c)) (keyAV (a', b', c')) = sameCells [0, 0, 2] [.imm (.val (.int .u8 a)), int64 b, .imm (.val (.string c))] [.imm (.val (.int .u8 a')), int64 b', .imm (.val (.string c'))] := rfl
 rw [e]
 simp only [sameCells, if_true, Option.map_some, Bool.and_true, Option.some.injEq, za7]
 by_cases h1 : a = a' <;> by_cases h2 : b = b' <;> by_cases h3 : c = c' <;> simp [h1, h2, h3]
theorem findK57 (x : Int × Int × ByteArray) : ∀ (acc : List (Int × Int × ByteArray)) (i : Nat),
  (x ∉ acc ∧ ∀ m, findK m 57 (keyAV x) (normMap acc) i = some none) ∨ (x ∈ acc ∧ ∃ j, (∀ m, findK m 57 (keyAV x) (normMap acc) i = some (some (i + j))) ∧ acc[j]? = some x)
 | [], i => .inl ⟨by simp, fun _ => rfl⟩
 | y :: r, i => by
  have hk := fun m => keyEq57 m x y
  by_cases h : x = y
  ·subst h
   refine .inr ⟨by simp, 0, fun m => ?_, rfl⟩
   simp only [normMap, List.map_cons, findK, hk, decide_true, Nat.add_zero]
  ·have hf : ∀ m, findK m 57 (keyAV x) (normMap (y :: r)) i = findK m 57 (keyAV x) (normMap r) (i + 1) := fun m => by simp only [normMap, List.map_cons, findK, hk, h, decide_false]
   rcases findK57 x r (i + 1) with ⟨h1, h2⟩ | ⟨h1, j, h2, h3⟩
   ·exact .inl ⟨by simp [h, h1], fun m => by rw [hf, h2]⟩
   ·refine .inr ⟨by simp [h1], j + 1, fun m => ?_, h3⟩
    rw [hf, h2]; congr 2; omega
theorem zi4 (acc : List (Int × Int × ByteArray)) (j : Nat) (x : Int × Int × ByteArray) (h : acc[j]? = some x) : (normMap acc).set j (keyAV x, avb true) = normMap acc := by
 refine List.ext_getElem? fun i => ?_
 rw [List.getElem?_set]
 split
 ·rename_i hij; subst hij
  split
  ·simp [normMap, h]
  ·rename_i hl
   rw [List.getElem?_eq_none (by omega)]
 ·rfl
theorem zi5 (acc : List (Int × Int × ByteArray)) (x : Int × Int × ByteArray) : normMap acc ++ [(keyAV x, avb true)] = normMap (acc ++ [x]) := by simp [normMap]
section
noncomputable def normsTo (T : List Obj) (l : List Val) : Nat → List (Int × Int × ByteArray)
 | 0 => []
 | i + 1 => if i % 2 = 0 then (match l[i]? with | some v => addNorm (normsTo T l i) (normOf T v) | none => normsTo T l i) else normsTo T l i
theorem zi6 (T : List Obj) (l : List Val) (i : Nat) (v : Val) (hi : i % 2 = 0) (hv : l[i]? = some v) : normsTo T l (i + 2) = addNorm (normsTo T l i) (normOf T v) := by
 rw [normsTo, if_neg (by omega), normsTo, if_pos hi, hv]
end
theorem zi1 (acc : List (Int × Int × ByteArray)) : (normMap acc).length = acc.length := by simp [normMap]
theorem zi2 (T : List Obj) (v : Val) : (normOf T v).1 = v.k := by
 unfold normOf
 split
 ·split
  ·simp_all
  ·rfl
 ·rfl
theorem zi3 (T : List Obj) (a b : Val) (ha : valOf T a = true) (hb : valOf T b = true) : normOf T a = normOf T b ↔ sameOf T a b = true := by
 unfold normOf sameOf
 by_cases hk : a.k = b.k
 ·rw [if_neg (show ¬ (a.k ≠ b.k) from fun c => c hk)]
  by_cases h0 : a.k = 0
  ·have hb0 : b.k = 0 := by omega
   unfold valOf at ha hb
   rw [if_pos h0] at ha
   rw [if_pos hb0] at hb
   simp at ha hb
   simp [h0, hb0, ha, hb]
  ·rw [if_neg h0]
   by_cases h3 : a.k = 3
   ·have hb3 : b.k = 3 := by omega
    rw [if_pos h3, if_pos hb3, if_pos h3]
    have ga : (leadsOf T a).isSome = true := by
     unfold valOf at ha
     rw [if_neg (by omega), if_neg (by omega), if_neg (by omega)] at ha; exact ha
    have gb : (leadsOf T b).isSome = true := by
     unfold valOf at hb
     rw [if_neg (by omega), if_neg (by omega), if_neg (by omega)] at hb; exact hb
    obtain ⟨i, hi⟩ := Option.isSome_iff_exists.1 ga
    obtain ⟨j, hj⟩ := Option.isSome_iff_exists.1 gb
    rw [hi, hj]
    by_cases hn : a.n = b.n
    ·rw [if_pos hn]
     have hij : i = j := by
      have h1 := (zg7 hi).2.1
      have h2 := (zg7 hj).2.1
      omega
     subst hij; simp
    ·rw [if_neg hn]; simp
   ·have hb3 : ¬ b.k = 3 := by omega
    rw [if_neg h3, if_neg hb3, if_neg h3]
    by_cases hn : a.n = b.n
    ·simp [hn, hk]
    ·simp [hn]
 ·rw [if_pos hk]
  refine ⟨fun h => ?_, fun h => by cases h⟩
  have h1 := zi2 T a
  have h2 := zi2 T b
  unfold normOf at h1 h2
  rw [h, h2] at h1
  exact absurd h1.symm hk
theorem zi8 (T : List Obj) (l : List Val) : ∀ (j : Nat), 2 * j ≤ l.length → ∀ x, x ∈ normsTo T l (2 * j) ↔ ∃ p v, p < j ∧ l[2 * p]? = some v ∧ normOf T v = x
 | 0, _, x => by
  refine ⟨fun h => by simp [normsTo] at h, ?_⟩
  rintro ⟨p, v, h, _⟩; omega
 | j + 1, hj, x => by
  have hlt : 2 * j < l.length := by omega
  have ih := zi8 T l j (by omega) x
  have hg := List.getElem?_eq_getElem hlt
  have e := zi6 T l (2 * j) l[2 * j] (by omega) hg
  have e' : 2 * (j + 1) = 2 * j + 2 := by omega
  rw [e', e]
  have hadd : x ∈ addNorm (normsTo T l (2 * j)) (normOf T l[2 * j]) ↔ x ∈ normsTo T l (2 * j) ∨ normOf T l[2 * j] = x := by
   unfold addNorm
   split
   ·rename_i hm
    refine ⟨.inl, ?_⟩
    rintro (h | h)
    ·exact h
    ·rw [← h]; exact hm
   ·simp [eq_comm]
  rw [hadd, ih]
  constructor
  ·rintro (⟨p, v, h1, h2, h3⟩ | h)
   ·exact ⟨p, v, by omega, h2, h3⟩
   ·exact ⟨j, _, by omega, hg, h⟩
  ·rintro ⟨p, v, h1, h2, h3⟩
   by_cases hp : p = j
   ·subst hp; rw [hg] at h2; cases h2; exact .inr h3
   ·exact .inl ⟨p, v, by omega, h2, h3⟩
theorem zi7 (T : List Obj) (l : List Val) : ∀ (j : Nat), 2 * j ≤ l.length → (normsTo T l (2 * j)).length ≤ j ∧
  ((normsTo T l (2 * j)).length = j ↔ ∀ (p q : Nat) (a b : Val), q < p → p < j → l[2 * p]? = some a → l[2 * q]? = some b → normOf T a ≠ normOf T b)
 | 0, _ => by
  refine ⟨by simp [normsTo], fun _ p q a b h1 h2 => by omega, fun _ => by simp [normsTo]⟩
 | j + 1, hj => by
  have hlt : 2 * j < l.length := by omega
  obtain ⟨ih1, ih2⟩ := zi7 T l j (by omega)
  have hm := zi8 T l j (by omega) (normOf T l[2 * j])
  have hg := List.getElem?_eq_getElem hlt
  have e := zi6 T l (2 * j) l[2 * j] (by omega) hg
  have e' : 2 * (j + 1) = 2 * j + 2 := by omega
  rw [e', e]
  unfold addNorm
  split
  ·rename_i hx
   refine ⟨by omega, fun h => by omega, fun h => ?_⟩
   obtain ⟨p, v, h1, h2, h3⟩ := hm.1 hx
   exact absurd h3.symm (h j p _ v h1 (by omega) hg h2)
  ·rename_i hx
   refine ⟨by simp; omega, ?_⟩
   rw [List.length_append, List.length_singleton]
   constructor
   ·intro h p q a b h1 h2 h3 h4
    by_cases hp : p = j
    ·subst hp
     rw [hg] at h3; cases h3
     intro hc
     exact hx (hm.2 ⟨q, b, h1, h4, hc.symm⟩)
    ·exact ih2.1 (by omega) p q a b h1 (by omega) h3 h4
   ·intro h
    have := ih2.2 fun p q a b h1 h2 h3 h4 => h p q a b h1 (by omega) h3 h4
    omega
theorem zgu (T : List Obj) (l : List Val) (hev : l.length % 2 = 0) (hv : ∀ v ∈ l, valOf T v = true) : (normsTo T l l.length).length = l.length / 2 ↔ KeysOk T l := by
 have hl : l.length = 2 * (l.length / 2) := by omega
 have h := (zi7 T l (l.length / 2) (by omega)).2
 rw [← hl] at h
 rw [h]
 unfold KeysOk
 constructor
 ·intro h i k a b hi hk hlt h1 h2
  have ha := hv a (List.mem_of_getElem? h1)
  have hb := hv b (List.mem_of_getElem? h2)
  have hil := (List.getElem?_eq_some_iff.1 h1).1
  have := h (i / 2) (k / 2) a b (by omega) (by omega) (by rw [show 2 * (i / 2) = i by omega]; exact h1) (by rw [show 2 * (k / 2) = k by omega]; exact h2)
  rw [Ne, zi3 T a b ha hb] at this
  simpa using this
 ·intro h p q a b h1 h2 h3 h4
  have ha := hv a (List.mem_of_getElem? h3)
  have hb := hv b (List.mem_of_getElem? h4)
  rw [Ne, zi3 T a b ha hb, h (2 * p) (2 * q) a b (by omega) (by omega) (by omega) h3 h4]
  simp
end Go.EX


set_option linter.unusedVariables false
set_option linter.unusedSimpArgs false
namespace Go.EX
section
variable {code : Nat → Option XFun} {ext : Calls'}
theorem zqh {sA : AV} {t : TP} {T : List Obj} (hT : StoreT code ext sA t T) (h' : code 656 = some x656) (hb : T.length ≤ 1048576) (v : Val) (hv : (tInt .i64).wf v.n) :
  callW code ext 656 [sA, .agg [.imm (.val (.int .u8 v.k)), int64 v.n]] [] = some (avb (valOf T v), []) := by
 rw [zbe code ext h']
 have hl := hT.lead v hv
 by_cases k0 : v.k = 0
 ·simp -implicitDefEqProofs [x656, hT.refs, hT.ren, TP.at, valOf, k0]
 by_cases k1 : v.k = 1
 ·by_cases n0 : v.n = 0
  ·simp -implicitDefEqProofs [x656, hT.refs, hT.ren, TP.at, valOf, k1, n0]
  ·simp -implicitDefEqProofs [x656, hT.refs, hT.ren, TP.at, valOf, k1, n0]
 by_cases k2 : v.k = 2
 ·simp -implicitDefEqProofs [x656, hT.refs, hT.ren, TP.at, valOf, k2]
 cases hq : leadsOf T v with
 | none =>
  rw [hq, leadT] at hl
  try simp only [TP.at] at hl
  simp -implicitDefEqProofs [x656, hT.refs, hT.ren, TP.at, valOf, k0, k1, k2, hq, hl]
 | some q =>
  rw [hq, leadT] at hl
  try simp only [TP.at] at hl
  simp -implicitDefEqProofs [x656, hT.refs, hT.ren, TP.at, valOf, k0, k1, k2, hq, hl]
def mayMemT (sA : AV) (t : TP) (k : Nat) : Mem := [.rich [sA], .rich [t.at k]]
theorem za0 {sA : AV} {t : TP} {T : List Obj} (hT : StoreT code ext sA t T) (h' : code 656 = some x656) (h2 : code 653 = some x653) (hb : T.length ≤ 1048576) (k : Nat) (o : Obj) (ho : T[k]? = some o) (v : Val) (hv : (tInt .i64).wf v.n) :
  callW code ext 653 [.agg [.imm (.val (.int .u8 v.k)), int64 v.n], .optr 0 0, .optr 1 0] (mayMemT sA t k) = some (avb (badOf T o v), mayMemT sA t k) := by
 rw [zbe code ext h2]
 have hval := zqh (ext := ext) hT h' hb v hv
 have g0 : t.row[t.off + k * 5]? = some (.val (.int .u8 o.k)) := zcc (hT.obj k o ho) 0 (by omega)
 cases hvv : valOf T v with
 | false =>
  rw [hvv] at hval
  simp -implicitDefEqProofs [x653, mayMemT, hT.refs, hT.ren, TP.at,  hval, badOf, hvv]
 | true =>
  rw [hvv] at hval
  by_cases c7 : v.k = 7
  ·have hval7 := hval
   rw [c7] at hval7
   have hvv7 := hvv
   by_cases c6 : o.k = 6
   ·simp -implicitDefEqProofs [x653, mayMemT, hT.refs, hT.ren, TP.at,  hval7, badOf, hvv, g0, c7, c6]
   ·simp -implicitDefEqProofs [x653, mayMemT, hT.refs, hT.ren, TP.at,  hval7, badOf, hvv, g0, c7, c6]
  ·by_cases c6 : o.k = 6
   ·simp -implicitDefEqProofs [x653, mayMemT, hT.refs, hT.ren, TP.at,  hval, badOf, hvv, g0, c7, c6]
   ·simp -implicitDefEqProofs [x653, mayMemT, hT.refs, hT.ren, TP.at,  hval, badOf, hvv, g0, c7, c6]
theorem zal {sA : AV} {t : TP} {T : List Obj} (hT : StoreT code ext sA t T) (h' : code 656 = some x656) (h2 : code 653 = some x653) (h3 : code 759 = some x759) (h4 : code 749 = some x749) (hb : T.length ≤ 1048576) (k : Nat) (o : Obj) (ho : T[k]? = some o) {lv : IV} {l : List Val} (hl : Reads tVal lv l) :
  callW code ext 749 [.imm lv, .clo 653 [.optr 0 0, .optr 1 0]] (mayMemT sA t k) = some (avb (l.any (badOf T o)), mayMemT sA t k) := by
 have hlen := zlu hl
 have hbl := hl.2.1
 have loop : ∃ e s', den code ext (.loop [0, 1, 7, 8] x759L1) ⟨2, [(0, .imm lv), (1, .clo 653 [.optr 0 0, .optr 1 0]), (7, int64 l.length), (8, int64 0)], mayMemT sA t k⟩ = some (e, s') ∧ e ≠ .normal ∧
   ((e = .exit 0 ∧ l.any (badOf T o) = false ∧ s' = ⟨2, [(0, .imm lv), (1, .clo 653 [.optr 0 0, .optr 1 0]), (7, int64 l.length), (8, int64 l.length), (9, avb false)], mayMemT sA t k⟩) ∨ (e = .ret ∧ l.any (badOf T o) = true ∧ ∃ i : Nat, s' = ⟨2, [(4, int64 (i : Nat))], mayMemT sA t k⟩)) := by
  refine zho (fun n s => ∃ (i : Nat), i + n = l.length ∧ (l.take i).any (badOf T o) = false ∧ s = ⟨2, [(0, .imm lv), (1, .clo 653 [.optr 0 0, .optr 1 0]), (7, int64 l.length), (8, int64 (i : Nat))], mayMemT sA t k⟩) _ ?_ l.length _ ⟨0, by simp, by simp, rfl⟩
  rintro n _ ⟨i, hi, hall, rfl⟩
  by_cases hlt : i < l.length
  ·obtain ⟨row, off, cap, rfl, hc, hcut, hget⟩ := zlv hl (List.getElem?_eq_getElem hlt)
   have e1 : IntKind.wrap .i64 ((i : Int) + 1) = (i : Int) + 1 := wrapI64 (by omega) (by omega)
   have htk : l.take (i + 1) = l.take i ++ [l[i]] := by rw [List.take_add_one, List.getElem?_eq_getElem hlt]; rfl
   have hmem := List.getElem_mem hlt
   have hw := (hl.1 _ hmem).2
   generalize l[i] = v at hget htk hmem hw
   simp only [tVal] at hget
   have hs := za0 (ext := ext) hT h' h2 hb k o ho v hw
   simp only [mayMemT, TP.at] at hs
   cases hbv : badOf T o v with
   | true =>
    rw [hbv] at hs
    refine ⟨.ret, ⟨2, [(4, int64 (i : Nat))], mayMemT sA t k⟩, ?_, .inr ⟨by simp, .inr ⟨rfl, List.any_eq_true.2 ⟨v, hmem, hbv⟩, i, rfl⟩⟩⟩
    simp -implicitDefEqProofs [x759L1, mayMemT, hT.refs, hT.ren, TP.at,  hlt, hget, hs]
   | false =>
    rw [hbv] at hs
    refine ⟨.normal, ⟨2, [(0, .imm (.slice row off l.length cap)), (1, .clo 653 [.optr 0 0, .optr 1 0]), (7, int64 l.length), (8, int64 ((i : Int) + 1))], mayMemT sA t k⟩, ?_, .inl ⟨rfl, n - 1, by omega, i + 1, by omega, by rw [htk, List.any_append, hall]; simp [hbv], rfl⟩⟩
    simp -implicitDefEqProofs [x759L1, mayMemT, hT.refs, hT.ren, TP.at,  hlt, hget, hs, e1]
  ·have : i = l.length := by omega
   subst this
   rw [List.take_length] at hall
   refine ⟨.exit 0, _, ?_, .inr ⟨by simp, .inl ⟨rfl, hall, rfl⟩⟩⟩
   simp -implicitDefEqProofs [x759L1, mayMemT, hT.refs, hT.ren, TP.at]
 have hidx : ∃ r : Int, callW code ext 759 [.imm lv, .clo 653 [.optr 0 0, .optr 1 0]] (mayMemT sA t k) = some (int64 r, mayMemT sA t k) ∧ ((0 ≤ r) ↔ l.any (badOf T o) = true) := by
  obtain ⟨e, s', g1, _, ⟨rfl, ha, rfl⟩ | ⟨rfl, ha, i, rfl⟩⟩ := loop
  ·refine ⟨-1, ?_, by rw [ha]; simp⟩
   rw [zbe code ext h3]
   simp only [mayMemT, TP.at] at g1 ⊢
   simp -implicitDefEqProofs [x759, hT.refs, hT.ren, TP.at, hlen, g1]
  ·refine ⟨i, ?_, by rw [ha]; simp⟩
   rw [zbe code ext h3]
   simp only [mayMemT, TP.at] at g1 ⊢
   simp -implicitDefEqProofs [x759, hT.refs, hT.ren, TP.at, hlen, g1]
 obtain ⟨r, hr, hri⟩ := hidx
 rw [zbe code ext h4]
 have hdec : decide (0 ≤ r) = l.any (badOf T o) := by
  cases ha : l.any (badOf T o) with
  | true => simpa using hri.2 ha
  | false => simp only [decide_eq_false_iff_not]; intro hc; rw [hri.1 hc] at ha; cases ha
 simp only [mayMemT, TP.at] at hr ⊢
 simp -implicitDefEqProofs [x749, hT.refs, hT.ren, TP.at, hr, hdec]
end
end Go.EX


set_option linter.unusedVariables false
set_option linter.unusedSimpArgs false
namespace Go.EX
section
variable {code : Nat → Option XFun} {ext : Calls'}
def keysMemT (acc : List (Int × Int × ByteArray)) : Mem := [.map (normMap acc)]
theorem zgt {sA : AV} {t : TP} {T : List Obj} (hT : StoreT code ext sA t T) (hb : T.length ≤ 1048576) {row : List IV} {off : Nat} {cap : Option Nat} {l : List Val} (hl : Reads tVal (.slice row off l.length cap) l) (i : Nat) (v : Val) (hv : l[i]? = some v) (acc : List (Int × Int × ByteArray)) :
  ∃ s', den code ext x650L1 ⟨0, [(0, sA), (1, .imm (.slice row off l.length cap)), (5, .omap 0), (6, int64 (i : Nat))], keysMemT acc⟩ = some (.normal, s') ∧
   s'.tidy [0, 1, 5, 6] = ⟨0, [(0, sA), (1, .imm (.slice row off l.length cap)), (5, .omap 0), (6, int64 ((i : Int) + 2))], keysMemT (addNorm acc (normOf T v))⟩ := by
 have hlt := (List.getElem?_eq_some_iff.1 hv).1
 obtain ⟨row', off', cap', he, hc, hcut, hget⟩ := zlv hl hv
 cases he
 simp only [tVal] at hget
 have g0 : row[off + i * 2]? = some (.val (.int .u8 v.k)) := zcc hget 0 (by omega)
 have hbl := hl.2.1
 have hw := (hl.1 v (List.mem_of_getElem? hv)).2
 have e1 : IntKind.wrap .i64 ((i : Int) + 2) = (i : Int) + 2 := wrapI64 (by omega) (by omega)
 have hld := hT.lead v hw
 have hkey : ∀ x : Int × Int × ByteArray, (sameCells (digits 64 53) [.imm (.val (.int .u8 x.1)), int64 x.2.1, .imm (.val (.string x.2.2))] [.imm (.val (.int .u8 x.1)), int64 x.2.1, .imm (.val (.string x.2.2))]).isSome = true := key57
 by_cases k3 : v.k = 3
 ·rw [k3] at hget g0 hld
  cases hq : leadsOf T v with
  | none =>
   have hn : normOf T v = (3, v.n, .empty) := by simp [normOf, k3, hq]
   rw [hq, leadT] at hld
   try simp only [TP.at] at hld
   rw [hn]
   have hk1 := hkey (3, v.n, .empty)
   rcases findK57 (3, v.n, .empty) acc 0 with ⟨hm, hf⟩ | ⟨hm, j, hf, hj⟩
   ·have ha : normMap (addNorm acc (3, v.n, .empty)) = normMap (acc ++ [(3, v.n, .empty)]) := by rw [addNorm, if_neg hm]
    have hsn := zi5 acc (3, v.n, .empty)
    simp only [keysMemT]
    rw [ha]
    clear ha hm
    simp only [keyAV, Nat.zero_add] at hf hk1 hsn ⊢
    simp -implicitDefEqProofs [x650L1, hT.refs, hT.ren, TP.at, hget, g0, hld, e1, hlt, hf, hk1, hsn]
   ·have ha : normMap (addNorm acc (3, v.n, .empty)) = normMap acc := by rw [addNorm, if_pos hm]
    have hset := zi4 _ _ _ hj
    simp only [keysMemT]
    rw [ha]
    clear ha hm
    simp only [keyAV, Nat.zero_add] at hf hk1 hset ⊢
    simp -implicitDefEqProofs [x650L1, hT.refs, hT.ren, TP.at, hget, g0, hld, e1, hlt, hf, hk1, hset]
  | some p =>
   have hn : normOf T v = (3, 0, sAt T p) := by simp [normOf, k3, hq]
   rw [hq, leadT] at hld
   try simp only [TP.at] at hld
   obtain ⟨hpl, _, _, _, o, ho, _⟩ := zg7 hq
   have hso : sAt T p = o.s := by rw [sAt, ho]
   have g1 : t.row[t.off + p * 5 + 1]? = some (.val (.string o.s)) := by
    have hcg := hT.obj p o ho
    exact zcc hcg 1 (by omega)
   rw [hso] at hn
   rw [hn]
   have hk1 := hkey (3, 0, o.s)
   rcases findK57 (3, 0, o.s) acc 0 with ⟨hm, hf⟩ | ⟨hm, j, hf, hj⟩
   ·have ha : normMap (addNorm acc (3, 0, o.s)) = normMap (acc ++ [(3, 0, o.s)]) := by rw [addNorm, if_neg hm]
    have hsn := zi5 acc (3, 0, o.s)
    simp only [keysMemT]
    rw [ha]
    clear ha hm
    simp only [keyAV, Nat.zero_add] at hf hk1 hsn ⊢
    simp -implicitDefEqProofs [x650L1, hT.refs, hT.ren, TP.at, hget, g0, g1, hld, e1, hlt, hf, hk1, hsn]
   ·have ha : normMap (addNorm acc (3, 0, o.s)) = normMap acc := by rw [addNorm, if_pos hm]
    have hset := zi4 _ _ _ hj
    simp only [keysMemT]
    rw [ha]
    clear ha hm
    simp only [keyAV, Nat.zero_add] at hf hk1 hset ⊢
    simp -implicitDefEqProofs [x650L1, hT.refs, hT.ren, TP.at, hget, g0, g1, hld, e1, hlt, hf, hk1, hset]
 ·have hn : normOf T v = (v.k, v.n, .empty) := by simp [normOf, k3]
  rw [hn]
  have hk1 := hkey (v.k, v.n, .empty)
  rcases findK57 (v.k, v.n, .empty) acc 0 with ⟨hm, hf⟩ | ⟨hm, j, hf, hj⟩
  ·have ha : normMap (addNorm acc (v.k, v.n, .empty)) = normMap (acc ++ [(v.k, v.n, .empty)]) := by rw [addNorm, if_neg hm]
   have hsn := zi5 acc (v.k, v.n, .empty)
   simp only [keysMemT]
   rw [ha]
   clear ha hm
   simp only [keyAV, Nat.zero_add] at hf hk1 hsn ⊢
   simp -implicitDefEqProofs [x650L1, hT.refs, hT.ren, TP.at, hget, g0, k3, hld, e1, hlt, hf, hk1, hsn]
  ·have ha : normMap (addNorm acc (v.k, v.n, .empty)) = normMap acc := by rw [addNorm, if_pos hm]
   have hset := zi4 _ _ _ hj
   simp only [keysMemT]
   rw [ha]
   clear ha hm
   simp only [keyAV, Nat.zero_add] at hf hk1 hset ⊢
   simp -implicitDefEqProofs [x650L1, hT.refs, hT.ren, TP.at, hget, g0, k3, hld, e1, hlt, hf, hk1, hset]
theorem zgs {sA : AV} {t : TP} {T : List Obj} (hT : StoreT code ext sA t T) (h' : code 650 = some x650) (hb : T.length ≤ 1048576) {lv : IV} {l : List Val} (hl : Reads tVal lv l) (hev : l.length % 2 = 0) :
  callW code ext 650 [sA, .imm lv] [] = some (avb (decide ((normsTo T l l.length).length = l.length / 2)), []) := by
 have hlen := zlu hl
 have hbl := hl.2.1
 have loop : ∃ e s', den code ext (.loop [0, 1, 5, 6] x650L1) ⟨0, [(0, sA), (1, .imm lv), (5, .omap 0), (6, int64 0)], keysMemT []⟩ = some (e, s') ∧ e ≠ .normal ∧
   (e = .exit 0 ∧ s' = ⟨0, [(0, sA), (1, .imm lv), (5, .omap 0), (6, int64 l.length), (13, avb false)], keysMemT (normsTo T l l.length)⟩) := by
  refine zho (fun n s => ∃ (i : Nat), i + n = l.length ∧ i % 2 = 0 ∧ s.tidy [0, 1, 5, 6] = ⟨0, [(0, sA), (1, .imm lv), (5, .omap 0), (6, int64 (i : Nat))], keysMemT (normsTo T l i)⟩) _ ?_ l.length _ ⟨0, by simp, rfl, by simp -implicitDefEqProofs [keysMemT, hT.refs, hT.ren, TP.at, normsTo, normMap]⟩
  rintro n s ⟨i, hi, hi2, hs⟩
  rw [hs]
  by_cases hlt : i < l.length
  ·obtain ⟨row, off, cap, rfl, hc, hcut, hget⟩ := zlv hl (List.getElem?_eq_getElem hlt)
   obtain ⟨s', g1, g2⟩ := zgt (ext := ext) hT hb hl i l[i] (List.getElem?_eq_getElem hlt) (normsTo T l i)
   refine ⟨.normal, s', g1, .inl ⟨rfl, n - 2, by omega, i + 2, by omega, by omega, ?_⟩⟩
   rw [g2, zi6 T l i l[i] hi2 (List.getElem?_eq_getElem hlt)]
   rfl
  ·have : i = l.length := by omega
   subst this
   refine ⟨.exit 0, ⟨0, [(0, sA), (1, .imm lv), (5, .omap 0), (6, int64 l.length), (13, avb false)], keysMemT (normsTo T l l.length)⟩, ?_, .inr ⟨by simp, rfl, rfl⟩⟩
   simp -implicitDefEqProofs [x650L1, hT.refs, hT.ren, TP.at, keysMemT, hlen]
 obtain ⟨e, s', g1, _, rfl, rfl⟩ := loop
 rw [zbe code ext h']
 have hnl := zi1 (normsTo T l l.length)
 have e2 : IntKind.wrap .i64 ((l.length : Int) / 2) = (l.length : Int) / 2 := wrapI64 (by omega) (by omega)
 have hn0 : normMap [] = [] := rfl
 simp only [keysMemT, hn0] at g1
 simp -implicitDefEqProofs [x650, hT.refs, hT.ren, TP.at, hlen, g1, hnl, e2]
 omega
end
end Go.EX

