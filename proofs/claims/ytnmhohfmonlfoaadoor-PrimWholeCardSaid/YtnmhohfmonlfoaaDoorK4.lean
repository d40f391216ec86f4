import Derived.Test.YtnmhohfmonlfoaaDoorK3
import Derived.Below
import Derived.ChangeOld
import Derived.WideShapes
import Derived.OpenShut
import Derived.Laws.Strings
import Derived.WalkKit
import Derived.ProofKit
import Derived.ShutString
import Derived.Carry
set_option linter.unusedVariables false
set_option linter.unusedSimpArgs false
namespace Go.EX
open Go.RowKit
section
variable {num : Names} {P : Program} {code : Nat → Option XFun} {ext : Calls'}
def Cx.whole (w : World) : Cx := { σ := fun _ => 0, I := fun b => b < w.heap.size, n := 0, w := w }
theorem whole_rep (w : World) (hG : num.G (fun b => b < w.heap.size) w) : MRep num (Cx.whole w) [] :=
  ⟨rfl, fun id o h => by simp at h, fun i j o p h => by simp at h, fun b ⟨id, o, h, _⟩ => by simp at h, fun b h => h, hG⟩
end
end Go.EX


set_option linter.unusedVariables false
set_option linter.unusedSimpArgs false
namespace Go.EX
open Go.RowKit
structure Ty (α : Type) where
  sz : Nat
  agg : Bool
  enc : α → List IV
  wf : α → Prop
  len : ∀ x, (enc x).length = sz
def tInt (k : IntKind) : Ty Int := ⟨1, false, fun n => [.val (.int k n)], fun n => (Lit.int k n).wf = true, fun _ => rfl⟩
def Reads {α : Type} (t : Ty α) (iv : IV) (xs : List α) : Prop :=
  (∀ x ∈ xs, t.wf x) ∧ xs.length ≤ 140737488355328 ∧ ((iv = .val (.slice none 0 0) ∧ xs = []) ∨
    ∃ row off cap, iv = .slice row off xs.length cap ∧ (∀ c, cap = some c → xs.length ≤ c) ∧ cut row off (xs.length * t.sz) = some (xs.flatMap t.enc))
structure Sl {α : Type} (t : Ty α) where
  iv : IV
  xs : List α
  ok : Reads t iv xs
def Ty.av {α : Type} (t : Ty α) (x : α) : AV := if t.agg then .agg ((t.enc x).map .imm) else match t.enc x with
  | [y] => .imm y
  | _ => .junk
def ReadsAs {α : Type} (P : Program) (t : TypeId) (τ : Ty α) : Prop :=
  ∀ {H : Type} (enc : TypeId × Value → H) (w : World) (spare : Nat → Bool) (_ : ∀ b, spare b = true) (fuel : Nat) (cs : List Value) (x : DataW H × List MemPlace), DataW.trod enc P w 0 spare true fuel t cs = some x → (DataW.weights P t x.1).all (· ≤ reachBytes) = true →
    ∃ d : α, τ.wf d ∧ cs.length = τ.sz ∧ ∀ (j : Nat) (y : IV) (u : Value), (τ.enc d)[j]? = some y → cs[j]? = some u → IRep (fun b => b < w.heap.size) w y u
section
variable {P : Program} {t : TypeId}
theorem readsInt {k : IntKind} (ht : P.underlying t = some (.int k)) : ReadsAs P t (tInt k) := by
  intro H enc w spare hsp fuel cs x h hwt
  obtain ⟨n, rfl, _, hw⟩ := DataW.trod_int ht h
  refine ⟨n, hw, rfl, fun j y u hy hu => ?_⟩
  cases j with
  | zero => simp [tInt] at hy hu; subst hy; subst hu; exact .val _ rfl
  | succ j => simp [tInt] at hy
end
end Go.EX


set_option linter.unusedVariables false
set_option linter.unusedSimpArgs false
namespace Go.EX
attribute [simp] List.range_succ funOut den_seq den_region den_ret den_cond den_exit den_skip den_block blockOut andThen exOps exOne exOp Env.ev Env.get Env.keep enter AV.cells fresh loadAt getCells getCellsI valBin boolBin intBin shiftBin strBin valUn intOf bndOf bounds
  storeAt imms leave resOf wrapRes order reach Mem.refs AObj.refs AV.refs AV.refs.refsL Mem.pickAll AObj.ren AV.ren AV.ren.renL place fillAll mkObj imZ sameCells St.tidy Env.roots Env.ren AV.plain1 AV.plain2 AV.plain AV.own1 AV.own2 AV.own IV.plain AObj.own AObj.live AV.isImm exView exOwn exShare shareOk AObj.isFix exPeek exLook frz frz.frz1 frzV AObj.moved AObj.orMoved shareAt St.scrub isKeyAV zeroAV
@[simp] theorem lenOf_nil : lenOf (.imm (.val (.slice none 0 0))) = some 0 := rfl
@[simp] theorem lenOf_slice (row : List IV) (off len : Nat) (cap : Option Nat) : lenOf (.imm (.slice row off len cap)) = some len := rfl
@[simp] theorem lenOf_osl (id off sz len : Nat) (cap : Option Nat) : lenOf (.osl id off sz len cap) = some len := rfl
@[simp] theorem capOf_slice (row : List IV) (off len : Nat) (cap : Option Nat) : capOf (.imm (.slice row off len cap)) = cap := rfl
@[simp] theorem capOf_osl (id off sz len : Nat) (cap : Option Nat) : capOf (.osl id off sz len cap) = cap := rfl
@[simp] theorem isNil_slice (row : List IV) (off len : Nat) (cap : Option Nat) : isNil (.imm (.slice row off len cap)) = some false := rfl
@[simp] theorem isNil_ptr (row : List IV) (off : Nat) : isNil (.imm (.ptr row off)) = some false := rfl
@[simp] theorem isNil_osl (id off sz len : Nat) (cap : Option Nat) : isNil (.osl id off sz len cap) = some false := rfl
@[simp] theorem isNil_optr (id off : Nat) : isNil (.optr id off) = some false := rfl
@[simp] theorem isNil_omap (id : Nat) : isNil (.omap id) = some false := rfl
@[simp] theorem isNil_pnone : isNil (.imm (.val (.pointer none))) = some true := rfl
@[simp] theorem isNilK_snone : isNilK 0 (.imm (.val (.slice none 0 0))) = some true := rfl
@[simp] theorem isNilK_slice (row : List IV) (off len : Nat) (cap : Option Nat) : isNilK 0 (.imm (.slice row off len cap)) = some false := rfl
@[simp] theorem isNilK_osl (id off sz len : Nat) (cap : Option Nat) : isNilK 0 (.osl id off sz len cap) = some false := rfl
@[simp] theorem isNilK_pnone : isNilK 1 (.imm (.val (.pointer none))) = some true := rfl
@[simp] theorem isNilK_ptr (row : List IV) (off : Nat) : isNilK 1 (.imm (.ptr row off)) = some false := rfl
@[simp] theorem isNilK_optr (id off : Nat) : isNilK 1 (.optr id off) = some false := rfl
@[simp] theorem int_beq (a b : Int) : (a == b) = decide (a = b) := by by_cases h : a = b <;> simp [h]
theorem bytes_toList {a b : ByteArray} (h : a.toList = b.toList) : a = b := by
  have e : ∀ c : ByteArray, c.toList = c.data.toList := ByteArray.toList_eq
  rw [e, e] at h
  cases a; cases b
  simp at h
  exact congrArg ByteArray.mk h
@[simp] theorem bytes_beq (a b : ByteArray) : (a.toList == b.toList) = decide (a = b) := by
  by_cases h : a = b
  · subst h; simp
  · have : a.toList ≠ b.toList := fun e => h (bytes_toList e)
    simp [h, this]
@[simp] theorem cut_zero {β : Type} (l : List β) : cut l 0 0 = some [] := by simp [cut]
@[simp] theorem cut_cons_zero {β : Type} (x : β) (l : List β) (n : Nat) : cut (x :: l) 0 (n + 1) = (cut l 0 n).map (x :: ·) := by
  simp only [cut, List.drop_zero, List.take_succ_cons, List.length_cons]
  by_cases h : (l.take n).length = n
  · rw [if_pos h, if_pos (by omega)]; rfl
  · rw [if_neg h, if_neg (by omega)]; rfl
@[simp] theorem cut_cons_succ {β : Type} (x : β) (l : List β) (o n : Nat) : cut (x :: l) (o + 1) n = cut l o n := by simp [cut]
@[simp] theorem setAll_nil {β : Type} (l : List β) (o : Nat) : setAll l o [] = l := rfl
@[simp] theorem setAll_cons_succ {β : Type} (x : β) : ∀ (ys l : List β) (o : Nat), setAll (x :: l) (o + 1) ys = x :: setAll l o ys
  | [], l, o => rfl
  | y :: ys, l, o => by rw [setAll, List.set_cons_succ, setAll_cons_succ x ys]; rfl
@[simp] theorem setAll_cons_zero {β : Type} (x y : β) (l ys : List β) : setAll (x :: l) 0 (y :: ys) = y :: setAll l 0 ys := by
  rw [setAll, List.set_cons_zero, setAll_cons_succ]
@[simp] theorem imms_imm : ∀ (l : List IV), imms (l.map .imm) = some l
  | [] => rfl
  | x :: l => by simp [imms, imms_imm l]
@[simp] theorem copies_0 {β : Type} (l : List β) : copies 0 l = [] := rfl
@[simp] theorem copies_1 {β : Type} (l : List β) : copies 1 l = l := by simp [copies]
@[simp] theorem copies_2 {β : Type} (l : List β) : copies 2 l = l ++ l := by simp [copies]
@[simp] theorem copies_3 {β : Type} (l : List β) : copies 3 l = l ++ (l ++ l) := by simp [copies]
@[simp] theorem copies_4 {β : Type} (l : List β) : copies 4 l = l ++ (l ++ (l ++ l)) := by simp [copies]
def Ty.row {α : Type} (t : Ty α) (xs : List α) : List IV := xs.flatMap t.enc
abbrev nilS : AV := .imm (.val (.slice none 0 0))
abbrev int64 (n : Int) : AV := .imm (.val (.int .i64 n))
abbrev avb (b : Bool) : AV := .imm (.val (.bool b))
theorem wrapI64 {x : Int} (h1 : -9223372036854775808 ≤ x) (h2 : x ≤ 9223372036854775807) : IntKind.wrap .i64 x = x := by
  simp only [IntKind.wrap, IntKind.signed, IntKind.bits]
  simp
  omega
theorem wrapU8 {x : Int} (h1 : 0 ≤ x) (h2 : x ≤ 255) : IntKind.wrap .u8 x = x := by
  simp only [IntKind.wrap, IntKind.signed, IntKind.bits]
  simp
  omega
theorem wfI64 {n : Int} : (tInt .i64).wf n ↔ -9223372036854775808 ≤ n ∧ n ≤ 9223372036854775807 := by
  simp [tInt, Lit.wf, IntKind.min, IntKind.max, IntKind.signed, IntKind.bits]
section
variable {α : Type} {t : Ty α} {iv : IV} {xs : List α}
end
end Go.EX


set_option linter.unusedVariables false
set_option linter.unusedSimpArgs false
namespace Go.EX
structure Val where
  k : Int
  n : Int
  deriving DecidableEq
def tVal : Ty Val := ⟨2, true, fun v => [.val (.int .u8 v.k), .val (.int .i64 v.n)], fun v => (tInt .u8).wf v.k ∧ (tInt .i64).wf v.n, fun _ => rfl⟩
structure Obj where
  k : Int
  s : ByteArray
  l : Sl tVal
  room : Int
  fn : Int
end Go.EX


set_option linter.unusedVariables false
set_option linter.unusedSimpArgs false
namespace Go.EX
open Go.RowKit Go.ChangeShapes Go.WideShapes Go.ChangeAt
def isAggT (P : Program) (t : TypeId) : Bool :=
  match P.underlying t with
  | some (.struct _) | some (.array ..) => true
  | _ => false
inductive ArgsOf (P : Program) : List TypeId → (List AV → Prop) → Prop
  | nil : ArgsOf P [] (fun as => as = [])
  | cons {α : Type} {t : TypeId} {τ : Ty α} {ts : List TypeId} {Q : List AV → Prop} (h : ReadsAs P t τ) (ha : isAggT P t = τ.agg) (r : ArgsOf P ts Q) : ArgsOf P (t :: ts) (fun as => ∃ x r, τ.wf x ∧ as = τ.av x :: r ∧ Q r)
section
variable {P : Program} {num : Names}
theorem arg_rep {α : Type} {t : TypeId} {τ : Ty α} (h : ReadsAs P t τ) (ha : isAggT P t = τ.agg) {H : Type} {enc : TypeId × Value → H} {W : World} {b : Nat} {v : Value} {d : DataW H} {ps : List MemPlace}
    (hok : Value.okWide P W .any b t v) (ht : DataW.Trod enc P W 0 (fun _ => true) true t v d ps) (hwt : (DataW.weights P t d).all (· ≤ reachBytes) = true) : ∃ x : α, τ.wf x ∧ ARep num (Cx.whole W) (τ.av x) v := by
  obtain ⟨fuel, ht⟩ := ht
  obtain ⟨x, hx, hl, hr⟩ := h enc W _ (fun _ => rfl) fuel _ _ ht hwt
  refine ⟨x, hx, ?_⟩
  unfold Ty.av
  have hlen := τ.len x
  cases hag : τ.agg with
  | true =>
    rw [hag] at ha
    have : ∃ cs, v = .agg cs := by
      unfold isAggT at ha
      unfold Value.okWide at hok
      split at ha
      · rename_i fs hu; rw [hu] at hok; obtain ⟨cs, h1, _⟩ := hok; exact ⟨cs, h1⟩
      · rename_i n e hu; rw [hu] at hok; obtain ⟨cs, h1, _⟩ := hok; exact ⟨cs, h1⟩
      · cases ha
    obtain ⟨cs, rfl⟩ := this
    have hcs : (Value.agg cs).cells = cs := rfl
    rw [hcs] at hl hr
    rw [if_pos rfl]
    have hget : ∀ (j : Nat) (u : Value), cs[j]? = some u → ∃ y, (τ.enc x)[j]? = some y ∧ IRep (fun b => b < W.heap.size) W y u := by
      intro j u hu
      have hj : j < (τ.enc x).length := by
        rw [hlen, ← hl]
        have := (Array.getElem?_eq_some_iff.1 hu).1
        simpa using this
      exact ⟨_, List.getElem?_eq_getElem hj, hr j _ u (List.getElem?_eq_getElem hj) (by simpa using hu)⟩
    refine .agg _ cs (by rw [List.length_map, hlen, ← hl]; simp) (fun j u hu => ?_) fun j y u hy hu => ?_
    · obtain ⟨y, _, h2⟩ := hget j u hu
      exact h2.one
    · rw [List.getElem?_map] at hy
      obtain ⟨z, h1, h2⟩ := hget j u hu
      rw [h1] at hy
      simp at hy; subst hy
      exact .imm _ _ h2
  | false =>
    rw [hag] at ha
    have hcell : Cell.okWide P W .any b t v := by
      unfold isAggT at ha
      unfold Value.okWide at hok
      split at hok
      · rename_i fs hu; rw [hu] at ha; cases ha
      · rename_i n e hu; rw [hu] at ha; cases ha
      · exact hok
    have hone : v.cells.toList = [v] := by
      cases v <;> first | rfl | (exfalso; unfold Cell.okWide at hcell; split at hcell <;> first | cases ‹Value.agg _ = _› | cases ‹Value.tuple _ = _› | (unfold Cell.ok at hcell; split at hcell <;> first | exact hcell | cases ‹Value.agg _ = _› | cases ‹Value.tuple _ = _›))
    rw [hone] at hl hr
    simp only [Bool.false_eq_true, if_false]
    split
    · rename_i y hy
      exact .imm _ _ (hr 0 y v (by rw [hy]; rfl) rfl)
    · exact .junk _
theorem lawArgs_rep {H : Type} {enc : TypeId × Value → H} {W : World} {b : Nat} : ∀ {ts : List TypeId} {Q : List AV → Prop} (_ : ArgsOf P ts Q) (vs : List Value) (ds : List (DataW H)) (ps : List MemPlace),
    (∀ (j : Nat) t v, ts[j]? = some t → vs[j]? = some v → Value.okWide P W .any b t v) → DataW.TrodAll enc P W 0 (fun _ => true) true ts vs ds ps → (DataW.weightsEach P ts ds).all (· ≤ reachBytes) = true →
    ∃ as, Q as ∧ as.length = vs.length ∧ ds.length = ts.length ∧ ∀ (j : Nat) (x : AV) (u : Value), as[j]? = some x → vs[j]? = some u → ARep num (Cx.whole W) x u := by
  intro ts Q h
  induction h with
  | nil =>
    intro vs ds ps _ ht _
    obtain ⟨rfl, rfl, _⟩ := trodAll_nil ht
    exact ⟨[], rfl, rfl, rfl, fun j x u hx => by simp at hx⟩
  | cons h ha r ih =>
    intro vs ds ps hok ht hwt
    obtain ⟨v0, vs0, d0, ds0, p0, q0, rfl, rfl, rfl, h0, r0⟩ := trodAll_cons ht
    obtain ⟨as, h1, h2, h3, h4⟩ := ih vs0 ds0 q0 (fun j t v hj hv => hok (j + 1) t v (by simpa using hj) (by simpa using hv)) r0 (by simp only [DataW.weightsEach, List.all_append, Bool.and_eq_true] at hwt; exact hwt.2)
    obtain ⟨x, hx, hr⟩ := arg_rep (num := num) h ha (hok 0 _ v0 rfl rfl) h0 (by simp only [DataW.weightsEach, List.all_append, Bool.and_eq_true] at hwt; exact hwt.1)
    refine ⟨_ :: as, ⟨x, as, hx, rfl, h1⟩, by simp [h2], by simp [h3], fun j y u hy hu => ?_⟩
    cases j with
    | zero => simp at hy hu; subst hy; subst hu; exact hr
    | succ j => exact h4 j y u (by simpa using hy) (by simpa using hu)
theorem trodAll_stays {H : Type} {enc : TypeId × Value → H} (hl : laidOutB P = true) {W W' : World} (hb : Below W.heap.size W W') : ∀ {ts : List TypeId} {vs : List Value} {ds : List (DataW H)} {ps : List MemPlace},
    (ts.all fun t => P.readableRec t && decide (t < P.types.size)) = true → DataW.TrodAll enc P W 0 (fun _ => true) true ts vs ds ps → DataW.TrodAll enc P W' 0 (fun b => decide (b < W.heap.size)) true ts vs ds ps
  | [], vs, ds, ps, _, h => by
    obtain ⟨rfl, rfl, rfl⟩ := trodAll_nil h
    exact trodAll_mk0
  | t :: ts, vs, ds, ps, hts, h => by
    obtain ⟨v0, vs0, d0, ds0, p0, q0, rfl, rfl, rfl, h0, r0⟩ := trodAll_cons h
    simp only [List.all_cons, Bool.and_eq_true, decide_eq_true_eq] at hts
    have lt0 : ∀ x ∈ p0, x.block < W.heap.size := by obtain ⟨m, hm⟩ := h0; exact DataW.trod_lt m _ _ _ hm
    exact trodAll_cons_mk (Below.trod hl hts.1.1 hts.1.2 h0 hb lt0) (trodAll_stays hl hb hts.2 r0)
theorem law_calls {code : Nat → Option XFun} {ext : Calls'} (h : Runs P num code ext) {f : FuncId} {as : List AV} {vals : Array Value} {w : World} (hG : num.G (fun b => b < w.heap.size) w) {m : Mem} (hr : callW code ext (num f) as [] = some (.imm (.val (.bool true)), m)) (hl : as.length = vals.size)
    (ha : ∀ (j : Nat) (x : AV) (u : Value), as[j]? = some x → vals[j]? = some u → ARep num (Cx.whole w) x u) :
    Calls P f vals w fun e w' => e = .returned (.bool true) ∧ Below w.heap.size w w' := by
  obtain ⟨_, hc⟩ := (runs_callW h).fn f _ _ _ _ (Cx.whole w) vals hr (whole_rep w hG) hl ha
  refine hc.mono fun e w' ⟨v, D, he, hw, hst, hv⟩ => ?_
  have := rep_val hv
  subst this
  subst hw
  exact ⟨he, hst.os, hst.tape, hst.out, hst.size, fun k hk => hst.keep k hk fun ⟨i, o, h, _⟩ => by simp at h⟩
def LawSpec (s : ChangeSpec) (n : Nat) : Prop := s.vars = [] ∧ ∀ (H : Type) (ds : List (DataW H)), ds.length = n → s.fn H ds = { results := [.lit (.bool true)], args := ds }
theorem law_contractG {code : Nat → Option XFun} {ext : Calls'} (hrun : Runs P num code ext) {f : FuncId} {fn : Func} {s : ChangeSpec} (hs : LawSpec s fn.params.toList.length) (hl : laidOutB P = true)
    (hts : (fn.params.toList.all fun t => P.readableRec t && decide (t < P.types.size)) = true) {tb : TypeId} (hres : fn.resultTypes = #[tb]) (htb : P.underlying tb = some .bool)
    {Q : List AV → Prop} (hQ : ArgsOf P fn.params.toList Q) (hcall : ∀ as, Q as → ∃ m, callW code ext (num f) as [] = some (.imm (.val (.bool true)), m)) {H : Type} {enc : TypeId × Value → H}
    (W : World) (base : Nat) (args : Array Value) (ds gs : List (DataW H)) (before : List MemPlace)
    (hval : ∀ (j : Nat) t v, fn.params[j]? = some t → args[j]? = some v → Value.okWide P W .any base t v)
    (hW : DataW.Whole enc P fn.params.toList s.vars false W args.toList ds gs before)
    (hwt : (DataW.weightsEach P (fn.params.toList ++ s.plain.varTypes P) (ds ++ gs)).all (· ≤ reachBytes) = true) (hG : num.G (fun b => b < W.heap.size) W) :
    Calls P f args W fun e W' => ∃ v, e = .returned v ∧ s.post enc P fn false true false false W args v W' := by
  have hW' := hW
  obtain ⟨p, q, hA, hV, rfl, hfz, hnd⟩ := hW
  rw [hs.1] at hV
  obtain ⟨rfl, rfl⟩ := trodVars_none hV
  obtain ⟨as, h1, h2, h3, h4⟩ := lawArgs_rep (num := num) hQ args.toList ds p (fun j t v ht hv => hval j t v (by simpa using ht) (by simpa using hv)) hA (by
    have e : s.plain.varTypes P = [] := by simp [ChangeSpec.plain, DataSpec.varTypes, hs.1]
    rw [e, List.append_nil, List.append_nil] at hwt
    exact hwt)
  obtain ⟨m, hm⟩ := hcall as h1
  refine (law_calls hrun hG hm (by simpa using h2) fun j x u hx hu => h4 j x u hx (by simpa using hu)).mono fun e W' ⟨he, bel⟩ => ?_
  subst he
  have hfn : s.fn H (ds ++ []) = { results := [.lit (.bool true)], args := ds } := by rw [List.append_nil]; exact hs.2 H ds h3
  refine ⟨_, rfl, ds, [], p ++ [], [], p, [], hW', ?_, ?_, ?_, bel.frame _, fun h => by cases h⟩
  · rw [hfn, hres]; exact trodAll_mk1 (shut_bool htb _)
  · rw [hfn]; exact trodAll_stays hl bel hts hA
  · rw [hfn, hs.1]; rfl
theorem law_contract {num : FuncId → Nat} {code : Nat → Option XFun} {ext : Calls'} (hrun : Runs P (Names.of P num) code ext) {f : FuncId} {fn : Func} {s : ChangeSpec} (hs : LawSpec s fn.params.toList.length) (hl : laidOutB P = true)
    (hts : (fn.params.toList.all fun t => P.readableRec t && decide (t < P.types.size)) = true) {tb : TypeId} (hres : fn.resultTypes = #[tb]) (htb : P.underlying tb = some .bool)
    {Q : List AV → Prop} (hQ : ArgsOf P fn.params.toList Q) (hcall : ∀ as, Q as → ∃ m, callW code ext (num f) as [] = some (.imm (.val (.bool true)), m)) {H : Type} {enc : TypeId × Value → H}
    (W : World) (base : Nat) (args : Array Value) (ds gs : List (DataW H)) (before : List MemPlace)
    (hval : ∀ (j : Nat) t v, fn.params[j]? = some t → args[j]? = some v → Value.okWide P W .any base t v)
    (hW : DataW.Whole enc P fn.params.toList s.vars false W args.toList ds gs before)
    (hwt : (DataW.weightsEach P (fn.params.toList ++ s.plain.varTypes P) (ds ++ gs)).all (· ≤ reachBytes) = true) :
    Calls P f args W fun e W' => ∃ v, e = .returned v ∧ s.post enc P fn false true false false W args v W' :=
  law_contractG (num := Names.of P num) hrun hs hl hts hres htb hQ hcall W base args ds gs before hval hW hwt trivial
end
end Go.EX

