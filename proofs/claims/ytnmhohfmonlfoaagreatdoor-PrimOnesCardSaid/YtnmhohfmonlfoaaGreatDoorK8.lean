import Derived.Test.YtnmhohfmonlfoaaGreatDoorK7
import Derived.WalkKit
import Derived.ProofKit
import Derived.OpenShut
import Derived.ShutString
import Derived.ChangeOld
import Derived.Below
import Derived.Carry
set_option linter.unusedVariables false
set_option linter.unusedSimpArgs false
namespace Go.EX
open Go.RowKit Go.ChangeShapes Go.WideShapes Go.ChangeAt
def isAggT (P : Program) (t : TypeId) : Bool :=
 match P.underlying t with
 | some (.struct _) | some (.array ..) => true
 | _ => false
inductive ArgsOf (P : Program) : List TypeId → (List AV → Prop) → Prop
 | nil : ArgsOf P [] (fun as => as = [])
 | cons {α : Type} {t : TypeId} {τ : Ty α} {ts : List TypeId} {Q : List AV → Prop} (h : ReadsAs P t τ) (ha : isAggT P t = τ.agg) (r : ArgsOf P ts Q) : ArgsOf P (t :: ts) (fun as => ∃ x r, τ.wf x ∧ as = τ.av x :: r ∧ Q r)
section
variable {P : Program} {num : Names}
theorem za4 {α : Type} {t : TypeId} {τ : Ty α} (h : ReadsAs P t τ) (ha : isAggT P t = τ.agg) {H : Type} {enc : TypeId × Value → H} {W : World} {b : Nat} {v : Value} {d : DataW H} {ps : List MemPlace}
  (hok : Value.okWide P W .any b t v) (ht : DataW.Trod enc P W 0 (fun _ => true) true t v d ps) (hwt : (DataW.weights P t d).all (· ≤ reachBytes) = true) : ∃ x : α, τ.wf x ∧ ARep num (Cx.whole W) (τ.av x) v := by
 obtain ⟨fuel, ht⟩ := ht
 obtain ⟨x, hx, hl, hr⟩ := h enc W _ (fun _ => rfl) fuel _ _ ht hwt
 refine ⟨x, hx, ?_⟩
 unfold Ty.av
 have hlen := τ.len x
 cases hag : τ.agg with
 | true =>
  rw [hag] at ha
  have : ∃ cs, v = .agg cs := by
   unfold isAggT at ha
   unfold Value.okWide at hok
   split at ha
   ·rename_i fs hu; rw [hu] at hok; obtain ⟨cs, h1, _⟩ := hok; exact ⟨cs, h1⟩
   ·rename_i n e hu; rw [hu] at hok; obtain ⟨cs, h1, _⟩ := hok; exact ⟨cs, h1⟩
   ·cases ha
  obtain ⟨cs, rfl⟩ := this
  have hcs : (Value.agg cs).cells = cs := rfl
  rw [hcs] at hl hr
  rw [if_pos rfl]
  have hget : ∀ (j : Nat) (u : Value), cs[j]? = some u → ∃ y, (τ.enc x)[j]? = some y ∧ IRep (fun b => b < W.heap.size) W y u := by
   intro j u hu
   have hj : j < (τ.enc x).length := by
    rw [hlen, ← hl]
    have := (Array.getElem?_eq_some_iff.1 hu).1
    simpa using this
   exact ⟨_, List.getElem?_eq_getElem hj, hr j _ u (List.getElem?_eq_getElem hj) (by simpa using hu)⟩
  refine .agg _ cs (by rw [List.length_map, hlen, ← hl]; simp) (fun j u hu => ?_) fun j y u hy hu => ?_
  ·obtain ⟨y, _, h2⟩ := hget j u hu
   exact h2.one
  ·rw [List.getElem?_map] at hy
   obtain ⟨z, h1, h2⟩ := hget j u hu
   rw [h1] at hy
   simp at hy; subst hy
   exact .imm _ _ h2
 | false =>
  rw [hag] at ha
  have hcell : Cell.okWide P W .any b t v := by
   unfold isAggT at ha
   unfold Value.okWide at hok
   split at hok
   ·rename_i fs hu; rw [hu] at ha; cases ha
   ·rename_i n e hu; rw [hu] at ha; cases ha
   ·exact hok
  have hone : v.cells.toList = [v] := by
   cases v <;> first | rfl | (exfalso; unfold Cell.okWide at hcell; split at hcell <;> first | cases ‹Value.agg _ = _› | cases ‹Value.tuple _ = _› | (unfold Cell.ok at hcell; split at hcell <;> first | exact hcell | cases ‹Value.agg _ = _› | cases ‹Value.tuple _ = _›))
  rw [hone] at hl hr
  simp only [Bool.false_eq_true, if_false]
  split
  ·rename_i y hy
   exact .imm _ _ (hr 0 y v (by rw [hy]; rfl) rfl)
  ·exact .junk _
theorem zhx {H : Type} {enc : TypeId × Value → H} {W : World} {b : Nat} : ∀ {ts : List TypeId} {Q : List AV → Prop} (_ : ArgsOf P ts Q) (vs : List Value) (ds : List (DataW H)) (ps : List MemPlace),
  (∀ (j : Nat) t v, ts[j]? = some t → vs[j]? = some v → Value.okWide P W .any b t v) → DataW.TrodAll enc P W 0 (fun _ => true) true ts vs ds ps → (DataW.weightsEach P ts ds).all (· ≤ reachBytes) = true →
  ∃ as, Q as ∧ as.length = vs.length ∧ ds.length = ts.length ∧ ∀ (j : Nat) (x : AV) (u : Value), as[j]? = some x → vs[j]? = some u → ARep num (Cx.whole W) x u := by
 intro ts Q h
 induction h with
 | nil =>
  intro vs ds ps _ ht _
  obtain ⟨rfl, rfl, _⟩ := trodAll_nil ht
  exact ⟨[], rfl, rfl, rfl, fun j x u hx => by simp at hx⟩
 | cons h ha r ih =>
  intro vs ds ps hok ht hwt
  obtain ⟨v0, vs0, d0, ds0, p0, q0, rfl, rfl, rfl, h0, r0⟩ := trodAll_cons ht
  obtain ⟨as, h1, h2, h3, h4⟩ := ih vs0 ds0 q0 (fun j t v hj hv => hok (j + 1) t v (by simpa using hj) (by simpa using hv)) r0 (by simp only [DataW.weightsEach, List.all_append, Bool.and_eq_true] at hwt; exact hwt.2)
  obtain ⟨x, hx, hr⟩ := za4 (num := num) h ha (hok 0 _ v0 rfl rfl) h0 (by simp only [DataW.weightsEach, List.all_append, Bool.and_eq_true] at hwt; exact hwt.1)
  refine ⟨_ :: as, ⟨x, as, hx, rfl, h1⟩, by simp [h2], by simp [h3], fun j y u hy hu => ?_⟩
  cases j with
  | zero => simp at hy hu; subst hy; subst hu; exact hr
  | succ j => exact h4 j y u (by simpa using hy) (by simpa using hu)
theorem zrv {H : Type} {enc : TypeId × Value → H} (hl : laidOutB P = true) {W W' : World} (hb : Below W.heap.size W W') : ∀ {ts : List TypeId} {vs : List Value} {ds : List (DataW H)} {ps : List MemPlace},
  (ts.all fun t => P.readableRec t && decide (t < P.types.size)) = true → DataW.TrodAll enc P W 0 (fun _ => true) true ts vs ds ps → DataW.TrodAll enc P W' 0 (fun b => decide (b < W.heap.size)) true ts vs ds ps
 | [], vs, ds, ps, _, h => by
  obtain ⟨rfl, rfl, rfl⟩ := trodAll_nil h
  exact trodAll_mk0
 | t :: ts, vs, ds, ps, hts, h => by
  obtain ⟨v0, vs0, d0, ds0, p0, q0, rfl, rfl, rfl, h0, r0⟩ := trodAll_cons h
  simp only [List.all_cons, Bool.and_eq_true, decide_eq_true_eq] at hts
  have lt0 : ∀ x ∈ p0, x.block < W.heap.size := by obtain ⟨m, hm⟩ := h0; exact DataW.trod_lt m _ _ _ hm
  exact trodAll_cons_mk (Below.trod hl hts.1.1 hts.1.2 h0 hb lt0) (zrv hl hb hts.2 r0)
theorem zhy {code : Nat → Option XFun} {ext : Calls'} (h : Runs P num code ext) {f : FuncId} {as : List AV} {vals : Array Value} {w : World} (hG : num.G (fun b => b < w.heap.size) w) {m : Mem} (hr : callW code ext (num f) as [] = some (.imm (.val (.bool true)), m)) (hl : as.length = vals.size)
  (ha : ∀ (j : Nat) (x : AV) (u : Value), as[j]? = some x → vals[j]? = some u → ARep num (Cx.whole w) x u) :
  Calls P f vals w fun e w' => e = .returned (.bool true) ∧ Below w.heap.size w w' := by
 obtain ⟨_, hc⟩ := (zo2 h).fn f _ _ _ _ (Cx.whole w) vals hr (zsy w hG) hl ha
 refine hc.mono fun e w' ⟨v, D, he, hw, hst, hv⟩ => ?_
 have := znl hv
 subst this
 subst hw
 exact ⟨he, hst.os, hst.tape, hst.out, hst.size, fun k hk => hst.keep k hk fun ⟨i, o, h, _⟩ => by simp at h⟩
def LawSpec (s : ChangeSpec) (n : Nat) : Prop := s.vars = [] ∧ ∀ (H : Type) (ds : List (DataW H)), ds.length = n → s.fn H ds = { results := [.lit (.bool true)], args := ds }
theorem zhz {code : Nat → Option XFun} {ext : Calls'} (hrun : Runs P num code ext) {f : FuncId} {fn : Func} {s : ChangeSpec} (hs : LawSpec s fn.params.toList.length) (hl : laidOutB P = true)
  (hts : (fn.params.toList.all fun t => P.readableRec t && decide (t < P.types.size)) = true) {tb : TypeId} (hres : fn.resultTypes = #[tb]) (htb : P.underlying tb = some .bool)
  {Q : List AV → Prop} (hQ : ArgsOf P fn.params.toList Q) (hcall : ∀ as, Q as → ∃ m, callW code ext (num f) as [] = some (.imm (.val (.bool true)), m)) {H : Type} {enc : TypeId × Value → H}
  (W : World) (base : Nat) (args : Array Value) (ds gs : List (DataW H)) (before : List MemPlace)
  (hval : ∀ (j : Nat) t v, fn.params[j]? = some t → args[j]? = some v → Value.okWide P W .any base t v)
  (hW : DataW.Whole enc P fn.params.toList s.vars false W args.toList ds gs before)
  (hwt : (DataW.weightsEach P (fn.params.toList ++ s.plain.varTypes P) (ds ++ gs)).all (· ≤ reachBytes) = true) (hG : num.G (fun b => b < W.heap.size) W) :
  Calls P f args W fun e W' => ∃ v, e = .returned v ∧ s.post enc P fn false true false false W args v W' := by
 have hW' := hW
 obtain ⟨p, q, hA, hV, rfl, hfz, hnd⟩ := hW
 rw [hs.1] at hV
 obtain ⟨rfl, rfl⟩ := trodVars_none hV
 obtain ⟨as, h1, h2, h3, h4⟩ := zhx (num := num) hQ args.toList ds p (fun j t v ht hv => hval j t v (by simpa using ht) (by simpa using hv)) hA (by
  have e : s.plain.varTypes P = [] := by simp [ChangeSpec.plain, DataSpec.varTypes, hs.1]
  rw [e, List.append_nil, List.append_nil] at hwt
  exact hwt)
 obtain ⟨m, hm⟩ := hcall as h1
 refine (zhy hrun hG hm (by simpa using h2) fun j x u hx hu => h4 j x u hx (by simpa using hu)).mono fun e W' ⟨he, bel⟩ => ?_
 subst he
 have hfn : s.fn H (ds ++ []) = { results := [.lit (.bool true)], args := ds } := by rw [List.append_nil]; exact hs.2 H ds h3
 refine ⟨_, rfl, ds, [], p ++ [], [], p, [], hW', ?_, ?_, ?_, bel.frame _, fun h => by cases h⟩
 ·rw [hfn, hres]; exact trodAll_mk1 (shut_bool htb _)
 ·rw [hfn]; exact zrv hl bel hts hA
 ·rw [hfn, hs.1]; rfl
end
end Go.EX

