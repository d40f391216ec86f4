import Derived.Test.YtmpldniokcfmbaaDoorK10
import Derived.Test.YtmpldniokcfmbaaDoorLz
import Derived.Test.YtmpldniokcfmbaaDoorK13
import Derived.Test.YtmpldniokcfmbaaDoorK9
import Derived.WalkKit
import Derived.ProofKit
import Derived.OpenShut
import Derived.ShutString
import Derived.ChangeOld
import Derived.Below
import Derived.Carry
import Derived.Test.YtmpldniokcfmbaaDoorRows
set_option linter.unusedVariables false
set_option linter.unusedSimpArgs false
namespace Go.EX
def ext1 : Calls' := extOr (extTz 735) (extLz 729)
theorem lz_at (g : Nat) (n : Int) (h : 0 ≤ n ∧ n < 18446744073709551616) : extLz g g [.imm (.val (.int .u64 n))] [] = some (.imm (.val (.int .i64 (64 - Lib.bitLen n.toNat : Nat))), []) := by
 unfold extLz
 rw [if_pos rfl]
 exact if_pos h
theorem tz_at (g : Nat) (n : Int) (h : 0 ≤ n ∧ n < 18446744073709551616) : extTz g g [.imm (.val (.int .u64 n))] [] = some (.imm (.val (.int .i64 (Lib.ctz 64 n.toNat : Nat))), []) := by
 unfold extTz
 rw [if_pos rfl]
 exact if_pos h
theorem tz_no (g f : Nat) (h : f ≠ g) (l : List AV) (m : Mem) : extTz g f l m = none := by
 unfold extTz
 exact if_neg h
theorem zet {a b : Calls'} {f : Nat} {l : List AV} {m : Mem} (h : a f l m = none) : extOr a b f l m = b f l m := by
 unfold extOr
 rw [h]
theorem zev {a b : Calls'} {f : Nat} {l : List AV} {m : Mem} {r} (h : a f l m = some r) : extOr a b f l m = some r := by
 unfold extOr
 rw [h]
end Go.EX


set_option linter.unusedVariables false
set_option linter.unusedSimpArgs false
namespace Go.EX
theorem alive3l (ext : Calls') : callW code3l ext 434 [] [] = some (.imm (.val (.bool true)), []) := (zbx code3l ext).2 ⟨60, by kernel_rfl⟩
theorem zch : code3l yieldNo = none := by
 unfold code3l
 split <;> first | (rename_i h; exact absurd h (by decide)) | rfl
theorem knowsLz3l : KnowsLz code3l ext1 := by
 intro x hx
 have h1 : (0 : Int) ≤ x ∧ (x : Int) < 18446744073709551616 := by omega
 have h2 := lz_at 729 x h1
 rw [Int.toNat_natCast] at h2
 rw [zbv code3l ext1 rfl (by decide), ext1, zet (tz_no _ _ (by decide) _ _)]
 exact h2
theorem knowsTz3l : KnowsTz code3l ext1 := by
 intro x hx
 have h1 : (0 : Int) ≤ x ∧ (x : Int) < 18446744073709551616 := by omega
 have h2 := tz_at 735 x h1
 rw [Int.toNat_natCast] at h2
 rw [zbv code3l ext1 rfl (by decide), ext1, zev h2]
theorem heaps3l : Heaps code3l ext1 := by
 refine ⟨⟨rfl, rfl, rfl, rfl, rfl⟩, rfl, rfl, rfl, rfl, rfl, rfl, rfl, rfl, rfl, rfl, rfl, rfl, rfl, rfl, zch, knowsLz3l, knowsTz3l⟩
theorem textCode3l : TextCode code3l := ⟨⟨rfl, rfl, rfl, rfl, rfl⟩, rfl, rfl, rfl, rfl, rfl, rfl, rfl, rfl, rfl, rfl, rfl, rfl, rfl, rfl, rfl, rfl, rfl, rfl, rfl, rfl, rfl, rfl, rfl, rfl, rfl, rfl, rfl, rfl, rfl⟩
theorem rowCode3l : RowCode code3l := ⟨textCode3l, rfl, rfl, rfl, rfl, rfl, rfl, rfl, rfl, rfl, rfl, rfl, rfl, rfl, rfl, rfl, rfl, rfl, rfl⟩
theorem gcCode3l : GcCode code3l := ⟨rowCode3l, rfl, rfl, rfl, rfl, rfl, rfl, rfl, rfl, rfl, rfl, rfl, rfl, rfl, rfl, rfl, rfl, zch⟩
theorem listCode3l : ListCode code3l ext1 := ⟨⟨gcCode3l, rfl, rfl, rfl⟩, heaps3l, rfl, ⟨zo7 ext1, zo8 ext1⟩⟩
theorem objectLists3l {fv lv : IV} {fs ls : List Int} (ha : Reads (tInt .i64) fv fs) (hl : Reads (tInt .i64) lv ls) :
  ∃ M, callW code3l ext1 432 [.imm fv, .imm lv] [] = some (avb true, M) := zjz listCode3l rfl (alive3l ext1) ha hl
end Go.EX


set_option linter.unusedVariables false
set_option linter.unusedSimpArgs false
namespace Go.EX
open Go.RowKit Go.ChangeShapes Go.WideShapes Go.ChangeAt
def isAggT (P : Program) (t : TypeId) : Bool :=
 match P.underlying t with
 | some (.struct _) | some (.array ..) => true
 | _ => false
inductive ArgsOf (P : Program) : List TypeId → (List AV → Prop) → Prop
 | nil : ArgsOf P [] (fun az => az = [])
 | cons {α : Type} {t : TypeId} {τ : Ty α} {ts : List TypeId} {Q : List AV → Prop} (h : ReadsAs P t τ) (ha : isAggT P t = τ.agg) (r : ArgsOf P ts Q) : ArgsOf P (t :: ts) (fun az => ∃ x r, τ.wf x ∧ az = τ.av x :: r ∧ Q r)
section
variable {P : Program} {num : Names}
theorem za7 {α : Type} {t : TypeId} {τ : Ty α} (h : ReadsAs P t τ) (ha : isAggT P t = τ.agg) {H : Type} {enc : TypeId × Value → H} {W : World} {b : Nat} {v : Value} {d : DataW H} {ps : List MemPlace}
  (hok : Value.okWide P W .any b t v) (ht : DataW.Trod enc P W 0 (fun _ => true) true t v d ps) (hwt : (DataW.weights P t d).all (· ≤ reachBytes) = true) : ∃ x : α, τ.wf x ∧ ARep num (Cx.whole W) (τ.av x) v := by
 obtain ⟨fuel, ht⟩ := ht
 obtain ⟨x, hx, hl, hr⟩ := h enc W _ (fun _ => rfl) fuel _ _ ht hwt
 refine ⟨x, hx, ?_⟩
 unfold Ty.av
 have hlen := τ.len x
 cases hag : τ.agg with
 | true =>
  rw [hag] at ha
  have : ∃ cs, v = .agg cs := by
   unfold isAggT at ha
   unfold Value.okWide at hok
   split at ha
   ·rename_i fs hu; rw [hu] at hok; obtain ⟨cs, h1, _⟩ := hok; exact ⟨cs, h1⟩
   ·rename_i n e hu; rw [hu] at hok; obtain ⟨cs, h1, _⟩ := hok; exact ⟨cs, h1⟩
   ·cases ha
  obtain ⟨cs, rfl⟩ := this
  have hcs : (Value.agg cs).cells = cs := rfl
  rw [hcs] at hl hr
  rw [if_pos rfl]
  have hget : ∀ (j : Nat) (u : Value), cs[j]? = some u → ∃ y, (τ.enc x)[j]? = some y ∧ IRep (fun b => b < W.heap.size) W y u := by
   intro j u hu
   have hj : j < (τ.enc x).length := by
    rw [hlen, ← hl]
    have := (Array.getElem?_eq_some_iff.1 hu).1
    simpa using this
   exact ⟨_, List.getElem?_eq_getElem hj, hr j _ u (List.getElem?_eq_getElem hj) (by simpa using hu)⟩
  refine .agg _ cs (by rw [List.length_map, hlen, ← hl]; simp) (fun j u hu => ?_) fun j y u hy hu => ?_
  ·obtain ⟨y, _, h2⟩ := hget j u hu
   exact h2.one
  ·rw [List.getElem?_map] at hy
   obtain ⟨z, h1, h2⟩ := hget j u hu
   rw [h1] at hy
   simp at hy; subst hy
   exact .imm _ _ h2
 | false =>
  rw [hag] at ha
  have hcell : Cell.okWide P W .any b t v := by
   unfold isAggT at ha
   unfold Value.okWide at hok
   split at hok
   ·rename_i fs hu; rw [hu] at ha; cases ha
   ·rename_i n e hu; rw [hu] at ha; cases ha
   ·exact hok
  have hone : v.cells.toList = [v] := by
   cases v <;> first | rfl | (exfalso; unfold Cell.okWide at hcell; split at hcell <;> first | cases ‹Value.agg _ = _› | cases ‹Value.tuple _ = _› | (unfold Cell.ok at hcell; split at hcell <;> first | exact hcell | cases ‹Value.agg _ = _› | cases ‹Value.tuple _ = _›))
  rw [hone] at hl hr
  simp only [Bool.false_eq_true, if_false]
  split
  ·rename_i y hy
   exact .imm _ _ (hr 0 y v (by rw [hy]; rfl) rfl)
  ·exact .junk _
theorem zh7 {H : Type} {enc : TypeId × Value → H} {W : World} {b : Nat} : ∀ {ts : List TypeId} {Q : List AV → Prop} (_ : ArgsOf P ts Q) (vs : List Value) (ds : List (DataW H)) (ps : List MemPlace),
  (∀ (j : Nat) t v, ts[j]? = some t → vs[j]? = some v → Value.okWide P W .any b t v) → DataW.TrodAll enc P W 0 (fun _ => true) true ts vs ds ps → (DataW.weightsEach P ts ds).all (· ≤ reachBytes) = true →
  ∃ az, Q az ∧ az.length = vs.length ∧ ds.length = ts.length ∧ ∀ (j : Nat) (x : AV) (u : Value), az[j]? = some x → vs[j]? = some u → ARep num (Cx.whole W) x u := by
 intro ts Q h
 induction h with
 | nil =>
  intro vs ds ps _ ht _
  obtain ⟨rfl, rfl, _⟩ := trodAll_nil ht
  exact ⟨[], rfl, rfl, rfl, fun j x u hx => by simp at hx⟩
 | cons h ha r ih =>
  intro vs ds ps hok ht hwt
  obtain ⟨v0, vs0, d0, ds0, p0, q0, rfl, rfl, rfl, h0, r0⟩ := trodAll_cons ht
  obtain ⟨az, h1, h2, h3, h4⟩ := ih vs0 ds0 q0 (fun j t v hj hv => hok (j + 1) t v (by simpa using hj) (by simpa using hv)) r0 (by simp only [DataW.weightsEach, List.all_append, Bool.and_eq_true] at hwt; exact hwt.2)
  obtain ⟨x, hx, hr⟩ := za7 (num := num) h ha (hok 0 _ v0 rfl rfl) h0 (by simp only [DataW.weightsEach, List.all_append, Bool.and_eq_true] at hwt; exact hwt.1)
  refine ⟨_ :: az, ⟨x, az, hx, rfl, h1⟩, by simp [h2], by simp [h3], fun j y u hy hu => ?_⟩
  cases j with
  | zero => simp at hy hu; subst hy; subst hu; exact hr
  | succ j => exact h4 j y u (by simpa using hy) (by simpa using hu)
theorem zqb {H : Type} {enc : TypeId × Value → H} (hl : laidOutB P = true) {W W' : World} (hb : Below W.heap.size W W') : ∀ {ts : List TypeId} {vs : List Value} {ds : List (DataW H)} {ps : List MemPlace},
  (ts.all fun t => P.readableRec t && decide (t < P.types.size)) = true → DataW.TrodAll enc P W 0 (fun _ => true) true ts vs ds ps → DataW.TrodAll enc P W' 0 (fun b => decide (b < W.heap.size)) true ts vs ds ps
 | [], vs, ds, ps, _, h => by
  obtain ⟨rfl, rfl, rfl⟩ := trodAll_nil h
  exact trodAll_mk0
 | t :: ts, vs, ds, ps, hts, h => by
  obtain ⟨v0, vs0, d0, ds0, p0, q0, rfl, rfl, rfl, h0, r0⟩ := trodAll_cons h
  simp only [List.all_cons, Bool.and_eq_true, decide_eq_true_eq] at hts
  have lt0 : ∀ x ∈ p0, x.block < W.heap.size := by obtain ⟨m, hm⟩ := h0; exact DataW.trod_lt m _ _ _ hm
  exact trodAll_cons_mk (Below.trod hl hts.1.1 hts.1.2 h0 hb lt0) (zqb hl hb hts.2 r0)
theorem zh8 {code : Nat → Option XFun} {ext : Calls'} (h : Runs P num code ext) {f : FuncId} {az : List AV} {vals : Array Value} {w : World} (hG : num.G (fun b => b < w.heap.size) w) {m : Mem} (hr : callW code ext (num f) az [] = some (.imm (.val (.bool true)), m)) (hl : az.length = vals.size)
  (ha : ∀ (j : Nat) (x : AV) (u : Value), az[j]? = some x → vals[j]? = some u → ARep num (Cx.whole w) x u) :
  Calls P f vals w fun e w' => e = .returned (.bool true) ∧ Below w.heap.size w w' := by
 obtain ⟨_, hc⟩ := (zn2 h).fn f _ _ _ _ (Cx.whole w) vals hr (zrb w hG) hl ha
 refine hc.mono fun e w' ⟨v, D, he, hw, hst, hv⟩ => ?_
 have := zmx hv
 subst this
 subst hw
 exact ⟨he, hst.os, hst.tape, hst.out, hst.size, fun k hk => hst.keep k hk fun ⟨i, o, h, _⟩ => by simp at h⟩
def LawSpec (s : ChangeSpec) (n : Nat) : Prop := s.vars = [] ∧ ∀ (H : Type) (ds : List (DataW H)), ds.length = n → s.fn H ds = { results := [.lit (.bool true)], args := ds }
theorem zh9 {code : Nat → Option XFun} {ext : Calls'} (hrun : Runs P num code ext) {f : FuncId} {fn : Func} {s : ChangeSpec} (hs : LawSpec s fn.params.toList.length) (hl : laidOutB P = true)
  (hts : (fn.params.toList.all fun t => P.readableRec t && decide (t < P.types.size)) = true) {tb : TypeId} (hres : fn.resultTypes = #[tb]) (htb : P.underlying tb = some .bool)
  {Q : List AV → Prop} (hQ : ArgsOf P fn.params.toList Q) (hcall : ∀ az, Q az → ∃ m, callW code ext (num f) az [] = some (.imm (.val (.bool true)), m)) {H : Type} {enc : TypeId × Value → H}
  (W : World) (base : Nat) (args : Array Value) (ds gs : List (DataW H)) (before : List MemPlace)
  (hval : ∀ (j : Nat) t v, fn.params[j]? = some t → args[j]? = some v → Value.okWide P W .any base t v)
  (hW : DataW.Whole enc P fn.params.toList s.vars false W args.toList ds gs before)
  (hwt : (DataW.weightsEach P (fn.params.toList ++ s.plain.varTypes P) (ds ++ gs)).all (· ≤ reachBytes) = true) (hG : num.G (fun b => b < W.heap.size) W) :
  Calls P f args W fun e W' => ∃ v, e = .returned v ∧ s.post enc P fn false true false false W args v W' := by
 have hW' := hW
 obtain ⟨p, q, hA, hV, rfl, hfz, hnd⟩ := hW
 rw [hs.1] at hV
 obtain ⟨rfl, rfl⟩ := trodVars_none hV
 obtain ⟨az, h1, h2, h3, h4⟩ := zh7 (num := num) hQ args.toList ds p (fun j t v ht hv => hval j t v (by simpa using ht) (by simpa using hv)) hA (by
  have e : s.plain.varTypes P = [] := by simp [ChangeSpec.plain, DataSpec.varTypes, hs.1]
  rw [e, List.append_nil, List.append_nil] at hwt
  exact hwt)
 obtain ⟨m, hm⟩ := hcall az h1
 refine (zh8 hrun hG hm (by simpa using h2) fun j x u hx hu => h4 j x u hx (by simpa using hu)).mono fun e W' ⟨he, bel⟩ => ?_
 subst he
 have hfn : s.fn H (ds ++ []) = { results := [.lit (.bool true)], args := ds } := by rw [List.append_nil]; exact hs.2 H ds h3
 refine ⟨_, rfl, ds, [], p ++ [], [], p, [], hW', ?_, ?_, ?_, bel.frame _, fun h => by cases h⟩
 ·rw [hfn, hres]; exact trodAll_mk1 (shut_bool htb _)
 ·rw [hfn]; exact zqb hl bel hts hA
 ·rw [hfn, hs.1]; rfl
end
end Go.EX


namespace Go.Proofs.YtmpldniokcfmbaaDoor
open Go.EX
def gids : List Nat := [100000, 100001, 703, 432, 434, 436, 437, 597, 602, 593, 600, 357, 290, 176, 567, 599, 598, 605, 592, 611, 606, 612, 617, 610, 286, 279, 274, 276, 275, 278, 608, 292, 613, 277, 285, 171, 601, 282, 280, 297, 300, 175, 293, 291, 178, 742, 172, 170, 615, 618, 616, 283, 177, 749, 607, 609, 752, 174, 614, 284, 281, 184, 298, 301, 768, 294, 295, 296, 182, 183, 187, 186, 181, 169, 759, 762, 185, 299, 780, 730, 729, 179, 772, 771, 769, 770, 781, 777, 700, 778, 779, 731, 732, 180, 735, 784, 775, 667, 773, 774, 701, 776, 100102, 100103, 100104, 100105, 100106, 100107, 100108, 100109, 100110, 100111, 100112, 100113, 100114, 100115, 100116, 100117, 100118, 100119, 100120, 100121, 704]
def num (f : FuncId) : Nat := (gids[f]?).getD (100000 + f)
theorem ok3 : FunOK Tryd.prog num 3 x432 := .of Tryd.func3 (by kernel_rfl) (by kernel_rfl) (by kernel_rfl) (by kernel_rfl) (by kernel_rfl)
theorem ok4 : FunOK Tryd.prog num 4 x434 := .of Tryd.func4 (by kernel_rfl) (by kernel_rfl) (by kernel_rfl) (by kernel_rfl) (by kernel_rfl)
theorem ok5 : FunOK Tryd.prog num 5 x436 := .of Tryd.func5 (by kernel_rfl) (by kernel_rfl) (by kernel_rfl) (by kernel_rfl) (by kernel_rfl)
theorem ok6 : FunOK Tryd.prog num 6 x437 := .of Tryd.func6 (by kernel_rfl) (by kernel_rfl) (by kernel_rfl) (by kernel_rfl) (by kernel_rfl)
theorem ok7 : FunOK Tryd.prog num 7 x597 := .of Tryd.func7 (by kernel_rfl) (by kernel_rfl) (by kernel_rfl) (by kernel_rfl) (by kernel_rfl)
theorem ok8 : FunOK Tryd.prog num 8 x602 := .of Tryd.func8 (by kernel_rfl) (by kernel_rfl) (by kernel_rfl) (by kernel_rfl) (by kernel_rfl)
theorem ok9 : FunOK Tryd.prog num 9 x593 := .of Tryd.func9 (by kernel_rfl) (by kernel_rfl) (by kernel_rfl) (by kernel_rfl) (by kernel_rfl)
theorem ok10 : FunOK Tryd.prog num 10 x600 := .of Tryd.func10 (by kernel_rfl) (by kernel_rfl) (by kernel_rfl) (by kernel_rfl) (by kernel_rfl)
theorem ok11 : FunOK Tryd.prog num 11 x357 := .of Tryd.func11 (by kernel_rfl) (by kernel_rfl) (by kernel_rfl) (by kernel_rfl) (by kernel_rfl)
theorem ok12 : FunOK Tryd.prog num 12 x290 := .of Tryd.func12 (by kernel_rfl) (by kernel_rfl) (by kernel_rfl) (by kernel_rfl) (by kernel_rfl)
theorem ok13 : FunOK Tryd.prog num 13 x176 := .of Tryd.func13 (by kernel_rfl) (by kernel_rfl) (by kernel_rfl) (by kernel_rfl) (by kernel_rfl)
theorem ok14 : FunOK Tryd.prog num 14 x567 := .of Tryd.func14 (by kernel_rfl) (by kernel_rfl) (by kernel_rfl) (by kernel_rfl) (by kernel_rfl)
theorem ok15 : FunOK Tryd.prog num 15 x599 := .of Tryd.func15 (by kernel_rfl) (by kernel_rfl) (by kernel_rfl) (by kernel_rfl) (by kernel_rfl)
theorem ok16 : FunOK Tryd.prog num 16 x598 := .of Tryd.func16 (by kernel_rfl) (by kernel_rfl) (by kernel_rfl) (by kernel_rfl) (by kernel_rfl)
theorem ok17 : FunOK Tryd.prog num 17 x605 := .of Tryd.func17 (by kernel_rfl) (by kernel_rfl) (by kernel_rfl) (by kernel_rfl) (by kernel_rfl)
theorem ok18 : FunOK Tryd.prog num 18 x592 := .of Tryd.func18 (by kernel_rfl) (by kernel_rfl) (by kernel_rfl) (by kernel_rfl) (by kernel_rfl)
theorem ok19 : FunOK Tryd.prog num 19 x611 := .of Tryd.func19 (by kernel_rfl) (by kernel_rfl) (by kernel_rfl) (by kernel_rfl) (by kernel_rfl)
theorem ok20 : FunOK Tryd.prog num 20 x606 := .of Tryd.func20 (by kernel_rfl) (by kernel_rfl) (by kernel_rfl) (by kernel_rfl) (by kernel_rfl)
theorem ok21 : FunOK Tryd.prog num 21 x612 := .of Tryd.func21 (by kernel_rfl) (by kernel_rfl) (by kernel_rfl) (by kernel_rfl) (by kernel_rfl)
theorem ok22 : FunOK Tryd.prog num 22 x617 := .of Tryd.func22 (by kernel_rfl) (by kernel_rfl) (by kernel_rfl) (by kernel_rfl) (by kernel_rfl)
theorem ok23 : FunOK Tryd.prog num 23 x610 := .of Tryd.func23 (by kernel_rfl) (by kernel_rfl) (by kernel_rfl) (by kernel_rfl) (by kernel_rfl)
theorem ok24 : FunOK Tryd.prog num 24 x286 := .of Tryd.func24 (by kernel_rfl) (by kernel_rfl) (by kernel_rfl) (by kernel_rfl) (by kernel_rfl)
theorem ok25 : FunOK Tryd.prog num 25 x279 := .of Tryd.func25 (by kernel_rfl) (by kernel_rfl) (by kernel_rfl) (by kernel_rfl) (by kernel_rfl)
theorem ok26 : FunOK Tryd.prog num 26 x274 := .of Tryd.func26 (by kernel_rfl) (by kernel_rfl) (by kernel_rfl) (by kernel_rfl) (by kernel_rfl)
theorem ok27 : FunOK Tryd.prog num 27 x276 := .of Tryd.func27 (by kernel_rfl) (by kernel_rfl) (by kernel_rfl) (by kernel_rfl) (by kernel_rfl)
theorem ok28 : FunOK Tryd.prog num 28 x275 := .of Tryd.func28 (by kernel_rfl) (by kernel_rfl) (by kernel_rfl) (by kernel_rfl) (by kernel_rfl)
theorem ok29 : FunOK Tryd.prog num 29 x278 := .of Tryd.func29 (by kernel_rfl) (by kernel_rfl) (by kernel_rfl) (by kernel_rfl) (by kernel_rfl)
theorem ok30 : FunOK Tryd.prog num 30 x608 := .of Tryd.func30 (by kernel_rfl) (by kernel_rfl) (by kernel_rfl) (by kernel_rfl) (by kernel_rfl)
theorem ok31 : FunOK Tryd.prog num 31 x292 := .of Tryd.func31 (by kernel_rfl) (by kernel_rfl) (by kernel_rfl) (by kernel_rfl) (by kernel_rfl)
theorem ok32 : FunOK Tryd.prog num 32 x613 := .of Tryd.func32 (by kernel_rfl) (by kernel_rfl) (by kernel_rfl) (by kernel_rfl) (by kernel_rfl)
theorem ok33 : FunOK Tryd.prog num 33 x277 := .of Tryd.func33 (by kernel_rfl) (by kernel_rfl) (by kernel_rfl) (by kernel_rfl) (by kernel_rfl)
theorem ok34 : FunOK Tryd.prog num 34 x285 := .of Tryd.func34 (by kernel_rfl) (by kernel_rfl) (by kernel_rfl) (by kernel_rfl) (by kernel_rfl)
theorem ok35 : FunOK Tryd.prog num 35 x171 := .of Tryd.func35 (by kernel_rfl) (by kernel_rfl) (by kernel_rfl) (by kernel_rfl) (by kernel_rfl)
theorem ok36 : FunOK Tryd.prog num 36 x601 := .of Tryd.func36 (by kernel_rfl) (by kernel_rfl) (by kernel_rfl) (by kernel_rfl) (by kernel_rfl)
theorem ok37 : FunOK Tryd.prog num 37 x282 := .of Tryd.func37 (by kernel_rfl) (by kernel_rfl) (by kernel_rfl) (by kernel_rfl) (by kernel_rfl)
theorem ok38 : FunOK Tryd.prog num 38 x280 := .of Tryd.func38 (by kernel_rfl) (by kernel_rfl) (by kernel_rfl) (by kernel_rfl) (by kernel_rfl)
theorem ok39 : FunOK Tryd.prog num 39 x297 := .of Tryd.func39 (by kernel_rfl) (by kernel_rfl) (by kernel_rfl) (by kernel_rfl) (by kernel_rfl)
theorem ok40 : FunOK Tryd.prog num 40 x300 := .of Tryd.func40 (by kernel_rfl) (by kernel_rfl) (by kernel_rfl) (by kernel_rfl) (by kernel_rfl)
theorem ok41 : FunOK Tryd.prog num 41 x175 := .of Tryd.func41 (by kernel_rfl) (by kernel_rfl) (by kernel_rfl) (by kernel_rfl) (by kernel_rfl)
theorem ok42 : FunOK Tryd.prog num 42 x293 := .of Tryd.func42 (by kernel_rfl) (by kernel_rfl) (by kernel_rfl) (by kernel_rfl) (by kernel_rfl)
theorem ok43 : FunOK Tryd.prog num 43 x291 := .of Tryd.func43 (by kernel_rfl) (by kernel_rfl) (by kernel_rfl) (by kernel_rfl) (by kernel_rfl)
theorem ok44 : FunOK Tryd.prog num 44 x178 := .of Tryd.func44 (by kernel_rfl) (by kernel_rfl) (by kernel_rfl) (by kernel_rfl) (by kernel_rfl)
theorem ok45 : FunOK Tryd.prog num 45 x742 := .of Tryd.func45 (by kernel_rfl) (by kernel_rfl) (by kernel_rfl) (by kernel_rfl) (by kernel_rfl)
theorem ok46 : FunOK Tryd.prog num 46 x172 := .of Tryd.func46 (by kernel_rfl) (by kernel_rfl) (by kernel_rfl) (by kernel_rfl) (by kernel_rfl)
theorem ok47 : FunOK Tryd.prog num 47 x170 := .of Tryd.func47 (by kernel_rfl) (by kernel_rfl) (by kernel_rfl) (by kernel_rfl) (by kernel_rfl)
theorem ok48 : FunOK Tryd.prog num 48 x615 := .of Tryd.func48 (by kernel_rfl) (by kernel_rfl) (by kernel_rfl) (by kernel_rfl) (by kernel_rfl)
theorem ok49 : FunOK Tryd.prog num 49 x618 := .of Tryd.func49 (by kernel_rfl) (by kernel_rfl) (by kernel_rfl) (by kernel_rfl) (by kernel_rfl)
theorem ok50 : FunOK Tryd.prog num 50 x616 := .of Tryd.func50 (by kernel_rfl) (by kernel_rfl) (by kernel_rfl) (by kernel_rfl) (by kernel_rfl)
theorem ok51 : FunOK Tryd.prog num 51 x283 := .of Tryd.func51 (by kernel_rfl) (by kernel_rfl) (by kernel_rfl) (by kernel_rfl) (by kernel_rfl)
theorem ok52 : FunOK Tryd.prog num 52 x177 := .of Tryd.func52 (by kernel_rfl) (by kernel_rfl) (by kernel_rfl) (by kernel_rfl) (by kernel_rfl)
theorem ok53 : FunOK Tryd.prog num 53 x749 := .of Tryd.func53 (by kernel_rfl) (by kernel_rfl) (by kernel_rfl) (by kernel_rfl) (by kernel_rfl)
theorem ok54 : FunOK Tryd.prog num 54 x607 := .of Tryd.func54 (by kernel_rfl) (by kernel_rfl) (by kernel_rfl) (by kernel_rfl) (by kernel_rfl)
theorem ok55 : FunOK Tryd.prog num 55 x609 := .of Tryd.func55 (by kernel_rfl) (by kernel_rfl) (by kernel_rfl) (by kernel_rfl) (by kernel_rfl)
theorem ok56 : FunOK Tryd.prog num 56 x752 := .of Tryd.func56 (by kernel_rfl) (by kernel_rfl) (by kernel_rfl) (by kernel_rfl) (by kernel_rfl)
theorem ok57 : FunOK Tryd.prog num 57 x174 := .of Tryd.func57 (by kernel_rfl) (by kernel_rfl) (by kernel_rfl) (by kernel_rfl) (by kernel_rfl)
theorem ok58 : FunOK Tryd.prog num 58 x614 := .of Tryd.func58 (by kernel_rfl) (by kernel_rfl) (by kernel_rfl) (by kernel_rfl) (by kernel_rfl)
theorem ok59 : FunOK Tryd.prog num 59 x284 := .of Tryd.func59 (by kernel_rfl) (by kernel_rfl) (by kernel_rfl) (by kernel_rfl) (by kernel_rfl)
theorem ok60 : FunOK Tryd.prog num 60 x281 := .of Tryd.func60 (by kernel_rfl) (by kernel_rfl) (by kernel_rfl) (by kernel_rfl) (by kernel_rfl)
theorem ok61 : FunOK Tryd.prog num 61 x184 := .of Tryd.func61 (by kernel_rfl) (by kernel_rfl) (by kernel_rfl) (by kernel_rfl) (by kernel_rfl)
theorem ok62 : FunOK Tryd.prog num 62 x298 := .of Tryd.func62 (by kernel_rfl) (by kernel_rfl) (by kernel_rfl) (by kernel_rfl) (by kernel_rfl)
theorem ok63 : FunOK Tryd.prog num 63 x301 := .of Tryd.func63 (by kernel_rfl) (by kernel_rfl) (by kernel_rfl) (by kernel_rfl) (by kernel_rfl)
theorem ok64 : FunOK Tryd.prog num 64 x768 := .of Tryd.func64 (by kernel_rfl) (by kernel_rfl) (by kernel_rfl) (by kernel_rfl) (by kernel_rfl)
theorem ok65 : FunOK Tryd.prog num 65 x294 := .of Tryd.func65 (by kernel_rfl) (by kernel_rfl) (by kernel_rfl) (by kernel_rfl) (by kernel_rfl)
theorem ok66 : FunOK Tryd.prog num 66 x295 := .of Tryd.func66 (by kernel_rfl) (by kernel_rfl) (by kernel_rfl) (by kernel_rfl) (by kernel_rfl)
theorem ok67 : FunOK Tryd.prog num 67 x296 := .of Tryd.func67 (by kernel_rfl) (by kernel_rfl) (by kernel_rfl) (by kernel_rfl) (by kernel_rfl)
theorem ok68 : FunOK Tryd.prog num 68 x182 := .of Tryd.func68 (by kernel_rfl) (by kernel_rfl) (by kernel_rfl) (by kernel_rfl) (by kernel_rfl)
theorem ok69 : FunOK Tryd.prog num 69 x183 := .of Tryd.func69 (by kernel_rfl) (by kernel_rfl) (by kernel_rfl) (by kernel_rfl) (by kernel_rfl)
theorem ok70 : FunOK Tryd.prog num 70 x187 := .of Tryd.func70 (by kernel_rfl) (by kernel_rfl) (by kernel_rfl) (by kernel_rfl) (by kernel_rfl)
theorem ok71 : FunOK Tryd.prog num 71 x186 := .of Tryd.func71 (by kernel_rfl) (by kernel_rfl) (by kernel_rfl) (by kernel_rfl) (by kernel_rfl)
theorem ok72 : FunOK Tryd.prog num 72 x181 := .of Tryd.func72 (by kernel_rfl) (by kernel_rfl) (by kernel_rfl) (by kernel_rfl) (by kernel_rfl)
theorem ok73 : FunOK Tryd.prog num 73 x169 := .of Tryd.func73 (by kernel_rfl) (by kernel_rfl) (by kernel_rfl) (by kernel_rfl) (by kernel_rfl)
theorem ok74 : FunOK Tryd.prog num 74 x759 := .of Tryd.func74 (by kernel_rfl) (by kernel_rfl) (by kernel_rfl) (by kernel_rfl) (by kernel_rfl)
theorem ok75 : FunOK Tryd.prog num 75 x762 := .of Tryd.func75 (by kernel_rfl) (by kernel_rfl) (by kernel_rfl) (by kernel_rfl) (by kernel_rfl)
theorem ok76 : FunOK Tryd.prog num 76 x185 := .of Tryd.func76 (by kernel_rfl) (by kernel_rfl) (by kernel_rfl) (by kernel_rfl) (by kernel_rfl)
theorem ok77 : FunOK Tryd.prog num 77 x299 := .of Tryd.func77 (by kernel_rfl) (by kernel_rfl) (by kernel_rfl) (by kernel_rfl) (by kernel_rfl)
theorem ok78 : FunOK Tryd.prog num 78 x780 := .of Tryd.func78 (by kernel_rfl) (by kernel_rfl) (by kernel_rfl) (by kernel_rfl) (by kernel_rfl)
theorem ok79 : FunOK Tryd.prog num 79 x730 := .of Tryd.func79 (by kernel_rfl) (by kernel_rfl) (by kernel_rfl) (by kernel_rfl) (by kernel_rfl)
theorem ok81 : FunOK Tryd.prog num 81 x179 := .of Tryd.func81 (by kernel_rfl) (by kernel_rfl) (by kernel_rfl) (by kernel_rfl) (by kernel_rfl)
theorem ok82 : FunOK Tryd.prog num 82 x772 := .of Tryd.func82 (by kernel_rfl) (by kernel_rfl) (by kernel_rfl) (by kernel_rfl) (by kernel_rfl)
theorem ok88 : FunOK Tryd.prog num 88 x700 := .of Tryd.func88 (by kernel_rfl) (by kernel_rfl) (by kernel_rfl) (by kernel_rfl) (by kernel_rfl)
theorem ok92 : FunOK Tryd.prog num 92 x732 := .of Tryd.func92 (by kernel_rfl) (by kernel_rfl) (by kernel_rfl) (by kernel_rfl) (by kernel_rfl)
theorem ok93 : FunOK Tryd.prog num 93 x180 := .of Tryd.func93 (by kernel_rfl) (by kernel_rfl) (by kernel_rfl) (by kernel_rfl) (by kernel_rfl)
theorem ok100 : FunOK Tryd.prog num 100 x701 := .of Tryd.func100 (by kernel_rfl) (by kernel_rfl) (by kernel_rfl) (by kernel_rfl) (by kernel_rfl)
abbrev FnAt (f : Nat) : Prop := ∀ xf, code3l (num f) = some xf → FunOK Tryd.prog num f xf
theorem hit {n : Nat} {x : XFun} (e : code3l (num n) = some x) (k : FunOK Tryd.prog num n x) (r : ∀ f, f < n → FnAt f) : ∀ f, f < n + 1 → FnAt f := fun f h xf hx => by
 rcases Nat.lt_or_eq_of_le (Nat.le_of_lt_succ h) with h | rfl
 ·exact r f h xf hx
 ·rw [e] at hx; cases hx; exact k
theorem nix {n : Nat} (e : code3l (num n) = none) (r : ∀ f, f < n → FnAt f) : ∀ f, f < n + 1 → FnAt f := fun f h xf hx => by
 rcases Nat.lt_or_eq_of_le (Nat.le_of_lt_succ h) with h | rfl
 ·exact r f h xf hx
 ·rw [e] at hx; cases hx
theorem upto20 : ∀ f, f < 20 → FnAt f :=
 hit (by kernel_rfl) ok19 <|
 hit (by kernel_rfl) ok18 <|
 hit (by kernel_rfl) ok17 <|
 hit (by kernel_rfl) ok16 <|
 hit (by kernel_rfl) ok15 <|
 hit (by kernel_rfl) ok14 <|
 hit (by kernel_rfl) ok13 <|
 hit (by kernel_rfl) ok12 <|
 hit (by kernel_rfl) ok11 <|
 hit (by kernel_rfl) ok10 <|
 hit (by kernel_rfl) ok9 <|
 hit (by kernel_rfl) ok8 <|
 hit (by kernel_rfl) ok7 <|
 hit (by kernel_rfl) ok6 <|
 hit (by kernel_rfl) ok5 <|
 hit (by kernel_rfl) ok4 <|
 hit (by kernel_rfl) ok3 <|
 nix (by kernel_rfl) <|
 nix (by kernel_rfl) <|
 nix (by kernel_rfl) (fun f h => absurd h (Nat.not_lt_zero f))
theorem upto40 : ∀ f, f < 40 → FnAt f :=
 hit (by kernel_rfl) ok39 <|
 hit (by kernel_rfl) ok38 <|
 hit (by kernel_rfl) ok37 <|
 hit (by kernel_rfl) ok36 <|
 hit (by kernel_rfl) ok35 <|
 hit (by kernel_rfl) ok34 <|
 hit (by kernel_rfl) ok33 <|
 hit (by kernel_rfl) ok32 <|
 hit (by kernel_rfl) ok31 <|
 hit (by kernel_rfl) ok30 <|
 hit (by kernel_rfl) ok29 <|
 hit (by kernel_rfl) ok28 <|
 hit (by kernel_rfl) ok27 <|
 hit (by kernel_rfl) ok26 <|
 hit (by kernel_rfl) ok25 <|
 hit (by kernel_rfl) ok24 <|
 hit (by kernel_rfl) ok23 <|
 hit (by kernel_rfl) ok22 <|
 hit (by kernel_rfl) ok21 <|
 hit (by kernel_rfl) ok20 upto20
theorem upto60 : ∀ f, f < 60 → FnAt f :=
 hit (by kernel_rfl) ok59 <|
 hit (by kernel_rfl) ok58 <|
 hit (by kernel_rfl) ok57 <|
 hit (by kernel_rfl) ok56 <|
 hit (by kernel_rfl) ok55 <|
 hit (by kernel_rfl) ok54 <|
 hit (by kernel_rfl) ok53 <|
 hit (by kernel_rfl) ok52 <|
 hit (by kernel_rfl) ok51 <|
 hit (by kernel_rfl) ok50 <|
 hit (by kernel_rfl) ok49 <|
 hit (by kernel_rfl) ok48 <|
 hit (by kernel_rfl) ok47 <|
 hit (by kernel_rfl) ok46 <|
 hit (by kernel_rfl) ok45 <|
 hit (by kernel_rfl) ok44 <|
 hit (by kernel_rfl) ok43 <|
 hit (by kernel_rfl) ok42 <|
 hit (by kernel_rfl) ok41 <|
 hit (by kernel_rfl) ok40 upto40
theorem upto80 : ∀ f, f < 80 → FnAt f :=
 hit (by kernel_rfl) ok79 <|
 hit (by kernel_rfl) ok78 <|
 hit (by kernel_rfl) ok77 <|
 hit (by kernel_rfl) ok76 <|
 hit (by kernel_rfl) ok75 <|
 hit (by kernel_rfl) ok74 <|
 hit (by kernel_rfl) ok73 <|
 hit (by kernel_rfl) ok72 <|
 hit (by kernel_rfl) ok71 <|
 hit (by kernel_rfl) ok70 <|
 hit (by kernel_rfl) ok69 <|
 hit (by kernel_rfl) ok68 <|
 hit (by kernel_rfl) ok67 <|
 hit (by kernel_rfl) ok66 <|
 hit (by kernel_rfl) ok65 <|
 hit (by kernel_rfl) ok64 <|
 hit (by kernel_rfl) ok63 <|
 hit (by kernel_rfl) ok62 <|
 hit (by kernel_rfl) ok61 <|
 hit (by kernel_rfl) ok60 upto60
theorem upto100 : ∀ f, f < 100 → FnAt f :=
 nix (by kernel_rfl) <|
 nix (by kernel_rfl) <|
 nix (by kernel_rfl) <|
 nix (by kernel_rfl) <|
 nix (by kernel_rfl) <|
 nix (by kernel_rfl) <|
 hit (by kernel_rfl) ok93 <|
 hit (by kernel_rfl) ok92 <|
 nix (by kernel_rfl) <|
 nix (by kernel_rfl) <|
 nix (by kernel_rfl) <|
 hit (by kernel_rfl) ok88 <|
 nix (by kernel_rfl) <|
 nix (by kernel_rfl) <|
 nix (by kernel_rfl) <|
 nix (by kernel_rfl) <|
 nix (by kernel_rfl) <|
 hit (by kernel_rfl) ok82 <|
 hit (by kernel_rfl) ok81 <|
 nix (by kernel_rfl) upto80
theorem upto120 : ∀ f, f < 120 → FnAt f :=
 nix (by kernel_rfl) <|
 nix (by kernel_rfl) <|
 nix (by kernel_rfl) <|
 nix (by kernel_rfl) <|
 nix (by kernel_rfl) <|
 nix (by kernel_rfl) <|
 nix (by kernel_rfl) <|
 nix (by kernel_rfl) <|
 nix (by kernel_rfl) <|
 nix (by kernel_rfl) <|
 nix (by kernel_rfl) <|
 nix (by kernel_rfl) <|
 nix (by kernel_rfl) <|
 nix (by kernel_rfl) <|
 nix (by kernel_rfl) <|
 nix (by kernel_rfl) <|
 nix (by kernel_rfl) <|
 nix (by kernel_rfl) <|
 nix (by kernel_rfl) <|
 hit (by kernel_rfl) ok100 upto100
theorem upto123 : ∀ f, f < 123 → FnAt f :=
 nix (by kernel_rfl) <|
 nix (by kernel_rfl) <|
 nix (by kernel_rfl) upto120
theorem fns (f : FuncId) (xf : XFun) (h : code3l (num f) = some xf) : FunOK Tryd.prog num f xf := by
 by_cases hf : f < 123
 ·exact upto123 f hf xf h
 ·have hn : num f = 100000 + f := by
   unfold num
   rw [List.getElem?_eq_none (by rw [show gids.length = 123 from by kernel_rfl]; simp only [FuncId] at *; omega)]; rfl
  rw [hn] at h
  unfold code3l at h
  split at h <;> first | (exfalso; simp only [FuncId] at *; omega) | cases h
theorem nz (f : FuncId) : num f ≠ yieldNo := by
 by_cases hf : f < 123
 ·exact (by decide +kernel : ∀ f : Fin 123, num f.val ≠ yieldNo) ⟨f, hf⟩
 ·have hn : num f = 100000 + f := by
   unfold num
   rw [List.getElem?_eq_none (by rw [show gids.length = 123 from by kernel_rfl]; simp only [FuncId] at *; omega)]; rfl
  rw [hn, yieldNo]
  simp only [FuncId] at *; omega
def renLz : Go.Shelf.Ren := ⟨fun | 134 => 80 | 129 => 92 | n => n, fun | 53 => 61 | 3 => 3 | 4 => 4 | 46 => 96 | 5 => 5 | 9 => 9 | n => n, fun | n => n⟩
theorem laysLz : Go.Proofs.Lays.n134 Tryd.prog renLz := {
 mixed := by kernel_rfl
 f129 := Tryd.func92.trans (congrArg some (by kernel_rfl))
 f134 := Tryd.func80.trans (congrArg some (by kernel_rfl))
 t3 := Tryd.underlying3
 a3 := Tryd.isAgg3
 z3 := Tryd.sizeOf3
 v3 := Tryd.zeroValue3
 t4 := Tryd.underlying4
 a4 := Tryd.isAgg4
 z4 := Tryd.sizeOf4
 v4 := Tryd.zeroValue4
 t5 := Tryd.underlying5
 a5 := Tryd.isAgg5
 z5 := Tryd.sizeOf5
 v5 := Tryd.zeroValue5
 t9 := Tryd.underlying9
 a9 := Tryd.isAgg9
 z9 := Tryd.sizeOf9
 v9 := Tryd.zeroValue9
 t46 := Tryd.underlying96
 a46 := Tryd.isAgg96
 z46 := Tryd.sizeOf96
 v46 := Tryd.zeroValue96
 t53 := Tryd.underlying61
 a53 := Tryd.isAgg61
 z53 := Tryd.sizeOf61
 v53 := Tryd.zeroValue61 }
def renTz : Go.Shelf.Ren := ⟨fun | 29 => 94 | n => n, fun | 22 => 61 | 3 => 3 | 4 => 4 | 25 => 96 | 54 => 150 | 0 => 0 | 5 => 5 | n => n, fun | 1 => 0 | n => n⟩
theorem laysTz : Go.Proofs.Lays7.n29 Tryd.prog renTz := {
 mixed := by kernel_rfl
 f29 := Tryd.func94.trans (congrArg some (by kernel_rfl))
 t0 := Tryd.underlying0
 a0 := Tryd.isAgg0
 z0 := Tryd.sizeOf0
 v0 := Tryd.zeroValue0
 i0 := by kernel_rfl
 t3 := Tryd.underlying3
 a3 := Tryd.isAgg3
 z3 := Tryd.sizeOf3
 v3 := Tryd.zeroValue3
 i3 := by kernel_rfl
 t4 := Tryd.underlying4
 a4 := Tryd.isAgg4
 z4 := Tryd.sizeOf4
 v4 := Tryd.zeroValue4
 i4 := by kernel_rfl
 t5 := Tryd.underlying5
 a5 := Tryd.isAgg5
 z5 := Tryd.sizeOf5
 v5 := Tryd.zeroValue5
 i5 := by kernel_rfl
 t22 := Tryd.underlying61
 a22 := Tryd.isAgg61
 z22 := Tryd.sizeOf61
 v22 := Tryd.zeroValue61
 i22 := by kernel_rfl
 t25 := Tryd.underlying96
 a25 := Tryd.isAgg96
 z25 := Tryd.sizeOf96
 v25 := Tryd.zeroValue96
 i25 := by kernel_rfl
 t54 := Tryd.underlying150
 a54 := Tryd.isAgg150
 z54 := Tryd.sizeOf150
 g1 := by kernel_rfl }
theorem lz_num (f : FuncId) (h : num f = 729) : f = renLz.f 134 := by
 by_cases hf : f < 123
 ·exact (by decide +kernel : ∀ f : Fin 123, num f.val = 729 → f.val = renLz.f 134) ⟨f, hf⟩ h
 ·have hn : num f = 100000 + f := by
   unfold num
   rw [List.getElem?_eq_none (by rw [show gids.length = 123 from by kernel_rfl]; simp only [FuncId] at *; omega)]; rfl
  rw [hn] at h
  exfalso; simp only [FuncId] at *; omega
theorem tz_num (f : FuncId) (h : num f = 735) : f = renTz.f 29 := by
 by_cases hf : f < 123
 ·exact (by decide +kernel : ∀ f : Fin 123, num f.val = 735 → f.val = renTz.f 29) ⟨f, hf⟩ h
 ·have hn : num f = 100000 + f := by
   unfold num
   rw [List.getElem?_eq_none (by rw [show gids.length = 123 from by kernel_rfl]; simp only [FuncId] at *; omega)]; rfl
  rw [hn] at h
  exfalso; simp only [FuncId] at *; omega
theorem zix : Callable Tryd.prog (renLz.f 134) := ⟨Tryd.f80, Tryd.func80, by decide +kernel, by kernel_rfl⟩
theorem zqf : Callable Tryd.prog (renTz.f 29) := ⟨Tryd.f94, Tryd.func94, by decide +kernel, by kernel_rfl⟩
theorem runs : Runs Tryd.prog (Names.tabs num Tryd.prog [tzTab]) code3l ext1 :=
 ⟨by kernel_rfl, fns, zeu (zew laysTz (by kernel_rfl) (List.mem_cons_self ..) tz_num zqf) (zes laysLz lz_num zix), nz, zch, fun _ _ _ _ _ _ => Iff.rfl, fun _ _ _ h => h, fun _ h1 h2 => ⟨h1, h2⟩⟩
end Go.Proofs.YtmpldniokcfmbaaDoor

