import Derived.Test.YtgidfebccdfjgaaDoorH14
import Derived.Test.YtgidfebccdfjgaaDoorY1Fns
import Derived.Test.YtgidfebccdfjgaaDoorTie
import Derived.Test.YtgidfebccdfjgaaDoorCards
import Derived.ProofKit
import Derived.LaidMore
import Derived.OpenShut
import Derived.Stop.Joined
import Derived.JoinedOf
import Derived.SizedLaws
import Derived.SevenTiedAt
namespace Go.Proofs.YtgidfebccdfjgaaDoor
open Go.EX Go.ChangeShapes Go.WideShapes Go.ChangeAt Go.RowKit
set_option linter.unusedVariables false
theorem own : ownKnob Tryd.prog.godebug = none := by kernel_rfl
theorem laidOut : laidOutB Tryd.prog = true := by kernel_rfl
abbrev laidTab : List (String × DataW Unit) := [("math/bits.deBruijn64tab", Rows.laid_math_bits_deBruijn64tab)]
theorem tab_data : (Rows.laid_math_bits_deBruijn64tab : DataW Unit) = Lib.tabData .u8 tzTab.2.2 := by kernel_rfl
theorem tabs_of {W : World} (h : laidMetH Tryd.prog laidTab W) : TabsIn Tryd.prog [tzTab] (fun b => b < W.heap.size) W := by
  have hl : laidMet Tryd.prog [("math/bits.deBruijn64tab", Lib.tabData .u8 tzTab.2.2)] W := by
    have h2 : laidMet Tryd.prog laidTab W := h
    rw [laidTab, tab_data] at h2
    exact h2
  have hg : Tryd.prog.globalNamed "math/bits.deBruijn64tab" = some 0 := by kernel_rfl
  have ht := Lib.tabIs_of_head (t := 64) (e := 5) (n := 64) hg (by kernel_rfl) Tryd.underlying64 Tryd.underlying5 (by kernel_rfl) (by kernel_rfl) hl
  intro t ht'
  simp only [List.mem_singleton] at ht'
  subst ht'
  refine ⟨⟨0, hg, ?_⟩, ht⟩
  have hv := ht
  unfold Lib.TabIs World.var? at hv
  rw [hg] at hv
  simp only [Option.bind_some] at hv; show 0 < W.heap.size
  by_cases hlt : 0 < W.heap.size
  · exact hlt
  · rw [Array.getElem?_eq_none (by omega)] at hv
    cases hv
theorem door_met (os : Os) (args : Array Value) : laidMetH Tryd.prog laidTab ((World.doorLaid Tryd.prog 400 os).forCall (fun _ _ => 0) ⟨#[], args, []⟩).memory :=
  laidMetH_of_parts3 (fuel := 8) (laidMet_of_run' 8 (by kernel_rfl) (by kernel_rfl)) (by kernel_rfl) (by kernel_rfl)
end Go.Proofs.YtgidfebccdfjgaaDoor

namespace Go.Proofs.YtgidfebccdfjgaaDoor
open Go.EX Go.ChangeShapes Go.WideShapes Go.ChangeAt Go.RowKit
set_option linter.unusedVariables false
theorem readsOp : ReadsAs Tryd.prog 47 tHOp :=
  readsVia (σ := tHOp) (readsStruct (τ := tPair (tInt .u8) (tPair (tInt .u8) (tPair (tInt .i64) (tPair (tInt .i64) (tPair (tInt .i64) (tPair (tInt .u64) tNil)))))) Tryd.underlying47
    (readsCons (readsInt Tryd.underlying5) rfl (by kernel_rfl) (readsCons (readsInt Tryd.underlying31) rfl (by kernel_rfl) (readsCons (readsInt Tryd.underlying3) rfl (by kernel_rfl) (readsCons (readsInt Tryd.underlying2) rfl (by kernel_rfl) (readsCons (readsInt Tryd.underlying2) rfl (by kernel_rfl) (readsCons (readsInt Tryd.underlying36) rfl (by kernel_rfl) (readsNil _))))))) (by kernel_rfl))
    (fun (x : Int × Int × Int × Int × Int × Int × Unit) => (⟨x.1, x.2.1, x.2.2.1, x.2.2.2.1, x.2.2.2.2.1, x.2.2.2.2.2.1⟩ : Go.EX.HOp)) (fun _ => rfl) (fun _ h => ⟨h.1, h.2.1, h.2.2.1, h.2.2.2.1, h.2.2.2.2.1, h.2.2.2.2.2.1⟩) rfl
theorem readsOps : ReadsAs Tryd.prog 45 (tSl tHOp) := readsSl Tryd.underlying45 readsOp (by kernel_rfl) (by decide) (of_decide_eq_true (by kernel_rfl))
theorem specApart : LawSpec Rows.heapApartSpec Tryd.f5.params.toList.length :=
  ⟨rfl, fun H ds h => match ds, h with | [_, _], _ => rfl⟩
set_option maxRecDepth 100000 in
theorem apart_lifted (os : Os) (started : os.Started) (H : Type) (enc : TypeId × Value → H) :
    ReturnsInHanded {} Tryd.checked os 5 .any (fun w args => (Rows.heapApartSpec.pre enc Tryd.prog Tryd.f5 [] false w args ∧ laidMetH Tryd.prog laidTab w) ∧ sizedMet enc Tryd.prog Tryd.f5 (OpenSpec.ofChange Rows.heapApartSpec) false w args)
      (Rows.heapApartSpec.post enc Tryd.prog Tryd.f5 false true false false) := by
  refine returnsInHanded_of_change_and (C := Tryd.checked) (X := fun w _ => laidMetH Tryd.prog laidTab w) (fun _ _ _ hh h => h.of_heap hh) own started (by kernel_rfl) Tryd.func5
    (ChangeSpec.witness_shaped (enc := enc) (C := Tryd.checked) (os := os) (X := fun w _ => laidMetH Tryd.prog laidTab w) false (World.doorLaid Tryd.prog 400 os) #[.int .i64 0, .slice none 0 0] 8 rfl (World.shaped_of_RefB (by kernel_rfl) (by kernel_rfl)) (by kernel_rfl) (by kernel_rfl) (by kernel_rfl) (door_met os _)) ?_
  intro W base args ds gs before hval hW _ hwt hX _
  refine law_contractG runs specApart laidOut (by kernel_rfl) (tb := 4) (by kernel_rfl) Tryd.underlying4 (ArgsOf.cons (readsInt Tryd.underlying3) (by kernel_rfl) (ArgsOf.cons readsOps (by kernel_rfl) ArgsOf.nil)) ?_ W base args ds gs before hval hW hwt (tabs_of hX)
  rintro l ⟨i, _, hi, rfl, x, _, _, rfl, rfl⟩
  exact apart_ok heaps1 rfl rfl x.ok i
theorem apart_said : Rows.HeapApartSaid :=
  OpenClaim.holds_of_wide 5 Tryd.f5 rfl rfl rfl rfl rfl rfl rfl ⟨rfl, rfl, rfl, rfl, rfl⟩ rfl rfl rfl rfl rfl (by kernel_rfl) Tryd.func5 (by kernel_rfl)
    (of_decide_eq_true (by kernel_rfl)) (by unfold Func.isWrapper; first | (rw [if_pos (by decide +kernel)]; kernel_rfl) | (rw [if_neg (by decide +kernel)]; exact ⟨rfl, rfl⟩))
    (fun os started H enc _ => apart_lifted os started H enc)
theorem apart_holds : Rows.HeapApartCardSaid :=
  Claim7.holds_tied_plain_at .later [] [.data] true (true, "3a4bb534919f61df7af516d43b350b571ff5321ccfbad891bb1358d00cf1f045") false
    apart_said (fun _ h => by cases h) (by kernel_rfl) (fun _ h => by cases h) heapApart_row_tie rfl ⟨rfl, rfl⟩ (by kernel_rfl) rfl
    (fun f fn hf hfn => by
      obtain rfl : f = 5 := Option.some.inj ((show Tryd.prog.funcNamed "gearbox/gearboxlaw01.HeapApart" = some 5 by kernel_rfl).symm.trans hf) |>.symm
      obtain rfl : fn = Tryd.f5 := (Option.some.inj (Tryd.func5.symm.trans hfn)).symm
      exact ⟨by kernel_rfl, fun j t ht => by
        rw [Tryd.params5] at ht
        have hm : t ∈ [3, 45] := by simpa using Array.mem_of_getElem? ht
        have hall : ([3, 45].all fun u => !Tryd.prog.wantsStandIn u) = true := by kernel_rfl
        exact (show Tryd.prog.wantsStandIn t = false by simpa using List.all_eq_true.1 hall t hm)⟩)
    (by kernel_rfl)
#print axioms apart_holds
end Go.Proofs.YtgidfebccdfjgaaDoor

