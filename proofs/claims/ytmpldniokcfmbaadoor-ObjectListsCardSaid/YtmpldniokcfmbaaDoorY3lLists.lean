import Derived.Test.YtmpldniokcfmbaaDoorK14
import Derived.Test.YtmpldniokcfmbaaDoorTie
import Derived.Test.YtmpldniokcfmbaaDoorCards
import Derived.ProofKit
import Derived.LaidMore
import Derived.OpenShut
import Derived.Stop.Joined
import Derived.JoinedOf
import Derived.SizedLaws
import Derived.SevenTiedAt
namespace Go.Proofs.YtmpldniokcfmbaaDoor
open Go.EX Go.ChangeShapes Go.WideShapes Go.ChangeAt Go.RowKit
set_option linter.unusedVariables false
theorem own : ownKnob Tryd.prog.godebug = none := by kernel_rfl
theorem laidOut : laidOutB Tryd.prog = true := by kernel_rfl
abbrev laidTab : List (String × DataW Unit) := [("math/bits.deBruijn64tab", Rows.laid_math_bits_deBruijn64tab)]
theorem tab_data : (Rows.laid_math_bits_deBruijn64tab : DataW Unit) = Lib.tabData .u8 tzTab.2.2 := by kernel_rfl
theorem tabs_of {W : World} (h : laidMetH Tryd.prog laidTab W) : TabsIn Tryd.prog [tzTab] (fun b => b < W.heap.size) W := by
 have hl : laidMet Tryd.prog [("math/bits.deBruijn64tab", Lib.tabData .u8 tzTab.2.2)] W := by
  have h2 : laidMet Tryd.prog laidTab W := h
  rw [laidTab, tab_data] at h2
  exact h2
 have hg : Tryd.prog.globalNamed "math/bits.deBruijn64tab" = some 0 := by kernel_rfl
 have ht := Lib.tabIs_of_head (t := 150) (e := 5) (n := 64) hg (by kernel_rfl) Tryd.underlying150 Tryd.underlying5 (by kernel_rfl) (by kernel_rfl) hl
 intro t ht'
 simp only [List.mem_singleton] at ht'
 subst ht'
 refine ⟨⟨0, hg, ?_⟩, ht⟩
 have hv := ht
 unfold Lib.TabIs World.var? at hv
 rw [hg] at hv
 simp only [Option.bind_some] at hv; show 0 < W.heap.size
 by_cases hlt : 0 < W.heap.size
 ·exact hlt
 ·rw [Array.getElem?_eq_none (by omega)] at hv
  cases hv
theorem door_met (os : Os) (args : Array Value) : laidMetH Tryd.prog laidTab ((World.doorLaid Tryd.prog 400 os).forCall (fun _ _ => 0) ⟨#[], args, []⟩).memory :=
 laidMetH_of_parts3 (fuel := 8) (laidMet_of_run' 8 (by kernel_rfl) (by kernel_rfl)) (by kernel_rfl) (by kernel_rfl)
end Go.Proofs.YtmpldniokcfmbaaDoor

namespace Go.Proofs.YtmpldniokcfmbaaDoor
open Go.EX Go.ChangeShapes Go.WideShapes Go.ChangeAt Go.RowKit
set_option linter.unusedVariables false
theorem readsNums : ReadsAs Tryd.prog 22 (tSl (tInt .i64)) := readsSl Tryd.underlying22 (readsInt Tryd.underlying2) (by kernel_rfl) (by decide) (of_decide_eq_true (by kernel_rfl))
theorem specLists : LawSpec Rows.objectListsSpec Tryd.f3.params.toList.length :=
 ⟨rfl, fun H ds h => match ds, h with | [_, _], _ => rfl⟩
set_option maxRecDepth 100000 in
theorem lists_lifted (os : Os) (started : os.Started) (H : Type) (enc : TypeId × Value → H) :
  ReturnsInHanded {} Tryd.checked os 3 .any (fun w args => (Rows.objectListsSpec.pre enc Tryd.prog Tryd.f3 [] false w args ∧ laidMetH Tryd.prog laidTab w) ∧ sizedMet enc Tryd.prog Tryd.f3 (OpenSpec.ofChange Rows.objectListsSpec) false w args)
   (Rows.objectListsSpec.post enc Tryd.prog Tryd.f3 false true false false) := by
 refine returnsInHanded_of_change_and (C := Tryd.checked) (X := fun w _ => laidMetH Tryd.prog laidTab w) (fun _ _ _ hh h => h.of_heap hh) own started (by kernel_rfl) Tryd.func3
  (ChangeSpec.witness_shaped (enc := enc) (C := Tryd.checked) (os := os) (X := fun w _ => laidMetH Tryd.prog laidTab w) false (World.doorLaid Tryd.prog 400 os) #[.slice none 0 0, .slice none 0 0] 8 rfl (World.shaped_of_RefB (by kernel_rfl) (by kernel_rfl)) (by kernel_rfl) (by kernel_rfl) (by kernel_rfl) (door_met os _)) ?_
 intro W base args ds gs before hval hW _ hwt hX _
 refine zh9 runs specLists laidOut (by kernel_rfl) (tb := 4) (by kernel_rfl) Tryd.underlying4 (ArgsOf.cons readsNums (by kernel_rfl) (ArgsOf.cons readsNums (by kernel_rfl) ArgsOf.nil)) ?_ W base args ds gs before hval hW hwt (tabs_of hX)
 rintro l ⟨x, _, hx, rfl, y, _, hy, rfl, rfl⟩
 exact objectLists3l x.ok y.ok
theorem lists_said : Rows.ObjectListsSaid :=
 OpenClaim.holds_of_wide 3 Tryd.f3 rfl rfl rfl rfl rfl rfl rfl ⟨rfl, rfl, rfl, rfl, rfl⟩ rfl rfl rfl rfl rfl (by kernel_rfl) Tryd.func3 (by kernel_rfl)
  (of_decide_eq_true (by kernel_rfl)) (by unfold Func.isWrapper; first | (rw [if_pos (by decide +kernel)]; kernel_rfl) | (rw [if_neg (by decide +kernel)]; exact ⟨rfl, rfl⟩))
  (fun os started H enc _ => lists_lifted os started H enc)
theorem lists_holds : Rows.ObjectListsCardSaid :=
 Claim7.holds_tied_plain_at .later [] [.data] true (true, "e703704e05faf75320b2adba6185fa70640449f669a3b8b20a329c7c9b925dac") false
  lists_said (fun _ h => by cases h) (by kernel_rfl) (fun _ h => by cases h) objectLists_row_tie rfl ⟨rfl, rfl⟩ (by kernel_rfl) rfl
  (fun f fn hf hfn => by
   obtain rfl : f = 3 := Option.some.inj ((show Tryd.prog.funcNamed "gearbox/gearboxlaw03.ObjectLists" = some 3 by kernel_rfl).symm.trans hf) |>.symm
   obtain rfl : fn = Tryd.f3 := (Option.some.inj (Tryd.func3.symm.trans hfn)).symm
   exact ⟨by kernel_rfl, fun j t ht => by
    rw [Tryd.params3] at ht
    have hm : t ∈ [22] := by simpa using Array.mem_of_getElem? ht
    have hall : ([22].all fun u => !Tryd.prog.wantsStandIn u) = true := by kernel_rfl
    exact (show Tryd.prog.wantsStandIn t = false by simpa using List.all_eq_true.1 hall t hm)⟩)
  (by kernel_rfl)
#print axioms lists_holds
end Go.Proofs.YtmpldniokcfmbaaDoor

