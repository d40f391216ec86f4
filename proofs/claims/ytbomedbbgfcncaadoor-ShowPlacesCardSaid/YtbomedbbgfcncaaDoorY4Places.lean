import Derived.Test.YtbomedbbgfcncaaDoorK13
import Derived.Test.YtbomedbbgfcncaaDoorCk4
import Derived.Test.YtbomedbbgfcncaaDoorTie
import Derived.Test.YtbomedbbgfcncaaDoorCards
import Derived.ProofKit
import Derived.LaidMore
import Derived.OpenShut
import Derived.Stop.Joined
import Derived.Stop.LaidErr
import Derived.JoinedOf
import Derived.SizedLaws
import Derived.SevenTiedAt
import Derived.Test.YtbomedbbgfcncaaDoorK9
import Derived.Test.YtbomedbbgfcncaaDoorK8
import Derived.Lib.LaidTab
namespace Go.Proofs.YtbomedbbgfcncaaDoor
open Go.EX Go.ChangeShapes Go.WideShapes Go.ChangeAt Go.RowKit
set_option linter.unusedVariables false
theorem own : ownKnob Tryd.prog.godebug = none := by kernel_rfl
theorem laidOut : laidOutB Tryd.prog = true := by kernel_rfl
abbrev laidTabs : List (String × DataW Unit) := [("math/bits.deBruijn32tab", Rows.laid_math_bits_deBruijn32tab), ("math/bits.deBruijn64tab", Rows.laid_math_bits_deBruijn64tab), ("internal/strconv.uint64pow10", Rows.laid_internal_strconv_uint64pow10)]
theorem tab_data : (Rows.laid_internal_strconv_uint64pow10 : DataW Unit) = Lib.tabData .u64 Lib.pow10Tab := by kernel_rfl
theorem tabs_of {W : World} (h : laidMetH Tryd.prog laidTabs W) : TabsIn Tryd.prog [("internal/strconv.uint64pow10", .u64, Lib.pow10Tab)] (fun b => b < W.heap.size) W := by
 have hl : laidMet Tryd.prog [("internal/strconv.uint64pow10", Lib.tabData .u64 Lib.pow10Tab)] W := by
  have h2 : laidMet Tryd.prog laidTabs W := h
  rw [laidTabs, tab_data] at h2
  exact h2.tail.tail
 have hg : Tryd.prog.globalNamed "internal/strconv.uint64pow10" = some 0 := by kernel_rfl
 have ht := Lib.tabIs_of_head (t := 109) (e := 93) (n := 20) hg (by kernel_rfl) Tryd.underlying109 Tryd.underlying93 (by kernel_rfl) (by kernel_rfl) hl
 intro t ht'
 simp only [List.mem_singleton] at ht'
 subst ht'
 refine ⟨⟨0, hg, ?_⟩, ht⟩
 have hv := ht
 unfold Lib.TabIs World.var? at hv
 rw [hg] at hv
 simp only [Option.bind_some] at hv; show 0 < W.heap.size
 by_cases hlt : 0 < W.heap.size
 ·exact hlt
 ·rw [Array.getElem?_eq_none (by omega)] at hv
  cases hv
theorem door_met (os : Os) (args : Array Value) : laidMetH Tryd.prog laidTabs ((World.doorLaid Tryd.prog 400 os).forCall (fun _ _ => 0) ⟨#[], args, []⟩).memory :=
 laidMetH_of_parts3 (fuel := 8) (laidMet_of_run' 8 (by kernel_rfl) (by kernel_rfl)) (by kernel_rfl) (by kernel_rfl)
theorem readsVal : ReadsAs Tryd.prog 26 tVal :=
 readsVia (σ := tVal) (readsStruct (τ := tPair (tInt .u8) (tPair (tInt .i64) tNil)) Tryd.underlying26 (readsCons (readsInt Tryd.underlying24) rfl (by kernel_rfl) (readsCons (readsInt Tryd.underlying2) rfl (by kernel_rfl) (readsNil _))) (by kernel_rfl))
  (fun (x : Int × Int × Unit) => (⟨x.1, x.2.1⟩ : Val)) (fun _ => rfl) (fun _ h => ⟨h.1, h.2.1⟩) rfl
theorem readsVals : ReadsAs Tryd.prog 37 (tSl tVal) := readsSl Tryd.underlying37 readsVal (by kernel_rfl) (by decide) (of_decide_eq_true (by kernel_rfl))
theorem readsObj : ReadsAs Tryd.prog 39 tObj :=
 readsVia (σ := tObj) (readsStruct (τ := tPair (tInt .u8) (tPair tStr (tPair (tSl tVal) (tPair (tInt .i64) (tPair (tInt .i64) tNil))))) Tryd.underlying39
  (readsCons (readsInt Tryd.underlying24) rfl (by kernel_rfl) (readsCons (readsStr Tryd.underlying9) rfl (by kernel_rfl) (readsCons readsVals rfl (by kernel_rfl) (readsCons (readsInt Tryd.underlying3) rfl (by kernel_rfl) (readsCons (readsInt Tryd.underlying3) rfl (by kernel_rfl) (readsNil _)))))) (by kernel_rfl))
  (fun (x : Int × ByteArray × Sl tVal × Int × Int × Unit) => Go.EX.Obj.mk x.1 x.2.1 x.2.2.1 x.2.2.2.1 x.2.2.2.2.1) (fun _ => rfl) (fun _ h => ⟨h.1, h.2.1, h.2.2.2.1, h.2.2.2.2.1⟩) rfl
theorem readsStore : ReadsAs Tryd.prog 23 (tSl tObj) := readsSl Tryd.underlying23 readsObj (by kernel_rfl) (by decide) (of_decide_eq_true (by kernel_rfl))
end Go.Proofs.YtbomedbbgfcncaaDoor

namespace Go.Proofs.YtbomedbbgfcncaaDoor
open Go.EX Go.ChangeShapes Go.WideShapes Go.ChangeAt Go.RowKit
set_option linter.unusedVariables false
theorem runsPlaces : Runs Tryd.prog (Names.tabs num Tryd.prog [powTab]) code4P ext4P :=
 ⟨by kernel_rfl, fnsP, zeb (zea (zni runs).fn) (zeb (zea (zni runs).fn) (zeb (zee (zni runs).fn) (zee (zni runs).fn))), nz, zb4, fun _ _ _ _ _ _ => Iff.rfl, fun _ _ _ h => h, fun _ h1 h2 => ⟨h1, h2⟩⟩
theorem specPlaces : LawSpec Rows.showPlacesSpec Tryd.f4.params.toList.length :=
 ⟨rfl, fun H ds h => match ds, h with | [_, _], _ => rfl⟩
set_option maxRecDepth 100000 in
theorem places_lifted (os : Os) (started : os.Started) (H : Type) (enc : TypeId × Value → H) :
  ReturnsInHanded {} Tryd.checked os 4 .any (fun w args => (Rows.showPlacesSpec.pre enc Tryd.prog Tryd.f4 [] false w args ∧ laidMetH Tryd.prog laidTabs w) ∧ sizedMet enc Tryd.prog Tryd.f4 (OpenSpec.ofChange Rows.showPlacesSpec) false w args)
   (Rows.showPlacesSpec.post enc Tryd.prog Tryd.f4 false true false false) := by
 refine returnsInHanded_of_change_and (C := Tryd.checked) (X := fun w _ => laidMetH Tryd.prog laidTabs w) (fun _ _ _ hh h => h.of_heap hh) own started (by kernel_rfl) Tryd.func4
  (ChangeSpec.witness_shaped (enc := enc) (C := Tryd.checked) (os := os) (X := fun w _ => laidMetH Tryd.prog laidTabs w) false (World.doorLaid Tryd.prog 400 os) #[.slice none 0 0, .agg #[.int .u8 0, .int .i64 0]] 8 rfl (World.shaped_of_RefB (by kernel_rfl) (by kernel_rfl)) (by kernel_rfl) (by kernel_rfl) (by kernel_rfl) (door_met os _)) ?_
 intro W base args ds gs before hval hW _ hwt hX _
 refine zg3 runsPlaces specPlaces laidOut (by kernel_rfl) (tb := 4) (by kernel_rfl) Tryd.underlying4 (ArgsOf.cons readsStore (by kernel_rfl) (ArgsOf.cons readsVal (by kernel_rfl) ArgsOf.nil)) ?_ W base args ds gs before hval hW hwt (tabs_of hX)
 rintro l ⟨x, _, _, rfl, y, _, hy, rfl, rfl⟩
 exact zob x.ok y hy
theorem places_said : Rows.ShowPlacesSaid :=
 OpenClaim.holds_of_wide 4 Tryd.f4 rfl rfl rfl rfl rfl rfl rfl ⟨rfl, rfl, rfl, rfl, rfl⟩ rfl rfl rfl rfl rfl (by kernel_rfl) Tryd.func4 (by kernel_rfl)
  (of_decide_eq_true (by kernel_rfl)) (by unfold Func.isWrapper; first | (rw [if_pos (by decide +kernel)]; kernel_rfl) | (rw [if_neg (by decide +kernel)]; exact ⟨rfl, rfl⟩))
  (fun os started H enc _ => places_lifted os started H enc)
theorem places_holds : Rows.ShowPlacesCardSaid :=
 Claim7.holds_tied_plain_at .later [] [.data, .data, .data] true (true, "2eb34e6d5c59d0a9edccd4288ff7429279507d17fa164d7bd947a60890f9f70e") false
  places_said (fun _ h => by cases h) (by kernel_rfl) (fun _ h => by cases h) showPlaces_row_tie rfl ⟨rfl, rfl⟩ (by kernel_rfl) rfl
  (fun f fn hf hfn => by
   obtain rfl : f = 4 := Option.some.inj ((show Tryd.prog.funcNamed "gearbox/gearboxlaw04.ShowPlaces" = some 4 by kernel_rfl).symm.trans hf) |>.symm
   obtain rfl : fn = Tryd.f4 := (Option.some.inj (Tryd.func4.symm.trans hfn)).symm
   exact ⟨by kernel_rfl, fun j t ht => by
    rw [Tryd.params4] at ht
    have hm : t ∈ [23, 26] := by simpa using Array.mem_of_getElem? ht
    have hall : ([23, 26].all fun u => !Tryd.prog.wantsStandIn u) = true := by kernel_rfl
    exact (show Tryd.prog.wantsStandIn t = false by simpa using List.all_eq_true.1 hall t hm)⟩)
  (by kernel_rfl)
#print axioms places_holds
end Go.Proofs.YtbomedbbgfcncaaDoor

