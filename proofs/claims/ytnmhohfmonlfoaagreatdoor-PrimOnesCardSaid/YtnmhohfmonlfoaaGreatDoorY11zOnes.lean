import Derived.Test.YtnmhohfmonlfoaaGreatDoorK11
import Derived.Test.YtnmhohfmonlfoaaGreatDoorExt
import Derived.Test.YtnmhohfmonlfoaaGreatDoorK16
import Derived.Test.YtnmhohfmonlfoaaGreatDoorCk11
import Derived.Test.YtnmhohfmonlfoaaGreatDoorTie
import Derived.Test.YtnmhohfmonlfoaaGreatDoorCards
import Derived.ProofKit
import Derived.LaidMore
import Derived.OpenShut
import Derived.Stop.Joined
import Derived.Stop.LaidErr
import Derived.JoinedOf
import Derived.SizedLaws
import Derived.SevenTiedAt
import Derived.Test.YtnmhohfmonlfoaaGreatDoorK8
import Derived.Lib.LaidTab
namespace Go.Proofs.YtnmhohfmonlfoaaGreatDoor
open Go.EX Go.ChangeShapes Go.WideShapes Go.ChangeAt Go.RowKit
set_option linter.unusedVariables false
theorem own : ownKnob Tryz.prog.godebug = none := by kernel_rfl
theorem laidOut : laidOutB Tryz.prog = true := by kernel_rfl
abbrev laidTabs : List (String × DataW Unit) := [("math/bits.deBruijn32tab", Rows.laid_math_bits_deBruijn32tab), ("math/bits.deBruijn64tab", Rows.laid_math_bits_deBruijn64tab), ("internal/strconv.uint64pow10", Rows.laid_internal_strconv_uint64pow10)]
theorem tab_data : (Rows.laid_internal_strconv_uint64pow10 : DataW Unit) = Lib.tabData .u64 Lib.pow10Tab := by kernel_rfl
theorem tabs_of {W : World} (h : laidMetH Tryz.prog laidTabs W) : TabsIn Tryz.prog [("internal/strconv.uint64pow10", .u64, Lib.pow10Tab)] (fun b => b < W.heap.size) W := by
 have hl : laidMet Tryz.prog [("internal/strconv.uint64pow10", Lib.tabData .u64 Lib.pow10Tab)] W := by
  have h2 : laidMet Tryz.prog laidTabs W := h
  rw [laidTabs, tab_data] at h2
  exact h2.tail.tail
 have hg : Tryz.prog.globalNamed "internal/strconv.uint64pow10" = some 0 := by kernel_rfl
 have ht := Lib.tabIs_of_head (t := 334) (e := 300) (n := 20) hg (by kernel_rfl) Tryz.underlying334 Tryz.underlying300 (by kernel_rfl) (by kernel_rfl) hl
 intro t ht'
 simp only [List.mem_singleton] at ht'
 subst ht'
 refine ⟨⟨0, hg, ?_⟩, ht⟩
 have hv := ht
 unfold Lib.TabIs World.var? at hv
 rw [hg] at hv
 simp only [Option.bind_some] at hv; show 0 < W.heap.size
 by_cases hlt : 0 < W.heap.size
 ·exact hlt
 ·rw [Array.getElem?_eq_none (by omega)] at hv
  cases hv
theorem door_met (os : Os) (args : Array Value) : laidMetH Tryz.prog laidTabs ((World.doorLaid Tryz.prog 400 os).forCall (fun _ _ => 0) ⟨#[], args, []⟩).memory :=
 laidMetH_of_parts3 (fuel := 8) (laidMet_of_run' 8 (by kernel_rfl) (by kernel_rfl)) (by kernel_rfl) (by kernel_rfl)
theorem readsVal : ReadsAs Tryz.prog 27 tVal :=
 readsVia (σ := tVal) (readsStruct (τ := tPair (tInt .u8) (tPair (tInt .i64) tNil)) Tryz.underlying27 (readsCons (readsInt Tryz.underlying25) rfl (by kernel_rfl) (readsCons (readsInt Tryz.underlying2) rfl (by kernel_rfl) (readsNil _))) (by kernel_rfl))
  (fun (x : Int × Int × Unit) => (⟨x.1, x.2.1⟩ : Val)) (fun _ => rfl) (fun _ h => ⟨h.1, h.2.1⟩) rfl
theorem readsVals : ReadsAs Tryz.prog 53 (tSl tVal) := readsSl Tryz.underlying53 readsVal (by kernel_rfl) (by decide) (of_decide_eq_true (by kernel_rfl))
theorem readsObj : ReadsAs Tryz.prog 100 tObj :=
 readsVia (σ := tObj) (readsStruct (τ := tPair (tInt .u8) (tPair tStr (tPair (tSl tVal) (tPair (tInt .i64) (tPair (tInt .i64) tNil))))) Tryz.underlying100
  (readsCons (readsInt Tryz.underlying25) rfl (by kernel_rfl) (readsCons (readsStr Tryz.underlying9) rfl (by kernel_rfl) (readsCons readsVals rfl (by kernel_rfl) (readsCons (readsInt Tryz.underlying3) rfl (by kernel_rfl) (readsCons (readsInt Tryz.underlying3) rfl (by kernel_rfl) (readsNil _)))))) (by kernel_rfl))
  (fun (x : Int × ByteArray × Sl tVal × Int × Int × Unit) => Go.EX.Obj.mk x.1 x.2.1 x.2.2.1 x.2.2.2.1 x.2.2.2.2.1) (fun _ => rfl) (fun _ h => ⟨h.1, h.2.1, h.2.2.2.1, h.2.2.2.2.1⟩) rfl
theorem readsStore : ReadsAs Tryz.prog 23 (tSl tObj) := readsSl Tryz.underlying23 readsObj (by kernel_rfl) (by decide) (of_decide_eq_true (by kernel_rfl))
end Go.Proofs.YtnmhohfmonlfoaaGreatDoor

namespace Go.Proofs.YtnmhohfmonlfoaaGreatDoor
open Go.EX Go.ChangeShapes Go.WideShapes Go.ChangeAt Go.RowKit
set_option linter.unusedVariables false
noncomputable def ext11 : Calls' := extOr (ext4 dig) (extOne 489 (callW code11 (fun _ _ _ => none)))
theorem runsL : Runs Tryz.prog (Names.tabs num Tryz.prog [powTab]) code11 (fun _ _ _ => none) :=
 ⟨by kernel_rfl, fnsL, zjf, nz, zcn, fun _ _ _ _ _ _ => Iff.rfl, fun _ _ _ h => h, fun _ h1 h2 => ⟨h1, h2⟩⟩
theorem runsOnes : Runs Tryz.prog (Names.tabs num Tryz.prog [powTab]) code11y ext11 :=
 ⟨by kernel_rfl, fns, ze6 (ze2 (ze3 checkFacts (by kernel_rfl) ck_num zb9) (ze7 lays169 strExtra str_num zqy) (ze4 lays246 (List.mem_cons_self ..) fmt_num zfr)) (ze5 (zo2 runsL).fn),
  nz, zco, fun _ _ _ _ _ _ => Iff.rfl, fun _ _ _ h => h, fun _ h1 h2 => ⟨h1, h2⟩⟩
theorem ext11_at {f : Nat} (h : f ≠ 489) (a : List AV) (m : Mem) : ext11 f a m = ext4 dig f a m := by
 unfold ext11 extOr extOne
 rw [if_neg h]
 split <;> simp_all
theorem text11y : TextCode code11y ext11 :=
 ⟨rfl, rfl, rfl, rfl, fun a m => (ext11_at (by decide) a m).trans rfl, rfl, fun a m => (ext11_at (by decide) a m).trans rfl, rfl, rfl, rfl, rfl, fun a m => (ext11_at (by decide) a m).trans rfl⟩
theorem lives11y : callW code11y ext11 489 [] [] = some (avb true, []) := by
 rw [zbq code11y ext11 rfl (by decide)]
 have h : ext4 dig 489 [] [] = none := rfl
 unfold ext11 extOr
 rw [h]
 exact lives11
theorem specOnes : LawSpec Rows.primOnesSpec Tryz.f5.params.toList.length :=
 ⟨rfl, fun H ds h => match ds, h with | [_, _], _ => rfl⟩
set_option maxRecDepth 100000 in
theorem ones_lifted (os : Os) (started : os.Started) (H : Type) (enc : TypeId × Value → H) :
  ReturnsInHanded {} Tryz.checked os 5 .any (fun w args => (Rows.primOnesSpec.pre enc Tryz.prog Tryz.f5 [] false w args ∧ laidMetH Tryz.prog laidTabs w) ∧ sizedMet enc Tryz.prog Tryz.f5 (OpenSpec.ofChange Rows.primOnesSpec) false w args)
   (Rows.primOnesSpec.post enc Tryz.prog Tryz.f5 false true false false) := by
 refine returnsInHanded_of_change_and (C := Tryz.checked) (X := fun w _ => laidMetH Tryz.prog laidTabs w) (fun _ _ _ hh h => h.of_heap hh) own started (by kernel_rfl) Tryz.func5
  (ChangeSpec.witness_shaped (enc := enc) (C := Tryz.checked) (os := os) (X := fun w _ => laidMetH Tryz.prog laidTabs w) false (World.doorLaid Tryz.prog 400 os) #[.slice none 0 0, .agg #[.int .u8 0, .int .i64 0]] 8 rfl (World.shaped_of_RefB (by kernel_rfl) (by kernel_rfl)) (by kernel_rfl) (by kernel_rfl) (by kernel_rfl) (door_met os _)) ?_
 intro W base args ds gs before hval hW _ hwt hX _
 refine zhz runsOnes specOnes laidOut (by kernel_rfl) (tb := 4) (by kernel_rfl) Tryz.underlying4 (ArgsOf.cons readsStore (by kernel_rfl) (ArgsOf.cons readsVal (by kernel_rfl) ArgsOf.nil)) ?_ W base args ds gs before hval hW hwt (tabs_of hX)
 rintro l ⟨x, _, _, rfl, y, _, hy, rfl, rfl⟩
 exact zlt text11y lives11y x.ok y hy
theorem ones_said : Rows.PrimOnesSaid :=
 OpenClaim.holds_of_wide 5 Tryz.f5 rfl rfl rfl rfl rfl rfl rfl ⟨rfl, rfl, rfl, rfl, rfl⟩ rfl rfl rfl rfl rfl (by kernel_rfl) Tryz.func5 (by kernel_rfl)
  (of_decide_eq_true (by kernel_rfl)) (by unfold Func.isWrapper; first | (rw [if_pos (by decide +kernel)]; kernel_rfl) | (rw [if_neg (by decide +kernel)]; exact ⟨rfl, rfl⟩))
  (fun os started H enc _ => ones_lifted os started H enc)
theorem ones_holds : Rows.PrimOnesCardSaid :=
 Claim7.holds_tied_plain_at .later [] [.data, .data, .data] true (true, "9366f35d2321fe84c8e20a89f173fff2b7272aa926de1856f9b88b5a82c6e724") false
  ones_said (fun _ h => by cases h) (by kernel_rfl) (fun _ h => by cases h) primOnes_row_tie rfl ⟨rfl, rfl⟩ (by kernel_rfl) rfl
  (fun f fn hf hfn => by
   obtain rfl : f = 5 := Option.some.inj ((show Tryz.prog.funcNamed "gearbox/gearboxlaw11.PrimOnes" = some 5 by kernel_rfl).symm.trans hf) |>.symm
   obtain rfl : fn = Tryz.f5 := (Option.some.inj (Tryz.func5.symm.trans hfn)).symm
   exact ⟨by kernel_rfl, fun j t ht => by
    rw [Tryz.params5] at ht
    have hm : t ∈ [23, 27] := by simpa using Array.mem_of_getElem? ht
    have hall : ([23, 27].all fun u => !Tryz.prog.wantsStandIn u) = true := by kernel_rfl
    exact (show Tryz.prog.wantsStandIn t = false by simpa using List.all_eq_true.1 hall t hm)⟩)
  (by kernel_rfl)
#print axioms ones_holds
end Go.Proofs.YtnmhohfmonlfoaaGreatDoor

