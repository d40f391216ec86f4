import Derived.Test.YtedddogbgdbpmaaDoorK11
import Derived.Test.YtedddogbgdbpmaaDoorK17
import Derived.Test.YtedddogbgdbpmaaDoorTie
import Derived.Test.YtedddogbgdbpmaaDoorCards
import Derived.ProofKit
import Derived.LaidMore
import Derived.OpenShut
import Derived.Stop.Joined
import Derived.Stop.LaidErr
import Derived.JoinedOf
import Derived.SizedLaws
import Derived.SevenTiedAt
import Derived.Lib.LaidTab
import Derived.Test.YtedddogbgdbpmaaDoorExt
namespace Go.Proofs.YtedddogbgdbpmaaDoor
open Go.EX Go.ChangeShapes Go.WideShapes Go.ChangeAt Go.RowKit
set_option linter.unusedVariables false
theorem own : ownKnob Tryd.prog.godebug = none := by kernel_rfl
theorem laidOut : laidOutB Tryd.prog = true := by kernel_rfl
abbrev laidTabs : List (String × DataW Unit) := [("math/bits.deBruijn32tab", Rows.laid_math_bits_deBruijn32tab), ("math/bits.deBruijn64tab", Rows.laid_math_bits_deBruijn64tab), ("internal/strconv.uint64pow10", Rows.laid_internal_strconv_uint64pow10)]
theorem tab_data : (Rows.laid_internal_strconv_uint64pow10 : DataW Unit) = Lib.tabData .u64 Lib.pow10Tab := by kernel_rfl
theorem tabs_of {W : World} (h : laidMetH Tryd.prog laidTabs W) : TabsIn Tryd.prog [("internal/strconv.uint64pow10", .u64, Lib.pow10Tab)] (fun b => b < W.heap.size) W := by
 have hl : laidMet Tryd.prog [("internal/strconv.uint64pow10", Lib.tabData .u64 Lib.pow10Tab)] W := by
  have h2 : laidMet Tryd.prog laidTabs W := h
  rw [laidTabs, tab_data] at h2
  exact h2.tail.tail
 have hg : Tryd.prog.globalNamed "internal/strconv.uint64pow10" = some 0 := by kernel_rfl
 have ht := Lib.tabIs_of_head (t := 146) (e := 139) (n := 20) hg (by kernel_rfl) Tryd.underlying146 Tryd.underlying139 (by kernel_rfl) (by kernel_rfl) hl
 intro t ht'
 simp only [List.mem_singleton] at ht'
 subst ht'
 refine ⟨⟨0, hg, ?_⟩, ht⟩
 have hv := ht
 unfold Lib.TabIs World.var? at hv
 rw [hg] at hv
 simp only [Option.bind_some] at hv; show 0 < W.heap.size
 by_cases hlt : 0 < W.heap.size
 ·exact hlt
 ·rw [Array.getElem?_eq_none (by omega)] at hv
  cases hv
theorem door_met (os : Os) (args : Array Value) : laidMetH Tryd.prog laidTabs ((World.doorLaid Tryd.prog 400 os).forCall (fun _ _ => 0) ⟨#[], args, []⟩).memory :=
 laidMetH_of_parts3 (fuel := 8) (laidMet_of_run' 8 (by kernel_rfl) (by kernel_rfl)) (by kernel_rfl) (by kernel_rfl)
theorem readsVal : ReadsAs Tryd.prog 28 tVal :=
 readsVia (σ := tVal) (readsStruct (τ := tPair (tInt .u8) (tPair (tInt .i64) tNil)) Tryd.underlying28 (readsCons (readsInt Tryd.underlying26) rfl (by kernel_rfl) (readsCons (readsInt Tryd.underlying2) rfl (by kernel_rfl) (readsNil _))) (by kernel_rfl))
  (fun (x : Int × Int × Unit) => (⟨x.1, x.2.1⟩ : Val)) (fun _ => rfl) (fun _ h => ⟨h.1, h.2.1⟩) rfl
theorem readsVals : ReadsAs Tryd.prog 42 (tSl tVal) := readsSl Tryd.underlying42 readsVal (by kernel_rfl) (by decide) (of_decide_eq_true (by kernel_rfl))
theorem readsObj : ReadsAs Tryd.prog 81 tObj :=
 readsVia (σ := tObj) (readsStruct (τ := tPair (tInt .u8) (tPair tStr (tPair (tSl tVal) (tPair (tInt .i64) (tPair (tInt .i64) tNil))))) Tryd.underlying81
  (readsCons (readsInt Tryd.underlying26) rfl (by kernel_rfl) (readsCons (readsStr Tryd.underlying9) rfl (by kernel_rfl) (readsCons readsVals rfl (by kernel_rfl) (readsCons (readsInt Tryd.underlying3) rfl (by kernel_rfl) (readsCons (readsInt Tryd.underlying3) rfl (by kernel_rfl) (readsNil _)))))) (by kernel_rfl))
  (fun (x : Int × ByteArray × Sl tVal × Int × Int × Unit) => Go.EX.Obj.mk x.1 x.2.1 x.2.2.1 x.2.2.2.1 x.2.2.2.2.1) (fun _ => rfl) (fun _ h => ⟨h.1, h.2.1, h.2.2.2.1, h.2.2.2.2.1⟩) rfl
theorem readsStore : ReadsAs Tryd.prog 25 (tSl tObj) := readsSl Tryd.underlying25 readsObj (by kernel_rfl) (by decide) (of_decide_eq_true (by kernel_rfl))
theorem readsThree : ReadsAs Tryd.prog 39 (tPair tVal (tPair tVal tVal)) := readsArr3 Tryd.underlying39 readsVal (by kernel_rfl) (by kernel_rfl)
theorem runsL : Runs Tryd.prog (Names.tabs num Tryd.prog [powTab]) code11 noE :=
 ⟨by kernel_rfl, fnsL, zlm, nz, zc2, fun _ _ _ _ _ _ => Iff.rfl, fun _ _ _ h => h, fun _ h1 h2 => ⟨h1, h2⟩⟩
theorem runsW : Runs Tryd.prog (Names.tabs num Tryd.prog [powTab]) code11w noE :=
 ⟨by kernel_rfl, fnsW, zlm, nz, zc4, fun _ _ _ _ _ _ => Iff.rfl, fun _ _ _ h => h, fun _ h1 h2 => ⟨h1, h2⟩⟩
theorem runsP (c : Nat) : Runs Tryd.prog (Names.tabs num Tryd.prog [powTab]) (code11n c) extP :=
 ⟨by kernel_rfl, fnsN, zfp (zrh runsL).fn, nz, rfl, fun _ _ _ _ _ _ => Iff.rfl, fun _ _ _ h => h, fun _ h1 h2 => ⟨h1, h2⟩⟩
theorem runsK (i : Nat) : Runs Tryd.prog (Names.tabs num Tryd.prog [powTab]) code11k2 (extK i) :=
 ⟨by kernel_rfl, fns, zfm libs (zfm (zfl (zrh runsL).fn) (zfm (zfl (zrh (runsP (i * 5 + 2))).fn) (zfm (zfp (zrh runsL).fn) (zfp (zrh runsW).fn)))),
  nz, zc3, fun _ _ _ _ _ _ => Iff.rfl, fun _ _ _ h => h, fun _ h1 h2 => ⟨h1, h2⟩⟩
theorem specKeeps : LawSpec Rows.primKeepsSpec Tryd.f4.params.toList.length :=
 ⟨rfl, fun H ds h => match ds, h with | [_, _], _ => rfl⟩
set_option maxRecDepth 100000 in
theorem keeps_lifted (os : Os) (started : os.Started) (H : Type) (enc : TypeId × Value → H) :
  ReturnsInHanded {} Tryd.checked os 4 .any (fun w args => (Rows.primKeepsSpec.pre enc Tryd.prog Tryd.f4 [] false w args ∧ laidMetH Tryd.prog laidTabs w) ∧ sizedMet enc Tryd.prog Tryd.f4 (OpenSpec.ofChange Rows.primKeepsSpec) false w args)
   (Rows.primKeepsSpec.post enc Tryd.prog Tryd.f4 false true false false) := by
 refine returnsInHanded_of_change_and (C := Tryd.checked) (X := fun w _ => laidMetH Tryd.prog laidTabs w) (fun _ _ _ hh h => h.of_heap hh) own started (by kernel_rfl) Tryd.func4
  (ChangeSpec.witness_shaped (enc := enc) (C := Tryd.checked) (os := os) (X := fun w _ => laidMetH Tryd.prog laidTabs w) false (World.doorLaid Tryd.prog 400 os) #[.slice none 0 0, .agg #[.int .u8 0, .int .i64 0, .int .u8 0, .int .i64 0, .int .u8 0, .int .i64 0]] 8 rfl (World.shaped_of_RefB (by kernel_rfl) (by kernel_rfl)) (by kernel_rfl) (by kernel_rfl) (by kernel_rfl) (door_met os _)) ?_
 intro W base args ds gs before hval hW _ hwt hX _
 refine zis runsK specKeeps laidOut (by kernel_rfl) (tb := 4) (by kernel_rfl) Tryd.underlying4 (ArgsOf.cons readsStore (by kernel_rfl) (ArgsOf.cons readsThree (by kernel_rfl) ArgsOf.nil)) ?_ W base args ds gs before hval hW hwt (tabs_of hX)
 rintro l ⟨x, _, _, rfl, ⟨a, b, c⟩, _, hy, rfl, rfl⟩
 exact zn3 x.ok (v0 := a) (v1 := b) (v2 := c) (by
  intro v hv
  simp only [List.mem_cons, List.not_mem_nil, or_false] at hv
  rcases hv with rfl | rfl | rfl
  ·exact hy.1
  ·exact hy.2.1
  ·exact hy.2.2)
theorem keeps_said : Rows.PrimKeepsSaid :=
 OpenClaim.holds_of_wide 4 Tryd.f4 rfl rfl rfl rfl rfl rfl rfl ⟨rfl, rfl, rfl, rfl, rfl⟩ rfl rfl rfl rfl rfl (by kernel_rfl) Tryd.func4 (by kernel_rfl)
  (of_decide_eq_true (by kernel_rfl)) (by unfold Func.isWrapper; first | (rw [if_pos (by decide +kernel)]; kernel_rfl) | (rw [if_neg (by decide +kernel)]; exact ⟨rfl, rfl⟩))
  (fun os started H enc _ => keeps_lifted os started H enc)
theorem keeps_holds : Rows.PrimKeepsCardSaid :=
 Claim7.holds_tied_plain_at .later [] [.data, .data, .data] true (true, "82e1a04a533cce72eca55e4692a70d534ca31942205c9a459704e4a3a2400854") false
  keeps_said (fun _ h => by cases h) (by kernel_rfl) (fun _ h => by cases h) primKeeps_row_tie rfl ⟨rfl, rfl⟩ (by kernel_rfl) rfl
  (fun f fn hf hfn => by
   obtain rfl : f = 4 := Option.some.inj ((show Tryd.prog.funcNamed "gearbox/gearboxlaw11.PrimKeeps" = some 4 by kernel_rfl).symm.trans hf) |>.symm
   obtain rfl : fn = Tryd.f4 := (Option.some.inj (Tryd.func4.symm.trans hfn)).symm
   exact ⟨by kernel_rfl, fun j t ht => by
    rw [Tryd.params4] at ht
    have hm : t ∈ [25, 39] := by simpa using Array.mem_of_getElem? ht
    have hall : ([25, 39].all fun u => !Tryd.prog.wantsStandIn u) = true := by kernel_rfl
    exact (show Tryd.prog.wantsStandIn t = false by simpa using List.all_eq_true.1 hall t hm)⟩)
  (by kernel_rfl)
#print axioms keeps_holds
end Go.Proofs.YtedddogbgdbpmaaDoor

