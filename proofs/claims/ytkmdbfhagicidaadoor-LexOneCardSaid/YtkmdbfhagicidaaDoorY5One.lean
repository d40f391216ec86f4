import Derived.Test.YtkmdbfhagicidaaDoorK11
namespace Go.Proofs.YtkmdbfhagicidaaDoor
open Go.EX Go.ChangeShapes Go.WideShapes Go.ChangeAt Go.RowKit
set_option linter.unusedVariables false
theorem readsNum : ReadsAs Tryd.prog 2 (tInt .i64) := readsInt Tryd.underlying2
theorem readsByte : ReadsAs Tryd.prog 5 (tInt .u8) := readsInt Tryd.underlying5
theorem int_wf {n : Int} (h : (tInt .i64).wf n) : -9223372036854775808 ≤ n ∧ n ≤ 9223372036854775807 := wfI64.1 h
theorem byte_wf {n : Int} (h : (tInt .u8).wf n) : 0 ≤ n ∧ n ≤ 255 := by
 have h : (Lit.int .u8 n).wf = true := h
 have h1 : IntKind.min .u8 = 0 := by decide
 have h2 : IntKind.max .u8 = 255 := by decide
 simpa [Lit.wf, h1, h2] using h
theorem specOne : LawSpec Rows.lexOneSpec Tryd.f4.params.toList.length :=
 ⟨rfl, fun H ds h => match ds, h with | [_, _, _], _ => rfl⟩
set_option maxRecDepth 100000 in
theorem one_lifted (os : Os) (started : os.Started) (H : Type) (enc : TypeId × Value → H) :
  ReturnsInHanded {} Tryd.checked os 4 .any (fun w args => (Rows.lexOneSpec.pre enc Tryd.prog Tryd.f4 [] false w args ∧ laidMetH Tryd.prog laidTabs w) ∧ sizedMet enc Tryd.prog Tryd.f4 (OpenSpec.ofChange Rows.lexOneSpec) false w args)
   (Rows.lexOneSpec.post enc Tryd.prog Tryd.f4 false true false false) := by
 refine returnsInHanded_of_change_and (C := Tryd.checked) (X := fun w _ => laidMetH Tryd.prog laidTabs w) (fun _ _ _ hh h => h.of_heap hh) own started (by kernel_rfl) Tryd.func4
  (ChangeSpec.witness_shaped (enc := enc) (C := Tryd.checked) (os := os) (X := fun w _ => laidMetH Tryd.prog laidTabs w) false (World.doorLaid Tryd.prog 400 os) #[.int .i64 0, .string .empty, .int .u8 0] 8 rfl (World.shaped_of_RefB (by kernel_rfl) (by kernel_rfl)) (by kernel_rfl) (by kernel_rfl) (by kernel_rfl) (zcy os _)) ?_
 intro W base args ds gs before hval hW _ hwt hX _
 refine zgm runs specOne laidOut (by kernel_rfl) (tb := 4) (by kernel_rfl) Tryd.underlying4 (ArgsOf.cons readsNum (by kernel_rfl) (ArgsOf.cons readsText (by kernel_rfl) (ArgsOf.cons readsByte (by kernel_rfl) ArgsOf.nil))) ?_ W base args ds gs before hval hW hwt (znf hX)
 rintro l ⟨x, _, hx, rfl, y, _, hy, rfl, z, _, hz, rfl, rfl⟩
 exact ⟨_, zgs x (int_wf hx) y hy z (byte_wf hz)⟩
theorem one_said : Rows.LexOneSaid :=
 OpenClaim.holds_of_wide 4 Tryd.f4 rfl rfl rfl rfl rfl rfl rfl ⟨rfl, rfl, rfl, rfl, rfl⟩ rfl rfl rfl rfl rfl (by kernel_rfl) Tryd.func4 (by kernel_rfl)
  (of_decide_eq_true (by kernel_rfl)) (by unfold Func.isWrapper; first | (rw [if_pos (by decide +kernel)]; kernel_rfl) | (rw [if_neg (by decide +kernel)]; exact ⟨rfl, rfl⟩))
  (fun os started H enc _ => one_lifted os started H enc)
theorem one_holds : Rows.LexOneCardSaid :=
 Claim7.holds_tied_plain_at .later [] [.data, .data, .data, .sentinel, .sentinel] true (true, "83bdb765d53d6467723d91185c6a042fb2d0cac526c1d4978a4ea2a065883377") true
  one_said (fun _ h => by cases h) (by kernel_rfl) (fun _ h => by cases h) lexOne_row_tie rfl ⟨rfl, rfl⟩ (by kernel_rfl) rfl
  (fun f fn hf hfn => by
   obtain rfl : f = 4 := Option.some.inj ((show Tryd.prog.funcNamed "gearbox/gearboxlaw05.LexOne" = some 4 by kernel_rfl).symm.trans hf) |>.symm
   obtain rfl : fn = Tryd.f4 := (Option.some.inj (Tryd.func4.symm.trans hfn)).symm
   exact ⟨by kernel_rfl, fun j t ht => by
    rw [Tryd.params4] at ht
    have hm : t ∈ [2, 9, 5] := by simpa using Array.mem_of_getElem? ht
    have hall : ([2, 9, 5].all fun u => !Tryd.prog.wantsStandIn u) = true := by kernel_rfl
    exact (show Tryd.prog.wantsStandIn t = false by simpa using List.all_eq_true.1 hall t hm)⟩)
  (by kernel_rfl)
#print axioms one_holds
end Go.Proofs.YtkmdbfhagicidaaDoor

