import Derived.Test.YtbomedbbgfcncaaDoorT7
import Derived.Test.YtbomedbbgfcncaaDoorS4b
set_option linter.unusedVariables false
set_option linter.unusedSimpArgs false
namespace Go.EX
def code4L : Nat → Option XFun
  | 244 => some x244
  | 245 => some x245
  | 246 => some x246
  | 303 => some x303
  | 338 => some x338
  | 339 => some x339
  | 361 => some x361
  | 380 => some x380
  | 440 => some x440
  | 444 => some x444
  | 445 => some x445
  | 446 => some x446
  | 646 => some x646
  | 647 => some x647
  | 648 => some x648
  | 649 => some x649
  | 650 => some x650
  | 651 => some x651
  | 652 => some x652
  | 653 => some x653
  | 654 => some x654
  | 655 => some x655
  | 656 => some x656
  | 657 => some x657
  | 669 => some x669
  | 673 => some x673
  | 709 => some x709
  | 745 => some x745
  | 749 => some x749
  | 755 => some x755
  | 759 => some x759
  | 785 => some x785
  | 786 => some x786
  | _ => none
theorem code4L_yld : code4L yieldNo = none := by
  unfold code4L
  split <;> first | (rename_i h; exact absurd h (by decide)) | rfl
def ext4 (dg : Int → ByteArray) : Calls' := fun f a m =>
  if f = 674 then extCheck 674 674 a m
  else if f = 670 then extStr 670 670 a m
  else if f = 708 then match a with
    | [.imm (.val (.int .i64 n)), .imm (.val (.int .i64 10))] => if -9223372036854775808 ≤ n ∧ n ≤ 9223372036854775807 then some (.imm (.val (.string (dg n))), m) else none
    | _ => none
  else none
def dig1 (n : Int) : ByteArray := if n = 1 then ⟨#[49]⟩ else dig n
theorem dig1_eq : dig1 = dig := by
  funext n
  unfold dig1
  split
  · rename_i h
    subst h
    simp [dig, Lib.itoa, Lib.decDigits]
  · rfl
theorem lives4 : callW code4L (ext4 dig) 444 [] [] = some (avb true, []) := by
  rw [← dig1_eq]
  exact (callW_some code4L (ext4 dig1)).2 ⟨60, by kernel_rfl⟩
theorem ext4_ok {num : Names} {P : Program} (h1 : ExtOK num P (extCheck 674)) (h2 : ExtOK num P (extStr 670)) (h3 : ExtOK num P (extItoa 708)) : ExtOK num P (ext4 dig) := by
  intro f args m r m' C vals hc hm hl hr
  unfold ext4 at hc
  split at hc
  · rename_i hf
    exact h1 f args m r m' C vals (by rw [hf]; exact hc) hm hl hr
  split at hc
  · rename_i hf
    exact h2 f args m r m' C vals (by rw [hf]; exact hc) hm hl hr
  split at hc
  · rename_i hf
    exact h3 f args m r m' C vals (by rw [hf]; exact hc) hm hl hr
  · cases hc
theorem text4L : TextCode code4L (ext4 dig) :=
  ⟨rfl, rfl, rfl, rfl, fun _ _ => rfl, rfl, fun _ _ => rfl, rfl, rfl, rfl, rfl, fun _ _ => rfl⟩
theorem size_part {o : Obj} : ∀ (S : List Obj) (n : Int), (∀ p ∈ S, tObj.wf p) → o ∈ S → 0 ≤ n → sizeGo n S ≤ 1048576 → objSize o ≤ 1048576
  | [], n, _, h, _, _ => by cases h
  | p :: r, n, hw, h, h0, hz => by
    unfold sizeGo at hz
    have hp := objSize_bd p (hw p (List.mem_cons_self ..))
    split at hz
    · rcases List.mem_cons.1 h with rfl | h
      · have hmono : ∀ (r : List Obj) (n : Int), (∀ p ∈ r, tObj.wf p) → n ≤ sizeGo n r := by
          intro r
          induction r with
          | nil => intro n _; exact Int.le_refl _
          | cons q r ih =>
            intro n hq
            unfold sizeGo
            have := objSize_bd q (hq q (List.mem_cons_self ..))
            split
            · have := ih (n + objSize q) fun p hp => hq p (List.mem_cons_of_mem _ hp)
              omega
            · exact Int.le_refl _
        have := hmono r (n + objSize o) fun p hp => hw p (List.mem_cons_of_mem _ hp)
        omega
      · exact size_part r _ (fun p hp => hw p (List.mem_cons_of_mem _ hp)) h (by omega) hz
    · omega
theorem storeOK_of {S : List Obj} (hwf : ∀ o ∈ S, tObj.wf o) (hlb : S.length ≤ 140737488355328) (hg : greatOf S = false) : StoreOK S := by
  obtain ⟨hl, hn, hs⟩ := great_false hwf hlb hg
  refine ⟨hwf, fun o ho => ?_, hl⟩
  have hz : sizeGo S.length S ≤ 1048576 := by
    unfold greatOf at hg
    split at hg
    · cases hg
    · simp only [Bool.or_eq_false_iff, decide_eq_false_iff_not] at hg
      omega
  have := size_part (o := o) S S.length hwf ho (by omega) hz
  have hq := o.l.ok.2.1
  unfold objSize at this
  split at this <;> omega
theorem showLong_ok {sv : IV} {S : List Obj} (hr : Reads tObj sv S) (v : Val) (hw : tVal.wf v) : ∃ m, callW code4L (ext4 dig) 440 [.imm sv, .agg [.imm (.val (.int .u8 v.k)), int64 v.n]] [] = some (avb true, m) := by
  have hg := great_spec (code := code4L) (ext := ext4 dig) rfl rfl rfl rfl rfl rfl hr
  have hl := lives4
  refine mem_of ?_
  rw [callW_fun code4L (ext4 dig) rfl]
  cases hgr : greatOf S with
  | true =>
    rw [hgr] at hg
    simp -implicitDefEqProofs [x440, hl, hg]
  | false =>
    rw [hgr] at hg
    have hS := storeOK_of hr.1 hr.2.1 hgr
    obtain ⟨m, ht⟩ := text_spec text4L rfl rfl rfl rfl hr hS v hw
    unfold textOf at ht
    by_cases h4 : 4096 < (tellV S 9 v .empty).size
    · rw [if_pos h4] at ht
      simp -implicitDefEqProofs [x440, hl, hg, ht]
    · rw [if_neg h4] at ht
      have h5 : ((tellV S 9 v .empty).size : Int) ≤ 4096 := by omega
      simp -implicitDefEqProofs [x440, hl, hg, ht, h5]
end Go.EX

