import Derived.Test.YtbomedbbgfcncaaDoorT7
import Derived.Test.YtbomedbbgfcncaaDoorS4b
set_option linter.unusedVariables false
set_option linter.unusedSimpArgs false
namespace Go.EX
def ext4 (dg : Int → ByteArray) : Calls' := fun f a m =>
  if f = 674 then extCheck 674 674 a m
  else if f = 670 then extStr 670 670 a m
  else if f = 708 then match a with
    | [.imm (.val (.int .i64 n)), .imm (.val (.int .i64 10))] => if -9223372036854775808 ≤ n ∧ n ≤ 9223372036854775807 then some (.imm (.val (.string (dg n))), m) else none
    | _ => none
  else none
theorem ext4_ok {num : Names} {P : Program} (h1 : ExtOK num P (extCheck 674)) (h2 : ExtOK num P (extStr 670)) (h3 : ExtOK num P (extItoa 708)) : ExtOK num P (ext4 dig) := by
  intro f args m r m' C vals hc hm hl hr
  unfold ext4 at hc
  split at hc
  · rename_i hf
    exact h1 f args m r m' C vals (by rw [hf]; exact hc) hm hl hr
  split at hc
  · rename_i hf
    exact h2 f args m r m' C vals (by rw [hf]; exact hc) hm hl hr
  split at hc
  · rename_i hf
    exact h3 f args m r m' C vals (by rw [hf]; exact hc) hm hl hr
  · cases hc
theorem size_part {o : Obj} : ∀ (S : List Obj) (n : Int), (∀ p ∈ S, tObj.wf p) → o ∈ S → 0 ≤ n → sizeGo n S ≤ 1048576 → objSize o ≤ 1048576
  | [], n, _, h, _, _ => by cases h
  | p :: r, n, hw, h, h0, hz => by
    unfold sizeGo at hz
    have hp := objSize_bd p (hw p (List.mem_cons_self ..))
    split at hz
    · rcases List.mem_cons.1 h with rfl | h
      · have hmono : ∀ (r : List Obj) (n : Int), (∀ p ∈ r, tObj.wf p) → n ≤ sizeGo n r := by
          intro r
          induction r with
          | nil => intro n _; exact Int.le_refl _
          | cons q r ih =>
            intro n hq
            unfold sizeGo
            have := objSize_bd q (hq q (List.mem_cons_self ..))
            split
            · have := ih (n + objSize q) fun p hp => hq p (List.mem_cons_of_mem _ hp)
              omega
            · exact Int.le_refl _
        have := hmono r (n + objSize o) fun p hp => hw p (List.mem_cons_of_mem _ hp)
        omega
      · exact size_part r _ (fun p hp => hw p (List.mem_cons_of_mem _ hp)) h (by omega) hz
    · omega
theorem storeOK_of {S : List Obj} (hwf : ∀ o ∈ S, tObj.wf o) (hlb : S.length ≤ 140737488355328) (hg : greatOf S = false) : StoreOK S := by
  obtain ⟨hl, hn, hs⟩ := great_false hwf hlb hg
  refine ⟨hwf, fun o ho => ?_, hl⟩
  have hz : sizeGo S.length S ≤ 1048576 := by
    unfold greatOf at hg
    split at hg
    · cases hg
    · simp only [Bool.or_eq_false_iff, decide_eq_false_iff_not] at hg
      omega
  have := size_part (o := o) S S.length hwf ho (by omega) hz
  have hq := o.l.ok.2.1
  unfold objSize at this
  split at this <;> omega
end Go.EX

