import Derived.Test.YtbomedbbgfcncaaDoorT16
import Derived.Test.YtbomedbbgfcncaaDoorT8
import Derived.Test.YtbomedbbgfcncaaDoorS4d
set_option linter.unusedVariables false
set_option linter.unusedSimpArgs false
namespace Go.EX
def code4X : Nat → Option XFun
  | 98 => some x98S
  | 99 => some x99
  | 100 => some x100
  | 244 => some x244
  | 245 => some x245
  | 246 => some x246
  | 303 => some x303
  | 329 => some x329
  | 330 => some x330
  | 334 => some x334
  | 336 => some x336
  | 338 => some x338
  | 339 => some x339
  | 361 => some x361
  | 372 => some x372
  | 373 => some x373
  | 377 => some x377
  | 379 => some x379
  | 380 => some x380
  | 442 => some x442
  | 445 => some x445
  | 501 => some x501
  | 502 => some x502
  | 504 => some x504
  | 648 => some x648
  | 651 => some x651
  | 669 => some x669
  | 673 => some x673
  | 709 => some x709
  | 785 => some x785
  | 786 => some x786
  | _ => none
theorem code4X_yld : code4X yieldNo = none := by
  unfold code4X
  split <;> first | (rename_i h; exact absurd h (by decide)) | rfl
theorem text4X : TextCode code4X (ext4 dig) :=
  ⟨rfl, rfl, rfl, rfl, fun _ _ => rfl, rfl, fun _ _ => rfl, rfl, rfl, rfl, rfl, fun _ _ => rfl⟩
theorem ref4X : RefCode code4X := ⟨rfl, rfl, rfl, rfl, rfl, rfl⟩
theorem reads_twin {S : List Obj} (hw : ∀ o ∈ S, tObj.wf o) (hlb : S.length ≤ 140737488355328) : Reads tObj (.slice (tObj.row (S.map twinObj ++ [spObj])) 0 S.length (some (S.length + 1))) (S.map twinObj) := by
  refine ⟨fun x hx => ?_, by simpa using hlb, .inr ⟨_, 0, _, by rw [List.length_map], fun c hc => by cases hc; simp, ?_⟩⟩
  · obtain ⟨o, ho, rfl⟩ := List.mem_map.1 hx
    exact hw o ho
  · have hr : tObj.row (S.map twinObj ++ [spObj]) = tObj.row (S.map twinObj) ++ tObj.row [spObj] := by unfold Ty.row; simp
    have hl := row_len tObj (S.map twinObj)
    rw [hr]
    refine cut_mk ?_ hl
    rw [List.drop_zero, ← hl, List.take_left]
    rfl
theorem storeOK_twin {S : List Obj} (h : StoreOK S) : StoreOK (S.map twinObj) := by
  refine ⟨fun x hx => ?_, fun x hx => ?_, fun x hx => ?_⟩ <;> obtain ⟨o, ho, rfl⟩ := List.mem_map.1 hx
  · exact h.wf o ho
  · exact h.s o ho
  · exact h.l o ho
theorem showTexts_ok {sv : IV} {S : List Obj} (hr : Reads tObj sv S) (v : Val) (hw : tVal.wf v) : ∃ m, callW code4X (ext4 dig) 442 [.imm sv, .agg [.imm (.val (.int .u8 v.k)), int64 v.n]] [] = some (avb true, m) := by
  have hg := great_spec (code := code4X) (ext := ext4 dig) rfl rfl rfl rfl rfl rfl hr
  refine mem_of ?_
  rw [callW_fun code4X (ext4 dig) rfl]
  cases hgr : greatOf S with
  | true =>
    rw [hgr] at hg
    simp -implicitDefEqProofs [x442, hg]
  | false =>
    rw [hgr] at hg
    obtain ⟨hL, hS, hsum⟩ := great_false hr.1 hr.2.1 hgr
    have hO := storeOK_of hr.1 hr.2.1 hgr
    have hts := twinStore_spec (code := code4X) (ext := ext4 dig) rfl rfl rfl rfl hr hL hS
    have hls := leftStore_spec (code := code4X) (ext := ext4 dig) rfl rfl rfl rfl hr
    obtain ⟨m1, h1⟩ := text_spec text4X rfl rfl rfl rfl (reads_twin hr.1 hr.2.1) (storeOK_twin hO) v hw
    obtain ⟨m2, h2⟩ := refText_spec (ext := ext4 dig) ref4X hr hO v hw
    rw [textOf_twin, text_same] at h1
    generalize textR S v = q at h1 h2
    obtain ⟨q1, q2⟩ := q
    dsimp only at h1 h2
    generalize htr : tObj.row (S.map twinObj ++ [spObj]) = R at *
    have hown : (R.all IV.plain = true) ∨ ¬ (R.all IV.plain = true) := by cases R.all IV.plain <;> simp
    simp -implicitDefEqProofs [x442, hg, hts, h1, h2, hls]
end Go.EX

