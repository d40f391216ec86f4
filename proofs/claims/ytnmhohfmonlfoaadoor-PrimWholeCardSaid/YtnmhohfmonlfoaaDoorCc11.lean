import Derived.Test.YtnmhohfmonlfoaaDoorC11
import Derived.Test.YtnmhohfmonlfoaaDoorK4
set_option linter.unusedVariables false
set_option linter.unusedSimpArgs false
namespace Go.EX
def code11 : Nat → Option XFun
  | 206 => some x206
  | 207 => some x207
  | 209 => some x209
  | 210 => some x210
  | 211 => some x211
  | 212 => some x212
  | 213 => some x213
  | 214 => some x214
  | 215 => some x215
  | 216 => some x216
  | 217 => some x217
  | 218 => some x218
  | 219 => some x219
  | 485 => some x485
  | 489 => some x489
  | 491 => some x491
  | 578 => some x578
  | 579 => some x579
  | 580 => some x580
  | 581 => some x581
  | 582 => some x582
  | 583 => some x583
  | 584 => some x584
  | 585 => some x585
  | 586 => some x586
  | 587 => some x587
  | 588 => some x588
  | 589 => some x589
  | 627 => some x627
  | 630 => some x630
  | 631 => some x631
  | 632 => some x632
  | 633 => some x633
  | 636 => some x636
  | 639 => some x639
  | 640 => some x640
  | 641 => some x641
  | 642 => some x642
  | 643 => some x643
  | 740 => some x740
  | 741 => some x741
  | 742 => some x742
  | 743 => some x743
  | 749 => some x749
  | 759 => some x759
  | 646 => some x646
  | 647 => some x647
  | 650 => some x650
  | 651 => some x651
  | 652 => some x652
  | 653 => some x653
  | 654 => some x654
  | 655 => some x655
  | 656 => some x656
  | 745 => some x745
  | 755 => some x755
  | _ => none
theorem code11_yld : code11 yieldNo = none := by
  unfold code11
  split <;> first | (rename_i h; exact absurd h (by decide)) | rfl
theorem lives11 : callW code11 (fun _ _ _ => none) 489 [] [] = some (avb true, []) := (callW_some code11 (fun _ _ _ => none)).2 ⟨60, by kernel_rfl⟩
end Go.EX

