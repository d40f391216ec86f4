/-
  EX: law 04: ShowChecks.
-/
import Derived.Test.YtbomedbbgfcncaaS4y
import Derived.Test.YtbomedbbgfcncaaS4k
set_option linter.unusedVariables false
set_option linter.unusedSimpArgs false
namespace Go.EX

theorem val_twin (S : List Obj) (v : Val) : valOf (S.map twinObj) v = valOf S v := by
  unfold valOf; rw [leads_twin]
theorem held_twin (S : List Obj) (l : List Val) (c : Bool) : heldOf (S.map twinObj) l c = heldOf S l c := by
  unfold heldOf; simp only [val_twin]
theorem sAt_twin (S : List Obj) (i : Nat) : sAt (S.map twinObj) i = sAt S i := by
  unfold sAt; rw [List.getElem?_map]
  cases S[i]? with
  | none => rfl
  | some o => rfl
theorem same_twin (S : List Obj) (a b : Val) : sameOf (S.map twinObj) a b = sameOf S a b := by
  unfold sameOf; simp only [leads_twin, sAt_twin]
theorem keys_twin (S : List Obj) (l : List Val) : KeysOk (S.map twinObj) l ↔ KeysOk S l := by
  unfold KeysOk; simp only [same_twin]
theorem obj_twin (S : List Obj) (o : Obj) : ObjOk (S.map twinObj) (twinObj o) ↔ ObjOk S o := by
  have h1 : (twinObj o).k = o.k := rfl
  have h2 : (twinObj o).s = o.s := rfl
  have h3 : (twinObj o).l.xs = o.l.xs := rfl
  have h4 : (twinObj o).room = o.room := rfl
  have h5 : (twinObj o).fn = o.fn := rfl
  unfold ObjOk; rw [h1, h2, h3, h4, h5]; simp only [held_twin, keys_twin]
theorem check_twin (S : List Obj) (v : Val) : CheckOk (S.map twinObj) v ↔ CheckOk S v := by
  unfold CheckOk
  rw [val_twin]
  constructor
  · rintro ⟨h1, h2⟩
    refine ⟨h1, fun k o hk ho => (obj_twin S o).1 (h2 k _ ((reach_twin S [v] k).2 hk) (by rw [List.getElem?_map, ho]; rfl))⟩
  · rintro ⟨h1, h2⟩
    refine ⟨h1, fun k o hk ho => ?_⟩
    rw [List.getElem?_map, Option.map_eq_some_iff] at ho
    obtain ⟨p, hp, rfl⟩ := ho
    exact (obj_twin S p).2 (h2 k p ((reach_twin S [v] k).1 hk) hp)

def code4c : Nat → Option XFun
  | 439 => some x439
  | 500 => some x500
  | 502 => some x502
  | 503 => some x503
  | 506 => some x506
  | 507 => some x507
  | 508 => some x508
  | 509 => some x509
  | 510 => some x510
  | 646 => some x646
  | 647 => some x647
  | 650 => some x650
  | 652 => some x652
  | 653 => some x653
  | 656 => some x656
  | 745 => some x745
  | 755 => some x755
  | 749 => some x749
  | 759 => some x759
  | 654 => some x654
  | 655 => some x655
  | 651 => some x651
  | 445 => some x445
  | 377 => some x377
  | 379 => some x379
  | 334 => some x334
  | 336 => some x336
  | 303 => some x303
  | 361 => some x361
  | 373 => some x373
  | 330 => some x330
  | 339 => some x339
  | 372 => some x372
  | 329 => some x329
  | 338 => some x338
  | 380 => some x380
  | _ => none

section
variable {code : Nat → Option XFun} {ext : Calls'}

theorem showChecks_ok (h : ∀ g f, code4c g = some f → code g = some f) {sv : IV} {S : List Obj} (hr : Reads tObj sv S) (v : Val) (hw : tVal.wf v) : ∃ m, callW code ext 439 [.imm sv, .agg [.imm (.val (.int .u8 v.k)), int64 v.n]] [] = some (avb true, m) := by
  have hlen := reads_len hr
  have hg := great_spec (ext := ext) (h 303 _ rfl) (h 380 _ rfl) (h 338 _ rfl) (h 339 _ rfl) (h 361 _ rfl) (h 445 _ rfl) hr
  refine ⟨[], ?_⟩
  rw [callW_fun code ext (h 439 _ rfl)]
  cases hgr : greatOf S with
  | true =>
    rw [hgr] at hg
    simp -implicitDefEqProofs [x439, hg]
  | false =>
    rw [hgr] at hg
    obtain ⟨hL, hS, hsum⟩ := great_false hr.1 hr.2.1 hgr
    have hts := twinStore_spec (ext := ext) (h 379 _ rfl) (h 372 _ rfl) (h 373 _ rfl) (h 377 _ rfl) hr hL hS
    have hls := leftStore_spec (ext := ext) (h 336 _ rfl) (h 329 _ rfl) (h 330 _ rfl) (h 334 _ rfl) hr
    have hun := unm_start S
    obtain ⟨b, hc, hcb⟩ := check_spec (ext := ext) (h 651 _ rfl) (h 656 _ rfl) (h 653 _ rfl) (h 759 _ rfl) (h 749 _ rfl) (h 650 _ rfl) (h 652 _ rfl) (h 647 _ rfl) (h 745 _ rfl) (h 755 _ rfl) (h 654 _ rfl) (h 655 _ rfl) (h 646 _ rfl) (S.map twinObj) (by simpa using hS) v hw
    obtain ⟨b', hc', hcb'⟩ := refCheck_spec (ext := ext) (h 502 _ rfl) (h 510 _ rfl) (h 506 _ rfl) (h 503 _ rfl) (h 507 _ rfl) (h 508 _ rfl) (h 509 _ rfl) (h 500 _ rfl) hr v hw (by omega) hS
    rw [check_twin, ← hcb'] at hcb
    have hbb : b = b' := by cases b <;> cases b' <;> simp_all
    subst hbb
    simp only [storeRow, List.length_map] at hc
    generalize htr : tObj.row (S.map twinObj ++ [spObj]) = R at *
    have hown : (R.all IV.plain = true) ∨ ¬ (R.all IV.plain = true) := by cases R.all IV.plain <;> simp
    simp -implicitDefEqProofs [x439, hg, hts, hc, hc', hls]

end
end Go.EX
