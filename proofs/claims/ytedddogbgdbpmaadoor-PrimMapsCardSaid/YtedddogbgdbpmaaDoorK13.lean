import Derived.Test.YtedddogbgdbpmaaDoorK11
import Derived.Test.YtedddogbgdbpmaaDoorK9
import Derived.Test.YtedddogbgdbpmaaDoorK12
set_option linter.unusedVariables false
set_option linter.unusedSimpArgs false
namespace Go.EX
abbrev noExt : Calls' := fun _ _ _ => none
noncomputable def extM : Calls' := extOr (extOne 489 (callW code11 noExt)) (extTag 646 (callW code11 noExt))
theorem zbd {code : Nat → Option XFun} {ext : Calls'} {g : Nat} {sv : IV} {S : List Obj} (h651 : code 651 = some x651) (hr : Reads tObj sv S) {rest : List AV} {r : AV × Mem} (h : ∀ {sA : AV} {t : TP}, StoreT code ext sA t S → callW code ext g (sA :: rest) [] = some r) :
  extTag g (callW code ext) g (.imm sv :: rest) [] = some r := by
 by_cases h0 : S.length = 0
 ·have : S = [] := List.eq_nil_of_length_eq_zero h0
  subst this
  have h := h (zn7 h651 ⟨0, 0, [], 0⟩ hr)
  rcases hr.2.2 with ⟨rfl, _⟩ | ⟨row, off, cap, rfl, _⟩
  ·unfold extTag
   rw [if_pos rfl]
   exact h
  ·unfold extTag
   rw [if_pos rfl]
   exact h
 ·obtain ⟨row, off, cap, rfl, _⟩ := zld hr (List.getElem?_eq_getElem (by omega : 0 < S.length))
  exact zd7 h0 fun b a => h (zn8 (t := ⟨b, a, row, off⟩) h651 S cap hr)
theorem checkM {sv : IV} {S : List Obj} (hr : Reads tObj sv S) (hb : S.length ≤ 1048576) (v : Val) (hv : tVal.wf v) (hc : CheckOk S v) :
  callW code11m extM 646 [.imm sv, .agg [.imm (.val (.int .u8 v.k)), int64 v.n]] [] = some (avb true, []) := by
 rw [zbj code11m extM rfl (by decide)]
 unfold extM
 have h1 : extOne 489 (callW code11 noExt) 646 [.imm sv, .agg [.imm (.val (.int .u8 v.k)), int64 v.n]] [] = none := by unfold extOne; rw [if_neg (by decide)]
 unfold extOr
 rw [h1]
 refine zbd rfl hr fun hT => ?_
 obtain ⟨b, h, hbo⟩ := zbx hT rfl rfl rfl rfl rfl rfl rfl rfl rfl rfl rfl rfl hb v hv
 have : b = true := hbo.2 hc
 rw [← this]
 exact h
theorem mapCode : MapCode code11m extM := ⟨rfl, rfl, rfl, rfl, rfl, rfl, rfl, rfl, rfl, rfl, rfl, rfl, rfl, rfl, rfl, rfl, rfl, rfl, rfl, rfl, rfl, rfl, rfl, rfl, rfl, rfl, rfl, rfl, rfl⟩
theorem fineM {P : List (Int × Int)} {room : Int} (h : MapOK P room) (vs : List Val) (hv : ∀ v ∈ vs, v = ⟨5, 1⟩ ∨ ∃ n, v = ⟨2, n⟩ ∧ (Lit.int IntKind.i64 n).wf = true) : Fine code11m extM (stP P room) vs := by
 intro v hm
 have hr := zn1 h
 rcases hv v hm with rfl | ⟨n, rfl, hn⟩
 ·exact checkM hr (by simp) ⟨5, 1⟩ ⟨wfU8.2 ⟨by decide, by decide⟩, wfI64.2 ⟨by decide, by decide⟩⟩ (zb0 h)
 ·exact checkM hr (by simp) ⟨2, n⟩ ⟨(wfU8.2 ⟨by decide, by decide⟩ : (tInt IntKind.u8).wf 2), hn⟩ (zbz h n)
theorem put_M {P : List (Int × Int)} {room : Int} (h : MapOK P room) (hl : P.length < 400) {k x : Int} (hk : (Lit.int IntKind.i64 k).wf = true) (hx : (Lit.int IntKind.i64 x).wf = true) :
  ∃ room' w, MapOK (putR P k x) room' ∧ ∀ s, exView (callW code11m extM) s 636 [.imm (stP P room), mapV, numV k, numV x] = some (.agg [.imm (stP (putR P k x) room'), .imm (.val (.int .u8 0)), int64 0, emptyS, int64 w], s) := by
 have hm := h.put hk hx hl
 have hf3 : Fine code11m extM (stP P room) (put3v k x) := fineM h _ fun v hv => by
  simp only [put3v, List.mem_cons, List.not_mem_nil, or_false] at hv
  rcases hv with rfl | rfl | rfl
  ·exact .inl rfl
  ·exact .inr ⟨k, rfl, hk⟩
  ·exact .inr ⟨x, rfl, hx⟩
 have hr := h.rm
 have h0 := (zkt P k x).2
 cases hf : findP P k with
 | some i =>
  obtain ⟨y, hy⟩ := zep hf
  rw [hf] at hm
  obtain ⟨w, hw⟩ := zkk mapCode P (by omega) room k x y ⟨by omega, by omega⟩ i hf hy hf3
  rw [← zks (x := x) hf] at hw
  exact ⟨_, w, hm, zkw mapCode P _ h0 room _ k x w hw⟩
 | none =>
  rw [hf] at hm
  by_cases hP : P.length = 0
  ·have : P = [] := List.eq_nil_of_length_eq_zero hP
   subst this
   have hz := h.zero rfl
   subst hz
   obtain ⟨w, hw⟩ := zkj mapCode k x hf3
   exact ⟨8, w, hm, zkw mapCode [] _ h0 0 8 k x w hw⟩
  ·obtain ⟨w, hw⟩ := zkn mapCode P hP (by omega) room k x ⟨by omega, by omega⟩ hf hf3
   rw [← zkv (x := x) hf] at hw
   exact ⟨_, w, hm, zkw mapCode P _ h0 room _ k x w hw⟩
theorem get_M {P : List (Int × Int)} {room : Int} (h : MapOK P room) {k x : Int} (hx : lookP P k = some x) (s : St) :
  exView (callW code11m extM) s 630 [.imm (stP P room), mapV, numV k] = some (.agg [.imm (stP P room), .imm (.val (.int .u8 2)), int64 x, emptyS, int64 0], s) := by
 obtain ⟨i, hf, hi⟩ := zg8 hx
 have hil := (List.getElem?_eq_some_iff.1 hi).1
 have hk := (h.wf _ (List.mem_of_getElem? hi)).1
 have hr := h.rm
 have hl := h.len
 have hf2 : Fine code11m extM (stP P room) [⟨5, 1⟩, ⟨2, k⟩] := fineM h _ fun v hv => by
  simp only [List.mem_cons, List.not_mem_nil, or_false] at hv
  rcases hv with rfl | rfl
  ·exact .inl rfl
  ·exact .inr ⟨k, rfl, hk⟩
 exact zff mapCode P (by omega) room k x (zkl mapCode P (by omega) room k x ⟨by omega, by omega⟩ i hf hi hf2) s
theorem len_M {P : List (Int × Int)} {room : Int} (h : MapOK P room) (s : St) : exView (callW code11m extM) s 631 [.imm (stP P room), mapV] = some (.agg [.imm (stP P room), .imm (.val (.int .u8 2)), int64 P.length, emptyS, int64 0], s) := by
 have hr := h.rm
 have hl := h.len
 have hf1 : Fine code11m extM (stP P room) [⟨5, 1⟩] := fineM h _ fun v hv => .inl (List.mem_singleton.1 hv)
 exact zgz mapCode P room (zkm mapCode P (by omega) room ⟨by omega, by omega⟩ hf1) s
theorem zhk : (callN code11m extM 60 633 [.imm (.val (.slice none 0 0)), .imm (.val (.slice none 0 0))] []).bind (fun r => (frz r.2 r.1).map fun v => (v, r.1.plain)) = some (.agg [.imm (stP [] 0), .imm (.val (.int .u8 5)), int64 1, emptyS, int64 3], false) := by kernel_rfl
theorem map_M (s : St) : exView (callW code11m extM) s 633 [.imm (.val (.slice none 0 0)), .imm (.val (.slice none 0 0))] = some (.agg [.imm (stP [] 0), .imm (.val (.int .u8 5)), int64 1, emptyS, int64 3], s) := by
 obtain ⟨⟨r, m⟩, h1, h2⟩ := Option.bind_eq_some_iff.1 zhk
 have hc := (zbl code11m extM).2 ⟨60, h1⟩
 obtain ⟨v, h3, h4⟩ := Option.map_eq_some_iff.1 h2
 simp only [Prod.mk.injEq] at h4
 obtain ⟨rfl, h5⟩ := h4
 dsimp only at h3 h5
 unfold exView
 have ha : ([.imm (.val (.slice none 0 0)), .imm (.val (.slice none 0 0))] : List AV).mapM (frz s.mem) = some [.imm (.val (.slice none 0 0)), .imm (.val (.slice none 0 0))] := rfl
 rw [ha]
 dsimp only
 rw [hc]
 dsimp only
 rw [h5, h3]
 rfl
theorem num_M (n : Int) (s : St) : exView (callW code11m extM) s 491 [int64 n] = some (numV n, s) := by
 have h : callW code11m extM 491 [int64 n] [] = some (numV n, []) := by
  rw [zbk code11m extM (rfl : code11m 491 = some x491)]
  simp -implicitDefEqProofs [x491]
 simp -implicitDefEqProofs [h]
theorem zg4 (s : St) : exView (callW code11m extM) s 489 [] = some (avb true, s) := by
 have h : callW code11m extM 489 [] [] = some (avb true, []) := by
  rw [zbj code11m extM rfl (by decide)]
  unfold extM extOr extOne
  rw [if_pos rfl, lives11]
 simp -implicitDefEqProofs [h]
theorem askedM : Asked code11m extM := ⟨rfl, fun h hl _ _ hk hx => put_M h hl hk hx, fun h _ _ hx s => get_M h hx s, fun h s => len_M h s, map_M, num_M, zg4⟩
theorem zkh {lv : IV} {ks : List Int} (hr : Reads (tInt .i8) lv ks) (k v : Int) (hk : (Lit.int IntKind.i64 k).wf = true) (hv : (Lit.int IntKind.i64 v).wf = true) :
  ∃ m, callW code11m extM 483 [.imm lv, int64 k, int64 v] [] = some (avb true, m) := zki askedM hr k v hk hv
end Go.EX

