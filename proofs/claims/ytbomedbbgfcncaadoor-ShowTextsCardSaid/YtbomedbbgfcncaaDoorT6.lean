import Derived.Test.YtbomedbbgfcncaaDoorT5
import Derived.Lib.ItoaLen
set_option linter.unusedVariables false
set_option linter.unusedSimpArgs false
namespace Go.EX
theorem dig_size {n : Int} (h : (tInt .i64).wf n) : (dig n).size ≤ 21 := by
  obtain ⟨h0, h1⟩ := wfI64.1 h
  have := Go.Lib.itoa_length_le n h0 h1
  show (Go.Lib.itoa n).toArray.size ≤ 21
  simpa using this
theorem objOf_some {S : List Obj} {v : Val} {o : Obj} (h : objOf S v = some o) : o ∈ S ∧ o.k = v.k := by
  unfold objOf at h
  rw [Option.bind_eq_some_iff] at h
  obtain ⟨k, hk, ho⟩ := h
  obtain ⟨_, _, _, _, o', ho', hk'⟩ := leadsOf_some hk
  rw [ho'] at ho
  cases ho
  exact ⟨List.mem_of_getElem? ho', hk'⟩
theorem piece_size {S : List Obj} {deep : Bool} {v : Val} {x : ByteArray} (hv : tVal.wf v) (hS : ∀ o ∈ S, tObj.wf o) (hs : ∀ o ∈ S, o.s.size ≤ 1048576) (h : pieceOf S deep v = some x) : x.size ≤ 1048600 := by
  unfold pieceOf at h
  split at h
  · cases h; decide
  split at h
  · cases h; split <;> decide
  split at h
  · cases h; have := dig_size hv.2; omega
  split at h
  · cases h; decide
  rename_i o ho
  obtain ⟨hm, _⟩ := objOf_some ho
  split at h
  · cases h; decide
  split at h
  · cases h; have := hs o hm; omega
  split at h
  · cases h
    have := dig_size (hS o hm).2.2.2
    rw [size_append']
    have : fnT.size = 3 := rfl
    omega
  split at h
  · cases h; decide
  · cases h
theorem piece_none {S : List Obj} {deep : Bool} {v : Val} (h : pieceOf S deep v = none) : deep = false ∧ v.k ≠ 0 ∧ v.k ≠ 1 ∧ v.k ≠ 2 ∧ v.k ≠ 7 ∧ v.k ≠ 3 ∧ v.k ≠ 6 ∧ ∃ o, objOf S v = some o := by
  unfold pieceOf at h
  by_cases h0 : v.k = 0
  · simp [h0] at h
  by_cases h1 : v.k = 1
  · simp [h0, h1] at h
  by_cases h2 : v.k = 2
  · simp [h0, h1, h2] at h
  rw [if_neg h0, if_neg h1, if_neg h2] at h
  cases ho : objOf S v with
  | none => rw [ho] at h; cases h
  | some o =>
    rw [ho] at h
    dsimp only at h
    by_cases h7 : v.k = 7
    · rw [if_pos h7] at h; cases h
    by_cases h3 : v.k = 3
    · rw [if_neg h7, if_pos h3] at h; cases h
    by_cases h6 : v.k = 6
    · rw [if_neg h7, if_neg h3, if_pos h6] at h; cases h
    rw [if_neg h7, if_neg h3, if_neg h6] at h
    cases deep with
    | true => cases h
    | false => exact ⟨rfl, h0, h1, h2, h7, h3, h6, o, rfl⟩
theorem items_size {f : Val → ByteArray → ByteArray} {m : Bool} {X : Nat} (hX : 5000 ≤ X) : ∀ (xs : List Val) (i : Nat) (c : ByteArray), (∀ v ∈ xs, ∀ c : ByteArray, c.size ≤ 5000 → (f v c).size ≤ X) → c.size ≤ X → (itemsV f m xs i c).1.size ≤ X
  | [], i, c, _, h => h
  | v :: r, i, c, hf, h => by
    unfold itemsV
    split
    · exact h
    · rename_i h4
      refine items_size hX r (i + 1) _ (fun w hw => hf w (List.mem_cons_of_mem _ hw)) (hf v (List.mem_cons_self ..) _ ?_)
      split
      · rw [key_size]; omega
      · split
        · rw [next_size]; omega
        · omega
theorem row_size {f : Val → ByteArray → ByteArray} {o : Obj} {X : Nat} (hX : 5001 ≤ X) (hf : ∀ v ∈ o.l.xs, ∀ c : ByteArray, c.size ≤ 5000 → (f v c).size ≤ X) (c : ByteArray) (hc : c.size ≤ 5000) : (rowV f o c).size ≤ X + 6 := by
  have hop : (c ++ if decide (o.k = 5) then openM else openL).size = c.size + 1 := by split <;> exact one_size _ _
  have h := items_size (m := decide (o.k = 5)) (by omega) o.l.xs 0 (c ++ if decide (o.k = 5) then openM else openL) hf (by omega)
  have hen : ∀ x : ByteArray, (x ++ if decide (o.k = 5) then endM else endL).size = x.size + 1 := fun x => by split <;> exact one_size _ _
  unfold rowV
  dsimp only
  generalize decide (o.k = 5) = m at *
  generalize itemsV f m o.l.xs 0 (c ++ if m = true then openM else openL) = q at *
  by_cases h2 : q.2 = true
  · rw [if_pos h2]; omega
  · rw [if_neg h2, hen]
    split
    · rw [lack_size]; omega
    · omega
theorem items_pos {f : Val → ByteArray → ByteArray} {m : Bool} : ∀ (xs : List Val) (i : Nat) (c : ByteArray), (∀ v ∈ xs, ∀ c : ByteArray, 0 < c.size → 0 < (f v c).size) → 0 < c.size → 0 < (itemsV f m xs i c).1.size
  | [], i, c, _, h => h
  | v :: r, i, c, hf, h => by
    unfold itemsV
    split
    · exact h
    · refine items_pos r (i + 1) _ (fun w hw => hf w (List.mem_cons_of_mem _ hw)) (hf v (List.mem_cons_self ..) _ ?_)
      split
      · rw [key_size]; omega
      · split
        · rw [next_size]; omega
        · omega
theorem row_pos {f : Val → ByteArray → ByteArray} {o : Obj} (hf : ∀ v ∈ o.l.xs, ∀ c : ByteArray, 0 < c.size → 0 < (f v c).size) (c : ByteArray) : 0 < (rowV f o c).size := by
  have hop : (c ++ if decide (o.k = 5) then openM else openL).size = c.size + 1 := by split <;> exact one_size _ _
  have h := items_pos (m := decide (o.k = 5)) o.l.xs 0 (c ++ if decide (o.k = 5) then openM else openL) hf (by omega)
  have hen : ∀ x : ByteArray, (x ++ if decide (o.k = 5) then endM else endL).size = x.size + 1 := fun x => by split <;> exact one_size _ _
  unfold rowV
  dsimp only
  generalize decide (o.k = 5) = m at *
  generalize itemsV f m o.l.xs 0 (c ++ if m = true then openM else openL) = q at *
  by_cases h2 : q.2 = true
  · rw [if_pos h2]; exact h
  · rw [if_neg h2, hen]; omega
structure StoreOK (S : List Obj) : Prop where
  wf : ∀ o ∈ S, tObj.wf o
  s : ∀ o ∈ S, o.s.size ≤ 1048576
  l : ∀ o ∈ S, o.l.xs.length ≤ 5000
theorem items_wf {S : List Obj} (h : StoreOK S) {o : Obj} (ho : o ∈ S) : ∀ v ∈ o.l.xs, tVal.wf v := o.l.ok.1
theorem tell_row {S : List Obj} {d : Nat} {v : Val} {o : Obj} (hp : pieceOf S (d + 1 == 0) v = none) (ho : objOf S v = some o) (c : ByteArray) : tellV S (d + 1) v c = rowV (tellV S d) o c := by
  unfold tellV
  rw [hp, ho]
theorem tell_bounds {S : List Obj} (h : StoreOK S) : ∀ (d : Nat) (v : Val) (c : ByteArray), tVal.wf v → (c.size ≤ 5000 → (tellV S d v c).size ≤ 1054000 + 10 * d) ∧ (0 < c.size → 0 < (tellV S d v c).size)
  | d, v, c, hv => by
    unfold tellV
    cases hp : pieceOf S (d == 0) v with
    | some x =>
      have := piece_size hv h.wf h.s hp
      exact ⟨fun hc => by dsimp only; rw [size_append']; omega, fun hc => by dsimp only; rw [size_append']; omega⟩
    | none =>
      obtain ⟨hd, _, _, _, _, _, _, o, ho⟩ := piece_none hp
      obtain ⟨hm, _⟩ := objOf_some ho
      rw [ho]
      cases d with
      | zero => cases hd
      | succ d =>
        dsimp only
        have hw := items_wf h hm
        refine ⟨fun hc => ?_, fun hc => row_pos (fun w hw' c hc => (tell_bounds h d w c (hw w hw')).2 hc) c⟩
        have := row_size (X := 1054000 + 10 * d) (by omega) (fun w hw' c hc => (tell_bounds h d w c (hw w hw')).1 hc) c hc
        omega
section
variable {code : Nat → Option XFun} {ext : Calls'}
theorem value_rowF (c : TextCode code ext) (h : code 651 = some x651) (h246 : code 246 = some x246) {sv : IV} {S : List Obj} (hr : Reads tObj sv S) (v : Val) (hv : tVal.wf v) (inn : Int) (hd : ¬ (8 < inn)) (hk : v.k ≠ 0 ∧ v.k ≠ 1 ∧ v.k ≠ 2 ∧ v.k ≠ 7 ∧ v.k ≠ 3 ∧ v.k ≠ 6) {o : Obj} (ho : objOf S v = some o) :
    ∃ row off, cut row off 5 = some [.val (.int .u8 o.k), .val (.string o.s), o.l.iv, .val (.int .i64 o.room), .val (.int .i64 o.fn)] ∧
      (∀ b b', callW code ext 245 [.optr 0 0, .imm (.ptr row off), int64 inn] (bOne sv b) = some (.tup [], bTwo sv b') → callW code ext 246 [.optr 0 0, .agg [.imm (.val (.int .u8 v.k)), int64 v.n], int64 inn] (bOne sv b) = some (.tup [], bTwo sv b')) ∧
      (∀ b', callW code ext 245 [.optr 0 0, .imm (.ptr row off), int64 inn] (bNil false sv) = some (.tup [], bOne sv b') → callW code ext 246 [.optr 0 0, .agg [.imm (.val (.int .u8 v.k)), int64 v.n], int64 inn] (bNil false sv) = some (.tup [], bOne sv b')) := by
  obtain ⟨k0, k1, k2, k7, k3, k6⟩ := hk
  rcases leadsI_spec (ext := ext) h hr v hv.2 with ⟨hn, _⟩ | ⟨k, o', row, off, hle, hso, hget, hl⟩
  · simp [objOf, hn] at ho
  · simp only [objOf, hle, Option.bind_some, hso, Option.some.injEq] at ho
    subst ho
    refine ⟨row, off, hget, fun b b' hw => ?_, fun b' hw => ?_⟩
    · rw [callW_fun code ext h246]
      simp only [bOne, bTwo] at hw ⊢
      simp -implicitDefEqProofs [x246, hl, hw, k0, k1, k2, k7, k3, k6, hd]
    · rw [callW_fun code ext h246]
      simp only [bNil, bAddr, bOne] at hw ⊢
      simp -implicitDefEqProofs [x246, hl, hw, k0, k1, k2, k7, k3, k6, hd]
theorem tell_one (c : TextCode code ext) (h : code 651 = some x651) (h246 : code 246 = some x246) (h245 : code 245 = some x245) {sv : IV} {S : List Obj} (hr : Reads tObj sv S) (hS : StoreOK S) : ∀ (d : Nat), d ≤ 9 → ∀ (v : Val) (b : ByteArray), tVal.wf v → 0 < b.size → b.size ≤ 5000 →
    callW code ext 246 [.optr 0 0, .agg [.imm (.val (.int .u8 v.k)), int64 v.n], int64 (9 - d)] (bOne sv b) = some (.tup [], bTwo sv (tellV S d v b))
  | d, hd9, v, b, hv, hb, hb5 => by
    have hdd : decide ((8 : Int) < 9 - d) = (d == 0) := by
      cases d with
      | zero => rfl
      | succ d => simp; omega
    have hfn := fun o ho => (hS.wf o ho).2.2.2
    cases hp : pieceOf S (d == 0) v with
    | some x =>
      have hx := piece_size hv hS.wf hS.s hp
      have he : tellV S d v b = b ++ x := by unfold tellV; rw [hp]
      rw [he]
      exact value_one c h h246 hr v hv (9 - d) b x (by rw [hdd]; exact hp) (nw := x.size) (write_one c sv b x hb (by omega)) hfn (by omega)
    | none =>
      obtain ⟨hd0, k0, k1, k2, k7, k3, k6, o, ho⟩ := piece_none hp
      obtain ⟨hm, _⟩ := objOf_some ho
      cases d with
      | zero => cases hd0
      | succ d =>
        have he : tellV S (d + 1) v b = rowV (tellV S d) o b := tell_row hp ho b
        rw [he]
        obtain ⟨row, off, hget, hF, _⟩ := value_rowF c h h246 hr v hv (9 - (d + 1 : Nat)) (by omega) ⟨k0, k1, k2, k7, k3, k6⟩ ho
        have hl := hS.l o hm
        refine hF b _ (tellRow_two c h245 (B := 2000000) (by omega) (by omega) (by omega) ⟨fun w hw c' hc hc5 => ?_, fun w hw c' hc => (tell_bounds hS d w c' (o.l.ok.1 w hw)).2 hc, fun w hw c' hc => by have := (tell_bounds hS d w c' (o.l.ok.1 w hw)).1 hc; omega⟩ (by omega) hget b hb hb5)
        have := tell_one c h h246 h245 hr hS d (by omega) w c' (o.l.ok.1 w hw) hc hc5
        rw [show (9 - ((d + 1 : Nat) : Int) + 1) = 9 - d by omega]
        exact this
theorem tell_nil (c : TextCode code ext) (h : code 651 = some x651) (h246 : code 246 = some x246) (h245 : code 245 = some x245) {sv : IV} {S : List Obj} (hr : Reads tObj sv S) (hS : StoreOK S) (v : Val) (hv : tVal.wf v) :
    callW code ext 246 [.optr 0 0, .agg [.imm (.val (.int .u8 v.k)), int64 v.n], int64 0] (bNil false sv) = some (.tup [], if (tellV S 9 v .empty).size = 0 then bNil true sv else bOne sv (tellV S 9 v .empty)) := by
  have hfn := fun o ho => (hS.wf o ho).2.2.2
  cases hp : pieceOf S (9 == 0) v with
  | some x =>
    have hx := piece_size hv hS.wf hS.s hp
    have he : tellV S 9 v .empty = x := by unfold tellV; rw [hp]; simp
    rw [he]
    by_cases h0 : x.size = 0
    · have := empty_of h0
      subst this
      rw [if_pos h0]
      exact value_none c h h246 hr v hv 0 false .empty hp (write_none c false sv) hfn (by decide)
    · rw [if_neg h0]
      exact value_nil c h h246 hr v hv 0 false x hp (write_nil c false sv x (by omega) (by omega)) hfn (by omega)
  | none =>
    obtain ⟨hd0, k0, k1, k2, k7, k3, k6, o, ho⟩ := piece_none hp
    obtain ⟨hm, _⟩ := objOf_some ho
    have he : tellV S 9 v .empty = rowV (tellV S 8) o .empty := tell_row (d := 8) hp ho .empty
    rw [he]
    have hpos : 0 < (rowV (tellV S 8) o .empty).size := row_pos (fun w hw c hc => (tell_bounds hS 8 w c (o.l.ok.1 w hw)).2 hc) _
    rw [if_neg (by omega)]
    obtain ⟨row, off, hget, _, hF⟩ := value_rowF c h h246 hr v hv 0 (by omega) ⟨k0, k1, k2, k7, k3, k6⟩ ho
    have hl := hS.l o hm
    refine hF _ (tellRow_one c h245 (B := 2000000) (by omega) (by omega) (by omega) ⟨fun w hw c' hc hc5 => ?_, fun w hw c' hc => (tell_bounds hS 8 w c' (o.l.ok.1 w hw)).2 hc, fun w hw c' hc => by have := (tell_bounds hS 8 w c' (o.l.ok.1 w hw)).1 hc; omega⟩ (by omega) hget)
    exact tell_one c h h246 h245 hr hS 8 (by omega) w c' (o.l.ok.1 w hw) hc hc5
end
end Go.EX

