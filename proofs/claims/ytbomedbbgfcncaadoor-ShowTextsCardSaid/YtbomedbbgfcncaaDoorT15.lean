import Derived.Test.YtbomedbbgfcncaaDoorT12a
import Derived.Test.YtbomedbbgfcncaaDoorT12b
import Derived.Test.YtbomedbbgfcncaaDoorT12c
import Derived.Test.YtbomedbbgfcncaaDoorT12d
import Derived.Test.YtbomedbbgfcncaaDoorT14a
import Derived.Test.YtbomedbbgfcncaaDoorT14b
import Derived.Test.YtbomedbbgfcncaaDoorT7
set_option linter.unusedVariables false
set_option linter.unusedSimpArgs false
namespace Go.EX
theorem putR_pos' {p : ByteArray × Bool} {x : ByteArray} (h0 : 0 < p.1.size) : 0 < (putR p x).1.size := by obtain ⟨b, l⟩ := p; exact putR_pos h0
theorem putR_size' {p : ByteArray × Bool} {x : ByteArray} (hb : p.1.size ≤ 4096) : (putR p x).1.size ≤ 4096 := by obtain ⟨b, l⟩ := p; exact putR_size hb
theorem itemsR_keeps {P : ByteArray × Bool → Prop} {f : Val → ByteArray × Bool → ByteArray × Bool} {m : Bool} (hput : ∀ p x, P p → P (putR p x)) : ∀ (xs : List Val) (i : Nat) (p : ByteArray × Bool), (∀ v ∈ xs, ∀ p, P p → P (f v p)) → P p → P (itemsR f m xs i p)
  | [], i, p, _, h => h
  | v :: r, i, p, hf, h => by
    unfold itemsR
    split
    · exact h
    · refine itemsR_keeps hput r (i + 1) _ (fun w hw => hf w (List.mem_cons_of_mem _ hw)) (hf v (List.mem_cons_self ..) _ ?_)
      split
      · exact hput _ _ h
      · split
        · exact hput _ _ h
        · exact h
theorem rowR_keeps {P : ByteArray × Bool → Prop} {f : Val → ByteArray × Bool → ByteArray × Bool} {o : Obj} (hput : ∀ p x, P p → P (putR p x)) (hf : ∀ v ∈ o.l.xs, ∀ p, P p → P (f v p)) (p : ByteArray × Bool) (h : P p) : P (rowR f o p) := by
  unfold rowR
  dsimp only
  have := itemsR_keeps (m := decide (o.k = 5)) hput o.l.xs 0 (putR p (if decide (o.k = 5) = true then openM else openL)) hf (hput _ _ h)
  refine hput _ _ ?_
  split
  · exact hput _ _ this
  · exact this
theorem valR_keeps {P : ByteArray × Bool → Prop} (S : List Obj) (hput : ∀ p x, P p → P (putR p x)) : ∀ (d : Nat) (v : Val) (p : ByteArray × Bool), P p → P (valR S d v p)
  | 0, v, p, h => by
    unfold valR
    cases hp : pieceOf S (0 == 0) v with
    | some x => exact hput _ _ h
    | none => exact h
  | d + 1, v, p, h => by
    unfold valR
    cases hp : pieceOf S (d + 1 == 0) v with
    | some x => exact hput _ _ h
    | none =>
      cases ho : objOf S v with
      | none => exact h
      | some o => exact rowR_keeps hput (fun w _ q hq => valR_keeps S hput d w q hq) p h
theorem valR_row {S : List Obj} {d : Nat} {v : Val} {o : Obj} (hp : pieceOf S (d + 1 == 0) v = none) (ho : objOf S v = some o) (p : ByteArray × Bool) : valR S (d + 1) v p = rowR (valR S d) o p := by
  unfold valR
  rw [hp, ho]
section
variable {code : Nat → Option XFun} {ext : Calls'}
structure RefCode (code : Nat → Option XFun) : Prop where
  c98 : code 98 = some x98S
  c99 : code 99 = some x99
  c100 : code 100 = some x100
  c501 : code 501 = some x501
  c502 : code 502 = some x502
  c504 : code 504 = some x504
theorem rval_one (c : RefCode code) {sv : IV} {S : List Obj} (hr : Reads tObj sv S) (hS : StoreOK S) : ∀ (d : Nat), d ≤ 9 → ∀ (v : Val) (b : ByteArray) (l : Bool), tVal.wf v → 0 < b.size → b.size ≤ 4096 →
    ∃ two, callW code ext 100 [.optr 0 0, .agg [.imm (.val (.int .u8 v.k)), int64 v.n], int64 (9 - d)] (rOne sv b l) = some (.tup [], rOut two sv (valR S d v (b, l)))
  | d, hd9, v, b, l, hv, hb, hbB => by
    have hdd : decide ((8 : Int) < 9 - d) = (d == 0) := by
      cases d with
      | zero => rfl
      | succ d => simp; omega
    have hfn := fun o ho => (hS.wf o ho).2.2.2
    cases hp : pieceOf S (d == 0) v with
    | some x =>
      have hx := piece_size hv hS.wf hS.s hp
      have he : valR S d v (b, l) = putR (b, l) x := by unfold valR; rw [hp]
      rw [he]
      have hw := put_one (ext := ext) c.c98 sv b x l hb hbB (by omega)
      generalize putR (b, l) x = p at hw ⊢
      obtain ⟨b2, l2⟩ := p
      cases l2 with
      | true => exact ⟨false, rvalue_oo c.c502 c.c501 c.c100 hr v hv (9 - d) b b2 l true x (by rw [hdd]; exact hp) hw hfn (by omega)⟩
      | false => exact ⟨true, rvalue_ot c.c502 c.c501 c.c100 hr v hv (9 - d) b b2 l false x (by rw [hdd]; exact hp) hw hfn (by omega)⟩
    | none =>
      obtain ⟨hd0, k0, k1, k2, k7, k3, k6, o, ho⟩ := piece_none hp
      obtain ⟨hm, _⟩ := objOf_some ho
      cases d with
      | zero => cases hd0
      | succ d =>
        rw [valR_row hp ho]
        have hl := hS.l o hm
        have hI : ItemR code ext sv ((9 - (d + 1 : Nat) : Int) + 1) (valR S d) o.l.xs := by
          refine ⟨fun w hw b l h0 h1 => ?_, fun w _ p h => valR_keeps (P := fun p => 0 < p.1.size) S (fun _ _ h => putR_pos' h) d w p h, fun w _ p h => valR_keeps (P := fun p => p.1.size ≤ 4096) S (fun _ _ h => putR_size' h) d w p h⟩
          rw [show (9 - ((d + 1 : Nat) : Int) + 1) = 9 - d by omega]
          exact rval_one c hr hS d (by omega) w b l (o.l.ok.1 w hw) h0 h1
        have hrow : ∃ two, callW code ext 99 [.optr 0 0, .agg [.imm (.val (.int .u8 o.k)), strV o.s, .imm o.l.iv, int64 o.room, int64 o.fn], int64 (9 - (d + 1 : Nat))] (rOne sv b l) = some (.tup [], rOut two sv (rowR (valR S d) o (b, l))) := by
          by_cases hk5 : o.k = 5
          · exact rrow_one_a c.c98 c.c99 (by omega) hI (by omega) b l hb hbB hk5
          · exact rrow_one_b c.c98 c.c99 (by omega) hI (by omega) b l hb hbB hk5
        obtain ⟨two, hrow⟩ := hrow
        refine ⟨two, ?_⟩
        generalize rowR (valR S d) o (b, l) = p at hrow ⊢
        obtain ⟨b2, l2⟩ := p
        cases two with
        | true => exact rvalueRow_ot c.c502 c.c100 hr v (9 - (d + 1 : Nat)) b b2 l l2 (by omega) ⟨k0, k1, k2, k7, k3, k6⟩ ho hrow
        | false => exact rvalueRow_oo c.c502 c.c100 hr v (9 - (d + 1 : Nat)) b b2 l l2 (by omega) ⟨k0, k1, k2, k7, k3, k6⟩ ho hrow
theorem rowR_pos {f : Val → ByteArray × Bool → ByteArray × Bool} {o : Obj} (hf : ∀ v ∈ o.l.xs, ∀ p : ByteArray × Bool, 0 < p.1.size → 0 < (f v p).1.size) : 0 < (rowR f o (.empty, false)).1.size := by
  unfold rowR
  dsimp only
  have h0 : 0 < (putR (.empty, false) (if decide (o.k = 5) = true then openM else openL)).1.size := by split <;> decide
  have := itemsR_keeps (P := fun p => 0 < p.1.size) (m := decide (o.k = 5)) (fun _ _ h => putR_pos' h) o.l.xs 0 _ hf h0
  refine putR_pos' ?_
  split
  · exact putR_pos' this
  · exact this
theorem rval_nil (c : RefCode code) {sv : IV} {S : List Obj} (hr : Reads tObj sv S) (hS : StoreOK S) (v : Val) (hv : tVal.wf v) :
    callW code ext 100 [.optr 0 0, .agg [.imm (.val (.int .u8 v.k)), int64 v.n], int64 0] (rNil sv false) = some (.tup [], if (valR S 9 v (.empty, false)).1.size = 0 then rNil sv (valR S 9 v (.empty, false)).2 else rOne sv (valR S 9 v (.empty, false)).1 (valR S 9 v (.empty, false)).2) := by
  have hfn := fun o ho => (hS.wf o ho).2.2.2
  cases hp : pieceOf S (9 == 0) v with
  | some x =>
    have hx := piece_size hv hS.wf hS.s hp
    have he : valR S 9 v (.empty, false) = if 4096 < x.size then (.empty, true) else (x, false) := by
      unfold valR; rw [hp]; simp [putR]
    have hw := put_nil (ext := ext) c.c98 sv x (by omega)
    rw [he]
    by_cases h4 : 4096 < x.size
    · rw [if_neg (by omega), if_pos h4] at hw
      rw [if_pos h4]
      exact rvalue_nn c.c502 c.c501 c.c100 hr v hv 0 true x hp hw hfn (by omega)
    · rw [if_neg h4]
      by_cases h0 : x.size = 0
      · rw [if_pos h0] at hw
        rw [if_pos h0]
        exact rvalue_nn c.c502 c.c501 c.c100 hr v hv 0 false x hp hw hfn (by omega)
      · rw [if_neg h0, if_neg h4] at hw
        rw [if_neg h0]
        exact rvalue_no c.c502 c.c501 c.c100 hr v hv 0 x false x hp hw hfn (by omega)
  | none =>
    obtain ⟨hd0, k0, k1, k2, k7, k3, k6, o, ho⟩ := piece_none hp
    obtain ⟨hm, _⟩ := objOf_some ho
    rw [valR_row (d := 8) hp ho]
    have hpos : ∀ w ∈ o.l.xs, ∀ p : ByteArray × Bool, 0 < p.1.size → 0 < (valR S 8 w p).1.size := fun w _ p h => valR_keeps (P := fun p => 0 < p.1.size) S (fun _ _ h => putR_pos' h) 8 w p h
    rw [if_neg (by have := rowR_pos hpos; omega)]
    have hl := hS.l o hm
    have hI : ItemR code ext sv ((0 : Int) + 1) (valR S 8) o.l.xs := by
      refine ⟨fun w hw b l h0 h1 => ?_, hpos, fun w _ p h => valR_keeps (P := fun p => p.1.size ≤ 4096) S (fun _ _ h => putR_size' h) 8 w p h⟩
      exact rval_one c hr hS 8 (by omega) w b l (o.l.ok.1 w hw) h0 h1
    refine rvalueRow_no c.c502 c.c100 hr v 0 _ _ (by omega) ⟨k0, k1, k2, k7, k3, k6⟩ ho ?_
    by_cases hk5 : o.k = 5
    · exact rrow_nil_a c.c98 c.c99 (by omega) hI (by omega) hk5
    · exact rrow_nil_b c.c98 c.c99 (by omega) hI (by omega) hk5
def textR (S : List Obj) (v : Val) : ByteArray × Bool := if (valR S 9 v (.empty, false)).2 = true then (.empty, false) else ((valR S 9 v (.empty, false)).1, true)
theorem refText_spec (c : RefCode code) {sv : IV} {S : List Obj} (hr : Reads tObj sv S) (hS : StoreOK S) (v : Val) (hv : tVal.wf v) :
    ∃ m, callW code ext 504 [.imm sv, .agg [.imm (.val (.int .u8 v.k)), int64 v.n]] [] = some (.tup [strV (textR S v).1, avb (textR S v).2], m) := by
  have hT := rval_nil (ext := ext) c hr hS v hv
  refine mem_of ?_
  unfold textR
  rw [callW_fun code ext c.c504]
  generalize valR S 9 v (.empty, false) = p at hT ⊢
  obtain ⟨t, l⟩ := p
  dsimp only at hT ⊢
  by_cases h0 : t.size = 0
  · rw [if_pos h0] at hT
    have he := empty_of h0
    subst he
    cases l with
    | true =>
      simp only [rNil, if_true] at hT ⊢
      simp -implicitDefEqProofs [x504, hT]
    | false =>
      simp only [rNil, Bool.false_eq_true, if_false] at hT ⊢
      have hs : ∀ m, strOfV m nilS = some .empty := fun m => rfl
      simp -implicitDefEqProofs [x504, hT, hs]
  · rw [if_neg h0] at hT
    have hs : ∀ x y : AObj, strOfV [x, y, .text (rowOfS t)] (.osl 2 0 1 t.size none) = some t := by
      intro x y
      have hc : cut (rowOfS t) 0 t.size = some (rowOfS t) := cut_all _ (rowS_len t)
      have hu : u8s (rowOfS t) = some (t.data.toList.map fun c => (c.toNat : Int)) := u8s_map _
      simp only [strOfV, elems, List.getElem?_cons_succ, List.getElem?_cons_zero, Nat.mul_one, hc, Option.map_some, hu, bytes_push]
    cases l with
    | true =>
      simp only [rNil, rOne, if_true] at hT ⊢
      simp -implicitDefEqProofs [x504, hT]
    | false =>
      simp only [rNil, rOne, Bool.false_eq_true, if_false] at hT ⊢
      simp -implicitDefEqProofs [x504, hT, hs]
end
end Go.EX

