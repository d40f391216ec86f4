/-
  EX: law 04: the reference: may an object be?
-/
import Derived.Test.YtbomedbbgfcncaaS4m
set_option linter.unusedVariables false
set_option linter.unusedSimpArgs false
namespace Go.EX

def sAt (S : List Obj) (i : Nat) : ByteArray := match S[i]? with
  | some o => o.s
  | none => .empty

def sameOf (S : List Obj) (a b : Val) : Bool :=
  if a.k ≠ b.k then false else if a.k = 0 then true else if a.n = b.n then true else if a.k = 3 then
    match leadsOf S a, leadsOf S b with
    | some i, some j => decide (sAt S i = sAt S j)
    | _, _ => false
  else false

def KeysOk (S : List Obj) (l : List Val) : Prop := ∀ (i k : Nat) (a b : Val), i % 2 = 0 → k % 2 = 0 → k < i → l[i]? = some a → l[k]? = some b → sameOf S a b = false

section
variable {code : Nat → Option XFun} {ext : Calls'}

theorem same_text (h : code 502 = some x502) (h' : code 503 = some x503) {sv : IV} {S : List Obj} (hr : Reads tObj sv S) (a b : Val) (c3 : a.k = 3) (c3' : b.k = 3) (cn : ¬ a.n = b.n) :
    callW code ext 503 [.imm sv, .agg [.imm (.val (.int .u8 3)), int64 a.n], .agg [.imm (.val (.int .u8 3)), int64 b.n]] [] = some (avb (sameOf S a b), []) := by
  rw [callW_fun code ext h']
  have ha := leads_spec (ext := ext) h hr a
  have hb := leads_spec (ext := ext) h hr b
  unfold leadInt at ha hb
  rw [c3] at ha
  rw [c3'] at hb
  have hso : sameOf S a b = match leadsOf S a, leadsOf S b with
    | some i, some j => decide (sAt S i = sAt S j)
    | _, _ => false := by
    unfold sameOf
    rw [if_neg (by rw [c3, c3']; simp), if_neg (by omega), if_neg cn, if_pos c3]
  rw [hso]
  clear hso
  cases hqa : leadsOf S a with
  | none =>
    rw [hqa] at ha
    cases hqb : leadsOf S b with
    | none => rw [hqb] at hb; simp -implicitDefEqProofs [x503, cn, ha, hb]
    | some j => rw [hqb] at hb; simp -implicitDefEqProofs [x503, cn, ha, hb]
  | some i =>
    rw [hqa] at ha
    have hi0 : (0 : Int) ≤ i := by omega
    cases hqb : leadsOf S b with
    | none => rw [hqb] at hb; simp -implicitDefEqProofs [x503, cn, ha, hb, hi0]
    | some j =>
      rw [hqb] at hb
      have hj0 : (0 : Int) ≤ j := by omega
      obtain ⟨hil, _, _, _, o, ho, _⟩ := leadsOf_some hqa
      obtain ⟨hjl, _, _, _, p, hp, _⟩ := leadsOf_some hqb
      obtain ⟨row, off, cap, rfl, hc, hcut, hget⟩ := reads_pos hr ho
      obtain ⟨row', off', cap', he, _, _, hget'⟩ := reads_pos hr hp
      cases he
      simp only [tObj] at hget hget'
      have g1 : row[off + i * 5 + 1]? = some (.val (.string o.s)) := cut_get hget 1 (by omega)
      have g1' : row[off + j * 5 + 1]? = some (.val (.string p.s)) := cut_get hget' 1 (by omega)
      have hsi : sAt S i = o.s := by unfold sAt; rw [ho]
      have hsj : sAt S j = p.s := by unfold sAt; rw [hp]
      simp -implicitDefEqProofs [x503, cn, ha, hb, hi0, hj0, hil, hjl, g1, g1', hsi, hsj]

theorem same_spec (h : code 502 = some x502) (h' : code 503 = some x503) {sv : IV} {S : List Obj} (hr : Reads tObj sv S) (a b : Val) :
    callW code ext 503 [.imm sv, .agg [.imm (.val (.int .u8 a.k)), int64 a.n], .agg [.imm (.val (.int .u8 b.k)), int64 b.n]] [] = some (avb (sameOf S a b), []) := by
  by_cases c1 : a.k = b.k
  case neg =>
    rw [callW_fun code ext h']
    simp -implicitDefEqProofs [x503, sameOf, c1]
  by_cases c0 : a.k = 0
  · have c0' : b.k = 0 := by omega
    rw [callW_fun code ext h']
    simp -implicitDefEqProofs [x503, sameOf, c0, c0']
  have c0b : ¬ b.k = 0 := by omega
  by_cases cn : a.n = b.n
  · rw [callW_fun code ext h']
    simp -implicitDefEqProofs [x503, sameOf, c1, cn, c0b]
  by_cases c3 : a.k = 3
  · rw [c3, show b.k = 3 by omega]
    exact same_text h h' hr a b c3 (by omega) cn
  · have c3' : ¬ b.k = 3 := by omega
    have ha := leads_spec (ext := ext) h hr a
    have hb := leads_spec (ext := ext) h hr b
    have hso : sameOf S a b = false := by
      unfold sameOf
      rw [if_neg (by simp [c1]), if_neg c0, if_neg cn, if_neg c3]
    rw [hso, callW_fun code ext h']
    rw [c1] at ha ⊢
    simp -implicitDefEqProofs [x503, c0b, cn, c3', ha, hb]

theorem refKeys_spec (h : code 502 = some x502) (h' : code 503 = some x503) (h2 : code 507 = some x507) {sv lv : IV} {S : List Obj} {l : List Val} (hr : Reads tObj sv S) (hl : Reads tVal lv l) :
    ∃ b : Bool, callW code ext 507 [.imm sv, .imm lv] [] = some (avb b, []) ∧ (b = true ↔ KeysOk S l) := by
  have hlen := reads_len hl
  have hb := hl.2.1
  -- the inner loop
  have inner : ∀ i : Nat, i < l.length → i % 2 = 0 → ∃ e s', den code ext (.loop [0, 1, 5, 6] x507L1) ⟨0, [(0, .imm sv), (1, .imm lv), (5, int64 (i : Nat)), (6, int64 0)], []⟩ = some (e, s') ∧ e ≠ .normal ∧
      ((e = .exit 2 ∧ (∀ k b, k % 2 = 0 → k < i → l[k]? = some b → sameOf S (l[i]?.getD zVal) b = false) ∧ ∃ q : Nat, s' = ⟨0, [(0, .imm sv), (1, .imm lv), (5, int64 (i : Nat)), (6, int64 (q : Nat)), (15, avb false)], []⟩) ∨
       (e = .ret ∧ (∃ k b, k % 2 = 0 ∧ k < i ∧ l[k]? = some b ∧ sameOf S (l[i]?.getD zVal) b = true) ∧ s' = ⟨0, [(4, avb false)], []⟩)) := by
    intro i hi hie
    refine loop_rule (fun n s => ∃ (k : Nat), k % 2 = 0 ∧ n + k = l.length + 2 ∧ k < l.length + 2 ∧ (∀ q b, q % 2 = 0 → q < k → l[q]? = some b → sameOf S (l[i]?.getD zVal) b = false ∨ i ≤ q) ∧ s = ⟨0, [(0, .imm sv), (1, .imm lv), (5, int64 (i : Nat)), (6, int64 (k : Nat))], []⟩) _ ?_ (l.length + 2) _ ⟨0, rfl, by omega, by omega, fun q b _ h => by omega, rfl⟩
    rintro n _ ⟨k, hke, hn, hkl, hall, rfl⟩
    by_cases hlt : k < i
    · have hlk : k < l.length := by omega
      obtain ⟨row, off, cap, rfl, hc, hcut, hget⟩ := reads_pos hl (List.getElem?_eq_getElem hlk)
      obtain ⟨row', off', cap', he, _, _, hget'⟩ := reads_pos hl (List.getElem?_eq_getElem hi)
      cases he
      have e1 : IntKind.wrap .i64 ((k : Int) + 2) = (k : Int) + 2 := wrapI64 (by omega) (by omega)
      have hlt' : (k : Int) < i := by omega
      have hki := List.getElem?_eq_getElem hi
      have hkk := List.getElem?_eq_getElem hlk
      rw [hki] at hall ⊢
      simp only [Option.getD_some] at hall ⊢
      have hs := same_spec (ext := ext) h h' hr l[i] l[k]
      generalize l[i] = a at *
      generalize hbk : l[k] = b at *
      simp only [tVal] at hget hget'
      cases hsm : sameOf S a b with
      | true =>
        rw [hsm] at hs
        refine ⟨.ret, ⟨0, [(4, avb false)], []⟩, ?_, .inr ⟨by simp, .inr ⟨rfl, ⟨k, b, hke, hlt, hkk, hsm⟩, rfl⟩⟩⟩
        simp -implicitDefEqProofs [x507L1, hlt, hi, hlk, hget, hget', hs]
      | false =>
        rw [hsm] at hs
        refine ⟨.normal, ⟨0, [(0, .imm sv), (1, .imm (.slice row off l.length cap)), (5, int64 (i : Nat)), (6, int64 ((k : Int) + 2))], []⟩, ?_, .inl ⟨rfl, n - 2, by omega, k + 2, by omega, by omega, by omega, fun q c hq hqk hc => ?_, rfl⟩⟩
        · simp -implicitDefEqProofs [x507L1, hlt, hi, hlk, hget, hget', hs, e1]
        · by_cases hqk' : q < k
          · exact hall q c hq hqk' hc
          · have : q = k := by omega
            subst this
            rw [hkk] at hc; cases hc
            exact .inl hsm
    · refine ⟨.exit 2, ⟨0, [(0, .imm sv), (1, .imm lv), (5, int64 (i : Nat)), (6, int64 (k : Nat)), (15, avb false)], []⟩, ?_, .inr ⟨by simp, .inl ⟨rfl, fun q b hq hqi hb => ?_, k, rfl⟩⟩⟩
      · have : ¬ ((k : Int) < i) := by omega
        simp -implicitDefEqProofs [x507L1, this]
      · rcases hall q b hq (by omega) hb with h | h
        · exact h
        · omega
  have outer : ∃ e s', den code ext (.loop [0, 1, 5] x507L2) ⟨0, [(0, .imm sv), (1, .imm lv), (5, int64 0)], []⟩ = some (e, s') ∧ e ≠ .normal ∧
      ((e = .exit 0 ∧ KeysOk S l ∧ s'.k = 0 ∧ s'.mem = []) ∨ (e = .ret ∧ ¬ KeysOk S l ∧ s' = ⟨0, [(4, avb false)], []⟩)) := by
    refine loop_rule (fun n s => ∃ (i : Nat), i % 2 = 0 ∧ n + i = l.length + 2 ∧ i < l.length + 2 ∧ (∀ (j k : Nat) (a b : Val), j % 2 = 0 → k % 2 = 0 → k < j → j < i → l[j]? = some a → l[k]? = some b → sameOf S a b = false) ∧ s = ⟨0, [(0, .imm sv), (1, .imm lv), (5, int64 (i : Nat))], []⟩) _ ?_ (l.length + 2) _ ⟨0, rfl, by omega, by omega, fun j k a b _ _ _ h => by omega, rfl⟩
    rintro n _ ⟨i, hie, hn, hil, hall, rfl⟩
    by_cases hlt : i < l.length
    · have e1 : IntKind.wrap .i64 ((i : Int) + 2) = (i : Int) + 2 := wrapI64 (by omega) (by omega)
      have hki := List.getElem?_eq_getElem hlt
      obtain ⟨e, s', g1, _, ⟨rfl, hin, q, rfl⟩ | ⟨rfl, ⟨k, b, hke, hk, hkb, hsm⟩, rfl⟩⟩ := inner i hlt hie
      · rw [hki] at hin
        refine ⟨.normal, ⟨0, [(0, .imm sv), (1, .imm lv), (5, int64 ((i : Int) + 2))], []⟩, ?_, .inl ⟨rfl, n - 2, by omega, i + 2, by omega, by omega, by omega, fun j k a b hj hk hkj hji ha hb => ?_, rfl⟩⟩
        · simp -implicitDefEqProofs [x507L2, hlen, hlt, g1, e1]
        · by_cases hji' : j < i
          · exact hall j k a b hj hk hkj hji' ha hb
          · have : j = i := by omega
            subst this
            rw [hki] at ha; cases ha
            exact hin k b hk hkj hb
      · rw [hki] at hsm
        refine ⟨.ret, ⟨0, [(4, avb false)], []⟩, ?_, .inr ⟨by simp, .inr ⟨rfl, fun hk' => ?_, rfl⟩⟩⟩
        · simp -implicitDefEqProofs [x507L2, hlen, hlt, g1]
        · have := hk' i k _ b hie hke hk hki hkb
          simp only [Option.getD_some] at hsm
          rw [this] at hsm; cases hsm
    · refine ⟨.exit 0, ⟨0, [(0, .imm sv), (1, .imm lv), (5, int64 (i : Nat)), (10, avb false)], []⟩, ?_, .inr ⟨by simp, .inl ⟨rfl, fun j k a b hj hk hkj ha hb => ?_, rfl, rfl⟩⟩⟩
      · have : ¬ ((i : Int) < l.length) := by omega
        simp -implicitDefEqProofs [x507L2, hlen, this]
      · exact hall j k a b hj hk hkj (by have := (List.getElem?_eq_some_iff.1 ha).1; omega) ha hb
  obtain ⟨e, s', g1, _, ⟨rfl, hk, h3, h4⟩ | ⟨rfl, hk, rfl⟩⟩ := outer
  · refine ⟨true, ?_, by simp [hk]⟩
    rw [callW_fun code ext h2]
    simp -implicitDefEqProofs [x507, g1, h3, h4]
  · refine ⟨false, ?_, by simp [hk]⟩
    rw [callW_fun code ext h2]
    simp -implicitDefEqProofs [x507, g1]

end
end Go.EX
