/-
  EX: law 04: show's keys: the whole.
-/
import Derived.Test.YtbomedbbgfcncaaS4r
set_option linter.unusedVariables false
set_option linter.unusedSimpArgs false
namespace Go.EX

theorem normMap_len (acc : List (Int × Int × ByteArray)) : (normMap acc).length = acc.length := by simp [normMap]

section
variable {code : Nat → Option XFun} {ext : Calls'}

theorem addNorm_len (acc : List (Int × Int × ByteArray)) (x : Int × Int × ByteArray) : (addNorm acc x).length ≤ acc.length + 1 := by
  unfold addNorm; split <;> simp

theorem keys_spec (h : code 651 = some x651) (h' : code 650 = some x650) (T : List Obj) (hb : T.length ≤ 1048576) {lv : IV} {l : List Val} (hl : Reads tVal lv l) (hev : l.length % 2 = 0) :
    callW code ext 650 [.osl 0 0 5 T.length (some (T.length + 1)), .imm lv] [.flat (storeRow T) false] = some (avb (decide ((normsTo T l l.length).length = l.length / 2)), [.flat (storeRow T) false]) := by
  have hlen := reads_len hl
  have hbl := hl.2.1
  have loop : ∃ e s', den code ext (.loop [0, 1, 5, 6] x650L1) ⟨1, [(0, .osl 0 0 5 T.length (some (T.length + 1))), (1, .imm lv), (5, .omap 1), (6, int64 0)], keysMem T []⟩ = some (e, s') ∧ e ≠ .normal ∧
      (e = .exit 0 ∧ s' = ⟨1, [(0, .osl 0 0 5 T.length (some (T.length + 1))), (1, .imm lv), (5, .omap 1), (6, int64 l.length), (13, avb false)], keysMem T (normsTo T l l.length)⟩) := by
    refine loop_rule (fun n s => ∃ (i : Nat), i + n = l.length ∧ i % 2 = 0 ∧ s.tidy [0, 1, 5, 6] = ⟨1, [(0, .osl 0 0 5 T.length (some (T.length + 1))), (1, .imm lv), (5, .omap 1), (6, int64 (i : Nat))], keysMem T (normsTo T l i)⟩) _ ?_ l.length _ ⟨0, by simp, rfl, by simp -implicitDefEqProofs [keysMem, normsTo, normMap]⟩
    rintro n s ⟨i, hi, hi2, hs⟩
    rw [hs]
    by_cases hlt : i < l.length
    · obtain ⟨row, off, cap, rfl, hc, hcut, hget⟩ := reads_pos hl (List.getElem?_eq_getElem hlt)
      obtain ⟨s', g1, g2⟩ := keys_step (ext := ext) h T hb hl i l[i] (List.getElem?_eq_getElem hlt) (normsTo T l i)
      refine ⟨.normal, s', g1, .inl ⟨rfl, n - 2, by omega, i + 2, by omega, by omega, ?_⟩⟩
      rw [g2, normsTo_two T l i l[i] hi2 (List.getElem?_eq_getElem hlt)]
      rfl
    · have : i = l.length := by omega
      subst this
      refine ⟨.exit 0, ⟨1, [(0, .osl 0 0 5 T.length (some (T.length + 1))), (1, .imm lv), (5, .omap 1), (6, int64 l.length), (13, avb false)], keysMem T (normsTo T l l.length)⟩, ?_, .inr ⟨by simp, rfl, rfl⟩⟩
      simp -implicitDefEqProofs [x650L1, keysMem, hlen]
  obtain ⟨e, s', g1, _, rfl, rfl⟩ := loop
  rw [callW_fun code ext h']
  have hnl := normMap_len (normsTo T l l.length)
  have e2 : IntKind.wrap .i64 ((l.length : Int) / 2) = (l.length : Int) / 2 := wrapI64 (by omega) (by omega)
  have hn0 : normMap [] = [] := rfl
  simp only [keysMem, hn0] at g1
  simp -implicitDefEqProofs [x650, hlen, g1, hnl, e2]
  omega

end
end Go.EX
