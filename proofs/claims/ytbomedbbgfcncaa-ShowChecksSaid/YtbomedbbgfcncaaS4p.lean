/-
  EX: law 04: the reference's check.
-/
import Derived.Test.YtbomedbbgfcncaaS4o
set_option linter.unusedVariables false
set_option linter.unusedSimpArgs false
namespace Go.EX

def CheckOk (S : List Obj) (v : Val) : Prop := valOf S v = true ∧ ∀ (k : Nat) (o : Obj), Reach S [v] k → S[k]? = some o → ObjOk S o

section
variable {code : Nat → Option XFun} {ext : Calls'}

theorem refCheck_spec (h : code 502 = some x502) (h' : code 510 = some x510) (h2 : code 506 = some x506) (h3 : code 503 = some x503) (h4 : code 507 = some x507) (h5 : code 508 = some x508) (h6 : code 509 = some x509) (h7 : code 500 = some x500)
    {sv : IV} {S : List Obj} (hr : Reads tObj sv S) (v : Val) (hw : tVal.wf v) (hM : 1 + unm (List.replicate S.length false) S ≤ 100000000) (hS : S.length ≤ 1048576) :
    ∃ b : Bool, callW code ext 500 [.imm sv, .agg [.imm (.val (.int .u8 v.k)), int64 v.n]] [] = some (avb b, []) ∧ (b = true ↔ CheckOk S v) := by
  have hv := refVal_spec (ext := ext) h h' hr v
  rw [callW_fun code ext h7]
  cases hvv : valOf S v with
  | false =>
    rw [hvv] at hv
    exact ⟨false, by simp -implicitDefEqProofs [x500, hv], by simp [CheckOk, hvv]⟩
  | true =>
    rw [hvv] at hv
    have hq : Reads tVal (.slice [.val (.int .u8 v.k), .val (.int .i64 v.n)] 0 1 (some 1)) [v] := reads_row tVal [v] (cap := some 1) (by simpa using hw) (by simp) (by simp)
    obtain ⟨F, hI, hre⟩ := reached_spec (ext := ext) h h6 hr hq (by simpa using hM) hS
    have hFl := hI.len
    have hpl : (tBool.row F).all IV.plain = true := by simp [Ty.row, tBool, List.all_flatMap, IV.plain]
    have loop : ∀ s0 : St, s0.tidy [0, 5, 6] = ⟨0, [(0, .imm sv), (5, .osl 0 0 1 S.length (some S.length)), (6, int64 0)], [.flat (tBool.row F) false]⟩ → ∃ e s', den code ext (.loop [0, 5, 6] x500L1) s0 = some (e, s') ∧ e ≠ .normal ∧
        ((e = .exit 0 ∧ (∀ (k : Nat) (o : Obj), F[k]? = some true → S[k]? = some o → ObjOk S o) ∧ s' = ⟨0, [(0, .imm sv), (5, .osl 0 0 1 S.length (some S.length)), (6, int64 S.length), (18, avb false)], [.flat (tBool.row F) false]⟩) ∨ (e = .ret ∧ (¬ ∀ (k : Nat) (o : Obj), F[k]? = some true → S[k]? = some o → ObjOk S o) ∧ s' = ⟨0, [(4, avb false)], [.flat (tBool.row F) false]⟩)) := by
      intro s0 hst0
      refine loop_rule (fun n s => ∃ (i : Nat), i + n = S.length ∧ (∀ (k : Nat) (o : Obj), k < i → F[k]? = some true → S[k]? = some o → ObjOk S o) ∧ s.tidy [0, 5, 6] = ⟨0, [(0, .imm sv), (5, .osl 0 0 1 S.length (some S.length)), (6, int64 (i : Nat))], [.flat (tBool.row F) false]⟩) _ ?_ S.length _ ⟨0, by simp, fun k o h => by omega, hst0⟩
      clear hst0 s0
      rintro n s ⟨i, hi, hall, hst⟩
      rw [hst]
      by_cases hlt : i < S.length
      · have hif : i < F.length := by omega
        obtain ⟨row, off, cap, hsv, hc, hcut, hget⟩ := reads_pos hr (List.getElem?_eq_getElem hlt)
        have hqf : (tBool.row F)[i]? = some (.val (.bool F[i])) := by
          have := cut_one (flat_elem (t := tBool) (List.getElem?_eq_getElem hif))
          rwa [show tBool.sz = 1 from rfl, Nat.mul_one] at this
        have e1 : IntKind.wrap .i64 ((i : Int) + 1) = (i : Int) + 1 := wrapI64 (by omega) (by omega)
        have hFi := List.getElem?_eq_getElem hif
        have hSi := List.getElem?_eq_getElem hlt
        obtain ⟨b, hob, hbo⟩ := refObj_spec (ext := ext) h h' h2 h3 h4 h5 hr S[i]
        generalize S[i] = o at hget hSi hob hbo
        simp only [tObj] at hget
        have next : (F[i] = true → ObjOk S o) → ∀ (k : Nat) (o : Obj), k < i + 1 → F[k]? = some true → S[k]? = some o → ObjOk S o := by
          intro hn k p hk hFk hSk
          by_cases hki : k < i
          · exact hall k p hki hFk hSk
          · have : k = i := by omega
            subst this
            rw [hSi] at hSk; cases hSk
            exact hn (by rw [hFi] at hFk; simpa using hFk)
        cases hb : F[i] with
        | false =>
          rw [hb] at hqf
          refine ⟨.normal, ⟨0, [(0, .imm sv), (5, .osl 0 0 1 S.length (some S.length)), (6, int64 ((i : Int) + 1))], [.flat (tBool.row F) false]⟩, ?_, .inl ⟨rfl, n - 1, by omega, i + 1, by omega, next (by rw [hb]; simp), by simp -implicitDefEqProofs⟩⟩
          subst hsv
          simp -implicitDefEqProofs [x500L1, hif, hqf, hlt, e1]
        | true =>
          rw [hb] at hqf hFi
          cases hbb : b with
          | true =>
            rw [hbb] at hob hbo
            refine ⟨.normal, ⟨0, [(0, .imm sv), (5, .osl 0 0 1 S.length (some S.length)), (6, int64 ((i : Int) + 1))], [.flat (tBool.row F) false]⟩, ?_, .inl ⟨rfl, n - 1, by omega, i + 1, by omega, next (fun _ => hbo.1 rfl), by simp -implicitDefEqProofs⟩⟩
            subst hsv
            simp -implicitDefEqProofs [x500L1, hif, hqf, hlt, e1, hlt, hget, hob]
          | false =>
            rw [hbb] at hob hbo
            refine ⟨.ret, ⟨0, [(4, avb false)], [.flat (tBool.row F) false]⟩, ?_, .inr ⟨by simp, .inr ⟨rfl, fun hc => ?_, rfl⟩⟩⟩
            · subst hsv
              simp -implicitDefEqProofs [x500L1, hif, hqf, hlt, e1, hlt, hget, hob]
            · have := hbo.2 (hc i o hFi hSi)
              cases this
      · have : i = S.length := by omega
        subst this
        refine ⟨.exit 0, _, ?_, .inr ⟨by simp, .inl ⟨rfl, fun k o hF hSo => hall k o (List.getElem?_eq_some_iff.1 hSo).1 hF hSo, rfl⟩⟩⟩
        simp -implicitDefEqProofs [x500L1]
    obtain ⟨e, s', l1, _, ⟨rfl, hall, rfl⟩ | ⟨rfl, hall, rfl⟩⟩ := loop ⟨0, [(0, .imm sv), (5, .osl 2 0 1 S.length (some S.length)), (6, int64 0)], [.rich [.imm (.val (.int .u8 v.k)), int64 v.n], .flat [.val (.int .u8 v.k), .val (.int .i64 v.n)] false, .flat (tBool.row F) false]⟩ (by simp -implicitDefEqProofs)
    · refine ⟨true, ?_, ?_⟩
      · simp -implicitDefEqProofs [x500, hv, hre, hpl, l1]
      · simp only [CheckOk, hvv, true_and, true_iff]
        exact fun k o hk ho => hall k o ((hI.done k).2 hk) ho
    · refine ⟨false, ?_, ?_⟩
      · simp -implicitDefEqProofs [x500, hv, hre, hpl, l1]
      · simp only [Bool.false_eq_true, CheckOk, hvv, true_and, false_iff]
        exact fun hc => hall fun k o hF ho => hc k o ((hI.done k).1 hF) ho

end
end Go.EX
