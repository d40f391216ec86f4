import Derived.Test.YtfmpeoickjggiaaGreatDoorC9d
import Derived.Test.YtfmpeoickjggiaaGreatDoorV9c
import Derived.Test.YtfmpeoickjggiaaGreatDoorV9l
set_option linter.unusedVariables false
set_option linter.unusedSimpArgs false
namespace Go.EX
def qOf (op : Int) : Int × Int × Int × Int := (((opRow op).1 : Int), ((opRow op).2.1 : Int), ((opRow op).2.2.1 : Int), ((opRow op).2.2.2 : Int))
def headMem (pv : IV) (ms : List (Int × Int)) (f : Fn) (told todo : List Int) (junk : List IV) (mvT mvD : Bool) (cap : Option Nat) : Mem :=
  [.rich (ckCells pv), .map (mkMap ms), .rich [.osl 5 0 1 told.length none], .rich (fnCells f), .rich [.osl 6 0 1 todo.length cap], .flat (rowI told) mvT, .flat (rowI todo ++ junk) mvD]
abbrev headEnv : Env := [(0, .optr 0 0), (4, .optr 2 0), (6, .optr 3 0), (7, .optr 4 0)]
def dOf (v : Int) (i : Ins) : Int := v - (qOf i.op).2.1 - (qOf i.op).2.2.2 * i.a
def preFault (v : Int) (i : Ins) : Bool := decide (dOf v i < 0) || decide (dOf v i + (qOf i.op).2.2.1 > 256) || (decide (i.op = 21) && decide (v ≠ 0))
theorem tm_kind (op : Int) : (opRow op).2.2.2 ≠ 0 → (opRow op).1 = 7 := by
  have : ∀ k : Nat, ((rowTab[k]?).getD (0, 0, 0, 0)).2.2.2 ≠ 0 → ((rowTab[k]?).getD (0, 0, 0, 0)).1 = 7 := by
    intro k
    by_cases hk : k < 31
    · exact (by decide : ∀ k : Fin 31, ((rowTab[k.val]?).getD (0, 0, 0, 0)).2.2.2 ≠ 0 → ((rowTab[k.val]?).getD (0, 0, 0, 0)).1 = 7) ⟨k, hk⟩
    · rw [List.getElem?_eq_none (by show 31 ≤ k; omega)]; simp
  exact this _
theorem numOk_op {np : Nat} {f : Fn} {pc : Nat} {i : Ins} (h : numOk np f pc i = true) : 1 ≤ i.op ∧ i.op < 31 := by
  unfold numOk at h
  simp only [Bool.and_eq_true] at h
  simpa [isB] using h.1
theorem numOk_tm {np : Nat} {f : Fn} {pc : Nat} {i : Ins} (h : numOk np f pc i = true) : (opRow i.op).2.2.2 = 0 ∨ (0 ≤ i.a ∧ i.a ≤ 256) := by
  by_cases h0 : (opRow i.op).2.2.2 = 0
  · exact .inl h0
  · right
    have h7 := tm_kind _ h0
    unfold numOk at h
    rw [h7] at h
    simp only [Bool.and_eq_true, isB, decide_eq_true_eq] at h
    omega
theorem den_A (pv : IV) (ms : List (Int × Int)) (f : Fn) (told todo : List Int) (junk : List IV) (mvT mvD : Bool) (cap : Option Nat) :
    den code9 (extInsert 766) d9A ⟨2, headEnv, headMem pv ms f told todo junk mvT mvD cap⟩ = if 0 < todo.length then some (.normal, ⟨2, headEnv ++ [(37, avb true)], headMem pv ms f told todo junk mvT mvD cap⟩) else some (.exit 2, ⟨2, headEnv ++ [(37, avb false)], headMem pv ms f told todo junk mvT mvD cap⟩) := by
  simp only [headMem]
  by_cases h : 0 < todo.length
  · have h' : (0 : Int) < todo.length := by omega
    rw [if_pos h]
    simp -implicitDefEqProofs [d9A, h', h]
  · have h' : ¬ (0 : Int) < todo.length := by omega
    rw [if_neg h]
    simp -implicitDefEqProofs [d9A, h', h]
def preEnv (pc : Nat) (d : Int) : Env := [(0, .optr 0 0), (4, .optr 2 0), (6, .optr 3 0), (7, .optr 4 0), (8, int64 pc), (9, .optr 7 0), (10, .optr 8 0), (11, int64 d), (12, .optr 9 0), (13, .clo 249 [.optr 2 0, .optr 4 0, .optr 9 0])]
def preMem (pv : IV) (ms : List (Int × Int)) (f : Fn) (i : Ins) (told todo : List Int) (junk : List IV) (mvT mvD : Bool) (cap : Option Nat) : Mem :=
  headMem pv ms f told todo junk mvT mvD cap ++ [.rich [.imm (.val (.int .u8 i.op)), int64 i.a], .rich [.imm (.val (.int .u8 (qOf i.op).1)), int64 (qOf i.op).2.1, int64 (qOf i.op).2.2.1, int64 (qOf i.op).2.2.2], .rich [avb true]]
set_option maxRecDepth 100000 in
set_option maxHeartbeats 8000000 in
theorem dep_pre (pv : IV) (ms : List (Int × Int)) (f : Fn) {np : Nat} (told todo : List Int) (junk : List IV) (mvT mvD : Bool) (cap : Option Nat) (hcap : ∀ c, cap = some c → (todo.length + 1) ≤ c) (pc : Nat) (i : Ins) (v : Int)
    (hi : f.code.xs[pc]? = some i) (hnum : numOk np f pc i = true) (hv : told[pc]? = some v) (hvb : 0 ≤ v ∧ v ≤ 256) (hl : todo.length ≤ 1000000) (hn : told.length ≤ 1000000) (X : XCode) :
    (preFault v i = true → ∃ rest, den code9 (extInsert 766) (d9P X) ⟨2, headEnv ++ [(37, avb true)], headMem pv ms f told (todo ++ [(pc : Int)]) junk mvT mvD cap⟩ = some (.ret, ⟨2, [(4, .optr 2 0), (5, int64 pc)], [.rich (ckCells pv), .map (mkMap ms), .rich [nilS]] ++ rest⟩)) ∧
    (preFault v i = false → den code9 (extInsert 766) (d9P X) ⟨2, headEnv ++ [(37, avb true)], headMem pv ms f told (todo ++ [(pc : Int)]) junk mvT mvD cap⟩ = den code9 (extInsert 766) X ⟨2, preEnv pc (dOf v i), preMem pv ms f i told todo (.val (.int .i64 pc) :: junk) mvT mvD cap⟩) := by
  have hop := numOk_op hnum
  have htm := numOk_tm hnum
  have hrow := opRow_le i.op
  have hr := ck_row pv i.op (by omega) hop.2
  have hlt := (List.getElem?_eq_some_iff.1 hi).1
  have hpl := (List.getElem?_eq_some_iff.1 hv).1
  have hgT : (rowI told)[pc]? = some (.val (.int .i64 v)) := by rw [rowI_get, hv]; rfl
  obtain ⟨row, off, ccap, hiv, hc, hcut, hget⟩ := reads_pos f.code.ok hi
  simp only [tIns] at hget
  have hb := f.code.ok.2.1
  have hpi : (pc : Int) < f.code.xs.length := by omega
  have hpt : (pc : Int) < told.length := by omega
  have hlen1 : (todo ++ [(pc : Int)]).length = todo.length + 1 := by simp
  have hcells : rowI (todo ++ [(pc : Int)]) ++ junk = rowI todo ++ .val (.int .i64 pc) :: junk := by rw [rowI_app]; simp [rowI, Ty.row, tInt]
  have hgD : (rowI todo ++ .val (.int .i64 pc) :: junk)[todo.length]? = some (.val (.int .i64 pc)) := by
    rw [List.getElem?_append_right (by rw [rowI_len]; exact Nat.le_refl _), rowI_len, Nat.sub_self]; rfl
  have hcap0 : cap.map (· - 0) = cap := by cases cap <;> rfl
  have hbnd : todo.length ≤ cap.getD (todo.length + 1) := by
    cases cap with
    | none => simp
    | some c => have := hcap c rfl; simp; omega
  have e0 : IntKind.wrap .i64 (((todo.length + 1 : Nat) : Int) - 1) = (todo.length : Int) := by rw [wrapI64 (by omega) (by omega)]; omega
  have e0' : IntKind.wrap .i64 ((todo.length : Int) + 1 - 1) = (todo.length : Int) := by rw [wrapI64 (by omega) (by omega)]; omega
  have e5 : IntKind.wrap .i64 (todo.length : Int) = (todo.length : Int) := wrapI64 (by omega) (by omega)
  have hop0 : 0 ≤ i.op := by omega
  have hrw : rowIV (opRow i.op) = [.val (.int .u8 (qOf i.op).1), .val (.int .i64 (qOf i.op).2.1), .val (.int .i64 (qOf i.op).2.2.1), .val (.int .i64 (qOf i.op).2.2.2)] := rfl
  rw [hrw] at hr
  have hq1 : 0 ≤ (qOf i.op).2.1 ∧ (qOf i.op).2.1 ≤ 3 := by simp only [qOf]; omega
  have hq2 : 0 ≤ (qOf i.op).2.2.1 ∧ (qOf i.op).2.2.1 ≤ 2 := by simp only [qOf]; omega
  have hmul : 0 ≤ (qOf i.op).2.2.2 * i.a ∧ (qOf i.op).2.2.2 * i.a ≤ 512 := by
    have h3 : (qOf i.op).2.2.2 = ((opRow i.op).2.2.2 : Int) := rfl
    rcases htm with h0 | h0
    · rw [h3, h0]; simp
    · rw [h3]
      have h4 := hrow.2.2.2
      generalize (opRow i.op).2.2.2 = t at h4
      have : t = 0 ∨ t = 1 ∨ t = 2 := by omega
      rcases this with rfl | rfl | rfl <;> omega
  unfold preFault dOf preMem
  generalize qOf i.op = q at hr hq1 hq2 hmul ⊢
  obtain ⟨qk, qt, ql, qm⟩ := q
  simp only at hr hq1 hq2 hmul ⊢
  have e1 : IntKind.wrap .i64 (v - qt) = v - qt := wrapI64 (by omega) (by omega)
  have e2 : IntKind.wrap .i64 (qm * i.a) = qm * i.a := wrapI64 (by omega) (by omega)
  have e3 : IntKind.wrap .i64 (v - qt - qm * i.a) = v - qt - qm * i.a := wrapI64 (by omega) (by omega)
  have e4 : IntKind.wrap .i64 (v - qt - qm * i.a + ql) = v - qt - qm * i.a + ql := wrapI64 (by omega) (by omega)
  have hsl : exSlice 1 (.osl 6 0 1 (todo.length + 1) cap) none (some (int64 todo.length)) = some (.osl 6 0 1 todo.length cap) := by
    have hb1 : (todo.length : Int) ≤ ((cap.getD (todo.length + 1) : Nat) : Int) := by omega
    simp only [exSlice, bounds, bndOf, intOf, if_true, Option.map_some]
    rw [if_pos ⟨Int.le_refl _, by omega, by simpa using hb1⟩]
    simp only [Option.map_some, Int.toNat_natCast]
    rw [hcap0]
    rfl
  have hlt2 : (todo.length : Int) < (todo.length : Int) + 1 := by omega
  simp only [headMem, headEnv, hlen1, hcells, preMem, preEnv]
  refine ⟨fun hF => ⟨[.rich (fnCells f), .rich [.osl 6 0 1 todo.length cap], .flat (rowI told) mvT, .flat (rowI todo ++ .val (.int .i64 pc) :: junk) mvD, .rich [.imm (.val (.int .u8 i.op)), int64 i.a], .rich [.imm (.val (.int .u8 qk)), int64 qt, int64 ql, int64 qm]], ?_⟩, fun hF => ?_⟩
  · by_cases c1 : v - qt - qm * i.a < 0
    · simp -implicitDefEqProofs [d9P, d9R1, d9R2, d9R3, d9R4, d9R5, d9R6, hgD, e0, e0', e5, hsl, hlt2, hiv, hget, hpi, hlt, hr, hop0, hop.2, hgT, hpt, hpl, e1, e2, e3, c1]
    · by_cases c2 : v - qt - qm * i.a + ql > 256
      · simp -implicitDefEqProofs [d9P, d9R1, d9R2, d9R3, d9R4, d9R5, d9R6, hgD, e0, e0', e5, hsl, hlt2, hiv, hget, hpi, hlt, hr, hop0, hop.2, hgT, hpt, hpl, e1, e2, e3, e4, c1, c2]
      · have c3 : i.op = 21 ∧ v ≠ 0 := by simpa [c1, c2] using hF
        have c4 := c3.2
        rw [c3.1] at hget hr
        have hr : cut (ckCells pv) 85 4 = _ := hr
        rw [c3.1]
        simp -implicitDefEqProofs [d9P, d9R1, d9R2, d9R3, d9R4, d9R5, d9R6, hgD, e0, e0', e5, hsl, hlt2, hiv, hget, hpi, hlt, hr, hgT, hpt, hpl, e1, e2, e3, e4, c1, c2, c4]
  · have c1 : ¬ v - qt - qm * i.a < 0 := fun h => by simp [h] at hF
    have c2 : ¬ v - qt - qm * i.a + ql > 256 := fun h => by simp [h] at hF
    by_cases c3 : i.op = 21
    · have c4 : v = 0 := by
        by_cases h : v = 0
        · exact h
        · simp [c3, h] at hF
      subst c4
      rw [c3] at hget hr
      have hr : cut (ckCells pv) 85 4 = _ := hr
      rw [c3]
      simp only [Int.zero_sub] at c1 c2
      have f1 : IntKind.wrap .i64 (-qt) = -qt := wrapI64 (by omega) (by omega)
      have f3 : IntKind.wrap .i64 (-qt - qm * i.a) = -qt - qm * i.a := wrapI64 (by omega) (by omega)
      have f4 : IntKind.wrap .i64 (-qt - qm * i.a + ql) = -qt - qm * i.a + ql := wrapI64 (by omega) (by omega)
      simp -implicitDefEqProofs [d9P, d9R1, d9R2, d9R3, d9R4, d9R5, d9R6, d9R7, d9R8, hgD, e0, e0', e5, hsl, hlt2, hiv, hget, hpi, hlt, hr, hgT, hpt, hpl, e2, f1, f3, f4, c1, c2]
    · simp -implicitDefEqProofs [d9P, d9R1, d9R2, d9R3, d9R4, d9R5, d9R6, d9R7, d9R8, hgD, e0, e0', e5, hsl, hlt2, hiv, hget, hpi, hlt, hr, hop0, hop.2, hgT, hpt, hpl, e1, e2, e3, e4, c1, c2, c3]
end Go.EX

