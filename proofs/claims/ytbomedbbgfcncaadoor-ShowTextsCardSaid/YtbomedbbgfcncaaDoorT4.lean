import Derived.Test.YtbomedbbgfcncaaDoorT3
set_option maxHeartbeats 4000000
set_option linter.unusedVariables false
set_option linter.unusedSimpArgs false
namespace Go.EX
section
variable {code : Nat → Option XFun} {ext : Calls'}
theorem q_add (k : IntKind) (a b : Int) : intBin .add k a b = some (.int k (k.wrap (a + b))) := rfl
theorem q_eql (k : IntKind) (a b : Int) : intBin .eql k a b = some (.bool (a == b)) := rfl
theorem q_lss (k : IntKind) (a b : Int) : intBin .lss k a b = some (.bool (a < b)) := rfl
theorem q_gtr (k : IntKind) (a b : Int) : intBin .gtr k a b = some (.bool (a > b)) := rfl
theorem tmod2 (i : Nat) : intBin .rem .i64 (i : Int) 2 = some (.int .i64 ((i % 2 : Nat) : Int)) := by
  simp only [intBin]
  rw [if_neg (by decide), Int.tmod_eq_emod_of_nonneg (by omega)]
  simp
structure ItemOK (code : Nat → Option XFun) (ext : Calls') (sv : IV) (inn : Int) (f : Val → ByteArray → ByteArray) (xs : List Val) (B : Nat) : Prop where
  call : ∀ v ∈ xs, ∀ c : ByteArray, 0 < c.size → c.size ≤ 5000 → callW code ext 246 [.optr 0 0, .agg [.imm (.val (.int .u8 v.k)), int64 v.n], int64 inn] (bOne sv c) = some (.tup [], bTwo sv (f v c))
  pos : ∀ v ∈ xs, ∀ c : ByteArray, 0 < c.size → 0 < (f v c).size
  size : ∀ v ∈ xs, ∀ c : ByteArray, c.size ≤ 5000 → (f v c).size ≤ B
theorem key_size (c : ByteArray) : (c ++ keyT).size = c.size + 2 := size_append' c keyT
theorem next_size (c : ByteArray) : (c ++ nextT).size = c.size + 2 := size_append' c nextT
theorem items_two (c : TextCode code ext) {sv : IV} {inn : Int} (hinn : 0 ≤ inn ∧ inn ≤ 100) {f : Val → ByteArray → ByteArray} {o : Obj} {B : Nat} (hB : B ≤ 100000000) (hI : ItemOK code ext sv (inn + 1) f o.l.xs B) (hl : o.l.xs.length ≤ 1000000) {row : List IV} {off : Nat} (g0 : row[off]? = some (.val (.int .u8 o.k))) (en : ByteArray) (c0 : ByteArray) (h0 : 0 < c0.size) (hB0 : c0.size ≤ B) :
    ∃ e s', den code ext (.loop [0, 1, 2, 7, 23, 24, 25] x245L1) ⟨2, [(0, .optr 0 0), (1, .imm (.ptr row off)), (2, int64 inn), (7, strV en), (23, .imm o.l.iv), (24, int64 o.l.xs.length), (25, int64 0)], bTwo sv c0⟩ = some (e, s') ∧ e ≠ .normal ∧
      ((e = .ret ∧ leave s' x245 = some (.tup [], bTwo sv (itemsV f (decide (o.k = 5)) o.l.xs 0 c0).1) ∧ (itemsV f (decide (o.k = 5)) o.l.xs 0 c0).2 = true) ∨
       (e = .exit 0 ∧ s' = ⟨2, [(0, .optr 0 0), (1, .imm (.ptr row off)), (2, int64 inn), (7, strV en), (23, .imm o.l.iv), (24, int64 o.l.xs.length), (25, int64 o.l.xs.length), (26, avb false)], bTwo sv (itemsV f (decide (o.k = 5)) o.l.xs 0 c0).1⟩ ∧ (itemsV f (decide (o.k = 5)) o.l.xs 0 c0).2 = false ∧ 0 < (itemsV f (decide (o.k = 5)) o.l.xs 0 c0).1.size ∧ (itemsV f (decide (o.k = 5)) o.l.xs 0 c0).1.size ≤ B)) := by
  have hr := o.l.ok
  have hlen := reads_len hr
  refine loop_rule (fun n s => ∃ (i : Nat) (b : ByteArray), i + n = o.l.xs.length ∧ 0 < b.size ∧ b.size ≤ B ∧ itemsV f (decide (o.k = 5)) o.l.xs 0 c0 = itemsV f (decide (o.k = 5)) (o.l.xs.drop i) i b ∧
    s.tidy [0, 1, 2, 7, 23, 24, 25] = ⟨2, [(0, .optr 0 0), (1, .imm (.ptr row off)), (2, int64 inn), (7, strV en), (23, .imm o.l.iv), (24, int64 o.l.xs.length), (25, int64 (i : Nat))], bTwo sv b⟩) _ ?_ o.l.xs.length _ ⟨0, c0, by omega, h0, hB0, by simp, by simp only [bTwo]; simp -implicitDefEqProofs⟩
  rintro n s ⟨i, b, hi, hb, hbB, hg, hst⟩
  rw [hst, hg]
  by_cases hlt : i < o.l.xs.length
  · have hx : o.l.xs[i]? = some o.l.xs[i] := List.getElem?_eq_getElem hlt
    have hmem : o.l.xs[i] ∈ o.l.xs := List.getElem_mem hlt
    obtain ⟨r2, o2, cap, hiv, hc, hcut, hget⟩ := reads_pos hr hx
    rw [List.drop_eq_getElem_cons hlt, itemsV] at *
    generalize o.l.xs[i] = v at hget hmem hg
    simp only [tVal] at hget
    have e1 : IntKind.wrap .i64 ((i : Int) + 1) = (i : Int) + 1 := wrapI64 (by omega) (by omega)
    have e2 : IntKind.wrap .i64 (inn + 1) = inn + 1 := wrapI64 (by omega) (by omega)
    have hlg := long_one c sv b
    rw [hiv]
    generalize o.l.iv = liv at *
    by_cases h4 : 4096 < b.size
    · rw [if_pos h4]
      simp only [bOne, bTwo, h4, decide_true] at hlg ⊢
      refine ⟨.ret, _, by simp -implicitDefEqProofs [x245L1, hlt, hget, hlg]; rfl, .inr ⟨by simp, .inl ⟨rfl, by simp -implicitDefEqProofs [x245], by simp⟩⟩⟩
    · rw [if_neg h4]
      have hm2 := tmod2 i
      have hlf : decide (4096 < b.size) = false := by simpa using h4
      rw [hlf] at hlg
      have step : ∀ x : ByteArray, x.size ≤ 2 → (hv : callW code ext 246 [.optr 0 0, .agg [.imm (.val (.int .u8 v.k)), int64 v.n], int64 (inn + 1)] (bOne sv (b ++ x)) = some (.tup [], bTwo sv (f v (b ++ x)))) → True := fun _ _ _ => trivial
      by_cases hk : o.k = 5 ∧ i % 2 = 1
      · have hw := write_one c sv b keyT hb (by have : keyT.size = 2 := rfl; omega)
        have hv := hI.call v hmem (b ++ keyT) (by rw [key_size]; omega) (by rw [key_size]; omega)
        have hp := hI.pos v hmem (b ++ keyT) (by rw [key_size]; omega)
        have hs := hI.size v hmem (b ++ keyT) (by rw [key_size]; omega)
        obtain ⟨hk5, hodd⟩ := hk
        rw [hk5] at g0
        rw [hodd] at hm2
        simp only [hk5, decide_true, hodd, and_self, if_true] at *
        generalize f v (b ++ keyT) = b2 at *
        simp only [bOne, bTwo, ByteArray.size_append] at hlg hw hv ⊢
        refine ⟨.normal, _, by simp -implicitDefEqProofs [-intBin, q_lss, q_add, q_eql, x245L1, hlt, hget, hlg, g0, hm2, hw, hv, e1, e2]; rfl, .inl ⟨rfl, n - 1, by omega, i + 1, b2, by omega, hp, hs, rfl, by simp -implicitDefEqProofs⟩⟩
      · by_cases h00 : 0 < i
        · have hw := write_one c sv b nextT hb (by have : nextT.size = 2 := rfl; omega)
          have hv := hI.call v hmem (b ++ nextT) (by rw [next_size]; omega) (by rw [next_size]; omega)
          have hp := hI.pos v hmem (b ++ nextT) (by rw [next_size]; omega)
          have hs := hI.size v hmem (b ++ nextT) (by rw [next_size]; omega)
          have h00' : (0 : Int) < i := by omega
          by_cases hk5 : o.k = 5
          · have heven : i % 2 = 0 := by have : ¬ i % 2 = 1 := fun h => hk ⟨hk5, h⟩; omega
            rw [hk5] at g0
            rw [heven] at hm2
            simp only [hk5, decide_true, heven, h00, if_true] at *
            simp only [show ¬ (0 = 1) by decide, and_false, if_false] at *
            have h01 : 0 < i := by omega
            generalize f v (b ++ nextT) = b2 at *
            simp only [bOne, bTwo, ByteArray.size_append] at hlg hw hv ⊢
            refine ⟨.normal, _, by simp -implicitDefEqProofs [-intBin, q_lss, q_gtr, q_add, q_eql, x245L1, hlt, hget, hlg, g0, hm2, hw, hv, e1, e2, h01, h00']; rfl, .inl ⟨rfl, n - 1, by omega, i + 1, b2, by omega, hp, hs, rfl, by simp -implicitDefEqProofs⟩⟩
          · have hkd : decide (o.k = 5) = false := by simpa using hk5
            rw [hkd] at *
            simp only [h00, if_true, Bool.false_eq_true, false_and, if_false] at *
            have h01 : 0 < i := by omega
            generalize f v (b ++ nextT) = b2 at *
            simp only [bOne, bTwo, ByteArray.size_append] at hlg hw hv ⊢
            refine ⟨.normal, _, by simp -implicitDefEqProofs [-intBin, q_lss, q_gtr, q_add, q_eql, x245L1, hlt, hget, hlg, g0, hk5, hw, hv, e1, e2, h01, h00']; rfl, .inl ⟨rfl, n - 1, by omega, i + 1, b2, by omega, hp, hs, rfl, by simp -implicitDefEqProofs⟩⟩
        · have h00' : ¬ (0 : Int) < i := by omega
          have hi0 : i = 0 := by omega
          subst hi0
          have hv := hI.call v hmem b (by omega) (by omega)
          have hp := hI.pos v hmem b (by omega)
          have hs := hI.size v hmem b (by omega)
          have hno : ¬ (decide (o.k = 5) = true ∧ 0 % 2 = 1) := by simp
          rw [if_neg hno, if_neg h00]
          simp only [Nat.zero_mul, Nat.add_zero] at hget
          have hm0 : intBin .rem .i64 0 2 = some (.int .i64 0) := rfl
          have e10 : IntKind.wrap .i64 1 = 1 := rfl
          generalize f v b = b2 at *
          simp only [bOne, bTwo] at hlg hv ⊢
          by_cases hk5 : o.k = 5
          · rw [hk5] at g0
            refine ⟨.normal, _, by simp -implicitDefEqProofs [-intBin, q_lss, q_gtr, q_add, q_eql, x245L1, hlt, hget, hlg, g0, hm0, hv, e10, e2]; rfl, .inl ⟨rfl, n - 1, by omega, 1, b2, by omega, hp, hs, rfl, by simp -implicitDefEqProofs⟩⟩
          · refine ⟨.normal, _, by simp -implicitDefEqProofs [-intBin, q_lss, q_gtr, q_add, q_eql, x245L1, hlt, hget, hlg, g0, hk5, hv, e10, e2]; rfl, .inl ⟨rfl, n - 1, by omega, 1, b2, by omega, hp, hs, rfl, by simp -implicitDefEqProofs⟩⟩
  · have hie : i = o.l.xs.length := by omega
    subst hie
    rw [List.drop_eq_nil_of_le (Nat.le_refl _), itemsV]
    simp only [bTwo]
    refine ⟨.exit 0, _, by simp -implicitDefEqProofs [x245L1], .inr ⟨by simp, .inr ⟨rfl, rfl, by simp, hb, hbB⟩⟩⟩
theorem items_one (c : TextCode code ext) {sv : IV} {inn : Int} (hinn : 0 ≤ inn ∧ inn ≤ 100) {f : Val → ByteArray → ByteArray} {o : Obj} {B : Nat} (hB : B ≤ 100000000) (hI : ItemOK code ext sv (inn + 1) f o.l.xs B) (hl : o.l.xs.length ≤ 1000000) {row : List IV} {off : Nat} (g0 : row[off]? = some (.val (.int .u8 o.k))) (en : ByteArray) (c0 : ByteArray) (h0 : 0 < c0.size) (hB0 : c0.size ≤ B) :
    ∃ e s', den code ext (.loop [0, 1, 2, 7, 23, 24, 25] x245L1) ⟨1, [(0, .optr 0 0), (1, .imm (.ptr row off)), (2, int64 inn), (7, strV en), (23, .imm o.l.iv), (24, int64 o.l.xs.length), (25, int64 0)], bOne sv c0⟩ = some (e, s') ∧ e ≠ .normal ∧
      ((e = .ret ∧ leave s' x245 = some (.tup [], bOne sv (itemsV f (decide (o.k = 5)) o.l.xs 0 c0).1) ∧ (itemsV f (decide (o.k = 5)) o.l.xs 0 c0).2 = true) ∨
       (e = .exit 0 ∧ s' = ⟨1, [(0, .optr 0 0), (1, .imm (.ptr row off)), (2, int64 inn), (7, strV en), (23, .imm o.l.iv), (24, int64 o.l.xs.length), (25, int64 o.l.xs.length), (26, avb false)], bOne sv (itemsV f (decide (o.k = 5)) o.l.xs 0 c0).1⟩ ∧ (itemsV f (decide (o.k = 5)) o.l.xs 0 c0).2 = false ∧ 0 < (itemsV f (decide (o.k = 5)) o.l.xs 0 c0).1.size ∧ (itemsV f (decide (o.k = 5)) o.l.xs 0 c0).1.size ≤ B)) := by
  have hr := o.l.ok
  have hlen := reads_len hr
  refine loop_rule (fun n s => ∃ (i : Nat) (b : ByteArray), i + n = o.l.xs.length ∧ 0 < b.size ∧ b.size ≤ B ∧ itemsV f (decide (o.k = 5)) o.l.xs 0 c0 = itemsV f (decide (o.k = 5)) (o.l.xs.drop i) i b ∧
    s.tidy [0, 1, 2, 7, 23, 24, 25] = ⟨1, [(0, .optr 0 0), (1, .imm (.ptr row off)), (2, int64 inn), (7, strV en), (23, .imm o.l.iv), (24, int64 o.l.xs.length), (25, int64 (i : Nat))], bOne sv b⟩) _ ?_ o.l.xs.length _ ⟨0, c0, by omega, h0, hB0, by simp, by simp only [bOne]; simp -implicitDefEqProofs⟩
  rintro n s ⟨i, b, hi, hb, hbB, hg, hst⟩
  rw [hst, hg]
  by_cases hlt : i < o.l.xs.length
  · have hx : o.l.xs[i]? = some o.l.xs[i] := List.getElem?_eq_getElem hlt
    have hmem : o.l.xs[i] ∈ o.l.xs := List.getElem_mem hlt
    obtain ⟨r2, o2, cap, hiv, hc, hcut, hget⟩ := reads_pos hr hx
    rw [List.drop_eq_getElem_cons hlt, itemsV] at *
    generalize o.l.xs[i] = v at hget hmem hg
    simp only [tVal] at hget
    have e1 : IntKind.wrap .i64 ((i : Int) + 1) = (i : Int) + 1 := wrapI64 (by omega) (by omega)
    have e2 : IntKind.wrap .i64 (inn + 1) = inn + 1 := wrapI64 (by omega) (by omega)
    have hlg := long_one c sv b
    rw [hiv]
    generalize o.l.iv = liv at *
    by_cases h4 : 4096 < b.size
    · rw [if_pos h4]
      simp only [bOne, bTwo, h4, decide_true] at hlg ⊢
      refine ⟨.ret, _, by simp -implicitDefEqProofs [x245L1, hlt, hget, hlg]; rfl, .inr ⟨by simp, .inl ⟨rfl, by simp -implicitDefEqProofs [x245], by simp⟩⟩⟩
    · rw [if_neg h4]
      have hm2 := tmod2 i
      have hlf : decide (4096 < b.size) = false := by simpa using h4
      rw [hlf] at hlg
      have step : ∀ x : ByteArray, x.size ≤ 2 → (hv : callW code ext 246 [.optr 0 0, .agg [.imm (.val (.int .u8 v.k)), int64 v.n], int64 (inn + 1)] (bOne sv (b ++ x)) = some (.tup [], bTwo sv (f v (b ++ x)))) → True := fun _ _ _ => trivial
      by_cases hk : o.k = 5 ∧ i % 2 = 1
      · have hw := write_one c sv b keyT hb (by have : keyT.size = 2 := rfl; omega)
        have hv := hI.call v hmem (b ++ keyT) (by rw [key_size]; omega) (by rw [key_size]; omega)
        have hp := hI.pos v hmem (b ++ keyT) (by rw [key_size]; omega)
        have hs := hI.size v hmem (b ++ keyT) (by rw [key_size]; omega)
        obtain ⟨hk5, hodd⟩ := hk
        rw [hk5] at g0
        rw [hodd] at hm2
        simp only [hk5, decide_true, hodd, and_self, if_true] at *
        generalize f v (b ++ keyT) = b2 at *
        simp only [bOne, bTwo, ByteArray.size_append] at hlg hw hv ⊢
        refine ⟨.normal, _, by simp -implicitDefEqProofs [-intBin, q_lss, q_add, q_eql, x245L1, hlt, hget, hlg, g0, hm2, hw, hv, e1, e2]; rfl, .inl ⟨rfl, n - 1, by omega, i + 1, b2, by omega, hp, hs, rfl, by simp -implicitDefEqProofs⟩⟩
      · by_cases h00 : 0 < i
        · have hw := write_one c sv b nextT hb (by have : nextT.size = 2 := rfl; omega)
          have hv := hI.call v hmem (b ++ nextT) (by rw [next_size]; omega) (by rw [next_size]; omega)
          have hp := hI.pos v hmem (b ++ nextT) (by rw [next_size]; omega)
          have hs := hI.size v hmem (b ++ nextT) (by rw [next_size]; omega)
          have h00' : (0 : Int) < i := by omega
          by_cases hk5 : o.k = 5
          · have heven : i % 2 = 0 := by have : ¬ i % 2 = 1 := fun h => hk ⟨hk5, h⟩; omega
            rw [hk5] at g0
            rw [heven] at hm2
            simp only [hk5, decide_true, heven, h00, if_true] at *
            simp only [show ¬ (0 = 1) by decide, and_false, if_false] at *
            have h01 : 0 < i := by omega
            generalize f v (b ++ nextT) = b2 at *
            simp only [bOne, bTwo, ByteArray.size_append] at hlg hw hv ⊢
            refine ⟨.normal, _, by simp -implicitDefEqProofs [-intBin, q_lss, q_gtr, q_add, q_eql, x245L1, hlt, hget, hlg, g0, hm2, hw, hv, e1, e2, h01, h00']; rfl, .inl ⟨rfl, n - 1, by omega, i + 1, b2, by omega, hp, hs, rfl, by simp -implicitDefEqProofs⟩⟩
          · have hkd : decide (o.k = 5) = false := by simpa using hk5
            rw [hkd] at *
            simp only [h00, if_true, Bool.false_eq_true, false_and, if_false] at *
            have h01 : 0 < i := by omega
            generalize f v (b ++ nextT) = b2 at *
            simp only [bOne, bTwo, ByteArray.size_append] at hlg hw hv ⊢
            refine ⟨.normal, _, by simp -implicitDefEqProofs [-intBin, q_lss, q_gtr, q_add, q_eql, x245L1, hlt, hget, hlg, g0, hk5, hw, hv, e1, e2, h01, h00']; rfl, .inl ⟨rfl, n - 1, by omega, i + 1, b2, by omega, hp, hs, rfl, by simp -implicitDefEqProofs⟩⟩
        · have h00' : ¬ (0 : Int) < i := by omega
          have hi0 : i = 0 := by omega
          subst hi0
          have hv := hI.call v hmem b (by omega) (by omega)
          have hp := hI.pos v hmem b (by omega)
          have hs := hI.size v hmem b (by omega)
          have hno : ¬ (decide (o.k = 5) = true ∧ 0 % 2 = 1) := by simp
          rw [if_neg hno, if_neg h00]
          simp only [Nat.zero_mul, Nat.add_zero] at hget
          have hm0 : intBin .rem .i64 0 2 = some (.int .i64 0) := rfl
          have e10 : IntKind.wrap .i64 1 = 1 := rfl
          generalize f v b = b2 at *
          simp only [bOne, bTwo] at hlg hv ⊢
          by_cases hk5 : o.k = 5
          · rw [hk5] at g0
            refine ⟨.normal, _, by simp -implicitDefEqProofs [-intBin, q_lss, q_gtr, q_add, q_eql, x245L1, hlt, hget, hlg, g0, hm0, hv, e10, e2]; rfl, .inl ⟨rfl, n - 1, by omega, 1, b2, by omega, hp, hs, rfl, by simp -implicitDefEqProofs⟩⟩
          · refine ⟨.normal, _, by simp -implicitDefEqProofs [-intBin, q_lss, q_gtr, q_add, q_eql, x245L1, hlt, hget, hlg, g0, hk5, hv, e10, e2]; rfl, .inl ⟨rfl, n - 1, by omega, 1, b2, by omega, hp, hs, rfl, by simp -implicitDefEqProofs⟩⟩
  · have hie : i = o.l.xs.length := by omega
    subst hie
    rw [List.drop_eq_nil_of_le (Nat.le_refl _), itemsV]
    simp only [bOne]
    refine ⟨.exit 0, _, by simp -implicitDefEqProofs [x245L1], .inr ⟨by simp, .inr ⟨rfl, rfl, by simp, hb, hbB⟩⟩⟩
end
end Go.EX

