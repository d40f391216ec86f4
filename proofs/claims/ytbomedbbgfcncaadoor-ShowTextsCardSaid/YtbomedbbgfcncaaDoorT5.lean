import Derived.Test.YtbomedbbgfcncaaDoorT4
set_option maxHeartbeats 4000000
set_option linter.unusedVariables false
set_option linter.unusedSimpArgs false
namespace Go.EX
section
variable {code : Nat → Option XFun} {ext : Calls'}
theorem one_size (x : ByteArray) (a : UInt8) : (x ++ (⟨#[a]⟩ : ByteArray)).size = x.size + 1 := size_append' x ⟨#[a]⟩
theorem lack_size (x : ByteArray) : (x ++ lackT).size = x.size + 5 := size_append' x lackT
theorem tellRow_two (c : TextCode code ext) (h245 : code 245 = some x245) {sv : IV} {inn : Int} (hinn : 0 ≤ inn ∧ inn ≤ 100) {f : Val → ByteArray → ByteArray} {o : Obj} {B : Nat} (hB1 : 5001 ≤ B) (hB : B ≤ 100000000) (hI : ItemOK code ext sv (inn + 1) f o.l.xs B) (hl : o.l.xs.length ≤ 1000000) {row : List IV} {off : Nat} (hget : cut row off 5 = some [.val (.int .u8 o.k), .val (.string o.s), o.l.iv, .val (.int .i64 o.room), .val (.int .i64 o.fn)]) (b : ByteArray) (hb : 0 < b.size) (hb5 : b.size ≤ 5000) :
    callW code ext 245 [.optr 0 0, .imm (.ptr row off), int64 inn] (bOne sv b) = some (.tup [], bTwo sv (rowV f o b)) := by
  have g0 : row[off]? = some (.val (.int .u8 o.k)) := by simpa using cut_get hget 0 (by omega)
  have g2 : row[off + 2]? = some o.l.iv := cut_get hget 2 (by omega)
  have hlen := reads_len o.l.ok
  have hm2 := tmod2 o.l.xs.length
  rw [callW_fun code ext h245]
  unfold rowV
  by_cases hk5 : o.k = 5
  · have hL := fun c0 h1 h2 => items_two c hinn hB hI hl g0 endM c0 h1 h2
    have hw := write_one c sv b openM hb (by have : (openM).size = 1 := rfl; omega)
    have ho1 : (b ++ openM).size = (b).size + 1 := one_size _ _
    rw [hk5] at g0
    simp only [hk5, decide_true, if_true] at hL ⊢
    unfold x245
    generalize x245L1 = L at hL ⊢
    obtain ⟨e, s', l1, _, h | h⟩ := hL (b ++ openM) (by omega) (by rw [ho1]; omega)
    · obtain ⟨rfl, l2, l3⟩ := h
      rw [if_pos l3]
      simp only [bOne, bTwo, ByteArray.size_append] at l1 hw
      simp only [bOne, bTwo, ByteArray.size_append]
      simp -implicitDefEqProofs [-intBin, -leave, q_eql, g0, g2, hlen, hw, l1, hk5]
      exact l2
    · obtain ⟨rfl, rfl, l3, l4, l5⟩ := h
      rw [if_neg (by rw [l3]; decide)]
      generalize (itemsV f true o.l.xs 0 (b ++ openM)).1 = c1 at *
      by_cases hodd : o.l.xs.length % 2 = 1
      · have hw1 := write_one c sv c1 lackT l4 (by have : lackT.size = 5 := rfl; omega)
        have hw2 := write_one c sv (c1 ++ lackT) endM (by rw [lack_size]; omega) (by rw [lack_size]; have : endM.size = 1 := rfl; omega)
        simp only [hodd, and_self, if_true]
        rw [hodd] at hm2
        simp only [bOne, bTwo, ByteArray.size_append] at l1 hw hw1 hw2 ⊢
        simp -implicitDefEqProofs [-intBin, q_eql, g0, g2, hlen, hw, l1, hm2, hw1, hw2]
      · have hw2 := write_one c sv c1 endM l4 (by have : endM.size = 1 := rfl; omega)
        have heven : o.l.xs.length % 2 = 0 := by omega
        simp only [hodd, and_false, if_false]
        rw [heven] at hm2
        simp only [bOne, bTwo, ByteArray.size_append] at l1 hw hw2 ⊢
        simp -implicitDefEqProofs [-intBin, q_eql, g0, g2, hlen, hw, l1, hm2, hw2]
  · have hL := fun c0 h1 h2 => items_two c hinn hB hI hl g0 endL c0 h1 h2
    have hw := write_one c sv b openL hb (by have : (openL).size = 1 := rfl; omega)
    have ho1 : (b ++ openL).size = (b).size + 1 := one_size _ _
    have hkd : decide (o.k = 5) = false := by simpa using hk5
    simp only [hkd, Bool.false_eq_true, if_false, false_and] at hL ⊢
    unfold x245
    generalize x245L1 = L at hL ⊢
    obtain ⟨e, s', l1, _, h | h⟩ := hL (b ++ openL) (by omega) (by rw [ho1]; omega)
    · obtain ⟨rfl, l2, l3⟩ := h
      rw [if_pos l3]
      simp only [bOne, bTwo, ByteArray.size_append] at l1 hw
      simp only [bOne, bTwo, ByteArray.size_append]
      simp -implicitDefEqProofs [-intBin, -leave, q_eql, g0, g2, hlen, hw, l1, hk5]
      exact l2
    · obtain ⟨rfl, rfl, l3, l4, l5⟩ := h
      rw [if_neg (by rw [l3]; decide)]
      generalize (itemsV f false o.l.xs 0 (b ++ openL)).1 = c1 at *
      have hw2 := write_one c sv c1 endL l4 (by have : endL.size = 1 := rfl; omega)
      simp only [bOne, bTwo, ByteArray.size_append] at l1 hw hw2 ⊢
      simp -implicitDefEqProofs [-intBin, q_eql, g0, g2, hlen, hw, l1, hw2, hk5]
theorem tellRow_one (c : TextCode code ext) (h245 : code 245 = some x245) {sv : IV} {inn : Int} (hinn : 0 ≤ inn ∧ inn ≤ 100) {f : Val → ByteArray → ByteArray} {o : Obj} {B : Nat} (hB1 : 5001 ≤ B) (hB : B ≤ 100000000) (hI : ItemOK code ext sv (inn + 1) f o.l.xs B) (hl : o.l.xs.length ≤ 1000000) {row : List IV} {off : Nat} (hget : cut row off 5 = some [.val (.int .u8 o.k), .val (.string o.s), o.l.iv, .val (.int .i64 o.room), .val (.int .i64 o.fn)])  :
    callW code ext 245 [.optr 0 0, .imm (.ptr row off), int64 inn] (bNil false sv) = some (.tup [], bOne sv (rowV f o ByteArray.empty)) := by
  have g0 : row[off]? = some (.val (.int .u8 o.k)) := by simpa using cut_get hget 0 (by omega)
  have g2 : row[off + 2]? = some o.l.iv := cut_get hget 2 (by omega)
  have hlen := reads_len o.l.ok
  have hm2 := tmod2 o.l.xs.length
  rw [callW_fun code ext h245]
  unfold rowV
  by_cases hk5 : o.k = 5
  · have hL := fun c0 h1 h2 => items_one c hinn hB hI hl g0 endM c0 h1 h2
    have hw := write_nil c false sv openM (by decide) (by decide)
    have ho1 : (ByteArray.empty ++ openM).size = (ByteArray.empty).size + 1 := one_size _ _
    rw [hk5] at g0
    simp only [hk5, decide_true, if_true] at hL ⊢
    have hE : (ByteArray.empty ++ openM) = openM := by rfl
    rw [hE]
    unfold x245
    generalize x245L1 = L at hL ⊢
    obtain ⟨e, s', l1, _, h | h⟩ := hL (openM) (by decide) (by have : (openM).size = 1 := rfl; omega)
    · obtain ⟨rfl, l2, l3⟩ := h
      rw [if_pos l3]
      simp only [bNil, bAddr, bOne, bTwo, ByteArray.size_append] at l1 hw
      simp only [bNil, bAddr, bOne, bTwo, ByteArray.size_append]
      simp -implicitDefEqProofs [-intBin, -leave, q_eql, g0, g2, hlen, hw, l1, hk5]
      exact l2
    · obtain ⟨rfl, rfl, l3, l4, l5⟩ := h
      rw [if_neg (by rw [l3]; decide)]
      generalize (itemsV f true o.l.xs 0 (openM)).1 = c1 at *
      by_cases hodd : o.l.xs.length % 2 = 1
      · have hw1 := write_one c sv c1 lackT l4 (by have : lackT.size = 5 := rfl; omega)
        have hw2 := write_one c sv (c1 ++ lackT) endM (by rw [lack_size]; omega) (by rw [lack_size]; have : endM.size = 1 := rfl; omega)
        simp only [hodd, and_self, if_true]
        rw [hodd] at hm2
        simp only [bNil, bAddr, bOne, bTwo, ByteArray.size_append] at l1 hw hw1 hw2 ⊢
        simp -implicitDefEqProofs [-intBin, q_eql, g0, g2, hlen, hw, l1, hm2, hw1, hw2]
      · have hw2 := write_one c sv c1 endM l4 (by have : endM.size = 1 := rfl; omega)
        have heven : o.l.xs.length % 2 = 0 := by omega
        simp only [hodd, and_false, if_false]
        rw [heven] at hm2
        simp only [bNil, bAddr, bOne, bTwo, ByteArray.size_append] at l1 hw hw2 ⊢
        simp -implicitDefEqProofs [-intBin, q_eql, g0, g2, hlen, hw, l1, hm2, hw2]
  · have hL := fun c0 h1 h2 => items_one c hinn hB hI hl g0 endL c0 h1 h2
    have hw := write_nil c false sv openL (by decide) (by decide)
    have ho1 : (ByteArray.empty ++ openL).size = (ByteArray.empty).size + 1 := one_size _ _
    have hkd : decide (o.k = 5) = false := by simpa using hk5
    simp only [hkd, Bool.false_eq_true, if_false, false_and] at hL ⊢
    have hE : (ByteArray.empty ++ openL) = openL := by rfl
    rw [hE]
    unfold x245
    generalize x245L1 = L at hL ⊢
    obtain ⟨e, s', l1, _, h | h⟩ := hL (openL) (by decide) (by have : (openL).size = 1 := rfl; omega)
    · obtain ⟨rfl, l2, l3⟩ := h
      rw [if_pos l3]
      simp only [bNil, bAddr, bOne, bTwo, ByteArray.size_append] at l1 hw
      simp only [bNil, bAddr, bOne, bTwo, ByteArray.size_append]
      simp -implicitDefEqProofs [-intBin, -leave, q_eql, g0, g2, hlen, hw, l1, hk5]
      exact l2
    · obtain ⟨rfl, rfl, l3, l4, l5⟩ := h
      rw [if_neg (by rw [l3]; decide)]
      generalize (itemsV f false o.l.xs 0 (openL)).1 = c1 at *
      have hw2 := write_one c sv c1 endL l4 (by have : endL.size = 1 := rfl; omega)
      simp only [bNil, bAddr, bOne, bTwo, ByteArray.size_append] at l1 hw hw2 ⊢
      simp -implicitDefEqProofs [-intBin, q_eql, g0, g2, hlen, hw, l1, hw2, hk5]
end
end Go.EX

