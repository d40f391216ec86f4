import Derived.Test.YtkmdbfhagicidaaGreatDoorK12
import Derived.Test.YtkmdbfhagicidaaGreatDoorK11
import Derived.Test.YtkmdbfhagicidaaGreatDoorK4
set_option linter.unusedVariables false
set_option linter.unusedSimpArgs false
namespace Go.EX
open Go.Lib
theorem ztc (n : Nat) : wordsL [] n = .inl [] := by
 unfold wordsL
 rw [zqf n (by decide)]
 exact ztj _
theorem zqj {c : UInt8} (hc : isBlank c = true) (r : List UInt8) (n : Nat) : skipL (c :: r) n = skipL r (n + countNL [c]) := by
 have hd : (c :: r).dropWhile isBlank = r.dropWhile isBlank := by simp [List.dropWhile, hc]
 have ht : (c :: r).takeWhile isBlank = c :: r.takeWhile isBlank := by simp [List.takeWhile, hc]
 have hn : countNL (c :: r.takeWhile isBlank) = countNL [c] + countNL (r.takeWhile isBlank) := by
  rw [show c :: r.takeWhile isBlank = [c] ++ r.takeWhile isBlank from rfl, zb4]
 cases hp : hasPre [47, 47] (r.dropWhile isBlank) with
 | true => rw [zqi n (by rw [hd]; exact hp), zqi _ hp, hd, ht, hn, Nat.add_assoc]
 | false => rw [zqf n (by rw [hd]; exact hp), zqf _ hp, hd, ht, hn, Nat.add_assoc]
theorem zqk (r : List UInt8) (n : Nat) : skipL (47 :: 47 :: r) n = skipL ((47 :: 47 :: r).dropWhile notEnd) n := by
 have hd : (47 :: 47 :: r).dropWhile isBlank = 47 :: 47 :: r := by simp [List.dropWhile, show isBlank 47 = false by decide]
 have ht : (47 :: 47 :: r).takeWhile isBlank = [] := by simp [List.takeWhile, show isBlank 47 = false by decide]
 rw [zqi n (by rw [hd]; exact zmo [47, 47] r), hd, ht]
 rfl
theorem zta {c : UInt8} (hc : isBlank c = true) (r : List UInt8) (n : Nat) : wordsL (c :: r) n = wordsL r (n + countNL [c]) := by
 unfold wordsL
 rw [zqj hc]
theorem zte (r : List UInt8) (n : Nat) : wordsL (47 :: 47 :: r) n = wordsL ((47 :: 47 :: r).dropWhile notEnd) n := by
 unfold wordsL
 rw [zqk]
theorem ztf {x : UInt8} {r : List UInt8} (hb : isBlank x = false) (hp : hasPre [47, 47] (x :: r) = false) (n : Nat) {k : Nat} {t : List UInt8} {N : Int} {q : List UInt8} (h : wordOf (x :: r) = some (k, t, N, q)) :
  wordsL (x :: r) n = comb5 [⟨k, t, N, n⟩] (wordsL q n) := by
 unfold wordsL
 rw [zqg hb r hp n]
 dsimp only
 rw [zti n h]
 cases wordsR (skipL q n).1 (skipL q n).2 <;> rfl
theorem ztd {x : UInt8} {r : List UInt8} (hb : isBlank x = false) (hp : hasPre [47, 47] (x :: r) = false) (n : Nat) (h : wordOf (x :: r) = none) : wordsL (x :: r) n = .inr n := by
 unfold wordsL
 rw [zqg hb r hp n]
 exact ztg n (by simp) h
theorem zb0 (a b : List W5) (w : List W5 ⊕ Nat) : comb5 a (comb5 b w) = comb5 (a ++ b) w := by
 cases w <;> simp [comb5]
section
variable {code : Nat → Option XFun} {ext : Calls'}
def lV (ws : List W5) : AV := if ws.length = 0 then nilS else .osl 0 0 4 ws.length none
theorem zic (s : List UInt8) (ws : List W5) (n k : Int) : St.tidy ⟨0, [(0, strV (bs s)), (5, lV ws), (6, int64 n), (7, int64 k)], lwM ws⟩ [0, 5, 6, 7] = ⟨0, [(0, strV (bs s)), (5, lV ws), (6, int64 n), (7, int64 k)], lwM ws⟩ := by
 unfold lV lwM
 by_cases h0 : ws.length = 0
 ·rw [if_pos h0, if_pos h0]
  simp -implicitDefEqProofs
 ·rw [if_neg h0, if_neg h0]
  generalize rowW ws = RW at *
  simp -implicitDefEqProofs
theorem zks (s : List UInt8) (hs : s.length ≤ 1000000) (X n : AV) (M : Mem) (k : Nat) (hk : k ≤ s.length)
  (HT : ∀ j : Int, St.tidy ⟨0, [(0, strV (bs s)), (5, X), (6, n), (7, int64 j)], M⟩ [0, 5, 6, 7] = ⟨0, [(0, strV (bs s)), (5, X), (6, n), (7, int64 j)], M⟩)
  (s0 : St) (hs0 : s0.tidy [0, 5, 6, 7] = ⟨0, [(0, strV (bs s)), (5, X), (6, n), (7, int64 k)], M⟩) :
  ∃ j, k ≤ j ∧ j ≤ s.length ∧ s.drop j = (s.drop k).dropWhile notEnd ∧ den code ext (.loop [0, 5, 6, 7] x512L1) s0 =
   some (.exit 2, ⟨0, [(0, strV (bs s)), (5, X), (6, n), (7, int64 j), (63, avb false)], M⟩) := by
 have hsz := za9 s
 have L : ∃ e s', den code ext (.loop [0, 5, 6, 7] x512L1) s0 = some (e, s') ∧ e ≠ .normal ∧
   (e = .exit 2 ∧ ∃ j, k ≤ j ∧ j ≤ s.length ∧ s.drop j = (s.drop k).dropWhile notEnd ∧ s' = ⟨0, [(0, strV (bs s)), (5, X), (6, n), (7, int64 (j : Nat)), (63, avb false)], M⟩) := by
  refine zh9 (fun m st => ∃ j, j + m = s.length ∧ k ≤ j ∧ (s.drop j).dropWhile notEnd = (s.drop k).dropWhile notEnd ∧ st.tidy [0, 5, 6, 7] = ⟨0, [(0, strV (bs s)), (5, X), (6, n), (7, int64 (j : Nat))], M⟩) _ ?_ (s.length - k) _ ⟨k, by omega, by omega, rfl, hs0⟩
  rintro m st ⟨j, hj, hkj, heq, hst⟩
  rw [hst]
  clear hst hs0
  cases hd : s.drop j with
  | nil =>
   have hge := zc8 hd
   have h1 : ¬ j < s.length := by omega
   rw [hd] at heq
   refine ⟨.exit 2, ⟨0, [(0, strV (bs s)), (5, X), (6, n), (7, int64 (j : Nat)), (63, avb false)], M⟩, ?_, .inr ⟨by simp, rfl, j, hkj, by omega, by rw [hd, ← heq]; rfl, rfl⟩⟩
   clear HT hd hj heq hge
   generalize s.length = sl at *
   generalize bs s = S at *
   simp -implicitDefEqProofs [x512L1, hsz, h1]
  | cons x r =>
   obtain ⟨hat, hlt, hdr⟩ := zc7 hd
   have hget : ∀ hi : j < (bs s).size, (bs s)[j]'hi = x := fun hi => bs_at hat hi
   by_cases h10 : x.toNat = 10
   ·have h10' : (x.toNat : Int) = 10 := by omega
    have hdw : (x :: r).dropWhile notEnd = x :: r := by simp [List.dropWhile, notEnd, h10]
    rw [hd, hdw] at heq
    refine ⟨.exit 2, ⟨0, [(0, strV (bs s)), (5, X), (6, n), (7, int64 (j : Nat)), (63, avb false)], M⟩, ?_, .inr ⟨by simp, rfl, j, hkj, by omega, by rw [hd]; exact heq, rfl⟩⟩
    clear HT hd hj heq hdr hat hdw
    generalize s.length = sl at *
    generalize bs s = S at *
    simp -implicitDefEqProofs [x512L1, hsz, hlt, hget, h10, h10']
   ·have h10' : ¬ (x.toNat : Int) = 10 := by omega
    have hdw : (x :: r).dropWhile notEnd = r.dropWhile notEnd := by simp [List.dropWhile, notEnd, h10]
    have e1 : IntKind.wrap .i64 ((j : Int) + 1) = ((j + 1 : Nat) : Int) := by rw [wrapI64 (by omega) (by omega)]; omega
    rw [hd, hdw] at heq
    refine ⟨.normal, ⟨0, [(0, strV (bs s)), (5, X), (6, n), (7, int64 (j + 1 : Nat))], M⟩, ?_, .inl ⟨rfl, m - 1, by omega, j + 1, by omega, by omega, by rw [hdr]; exact heq, HT _⟩⟩
    clear HT hd hj heq hdr hat hdw
    generalize j + 1 = j1 at *
    generalize s.length = sl at *
    generalize bs s = S at *
    simp -implicitDefEqProofs [x512L1, hsz, hlt, hget, h10, h10', e1]
 obtain ⟨e, s', l1, _, rfl, j, h1, h2, h3, rfl⟩ := L
 exact ⟨j, h1, h2, h3, l1⟩
end
end Go.EX


set_option maxHeartbeats 4000000
set_option linter.unusedVariables false
set_option linter.unusedSimpArgs false
namespace Go.EX
open Go.Lib
section
variable {code : Nat → Option XFun} {ext : Calls'}
def rS (s : List UInt8) (ws : List W5) (n k : Nat) : St := ⟨0, [(0, strV (bs s)), (5, lV ws), (6, int64 (n : Nat)), (7, int64 (k : Nat))], lwM ws⟩
theorem zm6 (s : List UInt8) (hs : s.length ≤ 1000000) (ws : List W5) (n k : Nat) (hn : n ≤ 1000000000) (x : UInt8) (r : List UInt8) (hd : s.drop k = x :: r) (hb : isBlank x = true) :
  ∃ s', den code ext x512L2 (rS s ws n k) = some (.normal, s') ∧ s' = rS s ws (n + countNL [x]) (k + 1) := by
 obtain ⟨hat, hlt, hdr⟩ := zc7 hd
 have hsz := za9 s
 have hget : ∀ hi : k < (bs s).size, (bs s)[k]'hi = x := fun hi => bs_at hat hi
 have e1 : IntKind.wrap .i64 ((k : Int) + 1) = ((k + 1 : Nat) : Int) := by rw [wrapI64 (by omega) (by omega)]; omega
 have e2 : IntKind.wrap .i64 ((n : Int) + 1) = ((n + 1 : Nat) : Int) := by rw [wrapI64 (by omega) (by omega)]; omega
 have hx : x = 32 ∨ x = 9 ∨ x = 10 := by
  unfold isBlank at hb
  simp only [Bool.or_eq_true, decide_eq_true_eq] at hb
  rcases hb with (h | h) | h
  ·exact .inl (UInt8.toNat_inj.1 h)
  ·exact .inr (.inl (UInt8.toNat_inj.1 h))
  ·exact .inr (.inr (UInt8.toNat_inj.1 h))
 refine ⟨_, ?_, rfl⟩
 clear hd hat hdr hb
 unfold rS lV lwM
 rcases hx with rfl | rfl | rfl
 ·have hc : countNL [(32 : UInt8)] = 0 := by decide
  rw [hc]
  rw [Nat.add_zero]
  generalize k + 1 = k1 at *
  by_cases h0 : ws.length = 0
  ·rw [if_pos h0, if_pos h0]
   generalize s.length = sl at *
   generalize bs s = S at *
   simp -implicitDefEqProofs [x512L2, hsz, hlt, hget, e1, e2]
  ·rw [if_neg h0, if_neg h0]
   generalize rowW ws = RW at *
   generalize ws.length = wl at *
   generalize s.length = sl at *
   generalize bs s = S at *
   simp -implicitDefEqProofs [x512L2, hsz, hlt, hget, e1, e2]
 ·have hc : countNL [(9 : UInt8)] = 0 := by decide
  rw [hc]
  rw [Nat.add_zero]
  generalize k + 1 = k1 at *
  by_cases h0 : ws.length = 0
  ·rw [if_pos h0, if_pos h0]
   generalize s.length = sl at *
   generalize bs s = S at *
   simp -implicitDefEqProofs [x512L2, hsz, hlt, hget, e1, e2]
  ·rw [if_neg h0, if_neg h0]
   generalize rowW ws = RW at *
   generalize ws.length = wl at *
   generalize s.length = sl at *
   generalize bs s = S at *
   simp -implicitDefEqProofs [x512L2, hsz, hlt, hget, e1, e2]
 ·have hc : countNL [(10 : UInt8)] = 1 := by decide
  rw [hc]
  generalize k + 1 = k1 at *
  generalize n + 1 = n1 at *
  by_cases h0 : ws.length = 0
  ·rw [if_pos h0, if_pos h0]
   generalize s.length = sl at *
   generalize bs s = S at *
   simp -implicitDefEqProofs [x512L2, hsz, hlt, hget, e1, e2]
  ·rw [if_neg h0, if_neg h0]
   generalize rowW ws = RW at *
   generalize ws.length = wl at *
   generalize s.length = sl at *
   generalize bs s = S at *
   simp -implicitDefEqProofs [x512L2, hsz, hlt, hget, e1, e2]
theorem zm8 (s : List UInt8) (hs : s.length ≤ 1000000) (ws : List W5) (n k : Nat) (q : List UInt8) (hd : s.drop k = 47 :: 47 :: q) :
  ∃ j E, k < j ∧ j ≤ s.length ∧ s.drop j = (47 :: 47 :: q).dropWhile notEnd ∧ den code ext x512L2 (rS s ws n k) = some (.normal, ⟨0, (0, strV (bs s)) :: (5, lV ws) :: (6, int64 (n : Nat)) :: (7, int64 (j : Nat)) :: E, lwM ws⟩) := by
 obtain ⟨hat, hlt, hdr⟩ := zc7 hd
 obtain ⟨hat2, hlt2, hdr2⟩ := zc7 hdr
 have hsz := za9 s
 have hget : ∀ hi : k < (bs s).size, (bs s)[k]'hi = 47 := fun hi => bs_at hat hi
 have hget2 : ∀ hi : k + 1 < (bs s).size, (bs s)[k + 1]'hi = 47 := fun hi => bs_at hat2 hi
 have e1 : IntKind.wrap .i64 ((k : Int) + 1) = ((k + 1 : Nat) : Int) := by rw [wrapI64 (by omega) (by omega)]; omega
 obtain ⟨j, h1, h2, h3, hl⟩ := zks (code := code) (ext := ext) s hs (lV ws) (int64 (n : Nat)) (lwM ws) k (by omega) (fun j => zic s ws n j)
  ⟨0, [(0, strV (bs s)), (5, lV ws), (6, int64 (n : Nat)), (7, int64 (k : Nat)), (53, avb true)], lwM ws⟩ (by
   have h := zic s ws n k
   unfold lV lwM at *
   by_cases h0 : ws.length = 0
   ·rw [if_pos h0, if_pos h0]
    simp -implicitDefEqProofs
   ·rw [if_neg h0, if_neg h0]
    generalize rowW ws = RW at *
    simp -implicitDefEqProofs)
 rw [hd] at h3
 have hkj : k < j := by
  by_cases he : j = k
  ·subst he
   rw [hd] at h3
   have : (47 :: 47 :: q).dropWhile notEnd = q.dropWhile notEnd := by simp [List.dropWhile, notEnd]
   rw [this] at h3
   have hq := congrArg List.length h3
   have hle := congrArg List.length (zr8 notEnd q)
   rw [List.length_append] at hle
   simp only [List.length_cons] at hq
   omega
  ·omega
 refine ⟨j, [(63, avb false)], hkj, h2, h3, ?_⟩
 clear hd hat hdr hat2 hdr2 h1 h2 h3 hkj
 unfold rS
 unfold lV lwM at *
 unfold x512L2
 generalize x512L1 = LL at *
 generalize k + 1 = k1 at *
 by_cases h0 : ws.length = 0
 ·rw [if_pos h0, if_pos h0]
  rw [if_pos h0, if_pos h0] at hl
  generalize s.length = sl at *
  generalize bs s = S at *
  simp -implicitDefEqProofs [hsz, hlt, hlt2, hget, hget2, e1, hl]
 ·rw [if_neg h0, if_neg h0]
  rw [if_neg h0, if_neg h0] at hl
  generalize rowW ws = RW at *
  generalize ws.length = wl at *
  generalize s.length = sl at *
  generalize bs s = S at *
  simp -implicitDefEqProofs [hsz, hlt, hlt2, hget, hget2, e1, hl]
theorem zm7 (c : RefA code ext) (s : List UInt8) (hs : s.length ≤ 1000000) (ws : List W5) (n k : Nat) (x : UInt8) (r : List UInt8) (hd : s.drop k = x :: r) (hb : isBlank x = false) (hp : hasPre [47, 47] (x :: r) = false) (hw : wordOf (x :: r) = none) :
  ∃ J, den code ext x512L2 (rS s ws n k) = some (.ret, ⟨0, [(2, nilS), (3, int64 (n : Nat)), (4, int64 4)], J⟩) := by
 obtain ⟨hat, hlt, hdr⟩ := zc7 hd
 have hsz := za9 s
 have hget : ∀ hi : k < (bs s).size, (bs s)[k]'hi = x := fun hi => bs_at hat hi
 have e1 : IntKind.wrap .i64 ((k : Int) + 1) = ((k + 1 : Nat) : Int) := by rw [wrapI64 (by omega) (by omega)]; omega
 unfold isBlank at hb
 simp only [Bool.or_eq_false_iff, decide_eq_false_iff_not] at hb
 obtain ⟨⟨b1, b2⟩, b3⟩ := hb
 have b1' : ¬ (x.toNat : Int) = 32 := by omega
 have b2' : ¬ (x.toNat : Int) = 9 := by omega
 have b3' : ¬ (x.toNat : Int) = 10 := by omega
 have hcase : (¬ x.toNat = 47 ∧ ¬ (x.toNat : Int) = 47) ∨ (x.toNat = 47 ∧ (x.toNat : Int) = 47 ∧ ¬ k + 1 < s.length ∧ ¬ ((k + 1 : Nat) : Int) < (s.length : Int)) ∨
   (x.toNat = 47 ∧ (x.toNat : Int) = 47 ∧ k + 1 < s.length ∧ ((k + 1 : Nat) : Int) < (s.length : Int) ∧ ∃ y : UInt8, (∀ hi : k + 1 < (bs s).size, (bs s)[k + 1]'hi = y) ∧ ¬ y.toNat = 47 ∧ ¬ (y.toNat : Int) = 47) := by
  by_cases h47 : x.toNat = 47
  ·cases r with
   | nil =>
    have := zc8 hdr
    exact .inr (.inl ⟨h47, by omega, by omega, by omega⟩)
   | cons y q =>
    obtain ⟨hat2, hlt2, _⟩ := zc7 hdr
    refine .inr (.inr ⟨h47, by omega, hlt2, by omega, y, fun hi => bs_at hat2 hi, ?_⟩)
    have hy : ¬ y.toNat = 47 := by
     intro e
     have hx1 : x = 47 := UInt8.toNat_inj.1 h47
     have hy1 : y = 47 := UInt8.toNat_inj.1 e
     rw [hx1, hy1, show (47 : UInt8) :: 47 :: q = [47, 47] ++ q from rfl, zmo] at hp
     cases hp
    exact ⟨hy, by omega⟩
  ·exact .inl ⟨h47, by omega⟩
 obtain ⟨K, T, N, e, hr⟩ := (zpe (ext := ext) c s hs k x r hd).2 hw
 clear hd hat hdr hp hw
 refine ⟨lwM ws ++ [.rich [.imm (.val (.int .u8 (K : Nat))), strV T, int64 N, int64 0]], ?_⟩
 unfold rS lV lwM
 rcases hcase with ⟨c1, c1'⟩ | ⟨c1, c1', c2, c2'⟩ | ⟨c1, c1', c2, c2', y, hget2, c3, c3'⟩
 ·by_cases h0 : ws.length = 0
  ·rw [if_pos h0, if_pos h0]
   generalize k + 1 = k1 at *
   generalize s.length = sl at *
   generalize bs s = S at *
   simp -implicitDefEqProofs [x512L2, hsz, hlt, hget, e1, b1, b2, b3, b1', b2', b3', hr, c1, c1']
  ·rw [if_neg h0, if_neg h0]
   generalize rowW ws = RW at *
   generalize ws.length = wl at *
   generalize k + 1 = k1 at *
   generalize s.length = sl at *
   generalize bs s = S at *
   simp -implicitDefEqProofs [x512L2, hsz, hlt, hget, e1, b1, b2, b3, b1', b2', b3', hr, c1, c1']
 ·by_cases h0 : ws.length = 0
  ·rw [if_pos h0, if_pos h0]
   generalize k + 1 = k1 at *
   generalize s.length = sl at *
   generalize bs s = S at *
   simp -implicitDefEqProofs [x512L2, hsz, hlt, hget, e1, b1, b2, b3, b1', b2', b3', hr, c1, c1', c2, c2']
  ·rw [if_neg h0, if_neg h0]
   generalize rowW ws = RW at *
   generalize ws.length = wl at *
   generalize k + 1 = k1 at *
   generalize s.length = sl at *
   generalize bs s = S at *
   simp -implicitDefEqProofs [x512L2, hsz, hlt, hget, e1, b1, b2, b3, b1', b2', b3', hr, c1, c1', c2, c2']
 ·by_cases h0 : ws.length = 0
  ·rw [if_pos h0, if_pos h0]
   generalize k + 1 = k1 at *
   generalize s.length = sl at *
   generalize bs s = S at *
   simp -implicitDefEqProofs [x512L2, hsz, hlt, hget, e1, b1, b2, b3, b1', b2', b3', hr, c1, c1', c2, c2', hget2, c3, c3']
  ·rw [if_neg h0, if_neg h0]
   generalize rowW ws = RW at *
   generalize ws.length = wl at *
   generalize k + 1 = k1 at *
   generalize s.length = sl at *
   generalize bs s = S at *
   simp -implicitDefEqProofs [x512L2, hsz, hlt, hget, e1, b1, b2, b3, b1', b2', b3', hr, c1, c1', c2, c2', hget2, c3, c3']
theorem zm9 (c : RefA code ext) (s : List UInt8) (hs : s.length ≤ 1000000) (ws : List W5) (hws : ws.length ≤ 1000000) (n k : Nat) (x : UInt8) (r : List UInt8) (hd : s.drop k = x :: r) (hb : isBlank x = false) (hp : hasPre [47, 47] (x :: r) = false) {K : Nat} {t : List UInt8} {N : Int} {q : List UInt8} (hw : wordOf (x :: r) = some (K, t, N, q)) :
  ∃ s', den code ext x512L2 (rS s ws n k) = some (.normal, s') ∧ s'.tidy [0, 5, 6, 7] = rS s (ws ++ [⟨K, t, N, n⟩]) n (s.length - q.length) := by
 obtain ⟨hat, hlt, hdr⟩ := zc7 hd
 have hsz := za9 s
 have hget : ∀ hi : k < (bs s).size, (bs s)[k]'hi = x := fun hi => bs_at hat hi
 have e1 : IntKind.wrap .i64 ((k : Int) + 1) = ((k + 1 : Nat) : Int) := by rw [wrapI64 (by omega) (by omega)]; omega
 unfold isBlank at hb
 simp only [Bool.or_eq_false_iff, decide_eq_false_iff_not] at hb
 obtain ⟨⟨b1, b2⟩, b3⟩ := hb
 have b1' : ¬ (x.toNat : Int) = 32 := by omega
 have b2' : ¬ (x.toNat : Int) = 9 := by omega
 have b3' : ¬ (x.toNat : Int) = 10 := by omega
 have hcase : (¬ x.toNat = 47 ∧ ¬ (x.toNat : Int) = 47) ∨ (x.toNat = 47 ∧ (x.toNat : Int) = 47 ∧ ¬ k + 1 < s.length ∧ ¬ ((k + 1 : Nat) : Int) < (s.length : Int)) ∨
   (x.toNat = 47 ∧ (x.toNat : Int) = 47 ∧ k + 1 < s.length ∧ ((k + 1 : Nat) : Int) < (s.length : Int) ∧ ∃ y : UInt8, (∀ hi : k + 1 < (bs s).size, (bs s)[k + 1]'hi = y) ∧ ¬ y.toNat = 47 ∧ ¬ (y.toNat : Int) = 47) := by
  by_cases h47 : x.toNat = 47
  ·cases r with
   | nil =>
    have := zc8 hdr
    exact .inr (.inl ⟨h47, by omega, by omega, by omega⟩)
   | cons y q =>
    obtain ⟨hat2, hlt2, _⟩ := zc7 hdr
    refine .inr (.inr ⟨h47, by omega, hlt2, by omega, y, fun hi => bs_at hat2 hi, ?_⟩)
    have hy : ¬ y.toNat = 47 := by
     intro e
     have hx1 : x = 47 := UInt8.toNat_inj.1 h47
     have hy1 : y = 47 := UInt8.toNat_inj.1 e
     rw [hx1, hy1, show (47 : UInt8) :: 47 :: q = [47, 47] ++ q from rfl, zmo] at hp
     cases hp
    exact ⟨hy, by omega⟩
  ·exact .inl ⟨h47, by omega⟩
 have hr := (zpe (ext := ext) c s hs k x r hd).1 K t N q hw
 have hrl := zoi ws
 have hlen : (ws ++ [(⟨K, t, N, n⟩ : W5)]).length = ws.length + 1 := by simp
 have hrow : rowW (ws ++ [(⟨K, t, N, n⟩ : W5)]) = rowW ws ++ [.val (.int .u8 (K : Nat)), .val (.string (bs t)), .val (.int .i64 N), .val (.int .i64 (n : Nat))] := zoj ws _
 unfold rS lV lwM
 rw [hlen, hrow]
 clear hd hat hdr hp hw hlen hrow
 rcases hcase with ⟨c1, c1'⟩ | ⟨c1, c1', c2, c2'⟩ | ⟨c1, c1', c2, c2', y, hget2, c3, c3'⟩
 ·by_cases h0 : ws.length = 0
  ·have hw0 : rowW ws = [] := by
    have : ws = [] := List.eq_nil_of_length_eq_zero h0
    subst this; rfl
   rw [if_pos h0, if_pos h0, if_neg (by omega), if_neg (by omega), hw0, h0]
   refine ⟨⟨0, [(0, strV (bs s)), (5, .osl 2 0 4 1 none), (6, int64 (n : Nat)), (7, int64 ((s.length - q.length : Nat) : Int))], [.rich [.imm (.val (.int .u8 (K : Nat))), strV (bs t), int64 N, int64 (n : Nat)], .flat [.val (.int .u8 (K : Nat)), .val (.string (bs t)), .val (.int .i64 N), .val (.int .i64 (n : Nat))] false, .flat [.val (.int .u8 (K : Nat)), .val (.string (bs t)), .val (.int .i64 N), .val (.int .i64 (n : Nat))] false]⟩, ?_, by simp -implicitDefEqProofs⟩
   generalize s.length - q.length = pos at *
   generalize k + 1 = k1 at *
   generalize s.length = sl at *
   generalize bs s = S at *
   generalize bs t = T at *
   simp -implicitDefEqProofs [x512L2, hsz, hlt, hget, e1, b1, b2, b3, b1', b2', b3', hr, c1, c1', exAppendX, exAppend, elems]
  ·have hcut : cut (rowW ws) 0 (ws.length * 4) = some (rowW ws) := zca _ hrl
   have hle : (ws.length + 1) * 40 ≤ 140737488355328 := by omega
   rw [if_neg h0, if_neg h0, if_neg (by omega), if_neg (by omega)]
   clear hrl
   generalize rowW ws = RW at *
   generalize ws.length = wl at *
   refine ⟨⟨0, [(0, strV (bs s)), (5, .osl 0 0 4 (wl + 1) none), (6, int64 (n : Nat)), (7, int64 ((s.length - q.length : Nat) : Int))], [.flat (RW ++ [.val (.int .u8 (K : Nat)), .val (.string (bs t)), .val (.int .i64 N), .val (.int .i64 (n : Nat))]) false, .rich [.imm (.val (.int .u8 (K : Nat))), strV (bs t), int64 N, int64 (n : Nat)], .flat [.val (.int .u8 (K : Nat)), .val (.string (bs t)), .val (.int .i64 N), .val (.int .i64 (n : Nat))] false]⟩, ?_, by simp -implicitDefEqProofs⟩
   generalize s.length - q.length = pos at *
   generalize k + 1 = k1 at *
   generalize s.length = sl at *
   generalize bs s = S at *
   generalize bs t = T at *
   simp -implicitDefEqProofs [x512L2, hsz, hlt, hget, e1, b1, b2, b3, b1', b2', b3', hr, c1, c1', exAppendX, exAppend, elems, hcut, hle]
 ·by_cases h0 : ws.length = 0
  ·have hw0 : rowW ws = [] := by
    have : ws = [] := List.eq_nil_of_length_eq_zero h0
    subst this; rfl
   rw [if_pos h0, if_pos h0, if_neg (by omega), if_neg (by omega), hw0, h0]
   refine ⟨⟨0, [(0, strV (bs s)), (5, .osl 2 0 4 1 none), (6, int64 (n : Nat)), (7, int64 ((s.length - q.length : Nat) : Int))], [.rich [.imm (.val (.int .u8 (K : Nat))), strV (bs t), int64 N, int64 (n : Nat)], .flat [.val (.int .u8 (K : Nat)), .val (.string (bs t)), .val (.int .i64 N), .val (.int .i64 (n : Nat))] false, .flat [.val (.int .u8 (K : Nat)), .val (.string (bs t)), .val (.int .i64 N), .val (.int .i64 (n : Nat))] false]⟩, ?_, by simp -implicitDefEqProofs⟩
   generalize s.length - q.length = pos at *
   generalize k + 1 = k1 at *
   generalize s.length = sl at *
   generalize bs s = S at *
   generalize bs t = T at *
   simp -implicitDefEqProofs [x512L2, hsz, hlt, hget, e1, b1, b2, b3, b1', b2', b3', hr, c1, c1', c2, c2', exAppendX, exAppend, elems]
  ·have hcut : cut (rowW ws) 0 (ws.length * 4) = some (rowW ws) := zca _ hrl
   have hle : (ws.length + 1) * 40 ≤ 140737488355328 := by omega
   rw [if_neg h0, if_neg h0, if_neg (by omega), if_neg (by omega)]
   clear hrl
   generalize rowW ws = RW at *
   generalize ws.length = wl at *
   refine ⟨⟨0, [(0, strV (bs s)), (5, .osl 0 0 4 (wl + 1) none), (6, int64 (n : Nat)), (7, int64 ((s.length - q.length : Nat) : Int))], [.flat (RW ++ [.val (.int .u8 (K : Nat)), .val (.string (bs t)), .val (.int .i64 N), .val (.int .i64 (n : Nat))]) false, .rich [.imm (.val (.int .u8 (K : Nat))), strV (bs t), int64 N, int64 (n : Nat)], .flat [.val (.int .u8 (K : Nat)), .val (.string (bs t)), .val (.int .i64 N), .val (.int .i64 (n : Nat))] false]⟩, ?_, by simp -implicitDefEqProofs⟩
   generalize s.length - q.length = pos at *
   generalize k + 1 = k1 at *
   generalize s.length = sl at *
   generalize bs s = S at *
   generalize bs t = T at *
   simp -implicitDefEqProofs [x512L2, hsz, hlt, hget, e1, b1, b2, b3, b1', b2', b3', hr, c1, c1', c2, c2', exAppendX, exAppend, elems, hcut, hle]
 ·by_cases h0 : ws.length = 0
  ·have hw0 : rowW ws = [] := by
    have : ws = [] := List.eq_nil_of_length_eq_zero h0
    subst this; rfl
   rw [if_pos h0, if_pos h0, if_neg (by omega), if_neg (by omega), hw0, h0]
   refine ⟨⟨0, [(0, strV (bs s)), (5, .osl 2 0 4 1 none), (6, int64 (n : Nat)), (7, int64 ((s.length - q.length : Nat) : Int))], [.rich [.imm (.val (.int .u8 (K : Nat))), strV (bs t), int64 N, int64 (n : Nat)], .flat [.val (.int .u8 (K : Nat)), .val (.string (bs t)), .val (.int .i64 N), .val (.int .i64 (n : Nat))] false, .flat [.val (.int .u8 (K : Nat)), .val (.string (bs t)), .val (.int .i64 N), .val (.int .i64 (n : Nat))] false]⟩, ?_, by simp -implicitDefEqProofs⟩
   generalize s.length - q.length = pos at *
   generalize k + 1 = k1 at *
   generalize s.length = sl at *
   generalize bs s = S at *
   generalize bs t = T at *
   simp -implicitDefEqProofs [x512L2, hsz, hlt, hget, e1, b1, b2, b3, b1', b2', b3', hr, c1, c1', c2, c2', hget2, c3, c3', exAppendX, exAppend, elems]
  ·have hcut : cut (rowW ws) 0 (ws.length * 4) = some (rowW ws) := zca _ hrl
   have hle : (ws.length + 1) * 40 ≤ 140737488355328 := by omega
   rw [if_neg h0, if_neg h0, if_neg (by omega), if_neg (by omega)]
   clear hrl
   generalize rowW ws = RW at *
   generalize ws.length = wl at *
   refine ⟨⟨0, [(0, strV (bs s)), (5, .osl 0 0 4 (wl + 1) none), (6, int64 (n : Nat)), (7, int64 ((s.length - q.length : Nat) : Int))], [.flat (RW ++ [.val (.int .u8 (K : Nat)), .val (.string (bs t)), .val (.int .i64 N), .val (.int .i64 (n : Nat))]) false, .rich [.imm (.val (.int .u8 (K : Nat))), strV (bs t), int64 N, int64 (n : Nat)], .flat [.val (.int .u8 (K : Nat)), .val (.string (bs t)), .val (.int .i64 N), .val (.int .i64 (n : Nat))] false]⟩, ?_, by simp -implicitDefEqProofs⟩
   generalize s.length - q.length = pos at *
   generalize k + 1 = k1 at *
   generalize s.length = sl at *
   generalize bs s = S at *
   generalize bs t = T at *
   simp -implicitDefEqProofs [x512L2, hsz, hlt, hget, e1, b1, b2, b3, b1', b2', b3', hr, c1, c1', c2, c2', hget2, c3, c3', exAppendX, exAppend, elems, hcut, hle]
end
end Go.EX


set_option linter.unusedVariables false
set_option linter.unusedSimpArgs false
namespace Go.EX
open Go.Lib
theorem zrl : ∀ (m : Nat) (acc l : List UInt8), l.length = m → ∀ t q, textL acc l = some (t, q) → q <:+ l := by
 intro m
 induction m using Nat.strongRecOn with
 | _ m ih =>
  intro acc l hm t q h
  have hsx : l.dropWhile isPlain <:+ l := List.dropWhile_suffix _
  cases hs : stepT (l.dropWhile isPlain) with
  | none => rw [zre acc hs] at h; cases h
  | some o =>
   cases o with
   | none =>
    rw [zrg acc hs] at h
    cases h
    exact (List.drop_suffix 1 _).trans hsx
   | some c =>
    have hless := zqx hs
    rw [zrj acc hs] at h
    have h3 := ih ((l.dropWhile isPlain).drop 2).length (by omega) _ ((l.dropWhile isPlain).drop 2) rfl t q h
    exact h3.trans ((List.drop_suffix 2 _).trans hsx)
theorem zs2 {l : List UInt8} {k : Nat} {s : List UInt8} {N : Int} {q : List UInt8} (h : wordOf l = some (k, s, N, q)) : q <:+ l := by
 cases l with
 | nil => cases h
 | cons x r =>
  rw [zsz] at h
  split at h
  ·split at h
   ·rename_i ht
    split at h
    ·cases h
     exact (zrl _ [] r rfl _ _ ht).trans (List.suffix_cons x r)
    ·cases h
   ·cases h
  split at h
  ·split at h
   ·cases h; exact List.dropWhile_suffix _
   ·cases h
  split at h
  ·split at h
   ·cases h; exact List.dropWhile_suffix _
   ·cases h
  cases hsg : signOf (x :: r) with
  | none => rw [hsg] at h; cases h
  | some sg =>
   rw [hsg] at h
   simp only [Option.some.injEq, Prod.mk.injEq] at h
   obtain ⟨_, _, _, rfl⟩ := h
   exact List.drop_suffix _ _
section
variable {code : Nat → Option XFun} {ext : Calls'}
theorem znb (c : RefA code ext) (s : List UInt8) (hs : s.length ≤ 1000000) :
  ∃ e s', den code ext (.loop [0, 5, 6, 7] x512L2) ⟨0, [(0, strV (bs s)), (5, nilS), (6, int64 0), (7, int64 0)], []⟩ = some (e, s') ∧ e ≠ .normal ∧
   ((∃ ws, wordsL s 0 = .inl ws ∧ e = .exit 0 ∧ ∃ n k, s' = ⟨0, [(0, strV (bs s)), (5, lV ws), (6, int64 n), (7, int64 k), (18, avb false)], lwM ws⟩) ∨
    (∃ m, wordsL s 0 = .inr m ∧ e = .ret ∧ ∃ J, s' = ⟨0, [(2, nilS), (3, int64 (m : Nat)), (4, int64 4)], J⟩)) := by
 refine zh9 (fun m st => ∃ k n ws, k + m = s.length ∧ ws.length ≤ k ∧ n ≤ k ∧ comb5 ws (wordsL (s.drop k) n) = wordsL s 0 ∧ st.tidy [0, 5, 6, 7] = rS s ws n k) _ ?_ s.length _
  ⟨0, 0, [], by omega, by simp, by omega, by rw [List.drop_zero]; cases wordsL s 0 <;> rfl, rfl⟩
 rintro m st ⟨k, n, ws, hk, hws, hn, hcb, hst⟩
 rw [hst]
 clear hst
 have htid : ∀ (ws : List W5) (n k : Nat), (rS s ws n k).tidy [0, 5, 6, 7] = rS s ws n k := fun ws n k => zic s ws n k
 cases hd : s.drop k with
 | nil =>
  have hge := zc8 hd
  have h1 : ¬ k < s.length := by omega
  rw [hd, ztc] at hcb
  have hsz := za9 s
  refine ⟨.exit 0, ⟨0, [(0, strV (bs s)), (5, lV ws), (6, int64 (n : Nat)), (7, int64 (k : Nat)), (18, avb false)], lwM ws⟩, ?_, .inr ⟨by simp, .inl ⟨ws, ?_, rfl, _, _, rfl⟩⟩⟩
  ·clear hd hk hws hn hcb hge htid
   unfold rS lV lwM
   by_cases h0 : ws.length = 0
   ·rw [if_pos h0, if_pos h0]
    generalize s.length = sl at *
    generalize bs s = S at *
    simp -implicitDefEqProofs [x512L2, hsz, h1]
   ·rw [if_neg h0, if_neg h0]
    generalize rowW ws = RW at *
    generalize ws.length = wl at *
    generalize s.length = sl at *
    generalize bs s = S at *
    simp -implicitDefEqProofs [x512L2, hsz, h1]
  ·rw [← hcb]
   simp [comb5]
 | cons x r =>
  obtain ⟨hat, hlt, hdr⟩ := zc7 hd
  rw [hd] at hcb
  by_cases hb : isBlank x = true
  ·obtain ⟨s', g1, rfl⟩ := zm6 (code := code) (ext := ext) s hs ws n k (by omega) x r hd hb
   have hc1 := zb5 [x]
   rw [List.length_singleton] at hc1
   refine ⟨.normal, _, g1, .inl ⟨rfl, m - 1, by omega, k + 1, n + countNL [x], ws, by omega, by omega, by omega, ?_, htid _ _ _⟩⟩
   rw [hdr, ← zta hb]
   exact hcb
  have hb : isBlank x = false := by simpa using hb
  cases hp : hasPre [47, 47] (x :: r) with
  | true =>
   obtain ⟨q, hq⟩ := zmp hp
   rw [hq] at hd hcb
   obtain ⟨j, E, j1, j2, j3, g1⟩ := zm8 (code := code) (ext := ext) s hs ws n k q hd
   refine ⟨.normal, _, g1, .inl ⟨rfl, s.length - j, by omega, j, n, ws, by omega, by omega, by omega, ?_, ?_⟩⟩
   ·rw [j3, ← zte]
    exact hcb
   ·exact htid ws n j
  | false =>
   cases hw : wordOf (x :: r) with
   | none =>
    obtain ⟨J, g1⟩ := zm7 c s hs ws n k x r hd hb hp hw
    rw [ztd hb hp n hw] at hcb
    exact ⟨.ret, _, g1, .inr ⟨by simp, .inr ⟨n, hcb.symm, rfl, J, rfl⟩⟩⟩
   | some p =>
    obtain ⟨K, t, N, q⟩ := p
    have hq := zs1 hw
    have hlen := congrArg List.length hd
    rw [List.length_drop] at hlen
    obtain ⟨s', g1, g2⟩ := zm9 c s hs ws (by omega) n k x r hd hb hp hw
    have hsuf : s.drop (s.length - q.length) = q := by
     have hsx : q <:+ x :: r := zs2 hw
     have hsx2 : q <:+ s := hsx.trans (by rw [← hd]; exact List.drop_suffix k s)
     obtain ⟨a, ha⟩ := hsx2
     rw [← ha, List.length_append, Nat.add_sub_cancel]
     exact List.drop_left' rfl
    refine ⟨.normal, s', g1, .inl ⟨rfl, q.length, by omega, s.length - q.length, n, ws ++ [⟨K, t, N, n⟩], by omega, ?_, by omega, ?_, g2⟩⟩
    ·simp only [List.length_append, List.length_singleton]
     omega
    ·rw [hsuf, ← zb0, ← ztf hb hp n hw]
     exact hcb
theorem znd (c : RefA code ext) (h512 : code 512 = some x512) (s : List UInt8) :
  callW code ext 512 [strV (bs s)] [] =
   if 65536 < s.length then some (.tup [nilS, int64 0, int64 3], [])
   else match wordsL s 0 with
    | .inl ws => some (.tup [lV ws, int64 0, int64 0], lwM ws)
    | .inr m => some (.tup [nilS, int64 (m : Nat), int64 4], []) := by
 have hsz := za9 s
 rw [zbi code ext h512]
 by_cases hbig : 65536 < s.length
 ·rw [if_pos hbig]
  have hbig' : (65536 : Int) < s.length := by omega
  unfold x512
  generalize x512L2 = LL at *
  generalize s.length = sl at *
  generalize bs s = S at *
  simp -implicitDefEqProofs [hsz, hbig, hbig']
 ·rw [if_neg hbig]
  have hbig' : ¬ (65536 : Int) < s.length := by omega
  obtain ⟨e, s', l1, _, hor⟩ := znb (ext := ext) c s (by omega)
  unfold x512
  generalize x512L2 = LL at *
  rcases hor with ⟨ws, h1, rfl, n, k, rfl⟩ | ⟨m, h1, rfl, J, rfl⟩
  ·rw [h1]
   dsimp only
   clear h1
   unfold lV lwM at *
   by_cases h0 : ws.length = 0
   ·rw [if_pos h0] at l1 ⊢
    rw [if_pos h0] at l1 ⊢
    generalize s.length = sl at *
    generalize bs s = S at *
    simp -implicitDefEqProofs [l1, hsz, hbig, hbig']
   ·rw [if_neg h0] at l1 ⊢
    rw [if_neg h0] at l1 ⊢
    generalize rowW ws = RW at *
    generalize ws.length = wl at *
    generalize s.length = sl at *
    generalize bs s = S at *
    simp -implicitDefEqProofs [l1, hsz, hbig, hbig']
  ·rw [h1]
   dsimp only
   clear h1
   generalize s.length = sl at *
   generalize bs s = S at *
   by_cases hJ : J = []
   ·subst hJ
    simp -implicitDefEqProofs [l1, hsz, hbig, hbig']
   ·simp -implicitDefEqProofs [l1, hsz, hbig, hbig', hJ]
end
end Go.EX


set_option linter.unusedVariables false
namespace Go.EX
theorem buf5z : BufCode code5z (ext5 dig) := ⟨rfl, rfl, rfl, rfl, fun _ _ => rfl, rfl, fun _ _ => rfl⟩
theorem lex5z : LexCode code5z (ext5 dig) where
 b := buf5z
 c188 := rfl
 c189 := rfl
 c190 := rfl
 c191 := rfl
 c192 := rfl
 c193 := rfl
 c194 := rfl
 c195 := rfl
 c568 := rfl
 c569 := rfl
 c570 := rfl
 c571 := rfl
 c723 := rfl
 c725 := rfl
 c785 := rfl
 c796 := rfl
 c798 := rfl
 n708 := rfl
 e708 := fun _ _ => rfl
 n787 := rfl
 e787 := fun _ _ => rfl
 c793 := rfl
 n721 := rfl
 e721 := fun _ _ => rfl
theorem ref5z : RefA code5z (ext5 dig) := ⟨rfl, rfl, rfl, rfl, rfl, rfl, rfl⟩
end Go.EX


set_option linter.unusedVariables false
set_option linter.unusedSimpArgs false
namespace Go.EX
theorem zlc (o : AObj) : o.orMoved o.moved = o := by cases o <;> simp [AObj.orMoved, AObj.moved]
theorem zp6 {call : Calls'} {s : St} {fn : Nat} {args : List AV} {r : AV} {l : List Nat} (hl : order 0 (AV.refs.refsL args) s.mem = l) (hc : call fn (AV.ren.renL (place l) args) (s.mem.pickAll l) = some (r, s.mem.pickAll l)) (hp : r.plain = true)
  (hcl : ∀ id ∈ l, ∀ j ∈ ((s.mem[id]?).getD .dead).refs, j ∈ l) (hok : shareOk s.mem l = true) (hall : ∀ id, id < s.mem.length → id ∈ l ∨ ((s.mem[id]?).getD .dead).refs = []) :
  ∃ f : Nat → Option Nat, exShare call s fn args = some (r, { s with env := s.env.ren f }) ∧ ∀ id, ((s.mem[id]?).getD .dead).moved = false → f id = some id := by
 obtain ⟨hnd, hlt, _⟩ := zle (k := 0) (roots := AV.refs.refsL args) (m := s.mem) (Nat.zero_le _)
 rw [hl] at hnd hlt
 have hpl : (s.mem.pickAll l).length = l.length := List.length_map _
 have hget : ∀ (i id : Nat), l[i]? = some id → (s.mem.pickAll l)[i]? = some (((s.mem[id]?).getD .dead).ren (place l)) := by
  intro i id hi; simp only [Mem.pickAll, List.getElem?_map, hi, Option.map_some]
 let back : Nat → Option Nat := fun i => if i < l.length then l[i]? else some (s.mem.length + (i - l.length))
 let stay : Nat → Option Nat := fun id => match place l id with
  | some i => if (((s.mem.pickAll l)[i]?).getD .dead).moved then none else some id
  | none => some id
 refine ⟨stay, ?_, ?_⟩
 ·have hmem : (List.range (s.mem.length + ((s.mem.pickAll l).length - l.length))).map (shareAt s l (s.mem.pickAll l) back stay) = s.mem := by
   rw [hpl, Nat.sub_self, Nat.add_zero]
   apply List.ext_getElem?
   intro id
   rcases Nat.lt_or_ge id s.mem.length with hlt' | hge
   ·rw [List.getElem?_map, List.getElem?_range hlt', List.getElem?_eq_getElem hlt']
    simp only [Option.map_some, Option.some.injEq]
    unfold shareAt
    have hg : (s.mem[id]?).getD .dead = s.mem[id] := by rw [List.getElem?_eq_getElem hlt']; rfl
    cases hpi : place l id with
    | none =>
     simp only [hlt', if_true, hg]
     have hno : id ∉ l := fun h => by
      obtain ⟨i, hi⟩ := zit hnd h
      rw [hi] at hpi; cases hpi
     have hre : (s.mem[id]).refs = [] := by
      rcases hall id hlt' with h | h
      ·exact absurd h hno
      ·rwa [hg] at h
     exact zkv fun j hj => by rw [hre] at hj; cases hj
    | some i =>
     have hi := zl6 l id i hpi
     have hcl' := hcl id (List.mem_of_getElem? hi)
     simp only [hget i id hi, Option.getD_some, hg] at hcl' ⊢
     rw [zkx]
     have : (s.mem[id]).ren (fun i => (place l i).bind back) = s.mem[id] := by
      refine zkv fun j hj => ?_
      have hjl := hcl' j hj
      obtain ⟨q, hq⟩ := zit hnd hjl
      have hq' := zl6 l j q hq
      rw [hq, Option.bind_some]
      show (if q < l.length then l[q]? else _) = _
      rw [if_pos (List.getElem?_eq_some_iff.1 hq').1, hq']
     rw [this, zlc]
   ·rw [List.getElem?_eq_none (by simpa using hge), List.getElem?_eq_none hge]
  unfold exShare
  dsimp only
  rw [hl, if_neg (by rw [hok]; decide)]
  simp only [hc]
  rw [zmj hp]
  refine congrArg (fun u : St => some (r, u)) (?_ : St.mk s.k _ _ = St.mk s.k _ s.mem)
  rw [St.mk.injEq]
  exact ⟨rfl, rfl, hmem⟩
 ·intro id hm
  show (match place l id with | some i => if (((s.mem.pickAll l)[i]?).getD .dead).moved then none else some id | none => some id) = some id
  cases hpi : place l id with
  | none => rfl
  | some i =>
   have hi := zl6 l id i hpi
   have : (((s.mem[id]?).getD .dead).ren (place l)).moved = false := by rw [zi2]; exact hm
   simp only [hget i id hi, Option.getD_some, this, Bool.false_eq_true, if_false]
end Go.EX


set_option maxHeartbeats 2000000
set_option linter.unusedVariables false
set_option linter.unusedSimpArgs false
namespace Go.EX
def bookW (n : Int) (v : AV) : List AV := [int64 n, nilS, nilS, nilS, nilS, nilS, nilS, nilS, nilS, nilS, nilS, nilS, nilS, v, nilS, nilS, nilS, nilS, nilS, nilS, nilS]
def mkB (k : Nat) : ByteArray := bs [35, UInt8.ofNat (48 + k)]
def mkW (k : Nat) : W5 := ⟨0, [35, UInt8.ofNat (48 + k)], 0, 0⟩
def marksW (m : Nat) (j : Nat) (vs : List W5) : List W5 := List.replicate j (mkW m) ++ vs.drop j
theorem zis (m : Nat) (vs : List W5) : marksW m 0 vs = vs := by simp [marksW]
theorem zim (m : Nat) {n : Nat} {vs : List W5} (h : vs.length = n) : marksW m n vs = List.replicate n (mkW m) := by subst h; simp [marksW]
theorem zio (m : Nat) {j : Nat} {vs : List W5} (h : j ≤ vs.length) : (marksW m j vs).length = vs.length := by simp [marksW]; omega
theorem zir (m : Nat) {j : Nat} {vs : List W5} (h : j < vs.length) : (marksW m j vs).set j (mkW m) = marksW m (j + 1) vs := by
 unfold marksW
 rw [List.set_append_right _ _ (by simp)]
 simp only [List.length_replicate, Nat.sub_self]
 rw [List.drop_eq_getElem_cons h, List.set_cons_zero, List.replicate_succ']
 simp
theorem ziq (m : Nat) {j : Nat} {vs : List W5} (h : j < vs.length) : setAll (t5.row (marksW m j vs)) (j * 4) [.val (.int .u8 0), .val (.string (mkB m)), .val (.int .i64 0), .val (.int .i64 0)] = t5.row (marksW m (j + 1) vs) := by
 rw [← zir m h]
 exact zpu (t := t5) (by decide) (by rw [zio m (Nat.le_of_lt h)]; exact h) (mkW m)
theorem zin (m : Nat) {j : Nat} {vs : List W5} (h : j ≤ vs.length) : (t5.row (marksW m j vs)).length = vs.length * 4 := by
 rw [zol, zio m h]; rfl
section
variable {code : Nat → Option XFun} {ext : Calls'}
structure MarkCode (code : Nat → Option XFun) (ext : Calls') : Prop where
 l : LexCode code ext
 c401 : code 401 = some x401
 c421 : code 421 = some x421
 c422 : code 422 = some x422
 c786 : code 786 = some x786
 c709 : code 709 = some x709
theorem zg5 (h : MarkCode code ext) {v : Int} (hv : -9223372036854775808 ≤ v ∧ v ≤ 9223372036854775807) : callW code ext 786 [int64 v] [] = some (strV (bs (Go.Lib.itoa v)), []) := by
 have h0 : callW code ext 708 [int64 v, int64 10] [] = some (strV (bs (Go.Lib.itoa v)), []) := by
  rw [zbh code ext h.l.n708 (by decide), h.l.e708]
  simp [extItoa, hv, bs]
 generalize bs (Go.Lib.itoa v) = T at *
 have h2 : callW code ext 709 [int64 v] [] = some (strV T, []) := by
  rw [zbi code ext h.c709]
  simp -implicitDefEqProofs [x709, h0]
 rw [zbi code ext h.c786]
 simp -implicitDefEqProofs [x786, h2]
theorem zsv (h : MarkCode code ext) : callW code ext 422 [int64 1] [] = some (strV (mkB 1), []) := by
 have h2 := zg5 (ext := ext) h (v := 1) (by decide)
 have e1 : Go.Lib.itoa 1 = [49] := by simp [Lib.itoa, Lib.decDigits]
 rw [e1] at h2
 have hz : (bs [49]).size = 1 := rfl
 have hz2 : (⟨#[35]⟩ : ByteArray).size = 1 := rfl
 have hc : (⟨#[35]⟩ : ByteArray) ++ bs [49] = mkB 1 := by
  have : (⟨#[35]⟩ : ByteArray) = bs [35] := rfl
  rw [this, za6]
  rfl
 rw [zbi code ext h.c422]
 generalize bs [49] = T at *
 generalize mkB 1 = U at *
 simp -implicitDefEqProofs [x422, h2, hz, hz2, hc]
theorem zik (h : MarkCode code ext) : callW code ext 421 [int64 1] [] = some (.agg [.imm (.val (.int .u8 0)), strV (mkB 1), int64 0, int64 0], []) := by
 have h2 := zsv (ext := ext) h
 rw [zbi code ext h.c421]
 generalize mkB 1 = U at *
 simp -implicitDefEqProofs [x421, h2]
theorem zg2 (h : MarkCode code ext) : callW code ext 401 [.agg [.imm (.val (.int .u8 0)), strV (mkB 1), int64 0, int64 0], int64 1] [] = some (avb true, []) := by
 have h2 := zsv (ext := ext) h
 have hTT : (mkB 1 == mkB 1) = true := rfl
 rw [zbi code ext h.c401]
 generalize mkB 1 = U at *
 simp -implicitDefEqProofs [x401, h2, hTT]
theorem zsw (h : MarkCode code ext) : callW code ext 422 [int64 2] [] = some (strV (mkB 2), []) := by
 have h2 := zg5 (ext := ext) h (v := 2) (by decide)
 have e1 : Go.Lib.itoa 2 = [50] := by simp [Lib.itoa, Lib.decDigits]
 rw [e1] at h2
 have hz : (bs [50]).size = 1 := rfl
 have hz2 : (⟨#[35]⟩ : ByteArray).size = 1 := rfl
 have hc : (⟨#[35]⟩ : ByteArray) ++ bs [50] = mkB 2 := by
  have : (⟨#[35]⟩ : ByteArray) = bs [35] := rfl
  rw [this, za6]
  rfl
 rw [zbi code ext h.c422]
 generalize bs [50] = T at *
 generalize mkB 2 = U at *
 simp -implicitDefEqProofs [x422, h2, hz, hz2, hc]
theorem zil (h : MarkCode code ext) : callW code ext 421 [int64 2] [] = some (.agg [.imm (.val (.int .u8 0)), strV (mkB 2), int64 0, int64 0], []) := by
 have h2 := zsw (ext := ext) h
 rw [zbi code ext h.c421]
 generalize mkB 2 = U at *
 simp -implicitDefEqProofs [x421, h2]
theorem zg3 (h : MarkCode code ext) : callW code ext 401 [.agg [.imm (.val (.int .u8 0)), strV (mkB 2), int64 0, int64 0], int64 2] [] = some (avb true, []) := by
 have h2 := zsw (ext := ext) h
 have hTT : (mkB 2 == mkB 2) = true := rfl
 rw [zbi code ext h.c401]
 generalize mkB 2 = U at *
 simp -implicitDefEqProofs [x401, h2, hTT]
theorem zeq (h : MarkCode code ext) (n : Nat) (m2 m3 : Bool) (v2 v3 vs : List W5) (hlen : vs.length = n) (hn : n ≤ 1000000) {s : St} (hst : s.tidy [0, 2, 3, 4] = ⟨4, [(0, .optr 0 0), (2, int64 0), (3, .optr 4 0), (4, int64 0)], [.rich (bookW 2 (.osl 1 0 3 2 none)), .rich [.osl 2 0 4 n none, nilS, int64 1, .osl 3 0 4 n none, nilS, int64 2], .flat (t5.row (vs)) m2, .flat (t5.row (v3)) m3, .rich [.osl 2 0 4 n none, nilS, int64 1]]⟩) :
  den code ext (.loop [0, 2, 3, 4] x35L1) s = some (.exit 2, ⟨4, [(0, .optr 0 0), (2, int64 0), (3, .optr 4 0), (4, int64 (n : Nat)), (25, avb false)], [.rich (bookW 2 (.osl 1 0 3 2 none)), .rich [.osl 2 0 4 n none, nilS, int64 1, .osl 3 0 4 n none, nilS, int64 2], .flat (t5.row (marksW 1 n vs)) m2, .flat (t5.row (v3)) m3, .rich [.osl 2 0 4 n none, nilS, int64 1]]⟩) := by
 obtain ⟨e, s', h2, _, rfl, rfl⟩ := zh9 (code := code) (ext := ext) (keep := [0, 2, 3, 4]) (b := x35L1) (fun c s => ∃ j, j + c = n ∧ s.tidy [0, 2, 3, 4] = ⟨4, [(0, .optr 0 0), (2, int64 0), (3, .optr 4 0), (4, int64 (j : Nat))], [.rich (bookW 2 (.osl 1 0 3 2 none)), .rich [.osl 2 0 4 n none, nilS, int64 1, .osl 3 0 4 n none, nilS, int64 2], .flat (t5.row (marksW 1 j vs)) m2, .flat (t5.row (v3)) m3, .rich [.osl 2 0 4 n none, nilS, int64 1]]⟩)
  (fun e s' => e = .exit 2 ∧ s' = ⟨4, [(0, .optr 0 0), (2, int64 0), (3, .optr 4 0), (4, int64 (n : Nat)), (25, avb false)], [.rich (bookW 2 (.osl 1 0 3 2 none)), .rich [.osl 2 0 4 n none, nilS, int64 1, .osl 3 0 4 n none, nilS, int64 2], .flat (t5.row (marksW 1 n vs)) m2, .flat (t5.row (v3)) m3, .rich [.osl 2 0 4 n none, nilS, int64 1]]⟩) (fun c s => by
  rintro ⟨j, hj, hst⟩
  rw [hst]
  by_cases hlt : j < n
  ·have hm := zik (ext := ext) h
   have e1 : IntKind.wrap .i64 ((j : Int) + 1) = (j : Int) + 1 := wrapI64 (by omega) (by omega)
   have hset := ziq 1 (j := j) (vs := vs) (by omega)
   have hrl := zin 1 (j := j) (vs := vs) (by omega)
   have hlt' : (j : Int) < n := by omega
   refine ⟨.normal, ⟨4, [(0, .optr 0 0), (2, int64 0), (3, .optr 4 0), (4, int64 ((j : Int) + 1))], [.rich (bookW 2 (.osl 1 0 3 2 none)), .rich [.osl 2 0 4 n none, nilS, int64 1, .osl 3 0 4 n none, nilS, int64 2], .flat (t5.row (marksW 1 (j + 1) vs)) m2, .flat (t5.row (v3)) m3, .rich [.osl 2 0 4 n none, nilS, int64 1]]⟩, ?_, .inl ⟨rfl, c - 1, by omega, j + 1, by omega, ?_⟩⟩
   ·have hfit : j * 4 + 4 ≤ (t5.row (marksW 1 j vs)).length := by omega
    generalize t5.row (marksW 1 j vs) = R1 at *
    generalize t5.row (marksW 1 (j + 1) vs) = R2 at *
    generalize t5.row v3 = R3
    simp -implicitDefEqProofs [x35L1, hlt, hlt', hm, hset, hfit, e1, bookW, nilS]
   ·generalize t5.row (marksW 1 (j + 1) vs) = R2
    generalize t5.row v3 = R3
    simp -implicitDefEqProofs [bookW, nilS]
  ·have : j = n := by omega
   subst this
   refine ⟨.exit 2, _, ?_, .inr ⟨by simp, rfl, rfl⟩⟩
   generalize t5.row (marksW 1 j vs) = R2
   generalize t5.row v3 = R3
   simp -implicitDefEqProofs [x35L1]) n s ⟨0, by simp, by rw [hst, zis]; rfl⟩
 exact h2
theorem zes (h : MarkCode code ext) (n : Nat) (m2 m3 : Bool) (v2 v3 vs : List W5) (hlen : vs.length = n) (hn : n ≤ 1000000) {s : St} (hst : s.tidy [0, 2, 3, 4] = ⟨4, [(0, .optr 0 0), (2, int64 1), (3, .optr 4 0), (4, int64 0)], [.rich (bookW 2 (.osl 1 0 3 2 none)), .rich [.osl 2 0 4 n none, nilS, int64 1, .osl 3 0 4 n none, nilS, int64 2], .flat (t5.row (v2)) m2, .flat (t5.row (vs)) m3, .rich [.osl 3 0 4 n none, nilS, int64 2]]⟩) :
  den code ext (.loop [0, 2, 3, 4] x35L1) s = some (.exit 2, ⟨4, [(0, .optr 0 0), (2, int64 1), (3, .optr 4 0), (4, int64 (n : Nat)), (25, avb false)], [.rich (bookW 2 (.osl 1 0 3 2 none)), .rich [.osl 2 0 4 n none, nilS, int64 1, .osl 3 0 4 n none, nilS, int64 2], .flat (t5.row (v2)) m2, .flat (t5.row (marksW 2 n vs)) m3, .rich [.osl 3 0 4 n none, nilS, int64 2]]⟩) := by
 obtain ⟨e, s', h2, _, rfl, rfl⟩ := zh9 (code := code) (ext := ext) (keep := [0, 2, 3, 4]) (b := x35L1) (fun c s => ∃ j, j + c = n ∧ s.tidy [0, 2, 3, 4] = ⟨4, [(0, .optr 0 0), (2, int64 1), (3, .optr 4 0), (4, int64 (j : Nat))], [.rich (bookW 2 (.osl 1 0 3 2 none)), .rich [.osl 2 0 4 n none, nilS, int64 1, .osl 3 0 4 n none, nilS, int64 2], .flat (t5.row (v2)) m2, .flat (t5.row (marksW 2 j vs)) m3, .rich [.osl 3 0 4 n none, nilS, int64 2]]⟩)
  (fun e s' => e = .exit 2 ∧ s' = ⟨4, [(0, .optr 0 0), (2, int64 1), (3, .optr 4 0), (4, int64 (n : Nat)), (25, avb false)], [.rich (bookW 2 (.osl 1 0 3 2 none)), .rich [.osl 2 0 4 n none, nilS, int64 1, .osl 3 0 4 n none, nilS, int64 2], .flat (t5.row (v2)) m2, .flat (t5.row (marksW 2 n vs)) m3, .rich [.osl 3 0 4 n none, nilS, int64 2]]⟩) (fun c s => by
  rintro ⟨j, hj, hst⟩
  rw [hst]
  by_cases hlt : j < n
  ·have hm := zil (ext := ext) h
   have e1 : IntKind.wrap .i64 ((j : Int) + 1) = (j : Int) + 1 := wrapI64 (by omega) (by omega)
   have hset := ziq 2 (j := j) (vs := vs) (by omega)
   have hrl := zin 2 (j := j) (vs := vs) (by omega)
   have hlt' : (j : Int) < n := by omega
   refine ⟨.normal, ⟨4, [(0, .optr 0 0), (2, int64 1), (3, .optr 4 0), (4, int64 ((j : Int) + 1))], [.rich (bookW 2 (.osl 1 0 3 2 none)), .rich [.osl 2 0 4 n none, nilS, int64 1, .osl 3 0 4 n none, nilS, int64 2], .flat (t5.row (v2)) m2, .flat (t5.row (marksW 2 (j + 1) vs)) m3, .rich [.osl 3 0 4 n none, nilS, int64 2]]⟩, ?_, .inl ⟨rfl, c - 1, by omega, j + 1, by omega, ?_⟩⟩
   ·have hfit : j * 4 + 4 ≤ (t5.row (marksW 2 j vs)).length := by omega
    generalize t5.row (marksW 2 j vs) = R1 at *
    generalize t5.row (marksW 2 (j + 1) vs) = R2 at *
    generalize t5.row v2 = R3
    simp -implicitDefEqProofs [x35L1, hlt, hlt', hm, hset, hfit, e1, bookW, nilS]
   ·generalize t5.row (marksW 2 (j + 1) vs) = R2
    generalize t5.row v2 = R3
    simp -implicitDefEqProofs [bookW, nilS]
  ·have : j = n := by omega
   subst this
   refine ⟨.exit 2, _, ?_, .inr ⟨by simp, rfl, rfl⟩⟩
   generalize t5.row (marksW 2 j vs) = R2
   generalize t5.row v2 = R3
   simp -implicitDefEqProofs [x35L1]) n s ⟨0, by simp, by rw [hst, zis]; rfl⟩
 exact h2
theorem zep (h : MarkCode code ext) (n : Nat) (m2 m3 : Bool) (v2 v3 : List W5) (hv2 : v2.length = n) (hv3 : v3.length = n) (hn : n ≤ 1000000) :
  den code ext x35L2 ⟨4, [(0, .optr 0 0), (2, int64 0)], [.rich (bookW 2 (.osl 1 0 3 2 none)), .rich [.osl 2 0 4 n none, nilS, int64 1, .osl 3 0 4 n none, nilS, int64 2], .flat (t5.row (v2)) m2, .flat (t5.row (v3)) m3]⟩ = some (.normal, ⟨4, [(0, .optr 0 0), (2, int64 1)], [.rich (bookW 2 (.osl 1 0 3 2 none)), .rich [.osl 2 0 4 n none, nilS, int64 1, .osl 3 0 4 n none, nilS, int64 2], .flat (t5.row (List.replicate n (mkW 1))) m2, .flat (t5.row (v3)) m3, .rich [.osl 2 0 4 n none, nilS, int64 1]]⟩) := by
 have e1 : IntKind.wrap .i64 1 = 1 := by decide
 have hl := zeq (ext := ext) h n m2 m3 (v2) (v3) v2 hv2 hn (s := ⟨4, [(0, .optr 0 0), (2, int64 0), (3, .optr 4 0), (4, int64 0)], [.rich (bookW 2 (.osl 1 0 3 2 none)), .rich [.osl 2 0 4 n none, nilS, int64 1, .osl 3 0 4 n none, nilS, int64 2], .flat (t5.row (v2)) m2, .flat (t5.row (v3)) m3, .rich [.osl 2 0 4 n none, nilS, int64 1]]⟩) (by
  generalize t5.row (v2) = Q1
  generalize t5.row (v3) = Q2
  simp -implicitDefEqProofs [bookW, nilS])
 rw [zim _ hv2] at hl
 simp only [bookW, nilS] at hl
 generalize t5.row (List.replicate n (mkW 1)) = R at *
 generalize t5.row (v2) = Q1 at *
 generalize t5.row (v3) = Q2 at *
 simp -implicitDefEqProofs [x35L2, e1, hl, bookW, nilS]
theorem zer (h : MarkCode code ext) (n : Nat) (m2 m3 : Bool) (v2 v3 : List W5) (hv2 : v2.length = n) (hv3 : v3.length = n) (hn : n ≤ 1000000) :
  den code ext x35L2 ⟨4, [(0, .optr 0 0), (2, int64 1)], [.rich (bookW 2 (.osl 1 0 3 2 none)), .rich [.osl 2 0 4 n none, nilS, int64 1, .osl 3 0 4 n none, nilS, int64 2], .flat (t5.row (List.replicate n (mkW 1))) m2, .flat (t5.row (v3)) m3]⟩ = some (.normal, ⟨4, [(0, .optr 0 0), (2, int64 2)], [.rich (bookW 2 (.osl 1 0 3 2 none)), .rich [.osl 2 0 4 n none, nilS, int64 1, .osl 3 0 4 n none, nilS, int64 2], .flat (t5.row (List.replicate n (mkW 1))) m2, .flat (t5.row (List.replicate n (mkW 2))) m3, .rich [.osl 3 0 4 n none, nilS, int64 2]]⟩) := by
 have e1 : IntKind.wrap .i64 2 = 2 := by decide
 have hl := zes (ext := ext) h n m2 m3 (List.replicate n (mkW 1)) (v3) v3 hv3 hn (s := ⟨4, [(0, .optr 0 0), (2, int64 1), (3, .optr 4 0), (4, int64 0)], [.rich (bookW 2 (.osl 1 0 3 2 none)), .rich [.osl 2 0 4 n none, nilS, int64 1, .osl 3 0 4 n none, nilS, int64 2], .flat (t5.row (List.replicate n (mkW 1))) m2, .flat (t5.row (v3)) m3, .rich [.osl 3 0 4 n none, nilS, int64 2]]⟩) (by
  generalize t5.row (List.replicate n (mkW 1)) = Q1
  generalize t5.row (v3) = Q2
  simp -implicitDefEqProofs [bookW, nilS])
 rw [zim _ hv3] at hl
 simp only [bookW, nilS] at hl
 generalize t5.row (List.replicate n (mkW 2)) = R at *
 generalize t5.row (List.replicate n (mkW 1)) = Q1 at *
 generalize t5.row (v3) = Q2 at *
 simp -implicitDefEqProofs [x35L2, e1, hl, bookW, nilS]
theorem zet (h : MarkCode code ext) (h35 : code 35 = some x35) (n : Nat) (m2 m3 : Bool) (v2 v3 : List W5) (hv2 : v2.length = n) (hv3 : v3.length = n) (hn : n ≤ 1000000) :
  callW code ext 35 [.optr 0 0] [.rich (bookW 2 (.osl 1 0 3 2 none)), .rich [.osl 2 0 4 n none, nilS, int64 1, .osl 3 0 4 n none, nilS, int64 2], .flat (t5.row (v2)) m2, .flat (t5.row (v3)) m3] = some (.tup [], [.rich (bookW 2 (.osl 1 0 3 2 none)), .rich [.osl 2 0 4 n none, nilS, int64 1, .osl 3 0 4 n none, nilS, int64 2], .flat (t5.row (List.replicate n (mkW 1))) m2, .flat (t5.row (List.replicate n (mkW 2))) m3]) := by
 have i0 := zep (ext := ext) h n m2 m3 v2 v3 hv2 hv3 hn
 have i1 := zer (ext := ext) h n m2 m3 v2 v3 hv2 hv3 hn
 have i3 : ∀ M : Mem, M = [.rich (bookW 2 (.osl 1 0 3 2 none)), .rich [.osl 2 0 4 n none, nilS, int64 1, .osl 3 0 4 n none, nilS, int64 2], .flat (t5.row (List.replicate n (mkW 1))) m2, .flat (t5.row (List.replicate n (mkW 2))) m3] → ∃ e, den code ext x35L2 ⟨4, [(0, .optr 0 0), (2, int64 2)], M⟩ = some (.exit 0, ⟨4, e, M⟩) := by
  rintro M rfl
  exact ⟨[(0, .optr 0 0), (2, int64 2), (11, avb false)], by
   generalize t5.row (List.replicate n (mkW 1)) = Q1
   generalize t5.row (List.replicate n (mkW 2)) = Q2
   simp -implicitDefEqProofs [x35L2, bookW, nilS]⟩
 obtain ⟨e, i3⟩ := i3 _ rfl
 rw [zbi code ext h35]
 simp only [bookW, nilS] at i0 i1 i3
 generalize t5.row (List.replicate n (mkW 1)) = Q1 at *
 generalize t5.row (List.replicate n (mkW 2)) = Q2 at *
 generalize t5.row v2 = Q3 at *
 generalize t5.row v3 = Q4 at *
 simp -implicitDefEqProofs [x35, zcp, i0, i1, i3, bookW, nilS]
theorem zeu (h35 : code 35 = some x35) : callW code ext 35 [.optr 0 0] [.rich (bookW 2 (.osl 1 0 3 2 none)), .rich [nilS, nilS, int64 1, nilS, nilS, int64 2]] = some (.tup [], [.rich (bookW 2 (.osl 1 0 3 2 none)), .rich [nilS, nilS, int64 1, nilS, nilS, int64 2]]) := by
 rw [zbi code ext h35]
 have e1 : IntKind.wrap .i64 1 = 1 := by decide
 have e2 : IntKind.wrap .i64 2 = 2 := by decide
 simp -implicitDefEqProofs [x35, x35L2, x35L1, zcp, e1, e2, bookW, nilS]
end
end Go.EX


set_option maxHeartbeats 4000000
set_option linter.unusedVariables false
set_option linter.unusedSimpArgs false
namespace Go.EX
section
variable {code : Nat → Option XFun} {ext : Calls'}
theorem znu (n : Nat) (k : Nat) : (t5.row (List.replicate n (mkW k))).length = n * 4 := by rw [zol, List.length_replicate]; rfl
theorem znw (n : Nat) (k : Nat) : t5.row (List.replicate n (mkW k)) ++ [.val (.int .u8 0), .val (.string (mkB k)), .val (.int .i64 0), .val (.int .i64 0)] = t5.row (List.replicate (n + 1) (mkW k)) := by
 rw [List.replicate_succ', ← zom]
 rfl
theorem znv (k : Nat) : t5.row [mkW k] = [IV.val (.int .u8 0), .val (.string (mkB k)), .val (.int .i64 0), .val (.int .i64 0)] := rfl
theorem zf0 (h : MarkCode code ext) (n : Nat) (m2 m3 : Bool) (j0 : Nat) (hj0 : 0 < j0 ∧ j0 < 40) (hn : n ≤ 1000000) {o : AObj} (ho : o = .flat (t5.row (List.replicate (n + j0) (mkW 1))) false ∨ o = .fix (t5.row (List.replicate (n + j0) (mkW 1))) false true) {s : St}
  (hst : s.tidy [0, 2, 3, 4, 5] = ⟨4, [(0, .optr 0 0), (2, int64 0), (3, .optr 4 0), (4, .osl 5 0 4 (n + j0) none), (5, int64 (j0 : Nat))], [.rich (bookW 2 (.osl 1 0 3 2 none)), .rich [.osl 2 0 4 n none, nilS, int64 1, .osl 3 0 4 n none, nilS, int64 2], .fix (t5.row (List.replicate (n) (mkW 1))) m2 false, .flat (t5.row (List.replicate (n) (mkW 2))) m3, .rich [.osl 2 0 4 n none, nilS, int64 1], o]⟩) :
  den code ext (.loop [0, 2, 3, 4, 5] x55L1) s = some (.exit 2, ⟨4, [(0, .optr 0 0), (2, int64 0), (3, .optr 4 0), (4, .osl 5 0 4 (n + 40) none), (5, int64 40), (25, avb false)], [.rich (bookW 2 (.osl 1 0 3 2 none)), .rich [.osl 2 0 4 n none, nilS, int64 1, .osl 3 0 4 n none, nilS, int64 2], .fix (t5.row (List.replicate (n) (mkW 1))) m2 false, .flat (t5.row (List.replicate (n) (mkW 2))) m3, .rich [.osl 2 0 4 n none, nilS, int64 1], .fix (t5.row (List.replicate (n + 40) (mkW 1))) false true]⟩) := by
 obtain ⟨e, s', h2, _, rfl, rfl⟩ := zh9 (code := code) (ext := ext) (keep := [0, 2, 3, 4, 5]) (b := x55L1) (fun c s => ∃ j o, 0 < j ∧ j + c = 40 ∧ (c = 0 → o = .fix (t5.row (List.replicate (n + j) (mkW 1))) false true) ∧ (o = .flat (t5.row (List.replicate (n + j) (mkW 1))) false ∨ o = .fix (t5.row (List.replicate (n + j) (mkW 1))) false true) ∧ s.tidy [0, 2, 3, 4, 5] = ⟨4, [(0, .optr 0 0), (2, int64 0), (3, .optr 4 0), (4, .osl 5 0 4 (n + j) none), (5, int64 (j : Nat))], [.rich (bookW 2 (.osl 1 0 3 2 none)), .rich [.osl 2 0 4 n none, nilS, int64 1, .osl 3 0 4 n none, nilS, int64 2], .fix (t5.row (List.replicate (n) (mkW 1))) m2 false, .flat (t5.row (List.replicate (n) (mkW 2))) m3, .rich [.osl 2 0 4 n none, nilS, int64 1], o]⟩)
  (fun e s' => e = .exit 2 ∧ s' = ⟨4, [(0, .optr 0 0), (2, int64 0), (3, .optr 4 0), (4, .osl 5 0 4 (n + 40) none), (5, int64 40), (25, avb false)], [.rich (bookW 2 (.osl 1 0 3 2 none)), .rich [.osl 2 0 4 n none, nilS, int64 1, .osl 3 0 4 n none, nilS, int64 2], .fix (t5.row (List.replicate (n) (mkW 1))) m2 false, .flat (t5.row (List.replicate (n) (mkW 2))) m3, .rich [.osl 2 0 4 n none, nilS, int64 1], .fix (t5.row (List.replicate (n + 40) (mkW 1))) false true]⟩) (fun c s => by
  rintro ⟨j, o, hj1, hj, hc0, ho, hst⟩
  rw [hst]
  by_cases hlt : j < 40
  ·have hm := zik (ext := ext) h
   have e1 : IntKind.wrap .i64 ((j : Int) + 1) = (j : Int) + 1 := wrapI64 (by omega) (by omega)
   have hsn := znw (n + j) 1
   have hrl := znu (n + j) 1
   have hbd : (n + (j + 1)) * 40 ≤ 140737488355328 := by omega
   have hlt' : (j : Int) < 40 := by omega
   have e3 : n + j + 1 = n + (j + 1) := by omega
   rw [e3] at hsn
   refine ⟨.normal, ⟨4, [(0, .optr 0 0), (2, int64 0), (3, .optr 4 0), (4, .osl 7 0 4 (n + (j + 1)) none), (5, int64 ((j : Int) + 1))], [.rich (bookW 2 (.osl 1 0 3 2 none)), .rich [.osl 2 0 4 n none, nilS, int64 1, .osl 3 0 4 n none, nilS, int64 2], .fix (t5.row (List.replicate (n) (mkW 1))) m2 false, .flat (t5.row (List.replicate (n) (mkW 2))) m3, .rich [.osl 2 0 4 n none, nilS, int64 1], .fix (t5.row (List.replicate (n + j) (mkW 1))) false false, .flat [.val (.int .u8 0), .val (.string (mkB 1)), .val (.int .i64 0), .val (.int .i64 0)] false, .fix (t5.row (List.replicate (n + (j + 1)) (mkW 1))) false true]⟩, ?_, .inl ⟨rfl, c - 1, by omega, j + 1, .fix (t5.row (List.replicate (n + (j + 1)) (mkW 1))) false true, by omega, by omega, fun _ => rfl, .inr rfl, ?_⟩⟩
   ·generalize t5.row (List.replicate (n + (j + 1)) (mkW 1)) = R2 at *
    rcases ho with rfl | rfl
    ·generalize t5.row (List.replicate (n + j) (mkW 1)) = R1 at *
     generalize t5.row (List.replicate (n) (mkW 1)) = G0
     generalize t5.row (List.replicate (n) (mkW 2)) = G1
     simp -implicitDefEqProofs [x55L1, hlt', hlt, hm, hsn, hrl, hbd, e1, e3, bookW, nilS, exAppendX, exAppend, exAppendK, elems]
    ·generalize t5.row (List.replicate (n + j) (mkW 1)) = R1 at *
     generalize t5.row (List.replicate (n) (mkW 1)) = G0
     generalize t5.row (List.replicate (n) (mkW 2)) = G1
     simp -implicitDefEqProofs [x55L1, hlt', hlt, hm, hsn, hrl, hbd, e1, e3, bookW, nilS, exAppendX, exAppend, exAppendK, elems]
   ·generalize t5.row (List.replicate (n + (j + 1)) (mkW 1)) = R2
    generalize t5.row (List.replicate (n + j) (mkW 1)) = R1
    generalize t5.row (List.replicate (n) (mkW 1)) = G0
    generalize t5.row (List.replicate (n) (mkW 2)) = G1
    simp -implicitDefEqProofs [bookW, nilS]
  ·have : j = 40 := by omega
   subst this
   have : c = 0 := by omega
   subst this
   obtain rfl := hc0 rfl
   refine ⟨.exit 2, _, ?_, .inr ⟨by simp, rfl, rfl⟩⟩
   generalize t5.row (List.replicate (n + 40) (mkW 1)) = R2
   generalize t5.row (List.replicate (n) (mkW 1)) = G0
   generalize t5.row (List.replicate (n) (mkW 2)) = G1
   simp -implicitDefEqProofs [x55L1]) (40 - j0) s ⟨j0, o, by omega, by omega, fun h => absurd h (by omega), ho, hst⟩
 exact h2
theorem zf1 (h : MarkCode code ext) (n : Nat) (m2 m3 : Bool) (hn : n ≤ 1000000) :
  den code ext x55L1 ⟨4, [(0, .optr 0 0), (2, int64 0), (3, .optr 4 0), (4, .osl 2 0 4 n none), (5, int64 0)], [.rich (bookW 2 (.osl 1 0 3 2 none)), .rich [.osl 2 0 4 n none, nilS, int64 1, .osl 3 0 4 n none, nilS, int64 2], .flat (t5.row (List.replicate (n) (mkW 1))) m2, .flat (t5.row (List.replicate (n) (mkW 2))) m3, .rich [.osl 2 0 4 n none, nilS, int64 1]]⟩ = some (.normal, ⟨4, [(0, .optr 0 0), (2, int64 0), (3, .optr 4 0), (4, .osl 6 0 4 (n + 1) none), (5, int64 1)], [.rich (bookW 2 (.osl 1 0 3 2 none)), .rich [.osl 2 0 4 n none, nilS, int64 1, .osl 3 0 4 n none, nilS, int64 2], .fix (t5.row (List.replicate (n) (mkW 1))) m2 false, .flat (t5.row (List.replicate (n) (mkW 2))) m3, .rich [.osl 2 0 4 n none, nilS, int64 1], .flat [.val (.int .u8 0), .val (.string (mkB 1)), .val (.int .i64 0), .val (.int .i64 0)] false, .fix (t5.row (List.replicate (n + 1) (mkW 1))) false true]⟩) := by
 have hm := zik (ext := ext) h
 have e1 : IntKind.wrap .i64 1 = 1 := by decide
 have hsn := znw n 1
 have hrl := znu n 1
 have hbd : (n + 1) * 40 ≤ 140737488355328 := by omega
 generalize t5.row (List.replicate (n + 1) (mkW 1)) = R2 at *
 generalize t5.row (List.replicate (n) (mkW 1)) = R1 at *
 generalize t5.row (List.replicate (n) (mkW 2)) = R3 at *
 simp -implicitDefEqProofs [x55L1, hm, hsn, hrl, hbd, e1, bookW, nilS, exAppendX, exAppend, exAppendK, elems]
theorem zfy (h : MarkCode code ext) (n : Nat) (m2 m3 : Bool) (hn : n ≤ 1000000) {s : St} (hst : s.tidy [0, 2, 3, 4, 5] = ⟨4, [(0, .optr 0 0), (2, int64 0), (3, .optr 4 0), (4, .osl 2 0 4 n none), (5, int64 0)], [.rich (bookW 2 (.osl 1 0 3 2 none)), .rich [.osl 2 0 4 n none, nilS, int64 1, .osl 3 0 4 n none, nilS, int64 2], .flat (t5.row (List.replicate (n) (mkW 1))) m2, .flat (t5.row (List.replicate (n) (mkW 2))) m3, .rich [.osl 2 0 4 n none, nilS, int64 1]]⟩) :
  den code ext (.loop [0, 2, 3, 4, 5] x55L1) s = some (.exit 2, ⟨4, [(0, .optr 0 0), (2, int64 0), (3, .optr 4 0), (4, .osl 5 0 4 (n + 40) none), (5, int64 40), (25, avb false)], [.rich (bookW 2 (.osl 1 0 3 2 none)), .rich [.osl 2 0 4 n none, nilS, int64 1, .osl 3 0 4 n none, nilS, int64 2], .fix (t5.row (List.replicate (n) (mkW 1))) m2 false, .flat (t5.row (List.replicate (n) (mkW 2))) m3, .rich [.osl 2 0 4 n none, nilS, int64 1], .fix (t5.row (List.replicate (n + 40) (mkW 1))) false true]⟩) := by
 rw [zcp, hst, zf1 h n m2 m3 hn]
 simp only [andThen]
 exact zf0 h n m2 m3 1 (by omega) hn (.inr rfl) (by
  generalize t5.row (List.replicate (n + 1) (mkW 1)) = H0
  generalize t5.row (List.replicate (n) (mkW 1)) = H1
  generalize t5.row (List.replicate (n) (mkW 2)) = H2
  simp -implicitDefEqProofs [bookW, nilS])
theorem zfz (h : MarkCode code ext) (n : Nat) (m2 m3 : Bool) (hn : n ≤ 1000000) :
  ∃ s', den code ext x55L2 ⟨4, [(0, .optr 0 0), (2, int64 0)], [.rich (bookW 2 (.osl 1 0 3 2 none)), .rich [.osl 2 0 4 n none, nilS, int64 1, .osl 3 0 4 n none, nilS, int64 2], .flat (t5.row (List.replicate (n) (mkW 1))) m2, .flat (t5.row (List.replicate (n) (mkW 2))) m3]⟩ = some (.normal, s') ∧ s'.tidy [0, 2] = ⟨4, [(0, .optr 0 0), (2, int64 1)], [.rich (bookW 2 (.osl 1 0 3 2 none)), .rich [.osl 2 0 4 n none, .osl 4 0 4 (n + 40) none, int64 1, .osl 3 0 4 n none, nilS, int64 2], .fix (t5.row (List.replicate (n) (mkW 1))) m2 false, .flat (t5.row (List.replicate (n) (mkW 2))) m3, .fix (t5.row (List.replicate (n + 40) (mkW 1))) false true]⟩ := by
 have e1 : IntKind.wrap .i64 1 = 1 := by decide
 have hl := zfy (ext := ext) h n m2 m3 hn (s := ⟨4, [(0, .optr 0 0), (2, int64 0), (3, .optr 4 0), (4, .osl 2 0 4 n none), (5, int64 0)], [.rich (bookW 2 (.osl 1 0 3 2 none)), .rich [.osl 2 0 4 n none, nilS, int64 1, .osl 3 0 4 n none, nilS, int64 2], .flat (t5.row (List.replicate (n) (mkW 1))) m2, .flat (t5.row (List.replicate (n) (mkW 2))) m3, .rich [.osl 2 0 4 n none, nilS, int64 1]]⟩) (by
  generalize t5.row (List.replicate (n) (mkW 1)) = H0
  generalize t5.row (List.replicate (n) (mkW 2)) = H1
  simp -implicitDefEqProofs [bookW, nilS])
 refine ⟨⟨4, [(0, .optr 0 0), (2, int64 1)], [.rich (bookW 2 (.osl 1 0 3 2 none)), .rich [.osl 2 0 4 n none, .osl 5 0 4 (n + 40) none, int64 1, .osl 3 0 4 n none, nilS, int64 2], .fix (t5.row (List.replicate (n) (mkW 1))) m2 false, .flat (t5.row (List.replicate (n) (mkW 2))) m3, .rich [.osl 2 0 4 n none, nilS, int64 1], .fix (t5.row (List.replicate (n + 40) (mkW 1))) false true]⟩, ?_, ?_⟩
 ·simp only [bookW, nilS] at hl
  generalize t5.row (List.replicate (n) (mkW 1)) = H0 at *
  generalize t5.row (List.replicate (n) (mkW 2)) = H1 at *
  generalize t5.row (List.replicate (n + 40) (mkW 1)) = H2 at *
  simp -implicitDefEqProofs [x55L2, e1, hl, bookW, nilS]
 ·clear hl
  generalize t5.row (List.replicate (n) (mkW 1)) = H0
  generalize t5.row (List.replicate (n) (mkW 2)) = H1
  generalize t5.row (List.replicate (n + 40) (mkW 1)) = H2
  simp -implicitDefEqProofs [bookW, nilS]
theorem zf4 (h : MarkCode code ext) (n : Nat) (m2 m3 : Bool) (j0 : Nat) (hj0 : 0 < j0 ∧ j0 < 40) (hn : n ≤ 1000000) {o : AObj} (ho : o = .flat (t5.row (List.replicate (n + j0) (mkW 2))) false ∨ o = .fix (t5.row (List.replicate (n + j0) (mkW 2))) false true) {s : St}
  (hst : s.tidy [0, 2, 3, 4, 5] = ⟨4, [(0, .optr 0 0), (2, int64 1), (3, .optr 4 0), (4, .osl 5 0 4 (n + j0) none), (5, int64 (j0 : Nat))], [.rich (bookW 2 (.osl 1 0 3 2 none)), .rich [.osl 2 0 4 n none, .osl 6 0 4 (n + 40) none, int64 1, .osl 3 0 4 n none, nilS, int64 2], .fix (t5.row (List.replicate (n) (mkW 1))) m2 false, .fix (t5.row (List.replicate (n) (mkW 2))) m3 false, .rich [.osl 3 0 4 n none, nilS, int64 2], o, .fix (t5.row (List.replicate (n + 40) (mkW 1))) false true]⟩) :
  den code ext (.loop [0, 2, 3, 4, 5] x55L1) s = some (.exit 2, ⟨4, [(0, .optr 0 0), (2, int64 1), (3, .optr 4 0), (4, .osl 5 0 4 (n + 40) none), (5, int64 40), (25, avb false)], [.rich (bookW 2 (.osl 1 0 3 2 none)), .rich [.osl 2 0 4 n none, .osl 6 0 4 (n + 40) none, int64 1, .osl 3 0 4 n none, nilS, int64 2], .fix (t5.row (List.replicate (n) (mkW 1))) m2 false, .fix (t5.row (List.replicate (n) (mkW 2))) m3 false, .rich [.osl 3 0 4 n none, nilS, int64 2], .fix (t5.row (List.replicate (n + 40) (mkW 2))) false true, .fix (t5.row (List.replicate (n + 40) (mkW 1))) false true]⟩) := by
 obtain ⟨e, s', h2, _, rfl, rfl⟩ := zh9 (code := code) (ext := ext) (keep := [0, 2, 3, 4, 5]) (b := x55L1) (fun c s => ∃ j o, 0 < j ∧ j + c = 40 ∧ (c = 0 → o = .fix (t5.row (List.replicate (n + j) (mkW 2))) false true) ∧ (o = .flat (t5.row (List.replicate (n + j) (mkW 2))) false ∨ o = .fix (t5.row (List.replicate (n + j) (mkW 2))) false true) ∧ s.tidy [0, 2, 3, 4, 5] = ⟨4, [(0, .optr 0 0), (2, int64 1), (3, .optr 4 0), (4, .osl 5 0 4 (n + j) none), (5, int64 (j : Nat))], [.rich (bookW 2 (.osl 1 0 3 2 none)), .rich [.osl 2 0 4 n none, .osl 6 0 4 (n + 40) none, int64 1, .osl 3 0 4 n none, nilS, int64 2], .fix (t5.row (List.replicate (n) (mkW 1))) m2 false, .fix (t5.row (List.replicate (n) (mkW 2))) m3 false, .rich [.osl 3 0 4 n none, nilS, int64 2], o, .fix (t5.row (List.replicate (n + 40) (mkW 1))) false true]⟩)
  (fun e s' => e = .exit 2 ∧ s' = ⟨4, [(0, .optr 0 0), (2, int64 1), (3, .optr 4 0), (4, .osl 5 0 4 (n + 40) none), (5, int64 40), (25, avb false)], [.rich (bookW 2 (.osl 1 0 3 2 none)), .rich [.osl 2 0 4 n none, .osl 6 0 4 (n + 40) none, int64 1, .osl 3 0 4 n none, nilS, int64 2], .fix (t5.row (List.replicate (n) (mkW 1))) m2 false, .fix (t5.row (List.replicate (n) (mkW 2))) m3 false, .rich [.osl 3 0 4 n none, nilS, int64 2], .fix (t5.row (List.replicate (n + 40) (mkW 2))) false true, .fix (t5.row (List.replicate (n + 40) (mkW 1))) false true]⟩) (fun c s => by
  rintro ⟨j, o, hj1, hj, hc0, ho, hst⟩
  rw [hst]
  by_cases hlt : j < 40
  ·have hm := zil (ext := ext) h
   have e1 : IntKind.wrap .i64 ((j : Int) + 1) = (j : Int) + 1 := wrapI64 (by omega) (by omega)
   have hsn := znw (n + j) 2
   have hrl := znu (n + j) 2
   have hbd : (n + (j + 1)) * 40 ≤ 140737488355328 := by omega
   have hlt' : (j : Int) < 40 := by omega
   have e3 : n + j + 1 = n + (j + 1) := by omega
   rw [e3] at hsn
   refine ⟨.normal, ⟨4, [(0, .optr 0 0), (2, int64 1), (3, .optr 4 0), (4, .osl 8 0 4 (n + (j + 1)) none), (5, int64 ((j : Int) + 1))], [.rich (bookW 2 (.osl 1 0 3 2 none)), .rich [.osl 2 0 4 n none, .osl 6 0 4 (n + 40) none, int64 1, .osl 3 0 4 n none, nilS, int64 2], .fix (t5.row (List.replicate (n) (mkW 1))) m2 false, .fix (t5.row (List.replicate (n) (mkW 2))) m3 false, .rich [.osl 3 0 4 n none, nilS, int64 2], .fix (t5.row (List.replicate (n + j) (mkW 2))) false false, .fix (t5.row (List.replicate (n + 40) (mkW 1))) false true, .flat [.val (.int .u8 0), .val (.string (mkB 2)), .val (.int .i64 0), .val (.int .i64 0)] false, .fix (t5.row (List.replicate (n + (j + 1)) (mkW 2))) false true]⟩, ?_, .inl ⟨rfl, c - 1, by omega, j + 1, .fix (t5.row (List.replicate (n + (j + 1)) (mkW 2))) false true, by omega, by omega, fun _ => rfl, .inr rfl, ?_⟩⟩
   ·generalize t5.row (List.replicate (n + (j + 1)) (mkW 2)) = R2 at *
    rcases ho with rfl | rfl
    ·generalize t5.row (List.replicate (n + j) (mkW 2)) = R1 at *
     generalize t5.row (List.replicate (n) (mkW 1)) = G0
     generalize t5.row (List.replicate (n) (mkW 2)) = G1
     generalize t5.row (List.replicate (n + 40) (mkW 1)) = G2
     simp -implicitDefEqProofs [x55L1, hlt', hlt, hm, hsn, hrl, hbd, e1, e3, bookW, nilS, exAppendX, exAppend, exAppendK, elems]
    ·generalize t5.row (List.replicate (n + j) (mkW 2)) = R1 at *
     generalize t5.row (List.replicate (n) (mkW 1)) = G0
     generalize t5.row (List.replicate (n) (mkW 2)) = G1
     generalize t5.row (List.replicate (n + 40) (mkW 1)) = G2
     simp -implicitDefEqProofs [x55L1, hlt', hlt, hm, hsn, hrl, hbd, e1, e3, bookW, nilS, exAppendX, exAppend, exAppendK, elems]
   ·generalize t5.row (List.replicate (n + (j + 1)) (mkW 2)) = R2
    generalize t5.row (List.replicate (n + j) (mkW 2)) = R1
    generalize t5.row (List.replicate (n) (mkW 1)) = G0
    generalize t5.row (List.replicate (n) (mkW 2)) = G1
    generalize t5.row (List.replicate (n + 40) (mkW 1)) = G2
    simp -implicitDefEqProofs [bookW, nilS]
  ·have : j = 40 := by omega
   subst this
   have : c = 0 := by omega
   subst this
   obtain rfl := hc0 rfl
   refine ⟨.exit 2, _, ?_, .inr ⟨by simp, rfl, rfl⟩⟩
   generalize t5.row (List.replicate (n + 40) (mkW 2)) = R2
   generalize t5.row (List.replicate (n) (mkW 1)) = G0
   generalize t5.row (List.replicate (n) (mkW 2)) = G1
   generalize t5.row (List.replicate (n + 40) (mkW 1)) = G2
   simp -implicitDefEqProofs [x55L1]) (40 - j0) s ⟨j0, o, by omega, by omega, fun h => absurd h (by omega), ho, hst⟩
 exact h2
theorem zf5 (h : MarkCode code ext) (n : Nat) (m2 m3 : Bool) (hn : n ≤ 1000000) :
  den code ext x55L1 ⟨4, [(0, .optr 0 0), (2, int64 1), (3, .optr 4 0), (4, .osl 3 0 4 n none), (5, int64 0)], [.rich (bookW 2 (.osl 1 0 3 2 none)), .rich [.osl 2 0 4 n none, .osl 5 0 4 (n + 40) none, int64 1, .osl 3 0 4 n none, nilS, int64 2], .fix (t5.row (List.replicate (n) (mkW 1))) m2 false, .flat (t5.row (List.replicate (n) (mkW 2))) m3, .rich [.osl 3 0 4 n none, nilS, int64 2], .fix (t5.row (List.replicate (n + 40) (mkW 1))) false true]⟩ = some (.normal, ⟨4, [(0, .optr 0 0), (2, int64 1), (3, .optr 4 0), (4, .osl 7 0 4 (n + 1) none), (5, int64 1)], [.rich (bookW 2 (.osl 1 0 3 2 none)), .rich [.osl 2 0 4 n none, .osl 5 0 4 (n + 40) none, int64 1, .osl 3 0 4 n none, nilS, int64 2], .fix (t5.row (List.replicate (n) (mkW 1))) m2 false, .fix (t5.row (List.replicate (n) (mkW 2))) m3 false, .rich [.osl 3 0 4 n none, nilS, int64 2], .fix (t5.row (List.replicate (n + 40) (mkW 1))) false true, .flat [.val (.int .u8 0), .val (.string (mkB 2)), .val (.int .i64 0), .val (.int .i64 0)] false, .fix (t5.row (List.replicate (n + 1) (mkW 2))) false true]⟩) := by
 have hm := zil (ext := ext) h
 have e1 : IntKind.wrap .i64 1 = 1 := by decide
 have hsn := znw n 2
 have hrl := znu n 2
 have hbd : (n + 1) * 40 ≤ 140737488355328 := by omega
 generalize t5.row (List.replicate (n + 1) (mkW 2)) = R2 at *
 generalize t5.row (List.replicate (n) (mkW 2)) = R1 at *
 generalize t5.row (List.replicate (n) (mkW 1)) = R3 at *
 simp -implicitDefEqProofs [x55L1, hm, hsn, hrl, hbd, e1, bookW, nilS, exAppendX, exAppend, exAppendK, elems]
theorem zf2 (h : MarkCode code ext) (n : Nat) (m2 m3 : Bool) (hn : n ≤ 1000000) {s : St} (hst : s.tidy [0, 2, 3, 4, 5] = ⟨4, [(0, .optr 0 0), (2, int64 1), (3, .optr 4 0), (4, .osl 3 0 4 n none), (5, int64 0)], [.rich (bookW 2 (.osl 1 0 3 2 none)), .rich [.osl 2 0 4 n none, .osl 5 0 4 (n + 40) none, int64 1, .osl 3 0 4 n none, nilS, int64 2], .fix (t5.row (List.replicate (n) (mkW 1))) m2 false, .flat (t5.row (List.replicate (n) (mkW 2))) m3, .rich [.osl 3 0 4 n none, nilS, int64 2], .fix (t5.row (List.replicate (n + 40) (mkW 1))) false true]⟩) :
  den code ext (.loop [0, 2, 3, 4, 5] x55L1) s = some (.exit 2, ⟨4, [(0, .optr 0 0), (2, int64 1), (3, .optr 4 0), (4, .osl 5 0 4 (n + 40) none), (5, int64 40), (25, avb false)], [.rich (bookW 2 (.osl 1 0 3 2 none)), .rich [.osl 2 0 4 n none, .osl 6 0 4 (n + 40) none, int64 1, .osl 3 0 4 n none, nilS, int64 2], .fix (t5.row (List.replicate (n) (mkW 1))) m2 false, .fix (t5.row (List.replicate (n) (mkW 2))) m3 false, .rich [.osl 3 0 4 n none, nilS, int64 2], .fix (t5.row (List.replicate (n + 40) (mkW 2))) false true, .fix (t5.row (List.replicate (n + 40) (mkW 1))) false true]⟩) := by
 rw [zcp, hst, zf5 h n m2 m3 hn]
 simp only [andThen]
 exact zf4 h n m2 m3 1 (by omega) hn (.inr rfl) (by
  generalize t5.row (List.replicate (n + 1) (mkW 2)) = H0
  generalize t5.row (List.replicate (n) (mkW 1)) = H1
  generalize t5.row (List.replicate (n) (mkW 2)) = H2
  generalize t5.row (List.replicate (n + 40) (mkW 1)) = H3
  simp -implicitDefEqProofs [bookW, nilS])
theorem zf3 (h : MarkCode code ext) (n : Nat) (m2 m3 : Bool) (hn : n ≤ 1000000) :
  ∃ s', den code ext x55L2 ⟨4, [(0, .optr 0 0), (2, int64 1)], [.rich (bookW 2 (.osl 1 0 3 2 none)), .rich [.osl 2 0 4 n none, .osl 4 0 4 (n + 40) none, int64 1, .osl 3 0 4 n none, nilS, int64 2], .fix (t5.row (List.replicate (n) (mkW 1))) m2 false, .flat (t5.row (List.replicate (n) (mkW 2))) m3, .fix (t5.row (List.replicate (n + 40) (mkW 1))) false true]⟩ = some (.normal, s') ∧ s'.tidy [0, 2] = ⟨4, [(0, .optr 0 0), (2, int64 2)], [.rich (bookW 2 (.osl 1 0 3 2 none)), .rich [.osl 2 0 4 n none, .osl 4 0 4 (n + 40) none, int64 1, .osl 3 0 4 n none, .osl 5 0 4 (n + 40) none, int64 2], .fix (t5.row (List.replicate (n) (mkW 1))) m2 false, .fix (t5.row (List.replicate (n) (mkW 2))) m3 false, .fix (t5.row (List.replicate (n + 40) (mkW 1))) false true, .fix (t5.row (List.replicate (n + 40) (mkW 2))) false true]⟩ := by
 have e1 : IntKind.wrap .i64 2 = 2 := by decide
 have hl := zf2 (ext := ext) h n m2 m3 hn (s := ⟨4, [(0, .optr 0 0), (2, int64 1), (3, .optr 5 0), (4, .osl 3 0 4 n none), (5, int64 0)], [.rich (bookW 2 (.osl 1 0 3 2 none)), .rich [.osl 2 0 4 n none, .osl 4 0 4 (n + 40) none, int64 1, .osl 3 0 4 n none, nilS, int64 2], .fix (t5.row (List.replicate (n) (mkW 1))) m2 false, .flat (t5.row (List.replicate (n) (mkW 2))) m3, .fix (t5.row (List.replicate (n + 40) (mkW 1))) false true, .rich [.osl 3 0 4 n none, nilS, int64 2]]⟩) (by
  generalize t5.row (List.replicate (n) (mkW 1)) = H0
  generalize t5.row (List.replicate (n) (mkW 2)) = H1
  generalize t5.row (List.replicate (n + 40) (mkW 1)) = H2
  generalize t5.row (List.replicate (n + 40) (mkW 2)) = H3
  simp -implicitDefEqProofs [bookW, nilS])
 refine ⟨⟨4, [(0, .optr 0 0), (2, int64 2)], [.rich (bookW 2 (.osl 1 0 3 2 none)), .rich [.osl 2 0 4 n none, .osl 6 0 4 (n + 40) none, int64 1, .osl 3 0 4 n none, .osl 5 0 4 (n + 40) none, int64 2], .fix (t5.row (List.replicate (n) (mkW 1))) m2 false, .fix (t5.row (List.replicate (n) (mkW 2))) m3 false, .rich [.osl 3 0 4 n none, nilS, int64 2], .fix (t5.row (List.replicate (n + 40) (mkW 2))) false true, .fix (t5.row (List.replicate (n + 40) (mkW 1))) false true]⟩, ?_, ?_⟩
 ·simp only [bookW, nilS] at hl
  generalize t5.row (List.replicate (n) (mkW 1)) = H0 at *
  generalize t5.row (List.replicate (n) (mkW 2)) = H1 at *
  generalize t5.row (List.replicate (n + 40) (mkW 1)) = H2 at *
  generalize t5.row (List.replicate (n + 40) (mkW 2)) = H3 at *
  simp -implicitDefEqProofs [x55L2, e1, hl, bookW, nilS]
 ·clear hl
  generalize t5.row (List.replicate (n) (mkW 1)) = H0
  generalize t5.row (List.replicate (n) (mkW 2)) = H1
  generalize t5.row (List.replicate (n + 40) (mkW 1)) = H2
  generalize t5.row (List.replicate (n + 40) (mkW 2)) = H3
  simp -implicitDefEqProofs [bookW, nilS]
theorem zf6 (h : MarkCode code ext) (h55 : code 55 = some x55) (n : Nat) (m2 m3 : Bool) (hn : n ≤ 1000000) :
  callW code ext 55 [.optr 0 0] [.rich (bookW 2 (.osl 1 0 3 2 none)), .rich [.osl 2 0 4 n none, nilS, int64 1, .osl 3 0 4 n none, nilS, int64 2], .flat (t5.row (List.replicate (n) (mkW 1))) m2, .flat (t5.row (List.replicate (n) (mkW 2))) m3] = some (.tup [], [.rich (bookW 2 (.osl 1 0 3 2 none)), .rich [.osl 2 0 4 n none, .osl 4 0 4 (n + 40) none, int64 1, .osl 3 0 4 n none, .osl 5 0 4 (n + 40) none, int64 2], .fix (t5.row (List.replicate (n) (mkW 1))) m2 false, .fix (t5.row (List.replicate (n) (mkW 2))) m3 false, .fix (t5.row (List.replicate (n + 40) (mkW 1))) false true, .fix (t5.row (List.replicate (n + 40) (mkW 2))) false true]) := by
 obtain ⟨s1, a1, b1⟩ := zfz (ext := ext) h n m2 m3 hn
 obtain ⟨s2, a2, b2⟩ := zf3 (ext := ext) h n m2 m3 hn
 rw [zbi code ext h55]
 have i3 : ∀ M : Mem, M = [.rich (bookW 2 (.osl 1 0 3 2 none)), .rich [.osl 2 0 4 n none, .osl 4 0 4 (n + 40) none, int64 1, .osl 3 0 4 n none, .osl 5 0 4 (n + 40) none, int64 2], .fix (t5.row (List.replicate (n) (mkW 1))) m2 false, .fix (t5.row (List.replicate (n) (mkW 2))) m3 false, .fix (t5.row (List.replicate (n + 40) (mkW 1))) false true, .fix (t5.row (List.replicate (n + 40) (mkW 2))) false true] → ∃ e, den code ext x55L2 ⟨4, [(0, .optr 0 0), (2, int64 2)], M⟩ = some (.exit 0, ⟨4, e, M⟩) := by
  rintro M rfl
  exact ⟨[(0, .optr 0 0), (2, int64 2), (12, avb false)], by
   generalize t5.row (List.replicate (n) (mkW 1)) = H0
   generalize t5.row (List.replicate (n) (mkW 2)) = H1
   generalize t5.row (List.replicate (n + 40) (mkW 1)) = H2
   generalize t5.row (List.replicate (n + 40) (mkW 2)) = H3
   simp -implicitDefEqProofs [x55L2, bookW, nilS]⟩
 obtain ⟨e, i3⟩ := i3 _ rfl
 have hT : (⟨4, [(0, .optr 0 0), (2, int64 0)], [.rich (bookW 2 (.osl 1 0 3 2 none)), .rich [.osl 2 0 4 n none, nilS, int64 1, .osl 3 0 4 n none, nilS, int64 2], .flat (t5.row (List.replicate (n) (mkW 1))) m2, .flat (t5.row (List.replicate (n) (mkW 2))) m3]⟩ : St).tidy [0, 2] = ⟨4, [(0, .optr 0 0), (2, int64 0)], [.rich (bookW 2 (.osl 1 0 3 2 none)), .rich [.osl 2 0 4 n none, nilS, int64 1, .osl 3 0 4 n none, nilS, int64 2], .flat (t5.row (List.replicate (n) (mkW 1))) m2, .flat (t5.row (List.replicate (n) (mkW 2))) m3]⟩ := by
  generalize t5.row (List.replicate (n) (mkW 1)) = H0
  generalize t5.row (List.replicate (n) (mkW 2)) = H1
  simp -implicitDefEqProofs [bookW, nilS]
 have hL : den code ext (.loop [0, 2] x55L2) ⟨4, [(0, .optr 0 0), (2, int64 0)], [.rich (bookW 2 (.osl 1 0 3 2 none)), .rich [.osl 2 0 4 n none, nilS, int64 1, .osl 3 0 4 n none, nilS, int64 2], .flat (t5.row (List.replicate (n) (mkW 1))) m2, .flat (t5.row (List.replicate (n) (mkW 2))) m3]⟩ = some (.exit 0, ⟨4, e, [.rich (bookW 2 (.osl 1 0 3 2 none)), .rich [.osl 2 0 4 n none, .osl 4 0 4 (n + 40) none, int64 1, .osl 3 0 4 n none, .osl 5 0 4 (n + 40) none, int64 2], .fix (t5.row (List.replicate (n) (mkW 1))) m2 false, .fix (t5.row (List.replicate (n) (mkW 2))) m3 false, .fix (t5.row (List.replicate (n + 40) (mkW 1))) false true, .fix (t5.row (List.replicate (n + 40) (mkW 2))) false true]⟩) := by
  rw [zcp, hT, a1]
  simp only [andThen]
  rw [zcp, b1, a2]
  simp only [andThen]
  rw [zcp, b2, i3]
  rfl
 clear hT a1 b1 a2 b2 i3
 simp only [bookW, nilS] at hL
 generalize t5.row (List.replicate (n) (mkW 1)) = H0 at *
 generalize t5.row (List.replicate (n) (mkW 2)) = H1 at *
 generalize t5.row (List.replicate (n + 40) (mkW 1)) = H2 at *
 generalize t5.row (List.replicate (n + 40) (mkW 2)) = H3 at *
 simp -implicitDefEqProofs [x55, hL, bookW, nilS]
theorem zf9 (h : MarkCode code ext)  (j0 : Nat) (hj0 : 0 < j0 ∧ j0 < 40)  {o : AObj} (ho : o = .flat (t5.row (List.replicate (j0) (mkW 1))) false ∨ o = .fix (t5.row (List.replicate (j0) (mkW 1))) false true) {s : St}
  (hst : s.tidy [0, 2, 3, 4, 5] = ⟨2, [(0, .optr 0 0), (2, int64 0), (3, .optr 2 0), (4, .osl 3 0 4 (j0) none), (5, int64 (j0 : Nat))], [.rich (bookW 2 (.osl 1 0 3 2 none)), .rich [nilS, nilS, int64 1, nilS, nilS, int64 2], .rich [nilS, nilS, int64 1], o]⟩) :
  den code ext (.loop [0, 2, 3, 4, 5] x55L1) s = some (.exit 2, ⟨2, [(0, .optr 0 0), (2, int64 0), (3, .optr 2 0), (4, .osl 3 0 4 (40) none), (5, int64 40), (25, avb false)], [.rich (bookW 2 (.osl 1 0 3 2 none)), .rich [nilS, nilS, int64 1, nilS, nilS, int64 2], .rich [nilS, nilS, int64 1], .fix (t5.row (List.replicate (40) (mkW 1))) false true]⟩) := by
 obtain ⟨e, s', h2, _, rfl, rfl⟩ := zh9 (code := code) (ext := ext) (keep := [0, 2, 3, 4, 5]) (b := x55L1) (fun c s => ∃ j o, 0 < j ∧ j + c = 40 ∧ (c = 0 → o = .fix (t5.row (List.replicate (j) (mkW 1))) false true) ∧ (o = .flat (t5.row (List.replicate (j) (mkW 1))) false ∨ o = .fix (t5.row (List.replicate (j) (mkW 1))) false true) ∧ s.tidy [0, 2, 3, 4, 5] = ⟨2, [(0, .optr 0 0), (2, int64 0), (3, .optr 2 0), (4, .osl 3 0 4 (j) none), (5, int64 (j : Nat))], [.rich (bookW 2 (.osl 1 0 3 2 none)), .rich [nilS, nilS, int64 1, nilS, nilS, int64 2], .rich [nilS, nilS, int64 1], o]⟩)
  (fun e s' => e = .exit 2 ∧ s' = ⟨2, [(0, .optr 0 0), (2, int64 0), (3, .optr 2 0), (4, .osl 3 0 4 (40) none), (5, int64 40), (25, avb false)], [.rich (bookW 2 (.osl 1 0 3 2 none)), .rich [nilS, nilS, int64 1, nilS, nilS, int64 2], .rich [nilS, nilS, int64 1], .fix (t5.row (List.replicate (40) (mkW 1))) false true]⟩) (fun c s => by
  rintro ⟨j, o, hj1, hj, hc0, ho, hst⟩
  rw [hst]
  by_cases hlt : j < 40
  ·have hm := zik (ext := ext) h
   have e1 : IntKind.wrap .i64 ((j : Int) + 1) = (j : Int) + 1 := wrapI64 (by omega) (by omega)
   have hsn := znw (j) 1
   have hrl := znu (j) 1
   have hbd : ((j + 1)) * 40 ≤ 140737488355328 := by omega
   have hlt' : (j : Int) < 40 := by omega
   have e3 : j + 1 = (j + 1) := by omega
   rw [e3] at hsn
   refine ⟨.normal, ⟨2, [(0, .optr 0 0), (2, int64 0), (3, .optr 2 0), (4, .osl 5 0 4 ((j + 1)) none), (5, int64 ((j : Int) + 1))], [.rich (bookW 2 (.osl 1 0 3 2 none)), .rich [nilS, nilS, int64 1, nilS, nilS, int64 2], .rich [nilS, nilS, int64 1], .fix (t5.row (List.replicate (j) (mkW 1))) false false, .flat [.val (.int .u8 0), .val (.string (mkB 1)), .val (.int .i64 0), .val (.int .i64 0)] false, .fix (t5.row (List.replicate ((j + 1)) (mkW 1))) false true]⟩, ?_, .inl ⟨rfl, c - 1, by omega, j + 1, .fix (t5.row (List.replicate ((j + 1)) (mkW 1))) false true, by omega, by omega, fun _ => rfl, .inr rfl, ?_⟩⟩
   ·generalize t5.row (List.replicate ((j + 1)) (mkW 1)) = R2 at *
    rcases ho with rfl | rfl
    ·generalize t5.row (List.replicate (j) (mkW 1)) = R1 at *
     simp -implicitDefEqProofs [x55L1, hlt', hlt, hm, hsn, hrl, hbd, e1, e3, bookW, nilS, exAppendX, exAppend, exAppendK, elems]
    ·generalize t5.row (List.replicate (j) (mkW 1)) = R1 at *
     simp -implicitDefEqProofs [x55L1, hlt', hlt, hm, hsn, hrl, hbd, e1, e3, bookW, nilS, exAppendX, exAppend, exAppendK, elems]
   ·generalize t5.row (List.replicate ((j + 1)) (mkW 1)) = R2
    generalize t5.row (List.replicate (j) (mkW 1)) = R1
    simp -implicitDefEqProofs [bookW, nilS]
  ·have : j = 40 := by omega
   subst this
   have : c = 0 := by omega
   subst this
   obtain rfl := hc0 rfl
   refine ⟨.exit 2, _, ?_, .inr ⟨by simp, rfl, rfl⟩⟩
   generalize t5.row (List.replicate (40) (mkW 1)) = R2
   simp -implicitDefEqProofs [x55L1]) (40 - j0) s ⟨j0, o, by omega, by omega, fun h => absurd h (by omega), ho, hst⟩
 exact h2
theorem zga (h : MarkCode code ext)   :
  den code ext x55L1 ⟨2, [(0, .optr 0 0), (2, int64 0), (3, .optr 2 0), (4, nilS), (5, int64 0)], [.rich (bookW 2 (.osl 1 0 3 2 none)), .rich [nilS, nilS, int64 1, nilS, nilS, int64 2], .rich [nilS, nilS, int64 1]]⟩ = some (.normal, ⟨2, [(0, .optr 0 0), (2, int64 0), (3, .optr 2 0), (4, .osl 4 0 4 1 none), (5, int64 1)], [.rich (bookW 2 (.osl 1 0 3 2 none)), .rich [nilS, nilS, int64 1, nilS, nilS, int64 2], .rich [nilS, nilS, int64 1], .flat [.val (.int .u8 0), .val (.string (mkB 1)), .val (.int .i64 0), .val (.int .i64 0)] false, .flat [.val (.int .u8 0), .val (.string (mkB 1)), .val (.int .i64 0), .val (.int .i64 0)] false]⟩) := by
 have hm := zik (ext := ext) h
 have e1 : IntKind.wrap .i64 1 = 1 := by decide
 simp -implicitDefEqProofs [x55L1, hm, e1, bookW, nilS, exAppendX, exAppend, exAppendK, elems]
theorem zf7 (h : MarkCode code ext)   {s : St} (hst : s.tidy [0, 2, 3, 4, 5] = ⟨2, [(0, .optr 0 0), (2, int64 0), (3, .optr 2 0), (4, nilS), (5, int64 0)], [.rich (bookW 2 (.osl 1 0 3 2 none)), .rich [nilS, nilS, int64 1, nilS, nilS, int64 2], .rich [nilS, nilS, int64 1]]⟩) :
  den code ext (.loop [0, 2, 3, 4, 5] x55L1) s = some (.exit 2, ⟨2, [(0, .optr 0 0), (2, int64 0), (3, .optr 2 0), (4, .osl 3 0 4 (40) none), (5, int64 40), (25, avb false)], [.rich (bookW 2 (.osl 1 0 3 2 none)), .rich [nilS, nilS, int64 1, nilS, nilS, int64 2], .rich [nilS, nilS, int64 1], .fix (t5.row (List.replicate (40) (mkW 1))) false true]⟩) := by
 rw [zcp, hst, zga h  ]
 simp only [andThen]
 exact zf9 h  1 (by omega)  (.inl rfl) (by
  simp -implicitDefEqProofs [bookW, nilS, znv])
theorem zf8 (h : MarkCode code ext)   :
  ∃ s', den code ext x55L2 ⟨2, [(0, .optr 0 0), (2, int64 0)], [.rich (bookW 2 (.osl 1 0 3 2 none)), .rich [nilS, nilS, int64 1, nilS, nilS, int64 2]]⟩ = some (.normal, s') ∧ s'.tidy [0, 2] = ⟨2, [(0, .optr 0 0), (2, int64 1)], [.rich (bookW 2 (.osl 1 0 3 2 none)), .rich [nilS, .osl 2 0 4 (40) none, int64 1, nilS, nilS, int64 2], .fix (t5.row (List.replicate (40) (mkW 1))) false true]⟩ := by
 have e1 : IntKind.wrap .i64 1 = 1 := by decide
 have hl := zf7 (ext := ext) h   (s := ⟨2, [(0, .optr 0 0), (2, int64 0), (3, .optr 2 0), (4, nilS), (5, int64 0)], [.rich (bookW 2 (.osl 1 0 3 2 none)), .rich [nilS, nilS, int64 1, nilS, nilS, int64 2], .rich [nilS, nilS, int64 1]]⟩) (by
  simp -implicitDefEqProofs [bookW, nilS])
 refine ⟨⟨2, [(0, .optr 0 0), (2, int64 1)], [.rich (bookW 2 (.osl 1 0 3 2 none)), .rich [nilS, .osl 3 0 4 (40) none, int64 1, nilS, nilS, int64 2], .rich [nilS, nilS, int64 1], .fix (t5.row (List.replicate (40) (mkW 1))) false true]⟩, ?_, ?_⟩
 ·simp only [bookW, nilS] at hl
  generalize t5.row (List.replicate (40) (mkW 1)) = H0 at *
  simp -implicitDefEqProofs [x55L2, e1, hl, bookW, nilS]
 ·clear hl
  generalize t5.row (List.replicate (40) (mkW 1)) = H0
  simp -implicitDefEqProofs [bookW, nilS]
theorem zgd (h : MarkCode code ext)  (j0 : Nat) (hj0 : 0 < j0 ∧ j0 < 40)  {o : AObj} (ho : o = .flat (t5.row (List.replicate (j0) (mkW 2))) false ∨ o = .fix (t5.row (List.replicate (j0) (mkW 2))) false true) {s : St}
  (hst : s.tidy [0, 2, 3, 4, 5] = ⟨2, [(0, .optr 0 0), (2, int64 1), (3, .optr 2 0), (4, .osl 3 0 4 (j0) none), (5, int64 (j0 : Nat))], [.rich (bookW 2 (.osl 1 0 3 2 none)), .rich [nilS, .osl 4 0 4 (40) none, int64 1, nilS, nilS, int64 2], .rich [nilS, nilS, int64 2], o, .fix (t5.row (List.replicate (40) (mkW 1))) false true]⟩) :
  den code ext (.loop [0, 2, 3, 4, 5] x55L1) s = some (.exit 2, ⟨2, [(0, .optr 0 0), (2, int64 1), (3, .optr 2 0), (4, .osl 3 0 4 (40) none), (5, int64 40), (25, avb false)], [.rich (bookW 2 (.osl 1 0 3 2 none)), .rich [nilS, .osl 4 0 4 (40) none, int64 1, nilS, nilS, int64 2], .rich [nilS, nilS, int64 2], .fix (t5.row (List.replicate (40) (mkW 2))) false true, .fix (t5.row (List.replicate (40) (mkW 1))) false true]⟩) := by
 obtain ⟨e, s', h2, _, rfl, rfl⟩ := zh9 (code := code) (ext := ext) (keep := [0, 2, 3, 4, 5]) (b := x55L1) (fun c s => ∃ j o, 0 < j ∧ j + c = 40 ∧ (c = 0 → o = .fix (t5.row (List.replicate (j) (mkW 2))) false true) ∧ (o = .flat (t5.row (List.replicate (j) (mkW 2))) false ∨ o = .fix (t5.row (List.replicate (j) (mkW 2))) false true) ∧ s.tidy [0, 2, 3, 4, 5] = ⟨2, [(0, .optr 0 0), (2, int64 1), (3, .optr 2 0), (4, .osl 3 0 4 (j) none), (5, int64 (j : Nat))], [.rich (bookW 2 (.osl 1 0 3 2 none)), .rich [nilS, .osl 4 0 4 (40) none, int64 1, nilS, nilS, int64 2], .rich [nilS, nilS, int64 2], o, .fix (t5.row (List.replicate (40) (mkW 1))) false true]⟩)
  (fun e s' => e = .exit 2 ∧ s' = ⟨2, [(0, .optr 0 0), (2, int64 1), (3, .optr 2 0), (4, .osl 3 0 4 (40) none), (5, int64 40), (25, avb false)], [.rich (bookW 2 (.osl 1 0 3 2 none)), .rich [nilS, .osl 4 0 4 (40) none, int64 1, nilS, nilS, int64 2], .rich [nilS, nilS, int64 2], .fix (t5.row (List.replicate (40) (mkW 2))) false true, .fix (t5.row (List.replicate (40) (mkW 1))) false true]⟩) (fun c s => by
  rintro ⟨j, o, hj1, hj, hc0, ho, hst⟩
  rw [hst]
  by_cases hlt : j < 40
  ·have hm := zil (ext := ext) h
   have e1 : IntKind.wrap .i64 ((j : Int) + 1) = (j : Int) + 1 := wrapI64 (by omega) (by omega)
   have hsn := znw (j) 2
   have hrl := znu (j) 2
   have hbd : ((j + 1)) * 40 ≤ 140737488355328 := by omega
   have hlt' : (j : Int) < 40 := by omega
   have e3 : j + 1 = (j + 1) := by omega
   rw [e3] at hsn
   refine ⟨.normal, ⟨2, [(0, .optr 0 0), (2, int64 1), (3, .optr 2 0), (4, .osl 6 0 4 ((j + 1)) none), (5, int64 ((j : Int) + 1))], [.rich (bookW 2 (.osl 1 0 3 2 none)), .rich [nilS, .osl 4 0 4 (40) none, int64 1, nilS, nilS, int64 2], .rich [nilS, nilS, int64 2], .fix (t5.row (List.replicate (j) (mkW 2))) false false, .fix (t5.row (List.replicate (40) (mkW 1))) false true, .flat [.val (.int .u8 0), .val (.string (mkB 2)), .val (.int .i64 0), .val (.int .i64 0)] false, .fix (t5.row (List.replicate ((j + 1)) (mkW 2))) false true]⟩, ?_, .inl ⟨rfl, c - 1, by omega, j + 1, .fix (t5.row (List.replicate ((j + 1)) (mkW 2))) false true, by omega, by omega, fun _ => rfl, .inr rfl, ?_⟩⟩
   ·generalize t5.row (List.replicate ((j + 1)) (mkW 2)) = R2 at *
    rcases ho with rfl | rfl
    ·generalize t5.row (List.replicate (j) (mkW 2)) = R1 at *
     generalize t5.row (List.replicate (40) (mkW 1)) = G0
     simp -implicitDefEqProofs [x55L1, hlt', hlt, hm, hsn, hrl, hbd, e1, e3, bookW, nilS, exAppendX, exAppend, exAppendK, elems]
    ·generalize t5.row (List.replicate (j) (mkW 2)) = R1 at *
     generalize t5.row (List.replicate (40) (mkW 1)) = G0
     simp -implicitDefEqProofs [x55L1, hlt', hlt, hm, hsn, hrl, hbd, e1, e3, bookW, nilS, exAppendX, exAppend, exAppendK, elems]
   ·generalize t5.row (List.replicate ((j + 1)) (mkW 2)) = R2
    generalize t5.row (List.replicate (j) (mkW 2)) = R1
    generalize t5.row (List.replicate (40) (mkW 1)) = G0
    simp -implicitDefEqProofs [bookW, nilS]
  ·have : j = 40 := by omega
   subst this
   have : c = 0 := by omega
   subst this
   obtain rfl := hc0 rfl
   refine ⟨.exit 2, _, ?_, .inr ⟨by simp, rfl, rfl⟩⟩
   generalize t5.row (List.replicate (40) (mkW 2)) = R2
   generalize t5.row (List.replicate (40) (mkW 1)) = G0
   simp -implicitDefEqProofs [x55L1]) (40 - j0) s ⟨j0, o, by omega, by omega, fun h => absurd h (by omega), ho, hst⟩
 exact h2
theorem zge (h : MarkCode code ext)   :
  den code ext x55L1 ⟨2, [(0, .optr 0 0), (2, int64 1), (3, .optr 2 0), (4, nilS), (5, int64 0)], [.rich (bookW 2 (.osl 1 0 3 2 none)), .rich [nilS, .osl 3 0 4 (40) none, int64 1, nilS, nilS, int64 2], .rich [nilS, nilS, int64 2], .fix (t5.row (List.replicate (40) (mkW 1))) false true]⟩ = some (.normal, ⟨2, [(0, .optr 0 0), (2, int64 1), (3, .optr 2 0), (4, .osl 5 0 4 1 none), (5, int64 1)], [.rich (bookW 2 (.osl 1 0 3 2 none)), .rich [nilS, .osl 3 0 4 (40) none, int64 1, nilS, nilS, int64 2], .rich [nilS, nilS, int64 2], .fix (t5.row (List.replicate (40) (mkW 1))) false true, .flat [.val (.int .u8 0), .val (.string (mkB 2)), .val (.int .i64 0), .val (.int .i64 0)] false, .flat [.val (.int .u8 0), .val (.string (mkB 2)), .val (.int .i64 0), .val (.int .i64 0)] false]⟩) := by
 have hm := zil (ext := ext) h
 have e1 : IntKind.wrap .i64 1 = 1 := by decide
 simp -implicitDefEqProofs [x55L1, hm, e1, bookW, nilS, exAppendX, exAppend, exAppendK, elems]
theorem zgb (h : MarkCode code ext)   {s : St} (hst : s.tidy [0, 2, 3, 4, 5] = ⟨2, [(0, .optr 0 0), (2, int64 1), (3, .optr 2 0), (4, nilS), (5, int64 0)], [.rich (bookW 2 (.osl 1 0 3 2 none)), .rich [nilS, .osl 3 0 4 (40) none, int64 1, nilS, nilS, int64 2], .rich [nilS, nilS, int64 2], .fix (t5.row (List.replicate (40) (mkW 1))) false true]⟩) :
  den code ext (.loop [0, 2, 3, 4, 5] x55L1) s = some (.exit 2, ⟨2, [(0, .optr 0 0), (2, int64 1), (3, .optr 2 0), (4, .osl 3 0 4 (40) none), (5, int64 40), (25, avb false)], [.rich (bookW 2 (.osl 1 0 3 2 none)), .rich [nilS, .osl 4 0 4 (40) none, int64 1, nilS, nilS, int64 2], .rich [nilS, nilS, int64 2], .fix (t5.row (List.replicate (40) (mkW 2))) false true, .fix (t5.row (List.replicate (40) (mkW 1))) false true]⟩) := by
 rw [zcp, hst, zge h  ]
 simp only [andThen]
 exact zgd h  1 (by omega)  (.inl rfl) (by
  generalize t5.row (List.replicate (40) (mkW 1)) = H0
  simp -implicitDefEqProofs [bookW, nilS, znv])
theorem zgc (h : MarkCode code ext)   :
  ∃ s', den code ext x55L2 ⟨2, [(0, .optr 0 0), (2, int64 1)], [.rich (bookW 2 (.osl 1 0 3 2 none)), .rich [nilS, .osl 2 0 4 (40) none, int64 1, nilS, nilS, int64 2], .fix (t5.row (List.replicate (40) (mkW 1))) false true]⟩ = some (.normal, s') ∧ s'.tidy [0, 2] = ⟨2, [(0, .optr 0 0), (2, int64 2)], [.rich (bookW 2 (.osl 1 0 3 2 none)), .rich [nilS, .osl 2 0 4 (40) none, int64 1, nilS, .osl 3 0 4 (40) none, int64 2], .fix (t5.row (List.replicate (40) (mkW 1))) false true, .fix (t5.row (List.replicate (40) (mkW 2))) false true]⟩ := by
 have e1 : IntKind.wrap .i64 2 = 2 := by decide
 have hl := zgb (ext := ext) h   (s := ⟨2, [(0, .optr 0 0), (2, int64 1), (3, .optr 3 0), (4, nilS), (5, int64 0)], [.rich (bookW 2 (.osl 1 0 3 2 none)), .rich [nilS, .osl 2 0 4 (40) none, int64 1, nilS, nilS, int64 2], .fix (t5.row (List.replicate (40) (mkW 1))) false true, .rich [nilS, nilS, int64 2]]⟩) (by
  generalize t5.row (List.replicate (40) (mkW 1)) = H0
  generalize t5.row (List.replicate (40) (mkW 2)) = H1
  simp -implicitDefEqProofs [bookW, nilS])
 refine ⟨⟨2, [(0, .optr 0 0), (2, int64 2)], [.rich (bookW 2 (.osl 1 0 3 2 none)), .rich [nilS, .osl 4 0 4 (40) none, int64 1, nilS, .osl 3 0 4 (40) none, int64 2], .rich [nilS, nilS, int64 2], .fix (t5.row (List.replicate (40) (mkW 2))) false true, .fix (t5.row (List.replicate (40) (mkW 1))) false true]⟩, ?_, ?_⟩
 ·simp only [bookW, nilS] at hl
  generalize t5.row (List.replicate (40) (mkW 1)) = H0 at *
  generalize t5.row (List.replicate (40) (mkW 2)) = H1 at *
  simp -implicitDefEqProofs [x55L2, e1, hl, bookW, nilS]
 ·clear hl
  generalize t5.row (List.replicate (40) (mkW 1)) = H0
  generalize t5.row (List.replicate (40) (mkW 2)) = H1
  simp -implicitDefEqProofs [bookW, nilS]
theorem zgf (h : MarkCode code ext) (h55 : code 55 = some x55)   :
  callW code ext 55 [.optr 0 0] [.rich (bookW 2 (.osl 1 0 3 2 none)), .rich [nilS, nilS, int64 1, nilS, nilS, int64 2]] = some (.tup [], [.rich (bookW 2 (.osl 1 0 3 2 none)), .rich [nilS, .osl 2 0 4 (40) none, int64 1, nilS, .osl 3 0 4 (40) none, int64 2], .fix (t5.row (List.replicate (40) (mkW 1))) false true, .fix (t5.row (List.replicate (40) (mkW 2))) false true]) := by
 obtain ⟨s1, a1, b1⟩ := zf8 (ext := ext) h
 obtain ⟨s2, a2, b2⟩ := zgc (ext := ext) h
 rw [zbi code ext h55]
 have i3 : ∀ M : Mem, M = [.rich (bookW 2 (.osl 1 0 3 2 none)), .rich [nilS, .osl 2 0 4 (40) none, int64 1, nilS, .osl 3 0 4 (40) none, int64 2], .fix (t5.row (List.replicate (40) (mkW 1))) false true, .fix (t5.row (List.replicate (40) (mkW 2))) false true] → ∃ e, den code ext x55L2 ⟨2, [(0, .optr 0 0), (2, int64 2)], M⟩ = some (.exit 0, ⟨2, e, M⟩) := by
  rintro M rfl
  exact ⟨[(0, .optr 0 0), (2, int64 2), (12, avb false)], by
   generalize t5.row (List.replicate (40) (mkW 1)) = H0
   generalize t5.row (List.replicate (40) (mkW 2)) = H1
   simp -implicitDefEqProofs [x55L2, bookW, nilS]⟩
 obtain ⟨e, i3⟩ := i3 _ rfl
 have hT : (⟨2, [(0, .optr 0 0), (2, int64 0)], [.rich (bookW 2 (.osl 1 0 3 2 none)), .rich [nilS, nilS, int64 1, nilS, nilS, int64 2]]⟩ : St).tidy [0, 2] = ⟨2, [(0, .optr 0 0), (2, int64 0)], [.rich (bookW 2 (.osl 1 0 3 2 none)), .rich [nilS, nilS, int64 1, nilS, nilS, int64 2]]⟩ := by
  simp -implicitDefEqProofs [bookW, nilS]
 have hL : den code ext (.loop [0, 2] x55L2) ⟨2, [(0, .optr 0 0), (2, int64 0)], [.rich (bookW 2 (.osl 1 0 3 2 none)), .rich [nilS, nilS, int64 1, nilS, nilS, int64 2]]⟩ = some (.exit 0, ⟨2, e, [.rich (bookW 2 (.osl 1 0 3 2 none)), .rich [nilS, .osl 2 0 4 (40) none, int64 1, nilS, .osl 3 0 4 (40) none, int64 2], .fix (t5.row (List.replicate (40) (mkW 1))) false true, .fix (t5.row (List.replicate (40) (mkW 2))) false true]⟩) := by
  rw [zcp, hT, a1]
  simp only [andThen]
  rw [zcp, b1, a2]
  simp only [andThen]
  rw [zcp, b2, i3]
  rfl
 clear hT a1 b1 a2 b2 i3
 simp only [bookW, nilS] at hL
 generalize t5.row (List.replicate (40) (mkW 1)) = H0 at *
 generalize t5.row (List.replicate (40) (mkW 2)) = H1 at *
 simp -implicitDefEqProofs [x55, hL, bookW, nilS]
end
end Go.EX

