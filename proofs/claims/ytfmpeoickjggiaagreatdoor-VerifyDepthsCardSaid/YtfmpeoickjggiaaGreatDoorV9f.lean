import Derived.Test.YtfmpeoickjggiaaGreatDoorV9d
set_option linter.unusedVariables false
set_option linter.unusedSimpArgs false
namespace Go.EX
def getM : List (Int × Int) → Int → Option Int
  | [], _ => none
  | (a, b) :: r, k => if k = a then some b else getM r k
def putM : List (Int × Int) → Int → Int → List (Int × Int)
  | [], k, v => [(k, v)]
  | (a, b) :: r, k, v => if k = a then (k, v) :: r else (a, b) :: putM r k v
theorem findM : ∀ (ms : List (Int × Int)) (k : Int) (i : Nat),
    (getM ms k = none ∧ (∀ m, findK m 0 (int64 k) (mkMap ms) i = some none) ∧ ∀ v, putM ms k v = ms ++ [(k, v)]) ∨
    (∃ j v0, getM ms k = some v0 ∧ (∀ m, findK m 0 (int64 k) (mkMap ms) i = some (some (i + j))) ∧ ms[j]? = some (k, v0) ∧ ∀ v, putM ms k v = ms.set j (k, v))
  | [], k, i => .inl ⟨rfl, fun _ => rfl, fun _ => rfl⟩
  | (a, b) :: r, k, i => by
    by_cases h : k = a
    · subst h
      refine .inr ⟨0, b, by simp [getM], fun m => ?_, rfl, fun v => by simp [putM]⟩
      simp [mkMap, findK, keyEq]
    · have hf : ∀ m, findK m 0 (int64 k) (mkMap ((a, b) :: r)) i = findK m 0 (int64 k) (mkMap r) (i + 1) := fun m => by simp [mkMap, findK, keyEq, h]
      rcases findM r k (i + 1) with ⟨h1, h2, h3⟩ | ⟨j, v0, h1, h2, h3, h4⟩
      · exact .inl ⟨by simp [getM, h, h1], fun m => by rw [hf, h2], fun v => by simp [putM, h, h3]⟩
      · refine .inr ⟨j + 1, v0, by simp [getM, h, h1], fun m => ?_, h3, fun v => by simp [putM, h, h4]⟩
        rw [hf, h2]; congr 2; omega
theorem mkMap_snoc (ms : List (Int × Int)) (k v : Int) : mkMap ms ++ [(int64 k, int64 v)] = mkMap (ms ++ [(k, v)]) := by simp [mkMap]
theorem mkMap_set (ms : List (Int × Int)) (j : Nat) (k v : Int) : (mkMap ms).set j (int64 k, int64 v) = mkMap (ms.set j (k, v)) := by simp [mkMap, List.map_set]
theorem mkMap_get (ms : List (Int × Int)) (j : Nat) (k v : Int) (h : ms[j]? = some (k, v)) : (mkMap ms)[j]? = some (int64 k, int64 v) := by simp [mkMap, h]
def capsAll (f g : Fn) : Bool := !(g.caps.xs.any fun x => !capOk f.caps.xs.length f.locals x)
def makesR (ms : List (Int × Int)) (fn made : Int) (f g : Fn) : Bool × List (Int × Int) :=
  match getM ms made with
  | none => (capsAll f g, putM ms made fn)
  | some k => if k = fn then (capsAll f g, putM ms made fn) else (false, ms)
attribute [local simp] ck_ren
set_option maxRecDepth 100000 in
set_option maxHeartbeats 4000000 in
theorem makes_spec {pv : IV} {ps : List Fn} (hp : Reads tFn pv ps) (ms : List (Int × Int)) (fn made : Nat) (f g : Fn) (hf : ps[fn]? = some f) (hg : ps[made]? = some g) :
    run9 257 [.optr 0 0, int64 fn, int64 made] (ckMem pv ms) = some (avb (makesR ms fn made f g).1, ckMem pv (makesR ms fn made f g).2) := by
  unfold run9
  rw [callW_fun code9 (extInsert 766) (rfl : code9 257 = some x257)]
  have hltf := (List.getElem?_eq_some_iff.1 hf).1
  have hltg := (List.getElem?_eq_some_iff.1 hg).1
  have hbf := hp.2.1
  have hlf : (fn : Int) < ps.length := by omega
  have hlg : (made : Int) < ps.length := by omega
  have hfn0 : (0 : Int) ≤ (fn : Int) := by omega
  have hmd0 : (0 : Int) ≤ (made : Int) := by omega
  obtain ⟨row, off, cap, rfl, hc, hcut, hget⟩ := reads_pos hp hf
  obtain ⟨row2, off2, cap2, he2, hc2, hcut2, hget2⟩ := reads_pos hp hg
  obtain ⟨rfl, rfl, rfl⟩ : row = row2 ∧ off = off2 ∧ cap = cap2 := by simpa using he2
  simp only [tFn] at hget hget2
  have g3 : row[off + made * 8 + 3]? = some g.caps.iv := cut_get hget2 3 (by omega)
  have s13 := anyCap_spec f g.caps.ok
  unfold run9 at s13
  simp only [tFn] at s13
  unfold makesR capsAll
  simp only [ckMem]
  rcases findM ms made 0 with ⟨h1, h2, h3⟩ | ⟨j, v0, h1, h2, h3, h4⟩
  · rw [h1]
    have h3' := h3 (fn : Int)
    have hsn := mkMap_snoc ms made fn
    simp only [h3']
    simp -implicitDefEqProofs [x257, hget, hget2, g3, hlf, hlg, hltf, hltg, hfn0, hmd0, h2, hsn, s13, frz_flat, frz.frzC]
  · rw [h1]
    simp only [Nat.zero_add] at h2
    have hg2 := mkMap_get _ _ _ _ h3
    by_cases h5 : v0 = (fn : Int)
    · subst h5
      have h4' := h4 (fn : Int)
      have hst := mkMap_set ms j made fn
      simp only [if_true, h4']
      simp -implicitDefEqProofs [x257, hget, hget2, g3, hlf, hlg, hltf, hltg, hfn0, hmd0, h2, hg2, hst, s13, frz_flat, frz.frzC]
    · simp only [h5, if_false]
      simp -implicitDefEqProofs [x257, hget, hget2, g3, hlf, hlg, hltf, hltg, hfn0, hmd0, h2, hg2, h5]
end Go.EX

