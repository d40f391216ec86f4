/-
  EX: law 04: show's keys.
-/
import Derived.Test.YtbomedbbgfcncaaS4q
set_option linter.unusedVariables false
set_option linter.unusedSimpArgs false
namespace Go.EX

def normOf (T : List Obj) (v : Val) : Int × Int × ByteArray :=
  if v.k = 3 then match leadsOf T v with
    | some i => (3, 0, sAt T i)
    | none => (v.k, v.n, .empty)
  else (v.k, v.n, .empty)

def keyAV (x : Int × Int × ByteArray) : AV := .agg [.imm (.val (.int .u8 x.1)), int64 x.2.1, .imm (.val (.string x.2.2))]
def normMap (acc : List (Int × Int × ByteArray)) : List (AV × AV) := acc.map fun x => (keyAV x, avb true)
open Classical in
noncomputable def addNorm (acc : List (Int × Int × ByteArray)) (x : Int × Int × ByteArray) : List (Int × Int × ByteArray) := if x ∈ acc then acc else acc ++ [x]

@[simp] theorem refs_norm1 (acc : List (Int × Int × ByteArray)) : AV.refs.refsL (List.map (fun x => x.1) (normMap acc)) = [] := by
  unfold normMap
  induction acc with
  | nil => rfl
  | cons x r ih =>
    have hk : (keyAV x).refs = [] := rfl
    simp only [List.map_cons, AV.refs.refsL, ih, hk, List.append_nil]
@[simp] theorem refs_norm2 (acc : List (Int × Int × ByteArray)) : AV.refs.refsL (List.map (fun x => x.2) (normMap acc)) = [] := by
  unfold normMap
  induction acc with
  | nil => rfl
  | cons x r ih => simp only [List.map_cons, AV.refs.refsL, ih, AV.refs]; rfl
@[simp] theorem norm_ren (f : Nat → Option Nat) (acc : List (Int × Int × ByteArray)) : List.map (fun p => (AV.ren f p.1, AV.ren f p.2)) (normMap acc) = normMap acc := by
  simp [normMap, keyAV, AV.ren, AV.ren.renL]

theorem key57 (x : Int × Int × ByteArray) : isKeyAV 57 (keyAV x) = true := by
  have e : isKeyAV 57 (keyAV x) = (sameCells [0, 0, 2] [.imm (.val (.int .u8 x.1)), int64 x.2.1, .imm (.val (.string x.2.2))] [.imm (.val (.int .u8 x.1)), int64 x.2.1, .imm (.val (.string x.2.2))]).isSome := rfl
  rw [e]; simp [sameCells]

theorem bytes_beq2 (a b : ByteArray) : (a == b) = decide (a = b) := by rw [Go.beq_toListBytes, bytes_beq]

theorem keyEq57 (m : Mem) (x y : Int × Int × ByteArray) : keyEq m 57 (keyAV x) (keyAV y) = some (decide (x = y)) := by
  obtain ⟨a, b, c⟩ := x
  obtain ⟨a', b', c'⟩ := y
  have e : keyEq m 57 (keyAV (a, b, c)) (keyAV (a', b', c')) = sameCells [0, 0, 2] [.imm (.val (.int .u8 a)), int64 b, .imm (.val (.string c))] [.imm (.val (.int .u8 a')), int64 b', .imm (.val (.string c'))] := rfl
  rw [e]
  simp only [sameCells, if_true, Option.map_some, Bool.and_true, Option.some.injEq, bytes_beq2]
  by_cases h1 : a = a' <;> by_cases h2 : b = b' <;> by_cases h3 : c = c' <;> simp [h1, h2, h3]

theorem findK57 (x : Int × Int × ByteArray) : ∀ (acc : List (Int × Int × ByteArray)) (i : Nat),
    (x ∉ acc ∧ ∀ m, findK m 57 (keyAV x) (normMap acc) i = some none) ∨ (x ∈ acc ∧ ∃ j, (∀ m, findK m 57 (keyAV x) (normMap acc) i = some (some (i + j))) ∧ acc[j]? = some x)
  | [], i => .inl ⟨by simp, fun _ => rfl⟩
  | y :: r, i => by
    have hk := fun m => keyEq57 m x y
    by_cases h : x = y
    · subst h
      refine .inr ⟨by simp, 0, fun m => ?_, rfl⟩
      simp only [normMap, List.map_cons, findK, hk, decide_true, Nat.add_zero]
    · have hf : ∀ m, findK m 57 (keyAV x) (normMap (y :: r)) i = findK m 57 (keyAV x) (normMap r) (i + 1) := fun m => by simp only [normMap, List.map_cons, findK, hk, h, decide_false]
      rcases findK57 x r (i + 1) with ⟨h1, h2⟩ | ⟨h1, j, h2, h3⟩
      · exact .inl ⟨by simp [h, h1], fun m => by rw [hf, h2]⟩
      · refine .inr ⟨by simp [h1], j + 1, fun m => ?_, h3⟩
        rw [hf, h2]; congr 2; omega

theorem norm_set (acc : List (Int × Int × ByteArray)) (j : Nat) (x : Int × Int × ByteArray) (h : acc[j]? = some x) : (normMap acc).set j (keyAV x, avb true) = normMap acc := by
  refine List.ext_getElem? fun i => ?_
  rw [List.getElem?_set]
  split
  · rename_i hij; subst hij
    split
    · simp [normMap, h]
    · rename_i hl
      rw [List.getElem?_eq_none (by omega)]
  · rfl

theorem norm_snoc (acc : List (Int × Int × ByteArray)) (x : Int × Int × ByteArray) : normMap acc ++ [(keyAV x, avb true)] = normMap (acc ++ [x]) := by simp [normMap]

section
variable {code : Nat → Option XFun} {ext : Calls'}

/-- The norms of every other value of the first i. -/
noncomputable def normsTo (T : List Obj) (l : List Val) : Nat → List (Int × Int × ByteArray)
  | 0 => []
  | i + 1 => if i % 2 = 0 then (match l[i]? with | some v => addNorm (normsTo T l i) (normOf T v) | none => normsTo T l i) else normsTo T l i

theorem normsTo_two (T : List Obj) (l : List Val) (i : Nat) (v : Val) (hi : i % 2 = 0) (hv : l[i]? = some v) : normsTo T l (i + 2) = addNorm (normsTo T l i) (normOf T v) := by
  rw [normsTo, if_neg (by omega), normsTo, if_pos hi, hv]

def keysMem (T : List Obj) (acc : List (Int × Int × ByteArray)) : Mem := [.flat (storeRow T) false, .map (normMap acc)]

theorem keys_step (h : code 651 = some x651) (T : List Obj) (hb : T.length ≤ 1048576) {row : List IV} {off : Nat} {cap : Option Nat} {l : List Val} (hl : Reads tVal (.slice row off l.length cap) l) (i : Nat) (v : Val) (hv : l[i]? = some v) (acc : List (Int × Int × ByteArray)) :
    ∃ s', den code ext x650L1 ⟨1, [(0, .osl 0 0 5 T.length (some (T.length + 1))), (1, .imm (.slice row off l.length cap)), (5, .omap 1), (6, int64 (i : Nat))], keysMem T acc⟩ = some (.normal, s') ∧
      s'.tidy [0, 1, 5, 6] = ⟨1, [(0, .osl 0 0 5 T.length (some (T.length + 1))), (1, .imm (.slice row off l.length cap)), (5, .omap 1), (6, int64 ((i : Int) + 2))], keysMem T (addNorm acc (normOf T v))⟩ := by
  have hlt := (List.getElem?_eq_some_iff.1 hv).1
  obtain ⟨row', off', cap', he, hc, hcut, hget⟩ := reads_pos hl hv
  cases he
  simp only [tVal] at hget
  have g0 : row[off + i * 2]? = some (.val (.int .u8 v.k)) := cut_get hget 0 (by omega)
  have hbl := hl.2.1
  have hw := (hl.1 v (List.mem_of_getElem? hv)).2
  have e1 : IntKind.wrap .i64 ((i : Int) + 2) = (i : Int) + 2 := wrapI64 (by omega) (by omega)
  have hld := leadsP_spec (ext := ext) h T hb v hw
  have hkey : ∀ x : Int × Int × ByteArray, (sameCells (digits 64 53) [.imm (.val (.int .u8 x.1)), int64 x.2.1, .imm (.val (.string x.2.2))] [.imm (.val (.int .u8 x.1)), int64 x.2.1, .imm (.val (.string x.2.2))]).isSome = true := key57
  by_cases k3 : v.k = 3
  · rw [k3] at hget g0 hld
    cases hq : leadsOf T v with
    | none =>
      have hn : normOf T v = (3, v.n, .empty) := by simp [normOf, k3, hq]
      rw [hq, leadAV] at hld
      rw [hn]
      have hk1 := hkey (3, v.n, .empty)
      rcases findK57 (3, v.n, .empty) acc 0 with ⟨hm, hf⟩ | ⟨hm, j, hf, hj⟩
      · have ha : normMap (addNorm acc (3, v.n, .empty)) = normMap (acc ++ [(3, v.n, .empty)]) := by rw [addNorm, if_neg hm]
        have hsn := norm_snoc acc (3, v.n, .empty)
        simp only [keysMem]
        rw [ha]
        clear ha hm
        simp only [keyAV, Nat.zero_add] at hf hk1 hsn ⊢
        simp -implicitDefEqProofs [x650L1, hget, g0, hld, e1, hlt, hf, hk1, hsn]
      · have ha : normMap (addNorm acc (3, v.n, .empty)) = normMap acc := by rw [addNorm, if_pos hm]
        have hset := norm_set _ _ _ hj
        simp only [keysMem]
        rw [ha]
        clear ha hm
        simp only [keyAV, Nat.zero_add] at hf hk1 hset ⊢
        simp -implicitDefEqProofs [x650L1, hget, g0, hld, e1, hlt, hf, hk1, hset]
    | some p =>
      have hn : normOf T v = (3, 0, sAt T p) := by simp [normOf, k3, hq]
      rw [hq, leadAV] at hld
      obtain ⟨hpl, _, _, _, o, ho, _⟩ := leadsOf_some hq
      have hso : sAt T p = o.s := by rw [sAt, ho]
      have g1 : (storeRow T)[p * 5 + 1]? = some (.val (.string o.s)) := by
        have hcg := storeRow_get ho
        exact cut_get hcg 1 (by omega)
      rw [hso] at hn
      rw [hn]
      have hk1 := hkey (3, 0, o.s)
      rcases findK57 (3, 0, o.s) acc 0 with ⟨hm, hf⟩ | ⟨hm, j, hf, hj⟩
      · have ha : normMap (addNorm acc (3, 0, o.s)) = normMap (acc ++ [(3, 0, o.s)]) := by rw [addNorm, if_neg hm]
        have hsn := norm_snoc acc (3, 0, o.s)
        simp only [keysMem]
        rw [ha]
        clear ha hm
        simp only [keyAV, Nat.zero_add] at hf hk1 hsn ⊢
        simp -implicitDefEqProofs [x650L1, hget, g0, g1, hld, e1, hlt, hf, hk1, hsn]
      · have ha : normMap (addNorm acc (3, 0, o.s)) = normMap acc := by rw [addNorm, if_pos hm]
        have hset := norm_set _ _ _ hj
        simp only [keysMem]
        rw [ha]
        clear ha hm
        simp only [keyAV, Nat.zero_add] at hf hk1 hset ⊢
        simp -implicitDefEqProofs [x650L1, hget, g0, g1, hld, e1, hlt, hf, hk1, hset]
  · have hn : normOf T v = (v.k, v.n, .empty) := by simp [normOf, k3]
    rw [hn]
    have hk1 := hkey (v.k, v.n, .empty)
    rcases findK57 (v.k, v.n, .empty) acc 0 with ⟨hm, hf⟩ | ⟨hm, j, hf, hj⟩
    · have ha : normMap (addNorm acc (v.k, v.n, .empty)) = normMap (acc ++ [(v.k, v.n, .empty)]) := by rw [addNorm, if_neg hm]
      have hsn := norm_snoc acc (v.k, v.n, .empty)
      simp only [keysMem]
      rw [ha]
      clear ha hm
      simp only [keyAV, Nat.zero_add] at hf hk1 hsn ⊢
      simp -implicitDefEqProofs [x650L1, hget, g0, k3, hld, e1, hlt, hf, hk1, hsn]
    · have ha : normMap (addNorm acc (v.k, v.n, .empty)) = normMap acc := by rw [addNorm, if_pos hm]
      have hset := norm_set _ _ _ hj
      simp only [keysMem]
      rw [ha]
      clear ha hm
      simp only [keyAV, Nat.zero_add] at hf hk1 hset ⊢
      simp -implicitDefEqProofs [x650L1, hget, g0, k3, hld, e1, hlt, hf, hk1, hset]

end
end Go.EX
