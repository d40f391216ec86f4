import Derived.Test.YtkmdbfhagicidaaDoorK10
import Derived.Test.YtkmdbfhagicidaaDoorK9
import Derived.Test.YtkmdbfhagicidaaDoorRows
import Derived.Test.YtkmdbfhagicidaaDoorK8
import Derived.Test.YtkmdbfhagicidaaDoorCk5
import Derived.Test.YtkmdbfhagicidaaDoorPi
set_option linter.unusedVariables false
set_option linter.unusedSimpArgs false
namespace Go.EX
section
variable {code : Nat → Option XFun} {ext : Calls'}
theorem zow (c : LexCode code ext) (x : UInt8) (r : List UInt8) (hx : isLetter x = true) (hq : x.toNat ≠ 34) (n : Int) (hl : (x :: r).length ≤ 1000000) :
  callW code ext 194 [.optr 0 0] (scanM (x :: r) n) = some (.tup [.agg [.imm (.val (.int .u8 1)), strV (bs ((x :: r).takeWhile isWord)), int64 0, int64 n], avb (decide (((x :: r).takeWhile isWord).length ≤ 4096))], scanM ((x :: r).dropWhile isWord) n) := by
 have he := zc2 (ext := ext) c.c188 (zoq c.c195 c.c569 c.c570) (x :: r) n hl
 have hlen := tw_len isWord (x :: r)
 have hcl := zbp c ((x :: r).takeWhile isWord) (by omega)
 have hd := zcn (ext := ext) c.c569 x
 have hle := zgr (ext := ext) c.c570 x
 rw [hx] at hle
 rw [zba code ext c.c194]
 have hat := bs_get (x :: r) 0
 rw [show (x :: r)[0]? = some x from rfl] at hat
 have hz := za2 ((x :: r).takeWhile isWord)
 have h34 : ¬ (x.toNat : Int) = 34 := by omega
 have hdec : decide ((((x :: r).takeWhile isWord).length : Int) ≤ 4096) = decide (((x :: r).takeWhile isWord).length ≤ 4096) := by rw [decide_eq_decide]; omega
 rw [← hdec]
 unfold x194 scanM at *
 generalize x194L1 = L at *
 unfold u8V at *
 clear hx hq hl hlen hdec
 generalize ((x :: r).takeWhile isWord).length = tl at *
 generalize bs ((x :: r).takeWhile isWord) = T at *
 generalize bs ((x :: r).dropWhile isWord) = D at *
 generalize bs (x :: r) = B at *
 generalize isDigit x = dg at *
 cases dg <;> simp -implicitDefEqProofs [he, hcl, hd, hle, hat, hz, h34]
theorem word_num (c : LexCode code ext) (x : UInt8) (r : List UInt8) (hx : isLetter x = false) (hx2 : isDigit x = true) (n : Int) (hl : (x :: r).length ≤ 1000000) :
  callW code ext 194 [.optr 0 0] (scanM (x :: r) n) = some (.tup [.agg [.imm (.val (.int .u8 2)), strV (bs []), int64 (numN ((x :: r).takeWhile isWord)), int64 n], avb (numOk ((x :: r).takeWhile isWord))], scanM ((x :: r).dropWhile isWord) n) := by
 have he := zc2 (ext := ext) c.c188 (zoq c.c195 c.c569 c.c570) (x :: r) n hl
 have hlen := tw_len isWord (x :: r)
 have hp := zio c ((x :: r).takeWhile isWord) (by omega)
 have hd := zcn (ext := ext) c.c569 x
 have hle := zgr (ext := ext) c.c570 x
 rw [hx] at hle
 rw [hx2] at hd
 have h34 : ¬ (x.toNat : Int) = 34 := by
  intro h
  unfold isDigit at hx2
  simp only [Bool.and_eq_true, decide_eq_true_eq] at hx2
  omega
 have hat := bs_get (x :: r) 0
 rw [show (x :: r)[0]? = some x from rfl] at hat
 have hemp : bs [] = ByteArray.empty := rfl
 rw [zba code ext c.c194, hemp]
 have hok : ∀ v, Go.Lib.parseIntB 64 ((x :: r).takeWhile isWord) = .ok v → numN ((x :: r).takeWhile isWord) = v ∧ numOk ((x :: r).takeWhile isWord) = decide (bs (Go.Lib.itoa v) = bs ((x :: r).takeWhile isWord)) := by
  intro v hv
  unfold numN numOk
  rw [hv]
  refine ⟨rfl, ?_⟩
  show decide _ = decide _
  rw [decide_eq_decide]
  exact bs_inj.symm
 have hno : (∀ v, Go.Lib.parseIntB 64 ((x :: r).takeWhile isWord) ≠ .ok v) → numOk ((x :: r).takeWhile isWord) = false := by
  intro hv
  unfold numOk
  split
  ·rename_i v h; exact absurd h (hv v)
  ·rfl
 unfold x194 scanM at *
 generalize x194L1 = L at *
 unfold u8V at *
 rcases hp with ⟨v, hv, hp⟩ | ⟨hv, hp⟩
 ·obtain ⟨g1, g2⟩ := hok v hv
  have hf := zet c (ziq hv)
  rw [g1, g2]
  clear hok hno g1 g2 hv hx hx2 hl hlen
  generalize bs (Go.Lib.itoa v) = F at *
  generalize bs ((x :: r).takeWhile isWord) = T at *
  generalize bs ((x :: r).dropWhile isWord) = D at *
  generalize bs (x :: r) = B at *
  simp -implicitDefEqProofs [he, hp, hd, hle, hat, h34, hf]
 ·rw [hno hv]
  clear hok hno hv hx hx2 hl hlen
  generalize numN ((x :: r).takeWhile isWord) = N at *
  generalize bs ((x :: r).takeWhile isWord) = T at *
  generalize bs ((x :: r).dropWhile isWord) = D at *
  generalize bs (x :: r) = B at *
  simp -implicitDefEqProofs [he, hp, hd, hle, hat, h34]
def signs5 : List (List UInt8) := [[61, 61], [33, 61], [60, 61], [40], [41], [123], [125], [91], [93], [44], [59], [58], [61], [60], [43], [45], [42], [47], [37], [35], [36]]
def signC : List AV := signs5.map fun s => strV (bs s)
theorem zmg (c : LexCode code ext) : ∃ m, callW code ext 571 [] [] = some (.agg signC, m) := by
 refine mem_of ?_
 rw [zba code ext c.c571]
 unfold signC signs5 bs
 simp -implicitDefEqProofs [x571]
theorem zb0 (c : LexCode code ext) (l p : List UInt8) : callW code ext 723 [strV (bs l), strV (bs p)] [] = some (.tup [strV (bs (if hasPre p l then l.drop p.length else l)), avb (hasPre p l)], []) := by
 have hp := zjh (ext := ext) c.c725 l p
 rw [zba code ext c.c723]
 have hs1 := za2 l
 have hs2 := za2 p
 have hd := za0 l p.length
 cases hb : hasPre p l with
 | false =>
  rw [hb] at hp
  simp only [Bool.false_eq_true, if_false]
  generalize bs l = L at *
  generalize bs p = Q at *
  simp -implicitDefEqProofs [x723, hp]
 | true =>
  rw [hb] at hp
  have hle : p.length ≤ l.length := by
   unfold hasPre at hb
   have := congrArg List.length (of_decide_eq_true hb)
   rw [List.length_take] at this
   omega
  have hle' : (p.length : Int) ≤ l.length := by omega
  simp only [if_true]
  generalize bs (l.drop p.length) = D at *
  generalize bs l = L at *
  generalize bs p = Q at *
  simp -implicitDefEqProofs [x723, hp, hs1, hs2, hd, hle, hle']
theorem zb1 (c : LexCode code ext) (l p : List UInt8) : callW code ext 796 [strV (bs l), strV (bs p)] [] = some (.tup [strV (bs (if hasPre p l then l.drop p.length else l)), avb (hasPre p l)], []) := by
 have hp := zb0 c l p
 rw [zba code ext c.c796]
 generalize bs (if hasPre p l then l.drop p.length else l) = D at *
 generalize bs l = L at *
 generalize bs p = Q at *
 simp -implicitDefEqProofs [x796, hp]
def signOf (l : List UInt8) : Option (List UInt8) := signs5.find? fun s => hasPre s l
theorem zme (c : LexCode code ext) (l : List UInt8) (n : Int) (s0 : St) (hs0 : s0.tidy [0, 2, 70, 71] = ⟨1, [(0, .optr 0 0), (2, .optr 1 0), (70, .agg signC), (71, int64 0)], [.rich [strV (bs l), int64 n], .rich [.imm (.val (.int .u8 0)), strV .empty, int64 0, int64 n]]⟩) :
  ∃ e s', den code ext (.loop [0, 2, 70, 71] x194L1) s0 = some (e, s') ∧ e ≠ .normal ∧
   ((signOf l = none ∧ e = .exit 1 ∧ ∃ x, s' = ⟨1, [(0, .optr 0 0), (2, .optr 1 0), (70, x), (71, int64 21), (72, avb false)], [.rich [strV (bs l), int64 n], .rich [.imm (.val (.int .u8 0)), strV .empty, int64 0, int64 n]]⟩) ∨
    (∃ sg, signOf l = some sg ∧ e = .ret ∧ s' = ⟨1, [(2, .optr 1 0), (3, avb true)], [.rich [strV (bs (l.drop sg.length)), int64 n], .rich [.imm (.val (.int .u8 4)), strV (bs sg), int64 0, int64 n]]⟩)) := by
 have hlen : signs5.length = 21 := rfl
 refine zg2 (fun m s => ∃ i, i + m = 21 ∧ (∀ j, j < i → ∀ sg, signs5[j]? = some sg → hasPre sg l = false) ∧ s.tidy [0, 2, 70, 71] = ⟨1, [(0, .optr 0 0), (2, .optr 1 0), (70, .agg signC), (71, int64 (i : Nat))], [.rich [strV (bs l), int64 n], .rich [.imm (.val (.int .u8 0)), strV .empty, int64 0, int64 n]]⟩) _ ?_ 21 _ ⟨0, by simp, fun j hj => by omega, by simpa using hs0⟩
 rintro m s ⟨i, hi, hno, hst⟩
 rw [hst]
 by_cases hlt : i < 21
 ·have hx := List.getElem?_eq_getElem (l := signs5) (i := i) (by rw [hlen]; exact hlt)
  have hg : signC[i]? = some (strV (bs signs5[i])) := by unfold signC; rw [List.getElem?_map, hx]; rfl
  have hc := zb1 c l signs5[i]
  have hlt' : (i : Int) < 21 := by omega
  have e1 : IntKind.wrap .i64 ((i : Int) + 1) = (i : Int) + 1 := wrapI64 (by omega) (by omega)
  cases hp : hasPre signs5[i] l with
  | false =>
   rw [hp] at hc
   simp only [Bool.false_eq_true, if_false] at hc
   refine ⟨.normal, ⟨1, [(0, .optr 0 0), (2, .optr 1 0), (70, .agg signC), (71, int64 ((i : Int) + 1))], [.rich [strV (bs l), int64 n], .rich [.imm (.val (.int .u8 0)), strV .empty, int64 0, int64 n]]⟩, ?_, .inl ⟨rfl, m - 1, by omega, i + 1, by omega, fun j hj sg hsg => ?_, ?_⟩⟩
   ·generalize signC = SC at *
    generalize bs signs5[i] = S at *
    generalize bs l = B at *
    simp -implicitDefEqProofs [x194L1, hlt, hlt', hg, hc, e1]
   ·by_cases hji : j = i
    ·subst hji
     rw [hx] at hsg
     cases hsg
     exact hp
    ·exact hno j (by omega) sg hsg
   ·have hrefs : AV.refs.refsL signC = [] := rfl
    have hren : ∀ f, AV.ren.renL f signC = signC := fun f => rfl
    generalize signC = SC at *
    simp -implicitDefEqProofs [hrefs, hren]
  | true =>
   rw [hp] at hc
   simp only [if_true] at hc
   have hsg : signOf l = some signs5[i] := by
    unfold signOf
    rw [List.find?_eq_some_iff_getElem]
    refine ⟨hp, i, by rw [hlen]; exact hlt, rfl, fun j hj => ?_⟩
    have := hno j hj _ (List.getElem?_eq_getElem (l := signs5) (i := j) (by rw [hlen]; omega))
    rw [this]
    rfl
   refine ⟨.ret, _, ?_, .inr ⟨by simp, .inr ⟨_, hsg, rfl, rfl⟩⟩⟩
   generalize bs (l.drop signs5[i].length) = D at *
   generalize signC = SC at *
   generalize bs signs5[i] = S at *
   generalize bs l = B at *
   simp -implicitDefEqProofs [x194L1, hlt, hlt', hg, hc]
 ·have : i = 21 := by omega
  subst this
  have hsg : signOf l = none := by
   unfold signOf
   rw [List.find?_eq_none]
   intro s hs
   obtain ⟨j, hj⟩ := List.getElem?_of_mem hs
   have hj2 := (List.getElem?_eq_some_iff.1 hj).1
   rw [hlen] at hj2
   rw [hno j hj2 s hj]
   simp
  refine ⟨.exit 1, ⟨1, [(0, .optr 0 0), (2, .optr 1 0), (70, .agg signC), (71, int64 21), (72, avb false)], [.rich [strV (bs l), int64 n], .rich [.imm (.val (.int .u8 0)), strV .empty, int64 0, int64 n]]⟩, ?_, .inr ⟨by simp, .inl ⟨hsg, rfl, .agg signC, rfl⟩⟩⟩
  generalize signC = SC at *
  generalize bs l = B at *
  simp -implicitDefEqProofs [x194L1]
theorem zox (c : LexCode code ext) (x : UInt8) (r : List UInt8) (hx : isLetter x = false) (hx2 : isDigit x = false) (hq : x.toNat ≠ 34) (n : Int) (hl : (x :: r).length ≤ 1000000) :
  (∀ sg, signOf (x :: r) = some sg → callW code ext 194 [.optr 0 0] (scanM (x :: r) n) = some (.tup [.agg [.imm (.val (.int .u8 4)), strV (bs sg), int64 0, int64 n], avb true], scanM ((x :: r).drop sg.length) n)) ∧
  (signOf (x :: r) = none → callW code ext 194 [.optr 0 0] (scanM (x :: r) n) = some (.tup [.agg [.imm (.val (.int .u8 0)), strV .empty, int64 0, int64 n], avb false], scanM (x :: r) n)) := by
 have hd := zcn (ext := ext) c.c569 x
 have hle := zgr (ext := ext) c.c570 x
 rw [hx] at hle
 rw [hx2] at hd
 obtain ⟨ms, hsn⟩ := zmg c
 have h34 : ¬ (x.toNat : Int) = 34 := by omega
 have hat := bs_get (x :: r) 0
 rw [show (x :: r)[0]? = some x from rfl] at hat
 have hpl : signC.all AV.plain1 = true := rfl
 have hrefs : AV.refs.refsL signC = [] := rfl
 have hren : ∀ f, AV.ren.renL f signC = signC := fun f => rfl
 obtain ⟨e, s', l1, _, hor⟩ := zme c (x :: r) n ⟨1, [(0, .optr 0 0), (2, .optr 1 0), (70, .agg signC), (71, int64 0)], [.rich [strV (bs (x :: r)), int64 n], .rich [.imm (.val (.int .u8 0)), strV .empty, int64 0, int64 n]]⟩ (by generalize signC = SC at *; simp -implicitDefEqProofs [hrefs, hren])
 refine ⟨fun sg hsg => ?_, fun hsg => ?_⟩
 ·rcases hor with ⟨h1, _⟩ | ⟨sg', h1, rfl, rfl⟩
  ·rw [hsg] at h1; cases h1
  ·rw [hsg] at h1
   cases h1
   rw [zba code ext c.c194]
   unfold x194 scanM u8V at *
   clear hsg hx hx2 hl
   generalize x194L1 = L at *
   generalize bs ((x :: r).drop sg.length) = D at *
   generalize signC = SC at *
   generalize bs sg = S at *
   generalize bs (x :: r) = B at *
   simp -implicitDefEqProofs [l1, hd, hle, hat, h34, hsn, hpl]
 ·rcases hor with ⟨h1, rfl, y, rfl⟩ | ⟨sg', h1, _⟩
  ·rw [zba code ext c.c194]
   unfold x194 scanM u8V at *
   clear hsg hx hx2 hl h1
   generalize x194L1 = L at *
   generalize signC = SC at *
   generalize bs (x :: r) = B at *
   simp -implicitDefEqProofs [l1, hd, hle, hat, h34, hsn, hpl]
  ·rw [hsg] at h1; cases h1
end
end Go.EX


set_option linter.unusedVariables false
set_option linter.unusedSimpArgs false
namespace Go.EX
structure W5 where
 k : Nat
 s : List UInt8
 n : Int
 line : Nat
def W5.cells (w : W5) : List IV := [.val (.int .u8 w.k), .val (.string (bs w.s)), .val (.int .i64 w.n), .val (.int .i64 (w.line : Nat))]
def rowW (ws : List W5) : List IV := ws.flatMap W5.cells
theorem zkz (ws : List W5) : (rowW ws).length = ws.length * 4 := by
 unfold rowW
 induction ws with
 | nil => rfl
 | cons w ws ih => rw [List.flatMap_cons, List.length_append, ih, List.length_cons]; show 4 + _ = _; omega
theorem zk1 (ws : List W5) (w : W5) : rowW (ws ++ [w]) = rowW ws ++ w.cells := by unfold rowW; simp
def wordOf : List UInt8 → Option (Nat × List UInt8 × Int × List UInt8)
 | [] => none
 | x :: r =>
  if x.toNat = 34 then match textL [] r with
   | some (t, q) => if t.length ≤ 4096 then some (3, t, 0, q) else none
   | none => none
  else if isLetter x = true then (if ((x :: r).takeWhile isWord).length ≤ 4096 then some (1, (x :: r).takeWhile isWord, 0, (x :: r).dropWhile isWord) else none)
  else if isDigit x = true then (if numOk ((x :: r).takeWhile isWord) = true then some (2, [], numN ((x :: r).takeWhile isWord), (x :: r).dropWhile isWord) else none)
  else match signOf (x :: r) with
   | some sg => some (4, sg, 0, (x :: r).drop sg.length)
   | none => none
theorem zor (x : UInt8) (r : List UInt8) : wordOf (x :: r) =
  if x.toNat = 34 then match textL [] r with
   | some (t, q) => if t.length ≤ 4096 then some (3, t, 0, q) else none
   | none => none
  else if isLetter x = true then (if ((x :: r).takeWhile isWord).length ≤ 4096 then some (1, (x :: r).takeWhile isWord, 0, (x :: r).dropWhile isWord) else none)
  else if isDigit x = true then (if numOk ((x :: r).takeWhile isWord) = true then some (2, [], numN ((x :: r).takeWhile isWord), (x :: r).dropWhile isWord) else none)
  else match signOf (x :: r) with
   | some sg => some (4, sg, 0, (x :: r).drop sg.length)
   | none => none := rfl
theorem znl : ∀ (m : Nat) (acc l : List UInt8), l.length = m → ∀ t q, textL acc l = some (t, q) → q.length < l.length := by
 intro m
 induction m using Nat.strongRecOn with
 | _ m ih =>
  intro acc l hm t q h
  have htw := tw_len isPlain l
  cases hs : stepT (l.dropWhile isPlain) with
  | none => rw [znh acc hs] at h; cases h
  | some o =>
   cases o with
   | none =>
    obtain ⟨r, hr⟩ := zmz hs
    rw [znj acc hs, hr] at h
    rw [hr] at htw
    cases h
    simp at htw ⊢
    omega
   | some c =>
    have hless := zm0 hs
    rw [znm acc hs] at h
    have := ih _ (by omega) _ _ rfl t q h
    omega
theorem zou {l : List UInt8} {k : Nat} {s : List UInt8} {N : Int} {q : List UInt8} (h : wordOf l = some (k, s, N, q)) : q.length < l.length := by
 cases l with
 | nil => cases h
 | cons x r =>
  rw [zor] at h
  have hdw : isWord x = true → ((x :: r).dropWhile isWord).length < (x :: r).length := by
   intro hx
   have := zcw isWord r
   simp [List.dropWhile, hx]
   omega
  split at h
  ·split at h
   ·rename_i ht
    split at h
    ·cases h
     have := znl _ [] r rfl _ _ ht
     simp; omega
    ·cases h
   ·cases h
  split at h
  ·rename_i hlt
   split at h
   ·cases h; exact hdw (by unfold isWord; rw [hlt]; simp)
   ·cases h
  split at h
  ·rename_i hlt
   split at h
   ·cases h; exact hdw (by unfold isWord; rw [hlt]; simp)
   ·cases h
  split at h
  ·rename_i sg hsg
   cases h
   unfold signOf at hsg
   have hm := List.mem_of_find?_eq_some hsg
   have : ∀ s ∈ signs5, 0 < s.length := by decide
   have := this s hm
   simp
   omega
  ·cases h
theorem zml : ∀ (m : Nat) (l : List UInt8) (n : Nat), l.length = m → (skipL l n).1.length ≤ l.length ∧ (skipL l n).2 + (skipL l n).1.length ≤ n + l.length := by
 intro m
 induction m using Nat.strongRecOn with
 | _ m ih =>
  intro l n hm
  have htw := tw_len isBlank l
  have hc := zbw (l.takeWhile isBlank)
  cases hp : hasPre [47, 47] (l.dropWhile isBlank) with
  | false =>
   rw [zmj n hp]
   dsimp only
   omega
  | true =>
   have hless := zhw hp
   have hd := zcw notEnd (l.dropWhile isBlank)
   rw [zmm n hp]
   have := ih _ (by omega) ((l.dropWhile isBlank).dropWhile notEnd) (n + countNL (l.takeWhile isBlank)) rfl
   omega
def wordsR (l : List UInt8) (n : Nat) : List W5 ⊕ Nat :=
 if l = [] then .inl [] else
 match h : wordOf l with
 | none => .inr n
 | some (k, s, N, q) => match wordsR (skipL q n).1 (skipL q n).2 with
  | .inl ws => .inl (⟨k, s, N, n⟩ :: ws)
  | .inr m => .inr m
termination_by l.length
decreasing_by
 have h1 := zou h
 have h2 := (zml _ q n rfl).1
 omega
def wordsL (l : List UInt8) (n : Nat) : List W5 ⊕ Nat := wordsR (skipL l n).1 (skipL l n).2
theorem zo7 (n : Nat) : wordsR [] n = .inl [] := by unfold wordsR; simp
theorem zo3 {l : List UInt8} (n : Nat) (hne : l ≠ []) (h : wordOf l = none) : wordsR l n = .inr n := by
 unfold wordsR
 rw [if_neg hne]
 split <;> simp_all
theorem zo6 {l : List UInt8} (n : Nat) {k : Nat} {s : List UInt8} {N : Int} {q : List UInt8} (h : wordOf l = some (k, s, N, q)) : wordsR l n = match wordsR (skipL q n).1 (skipL q n).2 with
  | .inl ws => .inl (⟨k, s, N, n⟩ :: ws)
  | .inr m => .inr m := by
 have hne : l ≠ [] := by intro he; subst he; cases h
 conv => lhs; unfold wordsR
 rw [if_neg hne]
 split
 ·rename_i h2; rw [h] at h2; cases h2
 ·rename_i k2 s2 N2 q2 h2
  rw [h] at h2
  cases h2
  rfl
section
variable {code : Nat → Option XFun} {ext : Calls'}
theorem zop (c : LexCode code ext) (x : UInt8) (r : List UInt8) (n : Int) (hl : (x :: r).length ≤ 1000000) :
  (∀ k s N q, wordOf (x :: r) = some (k, s, N, q) → callW code ext 194 [.optr 0 0] (scanM (x :: r) n) = some (.tup [.agg [.imm (.val (.int .u8 (k : Nat))), strV (bs s), int64 N, int64 n], avb true], scanM q n)) ∧
  (wordOf (x :: r) = none → ∃ (k : Int) (s : ByteArray) (N : Int) (l' : List UInt8), callW code ext 194 [.optr 0 0] (scanM (x :: r) n) = some (.tup [.agg [.imm (.val (.int .u8 k)), strV s, int64 N, int64 n], avb false], scanM l' n)) := by
 rw [zor]
 by_cases h34 : x.toNat = 34
 ·have hx : x = 34 := by
   have : x.toNat = (34 : UInt8).toNat := h34
   exact UInt8.toNat_inj.1 this
  subst hx
  rw [if_pos (show (34 : UInt8).toNat = 34 from rfl)]
  obtain ⟨l', ht, hq⟩ := zoy c r n (by simp at hl; omega)
  cases htx : textL [] r with
  | none =>
   have hv : textV r = ([], false) := by unfold textV; rw [htx]
   rw [hv] at ht
   exact ⟨fun k s N q h => (by cases h), fun _ => ⟨_, _, _, _, ht⟩⟩
  | some p =>
   obtain ⟨t, q⟩ := p
   have hv : textV r = (t, decide (t.length ≤ 4096)) := by unfold textV; rw [htx]
   rw [hv] at ht
   have := hq t q htx
   subst this
   by_cases h4 : t.length ≤ 4096
   ·simp only [h4, if_true]
    simp only [h4, decide_true] at ht
    exact ⟨fun k s N q h => (by cases h; exact ht), fun h => (by cases h)⟩
   ·simp only [h4, if_false]
    simp only [h4, decide_false] at ht
    exact ⟨fun k s N q h => (by cases h), fun _ => ⟨_, _, _, _, ht⟩⟩
 ·rw [if_neg h34]
  cases hlt : isLetter x with
  | true =>
   rw [if_pos rfl]
   have hw := zow c x r hlt h34 n hl
   by_cases h4 : ((x :: r).takeWhile isWord).length ≤ 4096
   ·rw [if_pos h4]
    rw [decide_eq_true h4] at hw
    exact ⟨fun k s N q h => (by cases h; exact hw), fun h => (by cases h)⟩
   ·rw [if_neg h4]
    rw [decide_eq_false h4] at hw
    exact ⟨fun k s N q h => (by cases h), fun _ => ⟨_, _, _, _, hw⟩⟩
  | false =>
   rw [if_neg (by simp)]
   cases hdg : isDigit x with
   | true =>
    rw [if_pos rfl]
    have hw := word_num c x r hlt hdg n hl
    cases hno : numOk ((x :: r).takeWhile isWord) with
    | true =>
     rw [hno] at hw
     rw [if_pos rfl]
     exact ⟨fun k s N q h => (by cases h; exact hw), fun h => (by cases h)⟩
    | false =>
     rw [hno] at hw
     rw [if_neg (by simp)]
     exact ⟨fun k s N q h => (by cases h), fun _ => ⟨_, _, _, _, hw⟩⟩
   | false =>
    rw [if_neg (by simp)]
    obtain ⟨w1, w2⟩ := zox c x r hlt hdg h34 n hl
    cases hsg : signOf (x :: r) with
    | some sg =>
     exact ⟨fun k s N q h => (by cases h; exact w1 sg hsg), fun h => (by cases h)⟩
    | none =>
     exact ⟨fun k s N q h => (by cases h), fun _ => ⟨_, _, _, _, w2 hsg⟩⟩
end
end Go.EX


set_option linter.unusedVariables false
set_option linter.unusedSimpArgs false
namespace Go.EX
section
variable {code : Nat → Option XFun} {ext : Calls'}
def lwV (ws : List W5) : AV := if ws.length = 0 then nilS else .osl 1 0 4 ws.length none
def lwM (ws : List W5) : Mem := if ws.length = 0 then [] else [.flat (rowW ws) false]
def comb5 (ws : List W5) : List W5 ⊕ Nat → List W5 ⊕ Nat
 | .inl us => .inl (ws ++ us)
 | .inr m => .inr m
theorem bs_ne (x : UInt8) (r : List UInt8) : ¬ bs (x :: r) = ByteArray.empty := by
 intro h
 have : bs (x :: r) = bs [] := h
 rw [bs_inj] at this
 cases this
theorem skip5 (c : LexCode code ext) (l : List UInt8) (n : Nat) (hl : l.length ≤ 1000000) (hb : n + l.length ≤ 1000000000) : callW code ext 189 [.optr 0 0] (scanM l (n : Nat)) = some (.tup [], scanM (skipL l n).1 ((skipL l n).2 : Nat)) :=
 zmq (ext := ext) c.c189 c.c188 c.c190 c.c191 c.c798 c.c725 l n hl hb
theorem zpc (c : LexCode code ext) (ws : List W5) (hws : ws.length ≤ 1000000) (x : UInt8) (r : List UInt8) (n : Nat) (hl : (x :: r).length ≤ 1000000) (hb : n + (x :: r).length ≤ 1000000000) :
  (∀ k s N q, wordOf (x :: r) = some (k, s, N, q) → ∃ s', den code ext x568L1 ⟨0, [(5, .optr 0 0), (6, lwV ws)], .rich [strV (bs (x :: r)), int64 (n : Nat)] :: lwM ws⟩ = some (.normal, s') ∧
   s'.tidy [5, 6] = ⟨0, [(5, .optr 0 0), (6, lwV (ws ++ [⟨k, s, N, n⟩]))], .rich [strV (bs (skipL q n).1), int64 ((skipL q n).2 : Nat)] :: lwM (ws ++ [⟨k, s, N, n⟩])⟩) ∧
  (wordOf (x :: r) = none → ∃ l' J, den code ext x568L1 ⟨0, [(5, .optr 0 0), (6, lwV ws)], .rich [strV (bs (x :: r)), int64 (n : Nat)] :: lwM ws⟩ = some (.ret, ⟨0, [(2, nilS), (3, int64 (n : Nat)), (4, int64 4)], .rich [strV (bs l'), int64 (n : Nat)] :: J⟩)) := by
 obtain ⟨w1, w2⟩ := zop c x r (n : Nat) hl
 have hne := bs_ne x r
 have hrl := zkz ws
 constructor
 ·intro k s N q hw
  have hq := zou hw
  have h1 := w1 k s N q hw
  have h2 := skip5 c q n (by omega) (by omega)
  have hlen : (ws ++ [(⟨k, s, N, n⟩ : W5)]).length = ws.length + 1 := by simp
  have hrow : rowW (ws ++ [(⟨k, s, N, n⟩ : W5)]) = rowW ws ++ [.val (.int .u8 (k : Nat)), .val (.string (bs s)), .val (.int .i64 N), .val (.int .i64 (n : Nat))] := zk1 ws _
  unfold lwV lwM
  rw [hlen, hrow]
  unfold scanM at h1 h2
  clear w1 w2 hw hl hb hq hlen hrow
  generalize bs (skipL q n).1 = R2 at *
  generalize (skipL q n).2 = n2 at *
  generalize bs q = Q at *
  generalize bs s = T at *
  generalize bs (x :: r) = B at *
  by_cases h0 : ws.length = 0
  ·have hw0 : rowW ws = [] := by
    have : ws = [] := List.eq_nil_of_length_eq_zero h0
    subst this; rfl
   rw [if_pos h0, if_pos h0, if_neg (by omega), if_neg (by omega), hw0, h0]
   refine ⟨⟨0, [(5, .optr 0 0), (6, .osl 3 0 4 1 none)], [.rich [strV R2, int64 (n2 : Nat)], .rich [.imm (.val (.int .u8 (k : Nat))), strV T, int64 N, int64 (n : Nat)], .flat [.val (.int .u8 (k : Nat)), .val (.string T), .val (.int .i64 N), .val (.int .i64 (n : Nat))] false, .flat [.val (.int .u8 (k : Nat)), .val (.string T), .val (.int .i64 N), .val (.int .i64 (n : Nat))] false]⟩, ?_, by simp -implicitDefEqProofs⟩
   simp -implicitDefEqProofs [x568L1, h1, h2, hne, exAppendX, exAppend, elems]
  ·have hcut : cut (rowW ws) 0 (ws.length * 4) = some (rowW ws) := zb2 _ hrl
   have hle : (ws.length + 1) * 40 ≤ 140737488355328 := by omega
   rw [if_neg h0, if_neg h0, if_neg (by omega), if_neg (by omega)]
   generalize rowW ws = RW at *
   generalize ws.length = wl at *
   refine ⟨⟨0, [(5, .optr 0 0), (6, .osl 1 0 4 (wl + 1) none)], [.rich [strV R2, int64 (n2 : Nat)], .flat (RW ++ [.val (.int .u8 (k : Nat)), .val (.string T), .val (.int .i64 N), .val (.int .i64 (n : Nat))]) false, .rich [.imm (.val (.int .u8 (k : Nat))), strV T, int64 N, int64 (n : Nat)], .flat [.val (.int .u8 (k : Nat)), .val (.string T), .val (.int .i64 N), .val (.int .i64 (n : Nat))] false]⟩, ?_, by simp -implicitDefEqProofs⟩
   simp -implicitDefEqProofs [x568L1, h1, h2, hne, exAppendX, exAppend, elems, hcut, hle]
 ·intro hw
  obtain ⟨k, s, N, l', h1⟩ := w2 hw
  unfold scanM at h1
  clear w1 w2 hw hl hb
  by_cases h0 : ws.length = 0
  ·refine ⟨l', [.rich [.imm (.val (.int .u8 k)), strV s, int64 N, int64 (n : Nat)]], ?_⟩
   unfold lwV lwM
   rw [if_pos h0, if_pos h0]
   generalize bs l' = L2 at *
   generalize bs (x :: r) = B at *
   simp -implicitDefEqProofs [x568L1, h1, hne]
  ·refine ⟨l', [.flat (rowW ws) false, .rich [.imm (.val (.int .u8 k)), strV s, int64 N, int64 (n : Nat)]], ?_⟩
   unfold lwV lwM
   rw [if_neg h0, if_neg h0]
   generalize bs l' = L2 at *
   generalize bs (x :: r) = B at *
   generalize rowW ws = RW at *
   simp -implicitDefEqProofs [x568L1, h1, hne]
theorem zpa (c : LexCode code ext) (l0 : List UInt8) (n0 : Nat) (hl : l0.length ≤ 1000000) (hb : n0 + l0.length ≤ 1000000000) :
  ∃ e s', den code ext (.loop [5, 6] x568L1) ⟨0, [(5, .optr 0 0), (6, nilS)], [.rich [strV (bs l0), int64 (n0 : Nat)]]⟩ = some (e, s') ∧ e ≠ .normal ∧
   ((∃ ws, wordsR l0 n0 = .inl ws ∧ e = .exit 0 ∧ ∃ n, s' = ⟨0, [(5, .optr 0 0), (6, lwV ws), (21, avb false)], .rich [strV .empty, int64 (n : Nat)] :: lwM ws⟩) ∨
    (∃ m, wordsR l0 n0 = .inr m ∧ e = .ret ∧ ∃ l' J, s' = ⟨0, [(2, nilS), (3, int64 (m : Nat)), (4, int64 4)], .rich [strV (bs l'), int64 (m : Nat)] :: J⟩)) := by
 refine zg2 (fun m s => ∃ l n ws, l.length = m ∧ ws.length + l.length ≤ l0.length ∧ n + l.length ≤ n0 + l0.length ∧ comb5 ws (wordsR l n) = wordsR l0 n0 ∧ s.tidy [5, 6] = ⟨0, [(5, .optr 0 0), (6, lwV ws)], .rich [strV (bs l), int64 (n : Nat)] :: lwM ws⟩) _ ?_ l0.length _
  ⟨l0, n0, [], rfl, by simp, by simp, by cases wordsR l0 n0 <;> rfl, by unfold lwV lwM; simp -implicitDefEqProofs⟩
 rintro m s ⟨l, n, ws, hm, h1, h2, hcb, hst⟩
 rw [hst]
 cases l with
 | nil =>
  rw [zo7] at hcb
  refine ⟨.exit 0, _, ?_, .inr ⟨by simp, .inl ⟨ws, ?_, rfl, n, rfl⟩⟩⟩
  ·have he : bs [] = ByteArray.empty := rfl
   rw [he]
   unfold lwV lwM
   by_cases h0 : ws.length = 0
   ·rw [if_pos h0, if_pos h0]
    simp -implicitDefEqProofs [x568L1]
   ·rw [if_neg h0, if_neg h0]
    generalize rowW ws = RW at *
    simp -implicitDefEqProofs [x568L1]
  ·rw [← hcb]
   simp [comb5]
 | cons x r =>
  obtain ⟨r1, r2⟩ := zpc c ws (by omega) x r n (by omega) (by omega)
  cases hw : wordOf (x :: r) with
  | none =>
   obtain ⟨l', J, g1⟩ := r2 hw
   rw [zo3 n (by simp) hw] at hcb
   exact ⟨.ret, _, g1, .inr ⟨by simp, .inr ⟨n, hcb.symm, rfl, l', J, rfl⟩⟩⟩
  | some p =>
   obtain ⟨k, sx, N, q⟩ := p
   obtain ⟨s', g1, g2⟩ := r1 k sx N q hw
   have hq := zou hw
   have hsk := zml _ q n rfl
   refine ⟨.normal, s', g1, .inl ⟨rfl, _, by omega, _, _, _, rfl, ?_, ?_, ?_, g2⟩⟩
   ·simp only [List.length_append, List.length_singleton]; omega
   ·omega
   ·rw [← hcb, zo6 n hw]
    cases wordsR (skipL q n).1 (skipL q n).2 with
    | inl us => simp [comb5]
    | inr m => rfl
theorem zoz (c : LexCode code ext) (l : List UInt8) (hl : l.length ≤ 1000000) :
  callW code ext 568 [strV (bs l)] [] =
   if 65536 < l.length then some (.tup [nilS, int64 0, int64 3], [])
   else match wordsL l 0 with
    | .inl ws => some (.tup [if ws.length = 0 then nilS else .osl 0 0 4 ws.length none, int64 0, int64 0], lwM ws)
    | .inr m => some (.tup [nilS, int64 (m : Nat), int64 4], []) := by
 rw [zba code ext c.c568]
 have hz := za2 l
 by_cases hbig : 65536 < l.length
 ·rw [if_pos hbig]
  have hbig' : (65536 : Int) < l.length := by omega
  generalize bs l = B at *
  simp -implicitDefEqProofs [x568, hz, hbig, hbig']
 ·rw [if_neg hbig]
  have hbig' : ¬ (65536 : Int) < l.length := by omega
  have hsk : callW code ext 189 [.optr 0 0] (scanM l 0) = some (.tup [], scanM (skipL l 0).1 ((skipL l 0).2 : Nat)) := skip5 c l 0 hl (by omega)
  have hlen := zml _ l 0 rfl
  obtain ⟨e, s', l1, _, hor⟩ := zpa c (skipL l 0).1 (skipL l 0).2 (by omega) (by omega)
  unfold wordsL
  unfold x568 scanM at *
  generalize x568L1 = L at *
  rcases hor with ⟨ws, h1, rfl, n, rfl⟩ | ⟨m, h1, rfl, l', J, rfl⟩
  ·rw [h1]
   dsimp only
   unfold lwV lwM at *
   clear h1 hlen hl
   generalize bs (skipL l 0).1 = R at *
   generalize (skipL l 0).2 = q at *
   generalize bs l = B at *
   by_cases h0 : ws.length = 0
   ·rw [if_pos h0] at l1 ⊢
    rw [if_pos h0] at l1 ⊢
    simp -implicitDefEqProofs [l1, hz, hbig, hbig', hsk]
   ·rw [if_neg h0] at l1 ⊢
    rw [if_neg h0] at l1 ⊢
    generalize rowW ws = RW at *
    simp -implicitDefEqProofs [l1, hz, hbig, hbig', hsk]
  ·rw [h1]
   dsimp only
   clear h1 hlen hl
   generalize bs (skipL l 0).1 = R at *
   generalize (skipL l 0).2 = q at *
   generalize bs l = B at *
   generalize bs l' = B2 at *
   simp -implicitDefEqProofs [l1, hz, hbig, hbig', hsk]
end
end Go.EX


set_option linter.unusedVariables false
set_option linter.unusedSimpArgs false
namespace Go.EX
theorem tw_nl (p : UInt8 → Bool) (hp : p 10 = false) : ∀ (l b : List UInt8), (l ++ 10 :: b).takeWhile p = l.takeWhile p ∧ (l ++ 10 :: b).dropWhile p = l.dropWhile p ++ 10 :: b
 | [], b => by simp [List.takeWhile, List.dropWhile, hp]
 | x :: l, b => by
  obtain ⟨h1, h2⟩ := tw_nl p hp l b
  cases hx : p x with
  | false => simp [List.takeWhile, List.dropWhile, hx]
  | true => simp [List.takeWhile, List.dropWhile, hx, h1, h2]
theorem zn6 (p : UInt8 → Bool) : ∀ (l b : List UInt8), l.dropWhile p = [] → (l ++ b).takeWhile p = l ++ b.takeWhile p ∧ (l ++ b).dropWhile p = b.dropWhile p
 | [], b, _ => by simp
 | x :: l, b, h => by
  cases hx : p x with
  | false => simp [List.dropWhile, hx] at h
  | true =>
   obtain ⟨h1, h2⟩ := zn6 p l b (by simpa [List.dropWhile, hx] using h)
   simp [List.takeWhile, List.dropWhile, hx, h1, h2]
theorem zn5 (p : UInt8 → Bool) : ∀ (l b : List UInt8), l.dropWhile p ≠ [] → (l ++ b).takeWhile p = l.takeWhile p ∧ (l ++ b).dropWhile p = l.dropWhile p ++ b
 | [], b, h => absurd rfl h
 | x :: l, b, h => by
  cases hx : p x with
  | false => simp [List.takeWhile, List.dropWhile, hx]
  | true =>
   obtain ⟨h1, h2⟩ := zn5 p l b (by simpa [List.dropWhile, hx] using h)
   simp [List.takeWhile, List.dropWhile, hx, h1, h2]
theorem zn7 (p : UInt8 → Bool) : ∀ (l : List UInt8), l.dropWhile p = [] → l.takeWhile p = l
 | [], _ => rfl
 | x :: l, h => by
  cases hx : p x with
  | false => simp [List.dropWhile, hx] at h
  | true => simp [List.takeWhile, hx, zn7 p l (by simpa [List.dropWhile, hx] using h)]
theorem zn4 (p : UInt8 → Bool) (l : List UInt8) : l.takeWhile p ++ l.dropWhile p = l := List.takeWhile_append_dropWhile
theorem zbv (a b : List UInt8) : countNL (a ++ b) = countNL a + countNL b := List.countP_append
theorem zbx (b : List UInt8) : countNL (10 :: b) = countNL b + 1 := by unfold countNL; simp
theorem zby {l : List UInt8} (h : ∀ x ∈ l, x.toNat ≠ 10) : countNL l = 0 := by
 unfold countNL
 rw [List.countP_eq_zero]
 intro x hx
 simpa using h x hx
theorem pre_nl : ∀ (p l b : List UInt8), (∀ x ∈ p, x ≠ 10) → hasPre p (l ++ 10 :: b) = hasPre p l := by
 intro p
 induction p with
 | nil => intro l b _; unfold hasPre; simp
 | cons x p ih =>
  intro l b hp
  have hx : x ≠ 10 := hp x (List.mem_cons_self ..)
  cases l with
  | nil =>
   have : hasPre (x :: p) (10 :: b) = false := zji (by intro q hq; simp at hq; exact hx hq.1.symm)
   rw [List.nil_append, this]
   unfold hasPre
   simp
  | cons y l =>
   have := ih l b fun z hz => hp z (List.mem_cons_of_mem _ hz)
   unfold hasPre at this ⊢
   simp only [List.cons_append, List.length_cons, List.take_succ_cons, List.cons.injEq, decide_eq_decide] at this ⊢
   rw [this]
theorem zjj {p l : List UInt8} (h : hasPre p l = true) : p.length ≤ l.length := by
 unfold hasPre at h
 have := congrArg List.length (of_decide_eq_true h)
 rw [List.length_take] at this
 omega
theorem zmk : ∀ (m : Nat) (l b : List UInt8) (n : Nat), l.length = m →
  skipL (l ++ 10 :: b) n = if (skipL l n).1 = [] then skipL b ((skipL l n).2 + 1) else ((skipL l n).1 ++ 10 :: b, (skipL l n).2) := by
 intro m
 induction m using Nat.strongRecOn with
 | _ m ih =>
  intro l b n hm
  have hb10 : isBlank 10 = true := by decide
  by_cases hr : l.dropWhile isBlank = []
  ·have hp : hasPre [47, 47] (l.dropWhile isBlank) = false := by rw [hr]; rfl
   rw [zmj n hp, if_pos hr]
   obtain ⟨t1, t2⟩ := zn6 isBlank l (10 :: b) hr
   have t3 := zn7 isBlank l hr
   have e1 : (l ++ 10 :: b).dropWhile isBlank = b.dropWhile isBlank := by rw [t2]; simp [List.dropWhile, hb10]
   have e2 : countNL ((l ++ 10 :: b).takeWhile isBlank) = countNL l + 1 + countNL (b.takeWhile isBlank) := by
    rw [t1, zbv]
    have : (10 :: b).takeWhile isBlank = 10 :: b.takeWhile isBlank := by simp [List.takeWhile, hb10]
    rw [this, zbx]
    omega
   dsimp only
   rw [t3]
   cases hp2 : hasPre [47, 47] (b.dropWhile isBlank) with
   | true => rw [zmm _ (by rw [e1]; exact hp2), zmm _ hp2, e1, e2]; congr 1; omega
   | false => rw [zmj _ (by rw [e1]; exact hp2), zmj _ hp2, e1, e2]; congr 1; omega
  ·obtain ⟨t1, t2⟩ := zn5 isBlank l (10 :: b) hr
   have hpp : hasPre [47, 47] ((l ++ 10 :: b).dropWhile isBlank) = hasPre [47, 47] (l.dropWhile isBlank) := by rw [t2]; exact pre_nl _ _ _ (by decide)
   cases hp : hasPre [47, 47] (l.dropWhile isBlank) with
   | false =>
    rw [hp] at hpp
    rw [zmj n hpp, zmj n hp, t1, t2, if_neg hr]
   | true =>
    rw [hp] at hpp
    rw [zmm n hpp, zmm n hp, t1, t2]
    have hn10 : notEnd 10 = false := by decide
    rw [(tw_nl notEnd hn10 (l.dropWhile isBlank) b).2]
    exact ih _ (by have := zhw hp; omega) _ b _ rfl
theorem zmn (d : Nat) : ∀ (m : Nat) (l : List UInt8) (n : Nat), l.length = m → skipL l (n + d) = ((skipL l n).1, (skipL l n).2 + d) := by
 intro m
 induction m using Nat.strongRecOn with
 | _ m ih =>
  intro l n hm
  cases hp : hasPre [47, 47] (l.dropWhile isBlank) with
  | false => rw [zmj _ hp, zmj _ hp]; dsimp only; congr 1; omega
  | true =>
   rw [zmm _ hp, zmm _ hp, ← ih _ (by have := zhw hp; omega) _ (n + countNL (l.takeWhile isBlank)) rfl]
   congr 1
   omega
theorem zmi : ∀ (m : Nat) (l : List UInt8) (n : Nat), l.length = m → (skipL l n).2 + countNL (skipL l n).1 = n + countNL l := by
 intro m
 induction m using Nat.strongRecOn with
 | _ m ih =>
  intro l n hm
  have hs := congrArg countNL (zn4 isBlank l)
  rw [zbv] at hs
  cases hp : hasPre [47, 47] (l.dropWhile isBlank) with
  | false => rw [zmj _ hp]; dsimp only; omega
  | true =>
   have hs2 := congrArg countNL (zn4 notEnd (l.dropWhile isBlank))
   rw [zbv] at hs2
   have h0 : countNL ((l.dropWhile isBlank).takeWhile notEnd) = 0 := zby fun x hx => by
    have := tw_all notEnd _ x hx
    unfold notEnd at this
    simpa using this
   rw [zmm _ hp, ih _ (by have := zhw hp; omega) _ _ rfl]
   omega
theorem zm1 (r b : List UInt8) : stepT (r ++ 10 :: b) = stepT r := by
 match r with
 | [] => simp [stepT]
 | [x] =>
  by_cases h1 : x = 34
  ·subst h1; simp [stepT]
  ·by_cases h2 : x = 92
   ·subst h2; simp [stepT]
   ·unfold stepT
    split <;> first | rfl | simp_all
 | x :: y :: q =>
  by_cases h1 : x = 34
  ·subst h1; simp [stepT]
  ·by_cases h2 : x = 92
   ·subst h2
    by_cases h3 : y = 92
    ·subst h3; simp [stepT]
    ·by_cases h4 : y = 34
     ·subst h4; simp [stepT]
     ·by_cases h5 : y = 110
      ·subst h5; simp [stepT]
      ·have e1 : stepT (92 :: y :: q) = none := by unfold stepT; split <;> simp_all
       have e2 : stepT (92 :: y :: (q ++ 10 :: b)) = none := by unfold stepT; split <;> simp_all
       exact e2.trans e1.symm
   ·have e1 : stepT (x :: y :: q) = none := by unfold stepT; split <;> simp_all
    have e2 : stepT (x :: y :: (q ++ 10 :: b)) = none := by unfold stepT; split <;> simp_all
    exact e2.trans e1.symm
theorem znk (b : List UInt8) : ∀ (m : Nat) (acc l : List UInt8), l.length = m → textL acc (l ++ 10 :: b) = (textL acc l).map fun p => (p.1, p.2 ++ 10 :: b) := by
 intro m
 induction m using Nat.strongRecOn with
 | _ m ih =>
  intro acc l hm
  have hp10 : isPlain 10 = false := by decide
  obtain ⟨t1, t2⟩ := tw_nl isPlain hp10 l b
  have hst : stepT ((l ++ 10 :: b).dropWhile isPlain) = stepT (l.dropWhile isPlain) := by rw [t2]; exact zm1 _ _
  cases hs : stepT (l.dropWhile isPlain) with
  | none => rw [hs] at hst; rw [znh acc hst, znh acc hs]; rfl
  | some o =>
   cases o with
   | none =>
    obtain ⟨q, hq⟩ := zmz hs
    rw [hs] at hst
    rw [znj acc hst, znj acc hs, t1, t2, hq]
    rfl
   | some c =>
    obtain ⟨d, q, hq, _⟩ := zm3 hs
    have hless := zm0 hs
    rw [hs] at hst
    rw [znm acc hst, znm acc hs, t1, t2, hq]
    rw [hq] at hless
    have hless : q.length < l.length := by simpa using hless
    exact ih _ (by omega) _ _ rfl
theorem zmf (l b : List UInt8) : signOf (l ++ 10 :: b) = signOf l := by
 unfold signOf
 have hall : ∀ s ∈ signs5, ∀ x ∈ s, x ≠ 10 := by decide
 have : ∀ (L : List (List UInt8)), (∀ s ∈ L, ∀ x ∈ s, x ≠ 10) → L.find? (fun s => hasPre s (l ++ 10 :: b)) = L.find? (fun s => hasPre s l) := by
  intro L
  induction L with
  | nil => intro _; rfl
  | cons s L ih =>
   intro h
   simp only [List.find?_cons, pre_nl s l b (h s (List.mem_cons_self ..)), ih fun t ht => h t (List.mem_cons_of_mem _ ht)]
 exact this signs5 hall
theorem zot (x : UInt8) (r b : List UInt8) : wordOf (x :: r ++ 10 :: b) = (wordOf (x :: r)).map fun p => (p.1, p.2.1, p.2.2.1, p.2.2.2 ++ 10 :: b) := by
 have hw10 : isWord 10 = false := by decide
 obtain ⟨t1, t2⟩ := tw_nl isWord hw10 (x :: r) b
 have hsg := zmf (x :: r) b
 rw [List.cons_append] at t1 t2 hsg ⊢
 rw [zor, zor, t1, t2, hsg, znk b _ [] r rfl]
 split
 ·cases textL [] r with
  | none => rfl
  | some p => simp only [Option.map_some]; split <;> rfl
 split
 ·split <;> rfl
 split
 ·split <;> rfl
 ·cases hs : signOf (x :: r) with
  | none => rfl
  | some sg =>
   have hle : sg.length ≤ (x :: r).length := by
    unfold signOf at hs
    exact zjj (List.find?_some (p := fun s => hasPre s (x :: r)) hs)
   simp only [Option.map_some]
   have : (x :: (r ++ 10 :: b)).drop sg.length = (x :: r).drop sg.length ++ 10 :: b := by
    rw [← List.cons_append, List.drop_append_of_le_length hle]
   rw [this]
theorem zni : ∀ (m : Nat) (acc l : List UInt8), l.length = m → ∀ t q, textL acc l = some (t, q) → countNL q = countNL l := by
 intro m
 induction m using Nat.strongRecOn with
 | _ m ih =>
  intro acc l hm t q h
  have hs2 := congrArg countNL (zn4 isPlain l)
  rw [zbv] at hs2
  have h0 : countNL (l.takeWhile isPlain) = 0 := zby fun x hx => by
   have := tw_all isPlain _ x hx
   unfold isPlain at this
   simp only [Bool.and_eq_true, Bool.not_eq_true', decide_eq_false_iff_not] at this
   exact this.2
  cases hs : stepT (l.dropWhile isPlain) with
  | none => rw [znh acc hs] at h; cases h
  | some o =>
   cases o with
   | none =>
    obtain ⟨r, hr⟩ := zmz hs
    rw [znj acc hs, hr] at h
    rw [hr] at hs2
    cases h
    have : countNL (34 :: r) = countNL r := by unfold countNL; simp
    rw [List.drop_one, List.tail_cons]
    omega
   | some c =>
    obtain ⟨d, r, hr, hd⟩ := zm3 hs
    have hless := zm0 hs
    rw [znm acc hs] at h
    have h3 := ih _ (by omega) _ _ rfl t q h
    rw [hr] at h3 hs2
    have : countNL (92 :: d :: r) = countNL r := by
     unfold countNL
     rcases hd with ⟨rfl, _⟩ | ⟨rfl, _⟩ | ⟨rfl, _⟩ <;> simp
    have e : List.drop 2 (92 :: d :: r) = r := rfl
    rw [e] at h3
    omega
theorem zov {l : List UInt8} : countNL (l.dropWhile isWord) = countNL l := by
 have hs2 := congrArg countNL (zn4 isWord l)
 rw [zbv] at hs2
 have h0 : countNL (l.takeWhile isWord) = 0 := zby fun x hx => by
  have := tw_all isWord _ x hx
  intro h10
  unfold isWord isDigit isLetter at this
  simp only [h10, Bool.or_eq_true, Bool.and_eq_true, decide_eq_true_eq] at this
  omega
 omega
theorem zos {l : List UInt8} {k : Nat} {s : List UInt8} {N : Int} {q : List UInt8} (h : wordOf l = some (k, s, N, q)) : countNL q = countNL l := by
 cases l with
 | nil => cases h
 | cons x r =>
  rw [zor] at h
  split at h
  ·rename_i h34
   split at h
   ·rename_i ht
    split at h
    ·cases h
     rw [zni _ [] r rfl _ _ ht]
     unfold countNL
     simp [h34]
    ·cases h
   ·cases h
  split at h
  ·split at h
   ·cases h; exact zov
   ·cases h
  split at h
  ·split at h
   ·cases h; exact zov
   ·cases h
  cases hsg : signOf (x :: r) with
  | none => rw [hsg] at h; cases h
  | some sg =>
   rw [hsg] at h
   simp only [Option.some.injEq, Prod.mk.injEq] at h
   obtain ⟨_, _, _, rfl⟩ := h
   unfold signOf at hsg
   have hm : sg ∈ signs5 := List.mem_of_find?_eq_some hsg
   have hpre : hasPre sg (x :: r) = true := List.find?_some (p := fun s => hasPre s (x :: r)) hsg
   have hall : ∀ s ∈ signs5, countNL s = 0 := by decide
   unfold hasPre at hpre
   have ht := of_decide_eq_true hpre
   have hs2 := congrArg countNL (List.take_append_drop sg.length (x :: r))
   rw [zbv, ht, hall sg hm] at hs2
   omega
def shift5 (d : Nat) : List W5 ⊕ Nat → List W5 ⊕ Nat
 | .inl ws => .inl (ws.map fun w => { w with line := w.line + d })
 | .inr m => .inr (m + d)
theorem zo8 (d : Nat) : ∀ (m : Nat) (l : List UInt8) (n : Nat), l.length = m → wordsR l (n + d) = shift5 d (wordsR l n) := by
 intro m
 induction m using Nat.strongRecOn with
 | _ m ih =>
  intro l n hm
  by_cases hne : l = []
  ·subst hne; rw [zo7, zo7]; rfl
  ·cases hw : wordOf l with
   | none => rw [zo3 _ hne hw, zo3 _ hne hw]; rfl
   | some p =>
    obtain ⟨k, s, N, q⟩ := p
    have hq := zou hw
    have hsl := zml _ q n rfl
    rw [zo6 _ hw, zo6 _ hw, zmn d _ q n rfl]
    dsimp only
    rw [ih _ (by omega) _ _ rfl]
    cases wordsR (skipL q n).1 (skipL q n).2 <;> rfl
theorem zo2 (d : Nat) (l : List UInt8) (n : Nat) : wordsL l (n + d) = shift5 d (wordsL l n) := by
 unfold wordsL
 rw [zmn d _ l n rfl]
 exact zo8 d _ _ _ rfl
theorem zo5 (b : List UInt8) : ∀ (m : Nat) (l : List UInt8) (n : Nat), l.length = m → l ≠ [] →
  wordsR (l ++ 10 :: b) n = match wordsR l n with
   | .inr e => .inr e
   | .inl ws => comb5 ws (wordsL b (n + countNL l + 1)) := by
 intro m
 induction m using Nat.strongRecOn with
 | _ m ih =>
  intro l n hm hne
  cases l with
  | nil => exact absurd rfl hne
  | cons x r =>
   have hj := zot x r b
   cases hw : wordOf (x :: r) with
   | none =>
    rw [hw] at hj
    rw [zo3 n (by simp) hj, zo3 n (by simp) hw]
   | some p =>
    obtain ⟨k, s, N, q⟩ := p
    rw [hw] at hj
    have hq := zou hw
    have hc := zos hw
    have hsl := zml _ q n rfl
    have hsc := zmi _ q n rfl
    rw [zo6 n hj, zo6 n hw]
    dsimp only
    rw [zmk _ q b n rfl]
    by_cases he : (skipL q n).1 = []
    ·rw [if_pos he, he, zo7]
     rw [he] at hsc
     have h0 : countNL ([] : List UInt8) = 0 := rfl
     have hline : (skipL q n).2 + 1 = n + countNL (x :: r) + 1 := by omega
     rw [hline]
     dsimp only
     have : wordsR (skipL b (n + countNL (x :: r) + 1)).1 (skipL b (n + countNL (x :: r) + 1)).2 = wordsL b (n + countNL (x :: r) + 1) := rfl
     rw [this]
     cases wordsL b (n + countNL (x :: r) + 1) <;> rfl
    ·rw [if_neg he]
     dsimp only
     rw [ih _ (by omega) _ _ rfl he, show (skipL q n).2 + countNL (skipL q n).1 + 1 = n + countNL (x :: r) + 1 by omega]
     cases wordsR (skipL q n).1 (skipL q n).2 with
     | inr e => rfl
     | inl ws => dsimp only; cases wordsL b (n + countNL (x :: r) + 1) <;> rfl
theorem zo1 (l b : List UInt8) (n : Nat) : wordsL (l ++ 10 :: b) n = match wordsL l n with
  | .inr e => .inr e
  | .inl ws => comb5 ws (wordsL b (n + countNL l + 1)) := by
 have hsc := zmi _ l n rfl
 unfold wordsL
 rw [zmk _ l b n rfl]
 by_cases he : (skipL l n).1 = []
 ·rw [if_pos he, he, zo7]
  rw [he] at hsc
  have h0 : countNL ([] : List UInt8) = 0 := rfl
  rw [show (skipL l n).2 + 1 = n + countNL l + 1 by omega]
  dsimp only
  cases wordsR (skipL b (n + countNL l + 1)).1 (skipL b (n + countNL l + 1)).2 <;> rfl
 ·rw [if_neg he]
  dsimp only
  rw [zo5 b _ _ _ rfl he, show (skipL l n).2 + countNL (skipL l n).1 + 1 = n + countNL l + 1 by omega]
  rfl
end Go.EX


set_option linter.unusedVariables false
set_option linter.unusedSimpArgs false
namespace Go.EX
def t5 : Ty W5 := ⟨4, true, W5.cells, fun _ => True, fun _ => rfl⟩
theorem zky {ws : List W5} {i : Nat} {w : W5} (h : ws[i]? = some w) : cut (rowW ws) (i * 4) 4 = some w.cells := zeq (t := t5) h
theorem zkx {ws : List W5} {i : Nat} {w : W5} (h : ws[i]? = some w) (j : Nat) (hj : j < 4) : (rowW ws)[i * 4 + j]? = w.cells[j]? := zb3 (zky h) j hj
theorem zk0 {ws : List W5} {i : Nat} {w : W5} (h : ws[i]? = some w) (n : Nat) :
  setAll (rowW ws) (i * 4 + 3) [.val (.int .i64 (n : Nat))] = rowW (ws.set i { w with line := n }) := by
 obtain ⟨hi, hxi⟩ := List.getElem?_eq_some_iff.1 h
 have hw := zl1 (t := t5) (by decide) hi { w with line := n }
 have hlen := zkz ws
 refine Eq.trans ?_ hw
 refine List.ext_getElem? fun j => ?_
 show (setAll (rowW ws) _ _)[j]? = (setAll (rowW ws) (i * 4) (W5.cells { w with line := n }))[j]?
 have hc : (W5.cells { w with line := n }).length = 4 := rfl
 rw [zl2, zl2, hc, List.length_singleton]
 by_cases h1 : i * 4 + 3 ≤ j ∧ j < i * 4 + 3 + 1 ∧ j < (rowW ws).length
 ·have : j = i * 4 + 3 := by omega
  subst this
  rw [if_pos h1, if_pos (by omega), show i * 4 + 3 - (i * 4 + 3) = 0 by omega, show i * 4 + 3 - i * 4 = 3 by omega]
  rfl
 ·rw [if_neg h1]
  by_cases h2 : i * 4 ≤ j ∧ j < i * 4 + 4 ∧ j < (rowW ws).length
  ·rw [if_pos h2]
   obtain ⟨q, rfl⟩ : ∃ q, j = i * 4 + q := ⟨j - i * 4, by omega⟩
   have hq : q < 3 := by omega
   rw [zkx h q (by omega), show i * 4 + q - i * 4 = q by omega]
   match q, hq with
   | 0, _ => rfl
   | 1, _ => rfl
   | 2, _ => rfl
  ·rw [if_neg h2]
section
variable {code : Nat → Option XFun} {ext : Calls'}
def vW (ws : List W5) : AV := if ws.length = 0 then nilS else .imm (.slice (rowW ws) 0 ws.length none)
theorem zlq (h358 : code 358 = some x358) (ws : List W5) (hl : ws.length ≤ 1000000000) : callW code ext 358 [vW ws, vW ws] [] = some (avb true, []) := by
 rw [zba code ext h358]
 by_cases h0 : ws.length = 0
 ·unfold vW
  rw [if_pos h0]
  have L : den code ext (.loop [0, 1, 5] x358L1) ⟨0, [(0, nilS), (1, nilS), (5, int64 0)], []⟩ = some (.exit 0, ⟨0, [(0, nilS), (1, nilS), (5, int64 0), (14, avb false)], []⟩) := by
   rw [zcf]
   have : den code ext x358L1 (St.tidy ⟨0, [(0, nilS), (1, nilS), (5, int64 0)], []⟩ [0, 1, 5]) = some (.exit 0, ⟨0, [(0, nilS), (1, nilS), (5, int64 0), (14, avb false)], []⟩) := by simp -implicitDefEqProofs [x358L1]
   rw [this]
   rfl
  unfold x358
  unfold nilS at *
  generalize x358L1 = LL at *
  simp -implicitDefEqProofs [L]
 ·unfold vW
  rw [if_neg h0]
  have L : ∃ e s', den code ext (.loop [0, 1, 5] x358L1) ⟨0, [(0, .imm (.slice (rowW ws) 0 ws.length none)), (1, .imm (.slice (rowW ws) 0 ws.length none)), (5, int64 0)], []⟩ = some (e, s') ∧ e ≠ .normal ∧
    (e = .exit 0 ∧ s' = ⟨0, [(0, .imm (.slice (rowW ws) 0 ws.length none)), (1, .imm (.slice (rowW ws) 0 ws.length none)), (5, int64 (ws.length : Nat)), (14, avb false)], []⟩) := by
   refine zg2 (fun m s => ∃ i, i + m = ws.length ∧ s = ⟨0, [(0, .imm (.slice (rowW ws) 0 ws.length none)), (1, .imm (.slice (rowW ws) 0 ws.length none)), (5, int64 (i : Nat))], []⟩) _ ?_ ws.length _ ⟨0, by simp, rfl⟩
   rintro m s ⟨i, hi, rfl⟩
   by_cases hlt : i < ws.length
   ·have hx := List.getElem?_eq_getElem hlt
    have hcut := zky hx
    unfold W5.cells at hcut
    have e1 : IntKind.wrap .i64 ((i : Int) + 1) = ((i + 1 : Nat) : Int) := by rw [wrapI64 (by omega) (by omega)]; omega
    clear hx
    generalize ws[i] = w at *
    have hTT : (bs w.s == bs w.s) = true := (beq_self_eq_true w.s.toArray : (w.s.toArray == w.s.toArray) = true)
    refine ⟨.normal, ⟨0, [(0, .imm (.slice (rowW ws) 0 ws.length none)), (1, .imm (.slice (rowW ws) 0 ws.length none)), (5, int64 (i + 1 : Nat))], []⟩, ?_, .inl ⟨rfl, m - 1, by omega, i + 1, by omega, rfl⟩⟩
    generalize rowW ws = RW at *
    generalize ws.length = wl at *
    generalize i + 1 = i1 at *
    generalize bs w.s = T at *
    generalize (w.line : Int) = wn at *
    generalize (w.k : Int) = wk at *
    simp -implicitDefEqProofs [x358L1, hlt, hcut, e1, hTT]
   ·have hil : i = ws.length := by omega
    subst hil
    refine ⟨.exit 0, _, ?_, .inr ⟨by simp, rfl, rfl⟩⟩
    generalize rowW ws = RW at *
    generalize ws.length = wl at *
    simp -implicitDefEqProofs [x358L1]
  obtain ⟨e, s', l1, _, rfl, rfl⟩ := L
  unfold x358
  generalize x358L1 = LL at *
  generalize rowW ws = RW at *
  generalize ws.length = wl at *
  simp -implicitDefEqProofs [l1]
def jE (a : List UInt8) (x5 x6 x7 x8 x9 x10 x11 x12 x13 : AV) (k i : Nat) : Env :=
 [(0, strV (bs a)), (5, x5), (6, x6), (7, x7), (8, x8), (9, x9), (10, x10), (11, x11), (12, x12), (13, x13), (14, int64 (k : Nat)), (15, int64 (i : Nat))]
theorem zht (a : List UInt8) (ha : a.length ≤ 1000000) (x5 x6 x7 x8 x9 x10 x11 x12 x13 : AV) (M : Mem)
  (HT : ∀ k i, St.tidy ⟨0, jE a x5 x6 x7 x8 x9 x10 x11 x12 x13 k i, M⟩ [0, 5, 6, 7, 8, 9, 10, 11, 12, 13, 14, 15] = ⟨0, jE a x5 x6 x7 x8 x9 x10 x11 x12 x13 k i, M⟩) :
  den code ext (.loop [0, 5, 6, 7, 8, 9, 10, 11, 12, 13, 14, 15] x450L1) ⟨0, jE a x5 x6 x7 x8 x9 x10 x11 x12 x13 1 0, M⟩ =
   some (.exit 0, ⟨0, jE a x5 x6 x7 x8 x9 x10 x11 x12 x13 (1 + countNL a) a.length ++ [(52, avb false)], M⟩) := by
 have L : ∃ e s', den code ext (.loop [0, 5, 6, 7, 8, 9, 10, 11, 12, 13, 14, 15] x450L1) ⟨0, jE a x5 x6 x7 x8 x9 x10 x11 x12 x13 1 0, M⟩ = some (e, s') ∧ e ≠ .normal ∧
   (e = .exit 0 ∧ s' = ⟨0, jE a x5 x6 x7 x8 x9 x10 x11 x12 x13 (1 + countNL a) a.length ++ [(52, avb false)], M⟩) := by
  refine zg2 (fun m s => ∃ i, i + m = a.length ∧ s = ⟨0, jE a x5 x6 x7 x8 x9 x10 x11 x12 x13 (1 + countNL (a.take i)) i, M⟩) _ ?_ a.length _ ⟨0, by simp, by simp [countNL]⟩
  rintro m s ⟨i, hi, rfl⟩
  rw [HT]
  clear HT
  have hsz := za2 a
  by_cases hlt : i < a.length
  ·obtain ⟨c, hx⟩ : ∃ c, a[i]? = some c := ⟨_, List.getElem?_eq_getElem hlt⟩
   have htk : a.take (i + 1) = a.take i ++ [c] := by rw [List.take_add_one, hx]; rfl
   have hcn : countNL (a.take (i + 1)) = countNL (a.take i) + countNL [c] := by rw [htk]; unfold countNL; rw [List.countP_append]
   have hle := zbw (a.take i)
   rw [List.length_take] at hle
   have hget : ∀ hi : i < (bs a).size, (bs a)[i]'hi = c := fun hi => bs_at hx hi
   have e2 : IntKind.wrap .i64 ((i : Int) + 1) = ((i + 1 : Nat) : Int) := by rw [wrapI64 (by omega) (by omega)]; omega
   refine ⟨.normal, ⟨0, jE a x5 x6 x7 x8 x9 x10 x11 x12 x13 (1 + countNL (a.take (i + 1))) (i + 1), M⟩, ?_, .inl ⟨rfl, m - 1, by omega, i + 1, by omega, rfl⟩⟩
   rw [hcn]
   generalize countNL (a.take i) = q at *
   unfold jE
   by_cases h10 : c.toNat = 10
   ·have hone : countNL [c] = 1 := by simp [countNL, h10]
    have e1 : IntKind.wrap .i64 (((1 + q : Nat) : Int) + 1) = ((1 + (q + 1) : Nat) : Int) := by rw [wrapI64 (by omega) (by omega)]; omega
    rw [hone]
    clear hcn htk hx hle hone
    generalize 1 + (q + 1) = q2 at *
    generalize 1 + q = q1 at *
    generalize i + 1 = i1 at *
    generalize a.length = al at *
    generalize bs a = B at *
    simp -implicitDefEqProofs [x450L1, hsz, hlt, hget, h10, e1, e2]
   ·have hone : countNL [c] = 0 := by simp [countNL, h10]
    have h10' : ¬ (c.toNat : Int) = 10 := by omega
    rw [hone, Nat.add_zero]
    clear hcn htk hx hle hone
    generalize 1 + q = q1 at *
    generalize i + 1 = i1 at *
    generalize a.length = al at *
    generalize bs a = B at *
    simp -implicitDefEqProofs [x450L1, hsz, hlt, hget, h10, h10', e2]
  ·have hil : i = a.length := by omega
   subst hil
   rw [List.take_length]
   refine ⟨.exit 0, _, ?_, .inr ⟨by simp, rfl, rfl⟩⟩
   unfold jE
   generalize 1 + countNL a = q1 at *
   generalize a.length = al at *
   generalize bs a = B at *
   simp -implicitDefEqProofs [x450L1, hsz]
 obtain ⟨e, s', l1, _, rfl, rfl⟩ := L
 exact l1
end
end Go.EX


set_option linter.unusedVariables false
set_option linter.unusedSimpArgs false
namespace Go.EX
theorem zo4 : ∀ (m : Nat) (l : List UInt8) (n : Nat), l.length = m →
  (∀ ws, wordsR l n = .inl ws → ws.length ≤ l.length ∧ ∀ w ∈ ws, w.line ≤ n + countNL l) ∧ (∀ e, wordsR l n = .inr e → e ≤ n + countNL l) := by
 intro m
 induction m using Nat.strongRecOn with
 | _ m ih =>
  intro l n hm
  by_cases hne : l = []
  ·subst hne
   rw [zo7]
   refine ⟨fun ws h => ?_, fun e h => by cases h⟩
   cases h
   exact ⟨Nat.zero_le _, fun w hw => by cases hw⟩
  ·cases hw : wordOf l with
   | none =>
    rw [zo3 _ hne hw]
    refine ⟨fun ws h => (by cases h), fun e h => ?_⟩
    cases h
    omega
   | some p =>
    obtain ⟨k, s, N, q⟩ := p
    have hq := zou hw
    have hc := zos hw
    have hsl := zml _ q n rfl
    have hsc := zmi _ q n rfl
    obtain ⟨h1, h2⟩ := ih (skipL q n).1.length (by omega) (skipL q n).1 (skipL q n).2 rfl
    rw [zo6 _ hw]
    cases hr : wordsR (skipL q n).1 (skipL q n).2 with
    | inl us =>
     obtain ⟨g1, g2⟩ := h1 us hr
     refine ⟨fun ws h => ?_, fun e h => by cases h⟩
     cases h
     refine ⟨by simp only [List.length_cons]; omega, fun w hw' => ?_⟩
     rcases List.mem_cons.1 hw' with rfl | h
     ·show n ≤ _; omega
     ·have := g2 w h; omega
    | inr e' =>
     have g := h2 e' hr
     refine ⟨fun ws h => (by cases h), fun e h => ?_⟩
     cases h
     omega
theorem zo0 (l : List UInt8) (n : Nat) :
  (∀ ws, wordsL l n = .inl ws → ws.length ≤ l.length ∧ ∀ w ∈ ws, w.line ≤ n + countNL l) ∧ (∀ e, wordsL l n = .inr e → e ≤ n + countNL l) := by
 have hsc := zmi _ l n rfl
 have hsl := zml _ l n rfl
 obtain ⟨h1, h2⟩ := zo4 _ (skipL l n).1 (skipL l n).2 rfl
 unfold wordsL
 refine ⟨fun ws h => ?_, fun e h => ?_⟩
 ·obtain ⟨g1, g2⟩ := h1 ws h
  exact ⟨by omega, fun w hw => by have := g2 w hw; omega⟩
 ·have := h2 e h
  omega
def sh5 (d : Nat) (w : W5) : W5 := { w with line := w.line + d }
def mixW (d : Nat) (ws : List W5) (i : Nat) : List W5 := (ws.take i).map (sh5 d) ++ ws.drop i
theorem zhh (d : Nat) (ws : List W5) : mixW d ws 0 = ws := by simp [mixW]
theorem zhd (d : Nat) (ws : List W5) : mixW d ws ws.length = ws.map (sh5 d) := by simp [mixW]
theorem zhf (d : Nat) (ws : List W5) (i : Nat) : (mixW d ws i).length = ws.length := by
 unfold mixW
 rw [List.length_append, List.length_map, List.length_take, List.length_drop]
 omega
theorem zhe {d : Nat} {ws : List W5} {i : Nat} {w : W5} (h : ws[i]? = some w) : (mixW d ws i)[i]? = some w := by
 have hi := (List.getElem?_eq_some_iff.1 h).1
 unfold mixW
 have hl : ((ws.take i).map (sh5 d)).length = i := by rw [List.length_map, List.length_take]; omega
 rw [List.getElem?_append_right (by omega), hl, Nat.sub_self, List.getElem?_drop, Nat.add_zero, h]
theorem zhg {d : Nat} {ws : List W5} {i : Nat} {w : W5} (h : ws[i]? = some w) : (mixW d ws i).set i { w with line := w.line + d } = mixW d ws (i + 1) := by
 have hi := (List.getElem?_eq_some_iff.1 h).1
 unfold mixW
 have hl : ((ws.take i).map (sh5 d)).length = i := by rw [List.length_map, List.length_take]; omega
 have htk : ws.take (i + 1) = ws.take i ++ [w] := by rw [List.take_add_one, h]; rfl
 have hdr : ws.drop i = w :: ws.drop (i + 1) := by
  rw [List.drop_eq_getElem_cons hi]
  have := (List.getElem?_eq_some_iff.1 h).2
  rw [this]
 rw [List.set_append_right _ _ (by omega), hl, Nat.sub_self, htk, hdr, List.map_append]
 simp [sh5]
section
variable {code : Nat → Option XFun} {ext : Calls'}
def kE (x5 x8 x11 : AV) (d i : Nat) : Env := [(5, x5), (8, x8), (11, x11), (14, int64 (d : Nat)), (16, int64 (i : Nat))]
theorem zhp (x5 x11 : AV) (d : Nat) (M : Mem) (HT : ∀ i, St.tidy ⟨0, kE x5 nilS x11 d i, M⟩ [5, 8, 11, 14, 16] = ⟨0, kE x5 nilS x11 d i, M⟩) :
  den code ext (.loop [5, 8, 11, 14, 16] x450L2) ⟨0, kE x5 nilS x11 d 0, M⟩ = some (.exit 2, ⟨0, kE x5 nilS x11 d 0 ++ [(98, avb false)], M⟩) := by
 rw [zcf, HT]
 have : den code ext x450L2 ⟨0, kE x5 nilS x11 d 0, M⟩ = some (.exit 2, ⟨0, kE x5 nilS x11 d 0 ++ [(98, avb false)], M⟩) := by
  unfold kE
  simp -implicitDefEqProofs [x450L2]
 rw [this]
 rfl
theorem zho (p : Nat) (x5 x11 : AV) (d : Nat) (hd : d ≤ 1000000000) (ws : List W5) (hws : ∀ w ∈ ws, w.line ≤ 1000000000) (hwl : ws.length ≤ 1000000000) (M : List IV → Mem)
  (HT : ∀ R i, St.tidy ⟨0, kE x5 (.osl p 0 4 ws.length none) x11 d i, M R⟩ [5, 8, 11, 14, 16] = ⟨0, kE x5 (.osl p 0 4 ws.length none) x11 d i, M R⟩)
  (HL : ∀ R, (M R)[p]? = some (.flat R false)) (HS : ∀ R R', (M R).set p (.flat R' false) = M R') :
  den code ext (.loop [5, 8, 11, 14, 16] x450L2) ⟨0, kE x5 (.osl p 0 4 ws.length none) x11 d 0, M (rowW ws)⟩ =
   some (.exit 2, ⟨0, kE x5 (.osl p 0 4 ws.length none) x11 d ws.length ++ [(98, avb false)], M (rowW (ws.map (sh5 d)))⟩) := by
 have L : ∃ e s', den code ext (.loop [5, 8, 11, 14, 16] x450L2) ⟨0, kE x5 (.osl p 0 4 ws.length none) x11 d 0, M (rowW ws)⟩ = some (e, s') ∧ e ≠ .normal ∧
   (e = .exit 2 ∧ s' = ⟨0, kE x5 (.osl p 0 4 ws.length none) x11 d ws.length ++ [(98, avb false)], M (rowW (ws.map (sh5 d)))⟩) := by
  refine zg2 (fun m s => ∃ i, i + m = ws.length ∧ s = ⟨0, kE x5 (.osl p 0 4 ws.length none) x11 d i, M (rowW (mixW d ws i))⟩) _ ?_ ws.length _ ⟨0, by simp, by rw [zhh]⟩
  rintro m s ⟨i, hi, rfl⟩
  rw [HT]
  clear HT
  by_cases hlt : i < ws.length
  ·obtain ⟨w, hx⟩ : ∃ w, ws[i]? = some w := ⟨_, List.getElem?_eq_getElem hlt⟩
   have hwb := hws w (List.mem_of_getElem? hx)
   have hg := zhe (d := d) hx
   have hcell := zkx hg 3 (by decide)
   have hset := zk0 hg (w.line + d)
   rw [zhg hx] at hset
   have hlen := zkz (mixW d ws i)
   rw [zhf] at hlen
   have hle : i * 4 + 3 + 1 ≤ (rowW (mixW d ws i)).length := by omega
   have e1 : IntKind.wrap .i64 ((w.line : Int) + (d : Int)) = ((w.line + d : Nat) : Int) := by rw [wrapI64 (by omega) (by omega)]; omega
   have e2 : IntKind.wrap .i64 ((i : Int) + 1) = ((i + 1 : Nat) : Int) := by rw [wrapI64 (by omega) (by omega)]; omega
   have hcell : (rowW (mixW d ws i))[i * 4 + 3]? = some (.val (.int .i64 (w.line : Nat))) := hcell
   refine ⟨.normal, ⟨0, kE x5 (.osl p 0 4 ws.length none) x11 d (i + 1), M (rowW (mixW d ws (i + 1)))⟩, ?_, .inl ⟨rfl, m - 1, by omega, i + 1, by omega, rfl⟩⟩
   generalize rowW (mixW d ws (i + 1)) = R2 at *
   generalize rowW (mixW d ws i) = R1 at *
   have hL := HL R1
   have hS := HS R1 R2
   clear HL HS hg hws hx
   have hc2 : cut R1 (i * 4 + 3) 1 = some [.val (.int .i64 (w.line : Nat))] := by
    refine cut_mk ?_ rfl
    obtain ⟨q1, q2⟩ := List.getElem?_eq_some_iff.1 hcell
    rw [List.drop_eq_getElem_cons q1, q2]
    rfl
   generalize i + 1 = i1 at *
   generalize ws.length = wl at *
   generalize w.line + d = wd at *
   generalize w.line = wn at *
   unfold kE
   generalize hrl : R1.length = rl at *
   generalize hj : i * 4 + 3 = j at *
   simp -implicitDefEqProofs [x450L2, hlt, hL, hS, hcell, hc2, e1, e2, hrl, hle, hset, hj]
  ·have hil : i = ws.length := by omega
   subst hil
   rw [zhd]
   refine ⟨.exit 2, _, ?_, .inr ⟨by simp, rfl, rfl⟩⟩
   generalize rowW (ws.map (sh5 d)) = R1 at *
   generalize ws.length = wl at *
   unfold kE
   simp -implicitDefEqProofs [x450L2]
 obtain ⟨e, s', l1, _, rfl, rfl⟩ := L
 exact l1
end
end Go.EX


set_option linter.unusedVariables false
set_option linter.unusedSimpArgs false
namespace Go.EX
section
variable {code : Nat → Option XFun} {ext : Calls'}
structure JoinCode (code : Nat → Option XFun) (ext : Calls') : Prop where
 l : LexCode code ext
 c450 : code 450 = some x450
 c358 : code 358 = some x358
 al : callW code ext 453 [] [] = some (avb true, [])
theorem zpb (c : LexCode code ext) (l : List UInt8) (hl : l.length ≤ 65536) (h : wordsL l 0 = .inl []) : callW code ext 568 [strV (bs l)] [] = some (.tup [nilS, int64 0, int64 0], []) := by
 rw [zoz c l (by omega), if_neg (by omega), h]
 rfl
theorem zpd (c : LexCode code ext) (l : List UInt8) (hl : l.length ≤ 65536) {ws : List W5} (h : wordsL l 0 = .inl ws) (h0 : ws.length ≠ 0) :
  callW code ext 568 [strV (bs l)] [] = some (.tup [.osl 0 0 4 ws.length none, int64 0, int64 0], [.flat (rowW ws) false]) := by
 rw [zoz c l (by omega), if_neg (by omega), h]
 unfold lwM
 dsimp only
 rw [if_neg h0, if_neg h0]
theorem zo9 (c : LexCode code ext) (l : List UInt8) (hl : l.length ≤ 65536) {m : Nat} (h : wordsL l 0 = .inr m) : callW code ext 568 [strV (bs l)] [] = some (.tup [nilS, int64 (m : Nat), int64 4], []) := by
 rw [zoz c l (by omega), if_neg (by omega), h]
section
variable (c : JoinCode code ext) (a b : List UInt8) (hl : a.length + b.length ≤ 65535)
include c hl
theorem zf5 {m : Nat} (h1 : wordsL a 0 = .inr m) : callW code ext 450 [strV (bs a), strV (bs b)] [] = some (avb true, []) := by
 have hj := zo1 a b 0
 rw [h1] at hj
 have g1 := zo9 c.l a (by omega) h1
 have g3 := zo9 c.l (a ++ 10 :: b) (by simp only [List.length_append, List.length_cons]; omega) hj
 have hcat : bs a ++ ⟨#[10]⟩ ++ bs b = bs (a ++ 10 :: b) := by
  have : (⟨#[10]⟩ : ByteArray) = bs [10] := rfl
  rw [this, zaz, zaz]
  simp
 have hal := c.al
 have hza := za2 a
 have hzb := za2 b
 have hzn : (⟨#[10]⟩ : ByteArray).size = 1 := rfl
 have hzc : (bs a ++ ⟨#[10]⟩).size = a.length + 1 := by rw [ByteArray.size_append, hza, hzn]
 have e0 : IntKind.wrap .i64 ((a.length : Int) + (b.length : Int)) = (a.length : Int) + (b.length : Int) := wrapI64 (by omega) (by omega)
 have e1 : ¬ (65535 : Int) < (a.length : Int) + (b.length : Int) := by omega
 have s1 : a.length + 1 ≤ 9223372036854775807 := by omega
 have s2 : a.length + 1 + b.length ≤ 9223372036854775807 := by omega
 rw [zba code ext c.c450]
 cases h2 : wordsL b 0 with
 | inr m2 =>
  have g2 := zo9 c.l b (by omega) h2
  have l1 := zht (code := code) (ext := ext) a (by omega) nilS (int64 (m : Nat)) (int64 4) nilS (int64 (m2 : Nat)) (int64 4) nilS (int64 (m : Nat)) (int64 4) [] (by intro k i; unfold jE; simp -implicitDefEqProofs)
  unfold jE at l1
  rw [show ((1 : Nat) : Int) = 1 from rfl, show ((0 : Nat) : Int) = 0 from rfl] at l1
  unfold x450
  clear h1 h2 hj hl
  generalize x450L1 = LL at *
  generalize x450L2 = LM at *
  generalize bs (a ++ 10 :: b) = C at *
  generalize 1 + countNL a = k1 at *
  generalize a.length = al at *
  generalize b.length = bl at *
  generalize bs a = A at *
  generalize bs b = B at *
  simp -implicitDefEqProofs [hal, hza, hzb, hzc, hzn, hcat, e0, e1, s1, s2, g1, g2, g3, l1]
 | inl us =>
  by_cases h0 : us.length = 0
  ·have : us = [] := List.eq_nil_of_length_eq_zero h0
   subst this
   have g2 := zpb c.l b (by omega) h2
   have l1 := zht (code := code) (ext := ext) a (by omega) nilS (int64 (m : Nat)) (int64 4) nilS (int64 0) (int64 0) nilS (int64 (m : Nat)) (int64 4) [] (by intro k i; unfold jE; simp -implicitDefEqProofs)
   unfold jE at l1
   rw [show ((1 : Nat) : Int) = 1 from rfl, show ((0 : Nat) : Int) = 0 from rfl] at l1
   unfold x450
   clear h1 h2 hj hl
   generalize x450L1 = LL at *
   generalize x450L2 = LM at *
   generalize bs (a ++ 10 :: b) = C at *
   generalize 1 + countNL a = k1 at *
   generalize a.length = al at *
   generalize b.length = bl at *
   generalize bs a = A at *
   generalize bs b = B at *
   simp -implicitDefEqProofs [hal, hza, hzb, hzc, hzn, hcat, e0, e1, s1, s2, g1, g2, g3, l1]
  ·have g2 := zpd c.l b (by omega) h2 h0
   have l1 := zht (code := code) (ext := ext) a (by omega) nilS (int64 (m : Nat)) (int64 4) (.osl 0 0 4 us.length none) (int64 0) (int64 0) nilS (int64 (m : Nat)) (int64 4) [.flat (rowW us) false] (by intro k i; unfold jE; simp -implicitDefEqProofs)
   unfold jE at l1
   rw [show ((1 : Nat) : Int) = 1 from rfl, show ((0 : Nat) : Int) = 0 from rfl] at l1
   unfold x450
   clear h1 h2 hj hl
   generalize x450L1 = LL at *
   generalize x450L2 = LM at *
   generalize bs (a ++ 10 :: b) = C at *
   generalize 1 + countNL a = k1 at *
   generalize a.length = al at *
   generalize b.length = bl at *
   generalize bs a = A at *
   generalize bs b = B at *
   generalize rowW us = R at *
   simp -implicitDefEqProofs [hal, hza, hzb, hzc, hzn, hcat, e0, e1, s1, s2, g1, g2, g3, l1]
theorem zf6 {ws : List W5} {m : Nat} (h1 : wordsL a 0 = .inl ws) (h2 : wordsL b 0 = .inr m) : callW code ext 450 [strV (bs a), strV (bs b)] [] = some (avb true, []) := by
 have hcat : bs a ++ ⟨#[10]⟩ ++ bs b = bs (a ++ 10 :: b) := by
  have : (⟨#[10]⟩ : ByteArray) = bs [10] := rfl
  rw [this, zaz, zaz]
  simp
 have hal := c.al
 have hza := za2 a
 have hzb := za2 b
 have hzn : (⟨#[10]⟩ : ByteArray).size = 1 := rfl
 have hzc : (bs a ++ ⟨#[10]⟩).size = a.length + 1 := by rw [ByteArray.size_append, hza, hzn]
 have e0 : IntKind.wrap .i64 ((a.length : Int) + (b.length : Int)) = (a.length : Int) + (b.length : Int) := wrapI64 (by omega) (by omega)
 have e1 : ¬ (65535 : Int) < (a.length : Int) + (b.length : Int) := by omega
 have s1 : a.length + 1 ≤ 9223372036854775807 := by omega
 have s2 : a.length + 1 + b.length ≤ 9223372036854775807 := by omega
 have hn := zbw a
 have hnb := zbw b
 have hshift : wordsL b (0 + countNL a + 1) = shift5 (1 + countNL a) (wordsL b 0) := by
  rw [show 0 + countNL a + 1 = 0 + (1 + countNL a) by omega, zo2]
 have hj := zo1 a b 0
 rw [h1, hshift, h2] at hj
 have hj : wordsL (a ++ 10 :: b) 0 = .inr (m + (1 + countNL a)) := hj
 have hm := (zo0 b 0).2 m h2
 have g2 := zo9 c.l b (by omega) h2
 have g3 := zo9 c.l (a ++ 10 :: b) (by simp only [List.length_append, List.length_cons]; omega) hj
 have e3 : IntKind.wrap .i64 ((m : Int) + ((1 + countNL a : Nat) : Int)) = ((m + (1 + countNL a) : Nat) : Int) := by rw [wrapI64 (by omega) (by omega)]; omega
 rw [zba code ext c.c450]
 by_cases h0 : ws.length = 0
 ·have : ws = [] := List.eq_nil_of_length_eq_zero h0
  subst this
  have g1 := zpb c.l a (by omega) h1
  generalize m + (1 + countNL a) = q at *
  have l1 := zht (code := code) (ext := ext) a (by omega) nilS (int64 0) (int64 0) nilS (int64 (m : Nat)) (int64 4) nilS (int64 (q : Nat)) (int64 4) [] (by intro k i; unfold jE; simp -implicitDefEqProofs)
  unfold jE at l1
  rw [show ((1 : Nat) : Int) = 1 from rfl, show ((0 : Nat) : Int) = 0 from rfl] at l1
  unfold x450
  clear h1 h2 hj hl hn hnb hshift hm
  generalize x450L1 = LL at *
  generalize x450L2 = LM at *
  generalize bs (a ++ 10 :: b) = C at *
  generalize 1 + countNL a = k1 at *
  generalize a.length = al at *
  generalize b.length = bl at *
  generalize bs a = A at *
  generalize bs b = B at *
  simp -implicitDefEqProofs [hal, hza, hzb, hzc, hzn, hcat, e0, e1, e3, s1, s2, g1, g2, g3, l1]
 ·have g1 := zpd c.l a (by omega) h1 h0
  generalize m + (1 + countNL a) = q at *
  have l1 := zht (code := code) (ext := ext) a (by omega) (.osl 0 0 4 ws.length none) (int64 0) (int64 0) nilS (int64 (m : Nat)) (int64 4) nilS (int64 (q : Nat)) (int64 4) [.flat (rowW ws) false] (by intro k i; unfold jE; simp -implicitDefEqProofs)
  unfold jE at l1
  rw [show ((1 : Nat) : Int) = 1 from rfl, show ((0 : Nat) : Int) = 0 from rfl] at l1
  unfold x450
  clear h1 h2 hj hl hn hnb hshift hm
  generalize x450L1 = LL at *
  generalize x450L2 = LM at *
  generalize bs (a ++ 10 :: b) = C at *
  generalize 1 + countNL a = k1 at *
  generalize a.length = al at *
  generalize b.length = bl at *
  generalize bs a = A at *
  generalize bs b = B at *
  generalize rowW ws = R at *
  simp -implicitDefEqProofs [hal, hza, hzb, hzc, hzn, hcat, e0, e1, e3, s1, s2, g1, g2, g3, l1]
theorem zf7 (h1 : wordsL a 0 = .inl []) (h2 : wordsL b 0 = .inl []) : callW code ext 450 [strV (bs a), strV (bs b)] [] = some (avb true, []) := by
 have hcat : bs a ++ ⟨#[10]⟩ ++ bs b = bs (a ++ 10 :: b) := by
  have : (⟨#[10]⟩ : ByteArray) = bs [10] := rfl
  rw [this, zaz, zaz]
  simp
 have hal := c.al
 have hza := za2 a
 have hzb := za2 b
 have hzn : (⟨#[10]⟩ : ByteArray).size = 1 := rfl
 have hzc : (bs a ++ ⟨#[10]⟩).size = a.length + 1 := by rw [ByteArray.size_append, hza, hzn]
 have e0 : IntKind.wrap .i64 ((a.length : Int) + (b.length : Int)) = (a.length : Int) + (b.length : Int) := wrapI64 (by omega) (by omega)
 have e1 : ¬ (65535 : Int) < (a.length : Int) + (b.length : Int) := by omega
 have s1 : a.length + 1 ≤ 9223372036854775807 := by omega
 have s2 : a.length + 1 + b.length ≤ 9223372036854775807 := by omega
 have hn := zbw a
 have hnb := zbw b
 have hshift : wordsL b (0 + countNL a + 1) = shift5 (1 + countNL a) (wordsL b 0) := by
  rw [show 0 + countNL a + 1 = 0 + (1 + countNL a) by omega, zo2]
 have hj := zo1 a b 0
 rw [h1, hshift, h2] at hj
 have hj : wordsL (a ++ 10 :: b) 0 = .inl ([]) := by
  rw [hj]
  simp [shift5, comb5, sh5]
 have hc3 : (a ++ 10 :: b).length ≤ 65536 := by simp only [List.length_append, List.length_cons]; omega
 have g1 := zpb c.l a (by omega) h1
 have g2 := zpb c.l b (by omega) h2
 have g3 := zpb c.l _ hc3 hj
 have hsame := zlq (ext := ext) c.c358 [] (by simp)
 have hsame : callW code ext 358 [nilS, nilS] [] = some (avb true, []) := hsame
 have l1 := zht (code := code) (ext := ext) a (by omega) nilS (int64 0) (int64 0) nilS (int64 0) (int64 0) nilS (int64 0) (int64 0) [] (by intro k i; unfold jE; simp -implicitDefEqProofs)
 unfold jE at l1
 rw [show ((1 : Nat) : Int) = 1 from rfl, show ((0 : Nat) : Int) = 0 from rfl] at l1
 have l2 := zhp (code := code) (ext := ext) nilS nilS (1 + countNL a) [] (by intro i; unfold kE; simp -implicitDefEqProofs)
 unfold kE at l2
 rw [show ((0 : Nat) : Int) = 0 from rfl] at l2
 have e4 : IntKind.wrap .i64 0 = 0 := by decide
 rw [zba code ext c.c450]
 unfold x450
 clear h1 h2 hj hl hn hnb hshift hc3
 generalize x450L1 = LL at *
 generalize x450L2 = LM at *
 generalize bs (a ++ 10 :: b) = C at *
 generalize 1 + countNL a = k1 at *
 generalize a.length = al at *
 generalize b.length = bl at *
 generalize bs a = A at *
 generalize bs b = B at *
 simp -implicitDefEqProofs [hal, hza, hzb, hzc, hzn, hcat, e0, e1, s1, s2, g1, g2, g3, l1, l2, hsame, e4, exAppendX, exAppend, elems]
theorem zf8 {us : List W5} (h9 : us.length ≠ 0) (h1 : wordsL a 0 = .inl []) (h2 : wordsL b 0 = .inl us) : callW code ext 450 [strV (bs a), strV (bs b)] [] = some (avb true, []) := by
 have hcat : bs a ++ ⟨#[10]⟩ ++ bs b = bs (a ++ 10 :: b) := by
  have : (⟨#[10]⟩ : ByteArray) = bs [10] := rfl
  rw [this, zaz, zaz]
  simp
 have hal := c.al
 have hza := za2 a
 have hzb := za2 b
 have hzn : (⟨#[10]⟩ : ByteArray).size = 1 := rfl
 have hzc : (bs a ++ ⟨#[10]⟩).size = a.length + 1 := by rw [ByteArray.size_append, hza, hzn]
 have e0 : IntKind.wrap .i64 ((a.length : Int) + (b.length : Int)) = (a.length : Int) + (b.length : Int) := wrapI64 (by omega) (by omega)
 have e1 : ¬ (65535 : Int) < (a.length : Int) + (b.length : Int) := by omega
 have s1 : a.length + 1 ≤ 9223372036854775807 := by omega
 have s2 : a.length + 1 + b.length ≤ 9223372036854775807 := by omega
 have hn := zbw a
 have hnb := zbw b
 have hshift : wordsL b (0 + countNL a + 1) = shift5 (1 + countNL a) (wordsL b 0) := by
  rw [show 0 + countNL a + 1 = 0 + (1 + countNL a) by omega, zo2]
 have hj := zo1 a b 0
 rw [h1, hshift, h2] at hj
 have hj : wordsL (a ++ 10 :: b) 0 = .inl (us.map (sh5 (1 + countNL a))) := by
  rw [hj]
  simp [shift5, comb5, sh5]
 have hc3 : (a ++ 10 :: b).length ≤ 65536 := by simp only [List.length_append, List.length_cons]; omega
 obtain ⟨b3, b4⟩ := (zo0 b 0).1 us h2
 have g1 := zpb c.l a (by omega) h1
 have g2 := zpd c.l b (by omega) h2 h9
 have hT : (us.map (sh5 (1 + countNL a))).length = us.length := by simp
 have g3 := zpd c.l _ hc3 hj (by omega)
 have hsame := zlq (ext := ext) c.c358 (us.map (sh5 (1 + countNL a))) (by omega)
 unfold vW at hsame
 rw [if_neg (by omega)] at hsame
 rw [hT] at g3 hsame
 have l1 := zht (code := code) (ext := ext) a (by omega) nilS (int64 0) (int64 0) (.osl 0 0 4 us.length none) (int64 0) (int64 0) (.osl 1 0 4 us.length none) (int64 0) (int64 0) [.flat (rowW us) false, .flat (rowW (us.map (sh5 (1 + countNL a)))) false] (by intro k i; unfold jE; simp -implicitDefEqProofs)
 unfold jE at l1
 rw [show ((1 : Nat) : Int) = 1 from rfl, show ((0 : Nat) : Int) = 0 from rfl] at l1
 have l2 := zho (code := code) (ext := ext) 0 nilS (.osl 1 0 4 us.length none) (1 + countNL a) (by omega) us (fun w hw => by have := b4 w hw; omega) (by omega) (fun R => [.flat R false, .flat (rowW (us.map (sh5 (1 + countNL a)))) false]) (by intro R i; unfold kE; simp -implicitDefEqProofs) (fun R => rfl) (fun R R2 => rfl)
 try dsimp only at l2
 unfold kE at l2
 rw [show ((0 : Nat) : Int) = 0 from rfl] at l2
 have e4 : IntKind.wrap .i64 (us.length : Int) = (us.length : Int) := wrapI64 (by omega) (by omega)
 have s3 : us.length * 40 ≤ 140737488355328 := by omega
 have r2 := zb2 _ (zkz (us.map (sh5 (1 + countNL a))))
 rw [List.length_map] at r2
 rw [zba code ext c.c450]
 unfold x450
 clear h1 h2 hj hl hn hnb hshift hc3 b3 b4 hT
 generalize x450L1 = LL at *
 generalize x450L2 = LM at *
 generalize bs (a ++ 10 :: b) = C at *
 generalize 1 + countNL a = k1 at *
 generalize a.length = al at *
 generalize b.length = bl at *
 generalize bs a = A at *
 generalize bs b = B at *
 generalize rowW (us.map (sh5 k1)) = RC at *
 generalize rowW us = RB at *
 generalize us.length = ul at *
 simp -implicitDefEqProofs [hal, hza, hzb, hzc, hzn, hcat, e0, e1, s1, s2, g1, g2, g3, l1, l2, hsame, e4, s3, r2, exAppendX, exAppend, elems, h9]
theorem zf9 {ws : List W5} (h0 : ws.length ≠ 0) (h1 : wordsL a 0 = .inl ws) (h2 : wordsL b 0 = .inl []) : callW code ext 450 [strV (bs a), strV (bs b)] [] = some (avb true, []) := by
 have hcat : bs a ++ ⟨#[10]⟩ ++ bs b = bs (a ++ 10 :: b) := by
  have : (⟨#[10]⟩ : ByteArray) = bs [10] := rfl
  rw [this, zaz, zaz]
  simp
 have hal := c.al
 have hza := za2 a
 have hzb := za2 b
 have hzn : (⟨#[10]⟩ : ByteArray).size = 1 := rfl
 have hzc : (bs a ++ ⟨#[10]⟩).size = a.length + 1 := by rw [ByteArray.size_append, hza, hzn]
 have e0 : IntKind.wrap .i64 ((a.length : Int) + (b.length : Int)) = (a.length : Int) + (b.length : Int) := wrapI64 (by omega) (by omega)
 have e1 : ¬ (65535 : Int) < (a.length : Int) + (b.length : Int) := by omega
 have s1 : a.length + 1 ≤ 9223372036854775807 := by omega
 have s2 : a.length + 1 + b.length ≤ 9223372036854775807 := by omega
 have hn := zbw a
 have hnb := zbw b
 have hshift : wordsL b (0 + countNL a + 1) = shift5 (1 + countNL a) (wordsL b 0) := by
  rw [show 0 + countNL a + 1 = 0 + (1 + countNL a) by omega, zo2]
 have hj := zo1 a b 0
 rw [h1, hshift, h2] at hj
 have hj : wordsL (a ++ 10 :: b) 0 = .inl (ws) := by
  rw [hj]
  simp [shift5, comb5, sh5]
 have hc3 : (a ++ 10 :: b).length ≤ 65536 := by simp only [List.length_append, List.length_cons]; omega
 obtain ⟨b1, b2⟩ := (zo0 a 0).1 ws h1
 have g1 := zpd c.l a (by omega) h1 h0
 have g2 := zpb c.l b (by omega) h2
 have hT : (ws).length = ws.length := by simp
 have g3 := zpd c.l _ hc3 hj (by omega)
 have hsame := zlq (ext := ext) c.c358 (ws) (by omega)
 unfold vW at hsame
 rw [if_neg (by omega)] at hsame
 rw [hT] at g3 hsame
 have l1 := zht (code := code) (ext := ext) a (by omega) (.osl 0 0 4 ws.length none) (int64 0) (int64 0) nilS (int64 0) (int64 0) (.osl 1 0 4 ws.length none) (int64 0) (int64 0) [.flat (rowW ws) false, .flat (rowW (ws)) false] (by intro k i; unfold jE; simp -implicitDefEqProofs)
 unfold jE at l1
 rw [show ((1 : Nat) : Int) = 1 from rfl, show ((0 : Nat) : Int) = 0 from rfl] at l1
 have l2 := zhp (code := code) (ext := ext) (.osl 0 0 4 ws.length none) (.osl 1 0 4 ws.length none) (1 + countNL a) [.flat (rowW ws) false, .flat (rowW (ws)) false] (by intro i; unfold kE; simp -implicitDefEqProofs)
 unfold kE at l2
 rw [show ((0 : Nat) : Int) = 0 from rfl] at l2
 have e4 : IntKind.wrap .i64 (ws.length : Int) = (ws.length : Int) := wrapI64 (by omega) (by omega)
 have s3 : ws.length * 40 ≤ 140737488355328 := by omega
 have r1 := zb2 _ (zkz ws)
 rw [zba code ext c.c450]
 unfold x450
 clear h1 h2 hj hl hn hnb hshift hc3 b1 b2 hT
 generalize x450L1 = LL at *
 generalize x450L2 = LM at *
 generalize bs (a ++ 10 :: b) = C at *
 generalize 1 + countNL a = k1 at *
 generalize a.length = al at *
 generalize b.length = bl at *
 generalize bs a = A at *
 generalize bs b = B at *
 generalize rowW ws = RA at *
 generalize ws.length = wl at *
 simp -implicitDefEqProofs [hal, hza, hzb, hzc, hzn, hcat, e0, e1, s1, s2, g1, g2, g3, l1, l2, hsame, e4, s3, r1, exAppendX, exAppend, elems]
theorem zga {ws : List W5} (h0 : ws.length ≠ 0) {us : List W5} (h9 : us.length ≠ 0) (h1 : wordsL a 0 = .inl ws) (h2 : wordsL b 0 = .inl us) : callW code ext 450 [strV (bs a), strV (bs b)] [] = some (avb true, []) := by
 have hcat : bs a ++ ⟨#[10]⟩ ++ bs b = bs (a ++ 10 :: b) := by
  have : (⟨#[10]⟩ : ByteArray) = bs [10] := rfl
  rw [this, zaz, zaz]
  simp
 have hal := c.al
 have hza := za2 a
 have hzb := za2 b
 have hzn : (⟨#[10]⟩ : ByteArray).size = 1 := rfl
 have hzc : (bs a ++ ⟨#[10]⟩).size = a.length + 1 := by rw [ByteArray.size_append, hza, hzn]
 have e0 : IntKind.wrap .i64 ((a.length : Int) + (b.length : Int)) = (a.length : Int) + (b.length : Int) := wrapI64 (by omega) (by omega)
 have e1 : ¬ (65535 : Int) < (a.length : Int) + (b.length : Int) := by omega
 have s1 : a.length + 1 ≤ 9223372036854775807 := by omega
 have s2 : a.length + 1 + b.length ≤ 9223372036854775807 := by omega
 have hn := zbw a
 have hnb := zbw b
 have hshift : wordsL b (0 + countNL a + 1) = shift5 (1 + countNL a) (wordsL b 0) := by
  rw [show 0 + countNL a + 1 = 0 + (1 + countNL a) by omega, zo2]
 have hj := zo1 a b 0
 rw [h1, hshift, h2] at hj
 have hj : wordsL (a ++ 10 :: b) 0 = .inl (ws ++ us.map (sh5 (1 + countNL a))) := by
  rw [hj]
  simp [shift5, comb5, sh5]
 have hc3 : (a ++ 10 :: b).length ≤ 65536 := by simp only [List.length_append, List.length_cons]; omega
 obtain ⟨b1, b2⟩ := (zo0 a 0).1 ws h1
 obtain ⟨b3, b4⟩ := (zo0 b 0).1 us h2
 have g1 := zpd c.l a (by omega) h1 h0
 have g2 := zpd c.l b (by omega) h2 h9
 have hT : (ws ++ us.map (sh5 (1 + countNL a))).length = (ws.length + us.length) := by simp
 have g3 := zpd c.l _ hc3 hj (by omega)
 have hsame := zlq (ext := ext) c.c358 (ws ++ us.map (sh5 (1 + countNL a))) (by omega)
 unfold vW at hsame
 rw [if_neg (by omega)] at hsame
 rw [hT] at g3 hsame
 have l1 := zht (code := code) (ext := ext) a (by omega) (.osl 0 0 4 ws.length none) (int64 0) (int64 0) (.osl 1 0 4 us.length none) (int64 0) (int64 0) (.osl 2 0 4 (ws.length + us.length) none) (int64 0) (int64 0) [.flat (rowW ws) false, .flat (rowW us) false, .flat (rowW (ws ++ us.map (sh5 (1 + countNL a)))) false] (by intro k i; unfold jE; simp -implicitDefEqProofs)
 unfold jE at l1
 rw [show ((1 : Nat) : Int) = 1 from rfl, show ((0 : Nat) : Int) = 0 from rfl] at l1
 have l2 := zho (code := code) (ext := ext) 1 (.osl 0 0 4 ws.length none) (.osl 2 0 4 (ws.length + us.length) none) (1 + countNL a) (by omega) us (fun w hw => by have := b4 w hw; omega) (by omega) (fun R => [.flat (rowW ws) false, .flat R false, .flat (rowW (ws ++ us.map (sh5 (1 + countNL a)))) false]) (by intro R i; unfold kE; simp -implicitDefEqProofs) (fun R => rfl) (fun R R2 => rfl)
 try dsimp only at l2
 unfold kE at l2
 rw [show ((0 : Nat) : Int) = 0 from rfl] at l2
 have e4 : IntKind.wrap .i64 ((ws.length : Int) + (us.length : Int)) = ((ws.length + us.length : Nat) : Int) := by rw [wrapI64 (by omega) (by omega)]; omega
 have s3 : (ws.length + us.length) * 40 ≤ 140737488355328 := by omega
 have hrow : rowW (ws ++ us.map (sh5 (1 + countNL a))) = rowW ws ++ rowW (us.map (sh5 (1 + countNL a))) := by unfold rowW; simp
 rw [hrow] at g3 hsame l1 l2
 have r1 := zb2 _ (zkz ws)
 have r2 := zb2 _ (zkz (us.map (sh5 (1 + countNL a))))
 rw [List.length_map] at r2
 rw [zba code ext c.c450]
 unfold x450
 clear h1 h2 hj hl hn hnb hshift hc3 b1 b2 b3 b4 hT hrow
 generalize x450L1 = LL at *
 generalize x450L2 = LM at *
 generalize bs (a ++ 10 :: b) = C at *
 generalize 1 + countNL a = k1 at *
 generalize a.length = al at *
 generalize b.length = bl at *
 generalize bs a = A at *
 generalize bs b = B at *
 generalize hTl : ws.length + us.length = tl at *
 generalize rowW ws = RA at *
 generalize rowW (us.map (sh5 k1)) = RC at *
 generalize rowW us = RB at *
 generalize ws.length = wl at *
 generalize us.length = ul at *
 simp -implicitDefEqProofs [hal, hza, hzb, hzc, hzn, hcat, e0, e1, s1, s2, g1, g2, g3, l1, l2, hsame, e4, s3, r1, r2, exAppendX, exAppend, elems, hTl]
theorem zgb : callW code ext 450 [strV (bs a), strV (bs b)] [] = some (avb true, []) := by
 cases h1 : wordsL a 0 with
 | inr m => exact zf5 c a b hl h1
 | inl ws =>
  cases h2 : wordsL b 0 with
  | inr m => exact zf6 c a b hl h1 h2
  | inl us =>
   by_cases h0 : ws.length = 0
   ·have : ws = [] := List.eq_nil_of_length_eq_zero h0
    subst this
    by_cases h9 : us.length = 0
    ·have : us = [] := List.eq_nil_of_length_eq_zero h9
     subst this
     exact zf7 c a b hl h1 h2
    ·exact zf8 c a b hl h9 h1 h2
   ·by_cases h9 : us.length = 0
    ·have : us = [] := List.eq_nil_of_length_eq_zero h9
     subst this
     exact zf9 c a b hl h0 h1 h2
    ·exact zga c a b hl h0 h9 h1 h2
end
theorem zf4 (c : JoinCode code ext) (a b : List UInt8) (ha : a.length ≤ 140737488355328) (hb : b.length ≤ 140737488355328) : callW code ext 450 [strV (bs a), strV (bs b)] [] = some (avb true, []) := by
 by_cases hl : a.length + b.length ≤ 65535
 ·exact zgb c a b hl
 ·have hal := c.al
  have hza := za2 a
  have hzb := za2 b
  have e0 : IntKind.wrap .i64 ((a.length : Int) + (b.length : Int)) = (a.length : Int) + (b.length : Int) := wrapI64 (by omega) (by omega)
  have e1 : (65535 : Int) < (a.length : Int) + (b.length : Int) := by omega
  rw [zba code ext c.c450]
  unfold x450
  clear hl
  generalize x450L1 = LL at *
  generalize x450L2 = LM at *
  generalize a.length = al at *
  generalize b.length = bl at *
  generalize bs a = A at *
  generalize bs b = B at *
  simp -implicitDefEqProofs [hal, hza, hzb, e0, e1]
end
end Go.EX


set_option linter.unusedVariables false
set_option linter.unusedSimpArgs false
namespace Go.EX
def ext5 (dg : Int → ByteArray) : Calls' := fun f a m =>
 if f = 674 then extCheck 674 674 a m
 else if f = 670 then extStr 670 670 a m
 else if f = 708 then match a with
  | [.imm (.val (.int .i64 n)), .imm (.val (.int .i64 10))] => if -9223372036854775808 ≤ n ∧ n ≤ 9223372036854775807 then some (.imm (.val (.string (dg n))), m) else none
  | _ => none
 else if f = 787 then extPI 787 787 a m
 else if f = 721 then extCl 721 721 a m
 else none
def dig5 (n : Int) : ByteArray := if n = 5 then ⟨#[53]⟩ else dig n
theorem zcm : dig5 = dig := by
 funext n
 unfold dig5
 split
 ·rename_i h
  subst h
  simp [dig, Lib.itoa, Lib.decDigits]
 ·rfl
theorem alive5 : callW code5 (ext5 dig) 453 [] [] = some (avb true, []) := by
 rw [← zcm]
 exact (zbb code5 (ext5 dig5)).2 ⟨80, by kernel_rfl⟩
theorem zd6 {num : Names} {P : Program} (h1 : ExtOK num P (extCheck 674)) (h2 : ExtOK num P (extStr 670)) (h3 : ExtOK num P (extItoa 708)) (h4 : ExtOK num P (extPI 787)) (h5 : ExtOK num P (extCl 721)) : ExtOK num P (ext5 dig) := by
 intro f args m r m' C vals hc hm hl hr
 unfold ext5 at hc
 split at hc
 ·rename_i hf
  exact h1 f args m r m' C vals (by rw [hf]; exact hc) hm hl hr
 split at hc
 ·rename_i hf
  exact h2 f args m r m' C vals (by rw [hf]; exact hc) hm hl hr
 split at hc
 ·rename_i hf
  exact h3 f args m r m' C vals (by rw [hf]; exact hc) hm hl hr
 split at hc
 ·rename_i hf
  exact h4 f args m r m' C vals (by rw [hf]; exact hc) hm hl hr
 split at hc
 ·rename_i hf
  exact h5 f args m r m' C vals (by rw [hf]; exact hc) hm hl hr
 ·cases hc
theorem buf5 : BufCode code5 (ext5 dig) := ⟨rfl, rfl, rfl, rfl, fun _ _ => rfl, rfl, fun _ _ => rfl⟩
theorem lex5 : LexCode code5 (ext5 dig) where
 b := buf5
 c188 := rfl
 c189 := rfl
 c190 := rfl
 c191 := rfl
 c192 := rfl
 c193 := rfl
 c194 := rfl
 c195 := rfl
 c568 := rfl
 c569 := rfl
 c570 := rfl
 c571 := rfl
 c723 := rfl
 c725 := rfl
 c785 := rfl
 c796 := rfl
 c798 := rfl
 n708 := rfl
 e708 := fun _ _ => rfl
 n787 := rfl
 e787 := fun _ _ => rfl
 c793 := rfl
 n721 := rfl
 e721 := fun _ _ => rfl
theorem join5 : JoinCode code5 (ext5 dig) := ⟨lex5, rfl, rfl, alive5⟩
theorem zgs (a b : ByteArray) (ha : a.size ≤ 140737488355328) (hb : b.size ≤ 140737488355328) : callW code5 (ext5 dig) 450 [strV a, strV b] [] = some (avb true, []) := by
 have h := zf4 join5 a.data.toList b.data.toList (by rw [← za2, bs_of]; exact ha) (by rw [← za2, bs_of]; exact hb)
 rwa [bs_of, bs_of] at h
end Go.EX


namespace Go.Proofs.YtkmdbfhagicidaaDoor
open Go.EX Go.Shelf
def gids : List Nat := [100000, 100001, 703, 449, 451, 450, 568, 453, 456, 454, 455, 358, 189, 194, 188, 190, 798, 191, 192, 569, 570, 195, 793, 787, 785, 571, 796, 725, 673, 193, 670, 669, 672, 721, 710, 792, 708, 723, 674, 711, 791, 790, 788, 789, 719, 718, 713, 714, 100048, 717, 720, 702, 786, 716, 732, 712, 715, 733, 709, 734, 735, 100061, 100062, 100063, 100064, 100065, 100066, 100067, 100068, 100069, 100070, 100071, 100072, 100073, 100074, 100075, 100076, 100077, 100078, 100079, 100080, 100081, 100082, 100083, 100084, 100085, 100086, 100087, 100088, 704]
def num (f : FuncId) : Nat := (gids[f]?).getD (100000 + f)
theorem ok3 : FunOK Tryd.prog num 3 x449 := .of Tryd.func3 (by kernel_rfl) (by kernel_rfl) (by kernel_rfl) (by kernel_rfl) (by kernel_rfl)
theorem ok4 : FunOK Tryd.prog num 4 x451 := .of Tryd.func4 (by kernel_rfl) (by kernel_rfl) (by kernel_rfl) (by kernel_rfl) (by kernel_rfl)
theorem ok5 : FunOK Tryd.prog num 5 x450 := .of Tryd.func5 (by kernel_rfl) (by kernel_rfl) (by kernel_rfl) (by kernel_rfl) (by kernel_rfl)
theorem ok6 : FunOK Tryd.prog num 6 x568 := .of Tryd.func6 (by kernel_rfl) (by kernel_rfl) (by kernel_rfl) (by kernel_rfl) (by kernel_rfl)
theorem ok7 : FunOK Tryd.prog num 7 x453 := .of Tryd.func7 (by kernel_rfl) (by kernel_rfl) (by kernel_rfl) (by kernel_rfl) (by kernel_rfl)
theorem ok8 : FunOK Tryd.prog num 8 x456 := .of Tryd.func8 (by kernel_rfl) (by kernel_rfl) (by kernel_rfl) (by kernel_rfl) (by kernel_rfl)
theorem ok9 : FunOK Tryd.prog num 9 x454 := .of Tryd.func9 (by kernel_rfl) (by kernel_rfl) (by kernel_rfl) (by kernel_rfl) (by kernel_rfl)
theorem ok10 : FunOK Tryd.prog num 10 x455 := .of Tryd.func10 (by kernel_rfl) (by kernel_rfl) (by kernel_rfl) (by kernel_rfl) (by kernel_rfl)
theorem ok11 : FunOK Tryd.prog num 11 x358 := .of Tryd.func11 (by kernel_rfl) (by kernel_rfl) (by kernel_rfl) (by kernel_rfl) (by kernel_rfl)
theorem ok12 : FunOK Tryd.prog num 12 x189 := .of Tryd.func12 (by kernel_rfl) (by kernel_rfl) (by kernel_rfl) (by kernel_rfl) (by kernel_rfl)
theorem ok13 : FunOK Tryd.prog num 13 x194 := .of Tryd.func13 (by kernel_rfl) (by kernel_rfl) (by kernel_rfl) (by kernel_rfl) (by kernel_rfl)
theorem ok14 : FunOK Tryd.prog num 14 x188 := .of Tryd.func14 (by kernel_rfl) (by kernel_rfl) (by kernel_rfl) (by kernel_rfl) (by kernel_rfl)
theorem ok15 : FunOK Tryd.prog num 15 x190 := .of Tryd.func15 (by kernel_rfl) (by kernel_rfl) (by kernel_rfl) (by kernel_rfl) (by kernel_rfl)
theorem ok16 : FunOK Tryd.prog num 16 x798 := .of Tryd.func16 (by kernel_rfl) (by kernel_rfl) (by kernel_rfl) (by kernel_rfl) (by kernel_rfl)
theorem ok17 : FunOK Tryd.prog num 17 x191 := .of Tryd.func17 (by kernel_rfl) (by kernel_rfl) (by kernel_rfl) (by kernel_rfl) (by kernel_rfl)
theorem ok18 : FunOK Tryd.prog num 18 x192 := .of Tryd.func18 (by kernel_rfl) (by kernel_rfl) (by kernel_rfl) (by kernel_rfl) (by kernel_rfl)
theorem ok19 : FunOK Tryd.prog num 19 x569 := .of Tryd.func19 (by kernel_rfl) (by kernel_rfl) (by kernel_rfl) (by kernel_rfl) (by kernel_rfl)
theorem ok20 : FunOK Tryd.prog num 20 x570 := .of Tryd.func20 (by kernel_rfl) (by kernel_rfl) (by kernel_rfl) (by kernel_rfl) (by kernel_rfl)
theorem ok21 : FunOK Tryd.prog num 21 x195 := .of Tryd.func21 (by kernel_rfl) (by kernel_rfl) (by kernel_rfl) (by kernel_rfl) (by kernel_rfl)
theorem ok22 : FunOK Tryd.prog num 22 x793 := .of Tryd.func22 (by kernel_rfl) (by kernel_rfl) (by kernel_rfl) (by kernel_rfl) (by kernel_rfl)
theorem ok24 : FunOK Tryd.prog num 24 x785 := .of Tryd.func24 (by kernel_rfl) (by kernel_rfl) (by kernel_rfl) (by kernel_rfl) (by kernel_rfl)
theorem ok25 : FunOK Tryd.prog num 25 x571 := .of Tryd.func25 (by kernel_rfl) (by kernel_rfl) (by kernel_rfl) (by kernel_rfl) (by kernel_rfl)
theorem ok26 : FunOK Tryd.prog num 26 x796 := .of Tryd.func26 (by kernel_rfl) (by kernel_rfl) (by kernel_rfl) (by kernel_rfl) (by kernel_rfl)
theorem ok27 : FunOK Tryd.prog num 27 x725 := .of Tryd.func27 (by kernel_rfl) (by kernel_rfl) (by kernel_rfl) (by kernel_rfl) (by kernel_rfl)
theorem ok28 : FunOK Tryd.prog num 28 x673 := .of Tryd.func28 (by kernel_rfl) (by kernel_rfl) (by kernel_rfl) (by kernel_rfl) (by kernel_rfl)
theorem ok29 : FunOK Tryd.prog num 29 x193 := .of Tryd.func29 (by kernel_rfl) (by kernel_rfl) (by kernel_rfl) (by kernel_rfl) (by kernel_rfl)
theorem ok31 : FunOK Tryd.prog num 31 x669 := .of Tryd.func31 (by kernel_rfl) (by kernel_rfl) (by kernel_rfl) (by kernel_rfl) (by kernel_rfl)
theorem ok32 : FunOK Tryd.prog num 32 x672 := .of Tryd.func32 (by kernel_rfl) (by kernel_rfl) (by kernel_rfl) (by kernel_rfl) (by kernel_rfl)
theorem ok37 : FunOK Tryd.prog num 37 x723 := .of Tryd.func37 (by kernel_rfl) (by kernel_rfl) (by kernel_rfl) (by kernel_rfl) (by kernel_rfl)
abbrev FnAt (f : Nat) : Prop := ∀ xf, code5 (num f) = some xf → FunOK Tryd.prog num f xf
theorem hit {n : Nat} {x : XFun} (e : code5 (num n) = some x) (k : FunOK Tryd.prog num n x) (r : ∀ f, f < n → FnAt f) : ∀ f, f < n + 1 → FnAt f := fun f h xf hx => by
 rcases Nat.lt_or_eq_of_le (Nat.le_of_lt_succ h) with h | rfl
 ·exact r f h xf hx
 ·rw [e] at hx; cases hx; exact k
theorem nix {n : Nat} (e : code5 (num n) = none) (r : ∀ f, f < n → FnAt f) : ∀ f, f < n + 1 → FnAt f := fun f h xf hx => by
 rcases Nat.lt_or_eq_of_le (Nat.le_of_lt_succ h) with h | rfl
 ·exact r f h xf hx
 ·rw [e] at hx; cases hx
theorem upto20 : ∀ f, f < 20 → FnAt f :=
 hit (by kernel_rfl) ok19 <|
 hit (by kernel_rfl) ok18 <|
 hit (by kernel_rfl) ok17 <|
 hit (by kernel_rfl) ok16 <|
 hit (by kernel_rfl) ok15 <|
 hit (by kernel_rfl) ok14 <|
 hit (by kernel_rfl) ok13 <|
 hit (by kernel_rfl) ok12 <|
 hit (by kernel_rfl) ok11 <|
 hit (by kernel_rfl) ok10 <|
 hit (by kernel_rfl) ok9 <|
 hit (by kernel_rfl) ok8 <|
 hit (by kernel_rfl) ok7 <|
 hit (by kernel_rfl) ok6 <|
 hit (by kernel_rfl) ok5 <|
 hit (by kernel_rfl) ok4 <|
 hit (by kernel_rfl) ok3 <|
 nix (by kernel_rfl) <|
 nix (by kernel_rfl) <|
 nix (by kernel_rfl) (fun f h => absurd h (Nat.not_lt_zero f))
theorem upto40 : ∀ f, f < 40 → FnAt f :=
 nix (by kernel_rfl) <|
 nix (by kernel_rfl) <|
 hit (by kernel_rfl) ok37 <|
 nix (by kernel_rfl) <|
 nix (by kernel_rfl) <|
 nix (by kernel_rfl) <|
 nix (by kernel_rfl) <|
 hit (by kernel_rfl) ok32 <|
 hit (by kernel_rfl) ok31 <|
 nix (by kernel_rfl) <|
 hit (by kernel_rfl) ok29 <|
 hit (by kernel_rfl) ok28 <|
 hit (by kernel_rfl) ok27 <|
 hit (by kernel_rfl) ok26 <|
 hit (by kernel_rfl) ok25 <|
 hit (by kernel_rfl) ok24 <|
 nix (by kernel_rfl) <|
 hit (by kernel_rfl) ok22 <|
 hit (by kernel_rfl) ok21 <|
 hit (by kernel_rfl) ok20 upto20
theorem upto60 : ∀ f, f < 60 → FnAt f :=
 nix (by kernel_rfl) <|
 nix (by kernel_rfl) <|
 nix (by kernel_rfl) <|
 nix (by kernel_rfl) <|
 nix (by kernel_rfl) <|
 nix (by kernel_rfl) <|
 nix (by kernel_rfl) <|
 nix (by kernel_rfl) <|
 nix (by kernel_rfl) <|
 nix (by kernel_rfl) <|
 nix (by kernel_rfl) <|
 nix (by kernel_rfl) <|
 nix (by kernel_rfl) <|
 nix (by kernel_rfl) <|
 nix (by kernel_rfl) <|
 nix (by kernel_rfl) <|
 nix (by kernel_rfl) <|
 nix (by kernel_rfl) <|
 nix (by kernel_rfl) <|
 nix (by kernel_rfl) upto40
theorem upto80 : ∀ f, f < 80 → FnAt f :=
 nix (by kernel_rfl) <|
 nix (by kernel_rfl) <|
 nix (by kernel_rfl) <|
 nix (by kernel_rfl) <|
 nix (by kernel_rfl) <|
 nix (by kernel_rfl) <|
 nix (by kernel_rfl) <|
 nix (by kernel_rfl) <|
 nix (by kernel_rfl) <|
 nix (by kernel_rfl) <|
 nix (by kernel_rfl) <|
 nix (by kernel_rfl) <|
 nix (by kernel_rfl) <|
 nix (by kernel_rfl) <|
 nix (by kernel_rfl) <|
 nix (by kernel_rfl) <|
 nix (by kernel_rfl) <|
 nix (by kernel_rfl) <|
 nix (by kernel_rfl) <|
 nix (by kernel_rfl) upto60
theorem upto90 : ∀ f, f < 90 → FnAt f :=
 nix (by kernel_rfl) <|
 nix (by kernel_rfl) <|
 nix (by kernel_rfl) <|
 nix (by kernel_rfl) <|
 nix (by kernel_rfl) <|
 nix (by kernel_rfl) <|
 nix (by kernel_rfl) <|
 nix (by kernel_rfl) <|
 nix (by kernel_rfl) <|
 nix (by kernel_rfl) upto80
theorem fns (f : FuncId) (xf : XFun) (h : code5 (num f) = some xf) : FunOK Tryd.prog num f xf := by
 by_cases hf : f < 90
 ·exact upto90 f hf xf h
 ·have hn : num f = 100000 + f := by
   unfold num
   rw [List.getElem?_eq_none (by rw [show gids.length = 90 from by kernel_rfl]; simp only [FuncId] at *; omega)]; rfl
  rw [hn] at h
  unfold code5 at h
  split at h <;> first | (exfalso; simp only [FuncId] at *; omega) | cases h
theorem nz (f : FuncId) : num f ≠ yieldNo := by
 by_cases hf : f < 90
 ·exact (by decide +kernel : ∀ f : Fin 90, num f.val ≠ yieldNo) ⟨f, hf⟩
 ·have hn : num f = 100000 + f := by
   unfold num
   rw [List.getElem?_eq_none (by rw [show gids.length = 90 from by kernel_rfl]; simp only [FuncId] at *; omega)]; rfl
  rw [hn, yieldNo]
  simp only [FuncId] at *; omega
def ren169 : Go.Shelf.Ren := ⟨fun | 169 => 30 | n => n, fun | 70 => 55 | 9 => 9 | 0 => 0 | 72 => 57 | 37 => 27 | 127 => 64 | 3 => 3 | 5 => 5 | n => n, fun | n => n⟩
theorem lays169 : Go.Proofs.Lays.n169 Tryd.prog ren169 := {
 mixed := by kernel_rfl
 f169 := Tryd.func30.trans (congrArg some (by kernel_rfl))
 t0 := Tryd.underlying0
 a0 := Tryd.isAgg0
 z0 := Tryd.sizeOf0
 v0 := Tryd.zeroValue0
 t3 := Tryd.underlying3
 a3 := Tryd.isAgg3
 z3 := Tryd.sizeOf3
 v3 := Tryd.zeroValue3
 t9 := Tryd.underlying9
 a9 := Tryd.isAgg9
 z9 := Tryd.sizeOf9
 v9 := Tryd.zeroValue9
 t37 := Tryd.underlying27
 a37 := Tryd.isAgg27
 z37 := Tryd.sizeOf27
 v37 := Tryd.zeroValue27
 t70 := Tryd.underlying55
 a70 := Tryd.isAgg55
 z70 := Tryd.sizeOf55
 v70 := Tryd.zeroValue55
 t72 := Tryd.underlying57
 a72 := Tryd.isAgg57
 z72 := Tryd.sizeOf57
 v72 := Tryd.zeroValue57
 t127 := Tryd.underlying64
 a127 := Tryd.isAgg64
 z127 := Tryd.sizeOf64
 v127 := Tryd.zeroValue64 }
def ren246 : Go.Shelf.Ren := ⟨fun | 246 => 36 | 283 => 44 | 284 => 45 | 285 => 46 | 286 => 47 | 129 => 54 | 317 => 53 | 318 => 55 | 319 => 56 | 320 => 57 | 337 => 59 | 338 => 60 | n => n, fun | 2 => 2 | 3 => 3 | 9 => 9 | 4 => 4 | 171 => 74 | 0 => 0 | 53 => 66 | 37 => 27 | 5 => 5 | 173 => 77 | 212 => 87 | 51 => 88 | 20 => 20 | 213 => 89 | 46 => 69 | 232 => 96 | 233 => 97 | n => n, fun | 17 => 2 | 18 => 3 | 19 => 4 | n => n⟩
theorem lays246 : Go.Proofs.LaysM.n246 Tryd.prog ren246 := {
 mixed := by kernel_rfl
 f129 := Tryd.func54.trans (congrArg some (by kernel_rfl))
 f246 := Tryd.func36.trans (congrArg some (by kernel_rfl))
 f283 := Tryd.func44.trans (congrArg some (by kernel_rfl))
 f284 := Tryd.func45.trans (congrArg some (by kernel_rfl))
 f285 := Tryd.func46.trans (congrArg some (by kernel_rfl))
 f286 := Tryd.func47.trans (congrArg some (by kernel_rfl))
 f317 := Tryd.func53.trans (congrArg some (by kernel_rfl))
 f318 := Tryd.func55.trans (congrArg some (by kernel_rfl))
 f319 := Tryd.func56.trans (congrArg some (by kernel_rfl))
 f320 := Tryd.func57.trans (congrArg some (by kernel_rfl))
 f337 := Tryd.func59.trans (congrArg some (by kernel_rfl))
 f338 := Tryd.func60.trans (congrArg some (by kernel_rfl))
 t0 := Tryd.underlying0
 a0 := Tryd.isAgg0
 z0 := Tryd.sizeOf0
 v0 := Tryd.zeroValue0
 t2 := Tryd.underlying2
 a2 := Tryd.isAgg2
 z2 := Tryd.sizeOf2
 v2 := Tryd.zeroValue2
 t3 := Tryd.underlying3
 a3 := Tryd.isAgg3
 z3 := Tryd.sizeOf3
 v3 := Tryd.zeroValue3
 t4 := Tryd.underlying4
 a4 := Tryd.isAgg4
 z4 := Tryd.sizeOf4
 v4 := Tryd.zeroValue4
 t5 := Tryd.underlying5
 a5 := Tryd.isAgg5
 z5 := Tryd.sizeOf5
 v5 := Tryd.zeroValue5
 t9 := Tryd.underlying9
 a9 := Tryd.isAgg9
 z9 := Tryd.sizeOf9
 v9 := Tryd.zeroValue9
 t20 := Tryd.underlying20
 a20 := Tryd.isAgg20
 z20 := Tryd.sizeOf20
 v20 := Tryd.zeroValue20
 t37 := Tryd.underlying27
 a37 := Tryd.isAgg27
 z37 := Tryd.sizeOf27
 v37 := Tryd.zeroValue27
 t46 := Tryd.underlying69
 a46 := Tryd.isAgg69
 z46 := Tryd.sizeOf69
 v46 := Tryd.zeroValue69
 t51 := Tryd.underlying88
 a51 := Tryd.isAgg88
 z51 := Tryd.sizeOf88
 v51 := Tryd.zeroValue88
 t53 := Tryd.underlying66
 a53 := Tryd.isAgg66
 z53 := Tryd.sizeOf66
 v53 := Tryd.zeroValue66
 t171 := Tryd.underlying74
 a171 := Tryd.isAgg74
 z171 := Tryd.sizeOf74
 v171 := Tryd.zeroValue74
 t173 := Tryd.underlying77
 a173 := Tryd.isAgg77
 z173 := Tryd.sizeOf77
 v173 := Tryd.zeroValue77
 t212 := Tryd.underlying87
 a212 := Tryd.isAgg87
 z212 := Tryd.sizeOf87
 v212 := Tryd.zeroValue87
 t213 := Tryd.underlying89
 a213 := Tryd.isAgg89
 z213 := Tryd.sizeOf89
 t232 := Tryd.underlying96
 a232 := Tryd.isAgg96
 z232 := Tryd.sizeOf96
 v232 := Tryd.zeroValue96
 t233 := Tryd.underlying97
 a233 := Tryd.isAgg97
 z233 := Tryd.sizeOf97
 v233 := Tryd.zeroValue97
 g17 := by kernel_rfl
 g18 := by kernel_rfl
 g19 := by kernel_rfl
 i0 := by kernel_rfl
 i2 := by kernel_rfl
 i3 := by kernel_rfl
 i4 := by kernel_rfl
 i5 := by kernel_rfl
 i9 := by kernel_rfl
 i20 := by kernel_rfl
 i37 := by kernel_rfl
 i46 := by kernel_rfl
 i51 := by kernel_rfl
 i53 := by kernel_rfl
 i171 := by kernel_rfl
 i173 := by kernel_rfl
 i212 := by kernel_rfl
 i232 := by kernel_rfl
 i233 := by kernel_rfl
 m17 := by kernel_rfl
 m18 := by kernel_rfl
 m19 := by kernel_rfl }
def ren174 : Go.Shelf.Ren := ⟨fun | 174 => 23 | 247 => 34 | 245 => 35 | 287 => 39 | 279 => 40 | 280 => 41 | 281 => 42 | 282 => 43 | 321 => 49 | 322 => 50 | 316 => 33 | 171 => 52 | 205 => 51 | 243 => 58 | 246 => 36 | 283 => 44 | 284 => 45 | 285 => 46 | 286 => 47 | 129 => 54 | 317 => 53 | 318 => 55 | 319 => 56 | 320 => 57 | 337 => 59 | 338 => 60 | n => n, fun | 9 => 9 | 3 => 3 | 2 => 2 | 75 => 48 | 85 => 49 | 4 => 4 | 167 => 65 | 5 => 5 | 53 => 66 | 175 => 67 | 46 => 69 | 168 => 70 | 37 => 27 | 0 => 0 | 210 => 83 | 21 => 21 | 127 => 64 | 145 => 94 | 143 => 92 | 171 => 74 | 173 => 77 | 212 => 87 | 51 => 88 | 20 => 20 | 213 => 89 | 232 => 96 | 233 => 97 | 80 => 60 | n => n, fun | 15 => 0 | 16 => 1 | 17 => 2 | 18 => 3 | 19 => 4 | n => n⟩
theorem lays174 : Go.Proofs.LaysC.n174 Tryd.prog ren174 := {
 mixed := by kernel_rfl
 f129 := Tryd.func54.trans (congrArg some (by kernel_rfl))
 f171 := Tryd.func52.trans (congrArg some (by kernel_rfl))
 f174 := Tryd.func23.trans (congrArg some (by kernel_rfl))
 f205 := Tryd.func51.trans (congrArg some (by kernel_rfl))
 f243 := Tryd.func58.trans (congrArg some (by kernel_rfl))
 f245 := Tryd.func35.trans (congrArg some (by kernel_rfl))
 f246 := Tryd.func36.trans (congrArg some (by kernel_rfl))
 f247 := Tryd.func34.trans (congrArg some (by kernel_rfl))
 f279 := Tryd.func40.trans (congrArg some (by kernel_rfl))
 f280 := Tryd.func41.trans (congrArg some (by kernel_rfl))
 f281 := Tryd.func42.trans (congrArg some (by kernel_rfl))
 f282 := Tryd.func43.trans (congrArg some (by kernel_rfl))
 f283 := Tryd.func44.trans (congrArg some (by kernel_rfl))
 f284 := Tryd.func45.trans (congrArg some (by kernel_rfl))
 f285 := Tryd.func46.trans (congrArg some (by kernel_rfl))
 f286 := Tryd.func47.trans (congrArg some (by kernel_rfl))
 f287 := Tryd.func39.trans (congrArg some (by kernel_rfl))
 f316 := Tryd.func33.trans (congrArg some (by kernel_rfl))
 f317 := Tryd.func53.trans (congrArg some (by kernel_rfl))
 f318 := Tryd.func55.trans (congrArg some (by kernel_rfl))
 f319 := Tryd.func56.trans (congrArg some (by kernel_rfl))
 f320 := Tryd.func57.trans (congrArg some (by kernel_rfl))
 f321 := Tryd.func49.trans (congrArg some (by kernel_rfl))
 f322 := Tryd.func50.trans (congrArg some (by kernel_rfl))
 f337 := Tryd.func59.trans (congrArg some (by kernel_rfl))
 f338 := Tryd.func60.trans (congrArg some (by kernel_rfl))
 t0 := Tryd.underlying0
 a0 := Tryd.isAgg0
 z0 := Tryd.sizeOf0
 v0 := Tryd.zeroValue0
 t2 := Tryd.underlying2
 a2 := Tryd.isAgg2
 z2 := Tryd.sizeOf2
 v2 := Tryd.zeroValue2
 t3 := Tryd.underlying3
 a3 := Tryd.isAgg3
 z3 := Tryd.sizeOf3
 v3 := Tryd.zeroValue3
 t4 := Tryd.underlying4
 a4 := Tryd.isAgg4
 z4 := Tryd.sizeOf4
 v4 := Tryd.zeroValue4
 t5 := Tryd.underlying5
 a5 := Tryd.isAgg5
 z5 := Tryd.sizeOf5
 v5 := Tryd.zeroValue5
 t9 := Tryd.underlying9
 a9 := Tryd.isAgg9
 z9 := Tryd.sizeOf9
 v9 := Tryd.zeroValue9
 t20 := Tryd.underlying20
 a20 := Tryd.isAgg20
 z20 := Tryd.sizeOf20
 v20 := Tryd.zeroValue20
 t21 := Tryd.underlying21
 a21 := Tryd.isAgg21
 z21 := Tryd.sizeOf21
 v21 := Tryd.zeroValue21
 t37 := Tryd.underlying27
 a37 := Tryd.isAgg27
 z37 := Tryd.sizeOf27
 v37 := Tryd.zeroValue27
 t46 := Tryd.underlying69
 a46 := Tryd.isAgg69
 z46 := Tryd.sizeOf69
 v46 := Tryd.zeroValue69
 t51 := Tryd.underlying88
 a51 := Tryd.isAgg88
 z51 := Tryd.sizeOf88
 v51 := Tryd.zeroValue88
 t53 := Tryd.underlying66
 a53 := Tryd.isAgg66
 z53 := Tryd.sizeOf66
 v53 := Tryd.zeroValue66
 t75 := Tryd.underlying48
 a75 := Tryd.isAgg48
 z75 := Tryd.sizeOf48
 v75 := Tryd.zeroValue48
 t85 := Tryd.underlying49
 a85 := Tryd.isAgg49
 z85 := Tryd.sizeOf49
 v85 := Tryd.zeroValue49
 t127 := Tryd.underlying64
 a127 := Tryd.isAgg64
 z127 := Tryd.sizeOf64
 v127 := Tryd.zeroValue64
 t143 := Tryd.underlying92
 a143 := Tryd.isAgg92
 z143 := Tryd.sizeOf92
 v143 := Tryd.zeroValue92
 t145 := Tryd.underlying94
 a145 := Tryd.isAgg94
 z145 := Tryd.sizeOf94
 v145 := Tryd.zeroValue94
 t167 := Tryd.underlying65
 a167 := Tryd.isAgg65
 z167 := Tryd.sizeOf65
 v167 := Tryd.zeroValue65
 t168 := Tryd.underlying70
 a168 := Tryd.isAgg70
 z168 := Tryd.sizeOf70
 v168 := Tryd.zeroValue70
 t171 := Tryd.underlying74
 a171 := Tryd.isAgg74
 z171 := Tryd.sizeOf74
 v171 := Tryd.zeroValue74
 t173 := Tryd.underlying77
 a173 := Tryd.isAgg77
 z173 := Tryd.sizeOf77
 v173 := Tryd.zeroValue77
 t175 := Tryd.underlying67
 a175 := Tryd.isAgg67
 z175 := Tryd.sizeOf67
 v175 := Tryd.zeroValue67
 t210 := Tryd.underlying83
 a210 := Tryd.isAgg83
 z210 := Tryd.sizeOf83
 v210 := Tryd.zeroValue83
 t212 := Tryd.underlying87
 a212 := Tryd.isAgg87
 z212 := Tryd.sizeOf87
 v212 := Tryd.zeroValue87
 t213 := Tryd.underlying89
 a213 := Tryd.isAgg89
 z213 := Tryd.sizeOf89
 t232 := Tryd.underlying96
 a232 := Tryd.isAgg96
 z232 := Tryd.sizeOf96
 v232 := Tryd.zeroValue96
 t233 := Tryd.underlying97
 a233 := Tryd.isAgg97
 z233 := Tryd.sizeOf97
 v233 := Tryd.zeroValue97
 g15 := by kernel_rfl
 g16 := by kernel_rfl
 g17 := by kernel_rfl
 g18 := by kernel_rfl
 g19 := by kernel_rfl
 t80 := Tryd.underlying60
 a80 := Tryd.isAgg60
 z80 := Tryd.sizeOf60
 v80 := Tryd.zeroValue60
 i0 := by kernel_rfl
 i2 := by kernel_rfl
 i3 := by kernel_rfl
 i4 := by kernel_rfl
 i5 := by kernel_rfl
 i9 := by kernel_rfl
 i20 := by kernel_rfl
 i21 := by kernel_rfl
 i37 := by kernel_rfl
 i46 := by kernel_rfl
 i51 := by kernel_rfl
 i53 := by kernel_rfl
 i75 := by kernel_rfl
 i80 := by kernel_rfl
 i85 := by kernel_rfl
 i127 := by kernel_rfl
 i143 := by kernel_rfl
 i145 := by kernel_rfl
 i167 := by kernel_rfl
 i168 := by kernel_rfl
 i171 := by kernel_rfl
 i173 := by kernel_rfl
 i175 := by kernel_rfl
 i210 := by kernel_rfl
 i212 := by kernel_rfl
 i232 := by kernel_rfl
 i233 := by kernel_rfl
 m15 := by kernel_rfl
 m16 := by kernel_rfl
 m17 := by kernel_rfl
 m18 := by kernel_rfl
 m19 := by kernel_rfl
 c0 := by kernel_rfl
 c2 := by kernel_rfl
 c3 := by kernel_rfl
 c4 := by kernel_rfl
 c5 := by kernel_rfl
 c9 := by kernel_rfl
 c20 := by kernel_rfl
 c21 := by kernel_rfl
 c37 := by kernel_rfl
 c46 := by kernel_rfl
 c51 := by kernel_rfl
 c53 := by kernel_rfl
 c75 := by kernel_rfl
 c80 := by kernel_rfl
 c85 := by kernel_rfl
 c127 := by kernel_rfl
 c143 := by kernel_rfl
 c145 := by kernel_rfl
 c167 := by kernel_rfl
 c168 := by kernel_rfl
 c171 := by kernel_rfl
 c173 := by kernel_rfl
 c175 := by kernel_rfl
 c210 := by kernel_rfl
 c212 := by kernel_rfl
 c213 := by kernel_rfl
 c232 := by kernel_rfl
 c233 := by kernel_rfl }
def ren316 : Go.Shelf.Ren := ⟨fun | 316 => 33 | n => n, fun | 9 => 9 | 3 => 3 | 4 => 4 | 37 => 27 | 0 => 0 | 127 => 64 | 5 => 5 | n => n, fun | n => n⟩
theorem lays316 : Go.Proofs.LaysM.n316 Tryd.prog ren316 := {
 mixed := by kernel_rfl
 f316 := Tryd.func33.trans (congrArg some (by kernel_rfl))
 t0 := Tryd.underlying0
 a0 := Tryd.isAgg0
 z0 := Tryd.sizeOf0
 v0 := Tryd.zeroValue0
 t3 := Tryd.underlying3
 a3 := Tryd.isAgg3
 z3 := Tryd.sizeOf3
 v3 := Tryd.zeroValue3
 t4 := Tryd.underlying4
 a4 := Tryd.isAgg4
 z4 := Tryd.sizeOf4
 v4 := Tryd.zeroValue4
 t9 := Tryd.underlying9
 a9 := Tryd.isAgg9
 z9 := Tryd.sizeOf9
 v9 := Tryd.zeroValue9
 t37 := Tryd.underlying27
 a37 := Tryd.isAgg27
 z37 := Tryd.sizeOf27
 v37 := Tryd.zeroValue27
 t127 := Tryd.underlying64
 a127 := Tryd.isAgg64
 z127 := Tryd.sizeOf64
 v127 := Tryd.zeroValue64
 t5 := Tryd.underlying5
 a5 := Tryd.isAgg5
 z5 := Tryd.sizeOf5
 v5 := Tryd.zeroValue5
 i0 := by kernel_rfl
 i3 := by kernel_rfl
 i4 := by kernel_rfl
 i5 := by kernel_rfl
 i9 := by kernel_rfl
 i37 := by kernel_rfl
 i127 := by kernel_rfl }
theorem ck_num (f : FuncId) (h : num f = 674) : f = 38 := by
 by_cases hf : f < 90
 ·exact (by decide +kernel : ∀ f : Fin 90, num f.val = 674 → f.val = 38) ⟨f, hf⟩ h
 ·have hn : num f = 100000 + f := by
   unfold num
   rw [List.getElem?_eq_none (by rw [show gids.length = 90 from by kernel_rfl]; simp only [FuncId] at *; omega)]; rfl
  rw [hn] at h
  exfalso; simp only [FuncId] at *; omega
theorem str_num (f : FuncId) (h : num f = 670) : f = ren169.f 169 := by
 by_cases hf : f < 90
 ·exact (by decide +kernel : ∀ f : Fin 90, num f.val = 670 → f.val = ren169.f 169) ⟨f, hf⟩ h
 ·have hn : num f = 100000 + f := by
   unfold num
   rw [List.getElem?_eq_none (by rw [show gids.length = 90 from by kernel_rfl]; simp only [FuncId] at *; omega)]; rfl
  rw [hn] at h
  exfalso; simp only [FuncId] at *; omega
theorem fmt_num (f : FuncId) (h : num f = 708) : f = ren246.f 246 := by
 by_cases hf : f < 90
 ·exact (by decide +kernel : ∀ f : Fin 90, num f.val = 708 → f.val = ren246.f 246) ⟨f, hf⟩ h
 ·have hn : num f = 100000 + f := by
   unfold num
   rw [List.getElem?_eq_none (by rw [show gids.length = 90 from by kernel_rfl]; simp only [FuncId] at *; omega)]; rfl
  rw [hn] at h
  exfalso; simp only [FuncId] at *; omega
theorem pi_num (f : FuncId) (h : num f = 787) : f = ren174.f 174 := by
 by_cases hf : f < 90
 ·exact (by decide +kernel : ∀ f : Fin 90, num f.val = 787 → f.val = ren174.f 174) ⟨f, hf⟩ h
 ·have hn : num f = 100000 + f := by
   unfold num
   rw [List.getElem?_eq_none (by rw [show gids.length = 90 from by kernel_rfl]; simp only [FuncId] at *; omega)]; rfl
  rw [hn] at h
  exfalso; simp only [FuncId] at *; omega
theorem cl_num (f : FuncId) (h : num f = 721) : f = ren316.f 316 := by
 by_cases hf : f < 90
 ·exact (by decide +kernel : ∀ f : Fin 90, num f.val = 721 → f.val = ren316.f 316) ⟨f, hf⟩ h
 ·have hn : num f = 100000 + f := by
   unfold num
   rw [List.getElem?_eq_none (by rw [show gids.length = 90 from by kernel_rfl]; simp only [FuncId] at *; omega)]; rfl
  rw [hn] at h
  exfalso; simp only [FuncId] at *; omega
theorem zbk : Callable Tryd.prog 38 := ⟨Tryd.f38, Tryd.func38, by decide +kernel, by kernel_rfl⟩
theorem zm6 : Callable Tryd.prog (ren169.f 169) := ⟨Tryd.f30, Tryd.func30, by decide +kernel, by kernel_rfl⟩
theorem zeu : Callable Tryd.prog (ren246.f 246) := ⟨Tryd.f36, Tryd.func36, by decide +kernel, by kernel_rfl⟩
theorem ziu : Callable Tryd.prog (ren174.f 174) := ⟨Tryd.f23, Tryd.func23, by decide +kernel, by kernel_rfl⟩
theorem zbl : Callable Tryd.prog (ren316.f 316) := ⟨Tryd.f33, Tryd.func33, by decide +kernel, by kernel_rfl⟩
theorem strExtra : Builder.Extra Tryd.prog ren169 := {
 sizeBuilder := by kernel_rfl
 liesBuilder := by kernel_rfl
 t5 := Tryd.underlying5
 a5 := Tryd.isAgg5
 z5 := Tryd.sizeOf5
 v5 := Tryd.zeroValue5
 infoByte := by kernel_rfl
 cellsByte := by kernel_rfl
 sizeByte := by kernel_rfl
 neB5 := by decide }
abbrev powTab : Tab := ("internal/strconv.uint64pow10", .u64, Lib.pow10Tab)
abbrev errNames : List String := ["strconv.ErrRange", "strconv.ErrSyntax"]
theorem ext_ok : ExtOK (Names.errs num Tryd.prog [powTab] errNames) Tryd.prog (ext5 dig) :=
 zd6 (zd7 checkFacts (by kernel_rfl) ck_num zbk) (zeb lays169 strExtra str_num zm6) (zd9 lays246 (List.mem_cons_self ..) fmt_num zeu)
  (zea lays174 (List.mem_cons_of_mem _ (List.mem_cons_self ..)) (List.mem_cons_self ..) pi_num ziu) (zd8 lays316 cl_num zbl)
theorem runs : Runs Tryd.prog (Names.errs num Tryd.prog [powTab] errNames) code5 (ext5 dig) :=
 ⟨by kernel_rfl, fns, ext_ok, nz, zbq, fun _ _ _ _ _ _ => Iff.rfl, fun _ _ _ h => h, fun _ h1 h2 => ⟨h1, h2⟩⟩
end Go.Proofs.YtkmdbfhagicidaaDoor

