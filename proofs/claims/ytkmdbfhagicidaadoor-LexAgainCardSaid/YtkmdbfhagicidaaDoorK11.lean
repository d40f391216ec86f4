import Derived.Test.YtkmdbfhagicidaaDoorK10
import Derived.Test.YtkmdbfhagicidaaDoorK9
import Derived.Test.YtkmdbfhagicidaaDoorRows
import Derived.Test.YtkmdbfhagicidaaDoorK8
import Derived.Test.YtkmdbfhagicidaaDoorCk5
import Derived.Test.YtkmdbfhagicidaaDoorPi
import Derived.Test.YtkmdbfhagicidaaDoorTie
import Derived.Test.YtkmdbfhagicidaaDoorCards
import Derived.ProofKit
import Derived.LaidMore
import Derived.OpenShut
import Derived.Stop.Joined
import Derived.Stop.LaidErr
import Derived.JoinedOf
import Derived.SizedLaws
import Derived.SevenTiedAt
import Derived.Lib.LaidTab
import Derived.Lib.ItoaMem
import Derived.Lib.ItoaLen
set_option linter.unusedVariables false
set_option linter.unusedSimpArgs false
namespace Go.EX
section
variable {code : Nat → Option XFun} {ext : Calls'}
theorem zpa (c : LexCode code ext) (x : UInt8) (r : List UInt8) (hx : isLetter x = true) (hq : x.toNat ≠ 34) (n : Int) (hl : (x :: r).length ≤ 1000000) :
  callW code ext 194 [.optr 0 0] (scanM (x :: r) n) = some (.tup [.agg [.imm (.val (.int .u8 1)), strV (bs ((x :: r).takeWhile isWord)), int64 0, int64 n], avb (decide (((x :: r).takeWhile isWord).length ≤ 4096))], scanM ((x :: r).dropWhile isWord) n) := by
 have he := zdi (ext := ext) c.c188 (zo3 c.c195 c.c569 c.c570) (x :: r) n hl
 have hlen := tw_len isWord (x :: r)
 have hcl := zbz c ((x :: r).takeWhile isWord) (by omega)
 have hd := zc1 (ext := ext) c.c569 x
 have hle := zg1 (ext := ext) c.c570 x
 rw [hx] at hle
 rw [zbj code ext c.c194]
 have hat := bs_get (x :: r) 0
 rw [show (x :: r)[0]? = some x from rfl] at hat
 have hz := zba ((x :: r).takeWhile isWord)
 have h34 : ¬ (x.toNat : Int) = 34 := by omega
 have hdec : decide ((((x :: r).takeWhile isWord).length : Int) ≤ 4096) = decide (((x :: r).takeWhile isWord).length ≤ 4096) := by rw [decide_eq_decide]; omega
 rw [← hdec]
 unfold x194 scanM at *
 generalize x194L1 = L at *
 unfold u8V at *
 clear hx hq hl hlen hdec
 generalize ((x :: r).takeWhile isWord).length = tl at *
 generalize bs ((x :: r).takeWhile isWord) = T at *
 generalize bs ((x :: r).dropWhile isWord) = D at *
 generalize bs (x :: r) = B at *
 generalize isDigit x = dg at *
 cases dg <;> simp -implicitDefEqProofs [he, hcl, hd, hle, hat, hz, h34]
theorem word_num (c : LexCode code ext) (x : UInt8) (r : List UInt8) (hx : isLetter x = false) (hx2 : isDigit x = true) (n : Int) (hl : (x :: r).length ≤ 1000000) :
  callW code ext 194 [.optr 0 0] (scanM (x :: r) n) = some (.tup [.agg [.imm (.val (.int .u8 2)), strV (bs []), int64 (numN ((x :: r).takeWhile isWord)), int64 n], avb (numOk ((x :: r).takeWhile isWord))], scanM ((x :: r).dropWhile isWord) n) := by
 have he := zdi (ext := ext) c.c188 (zo3 c.c195 c.c569 c.c570) (x :: r) n hl
 have hlen := tw_len isWord (x :: r)
 have hp := zir c ((x :: r).takeWhile isWord) (by omega)
 have hd := zc1 (ext := ext) c.c569 x
 have hle := zg1 (ext := ext) c.c570 x
 rw [hx] at hle
 rw [hx2] at hd
 have h34 : ¬ (x.toNat : Int) = 34 := by
  intro h
  unfold isDigit at hx2
  simp only [Bool.and_eq_true, decide_eq_true_eq] at hx2
  omega
 have hat := bs_get (x :: r) 0
 rw [show (x :: r)[0]? = some x from rfl] at hat
 have hemp : bs [] = ByteArray.empty := rfl
 rw [zbj code ext c.c194, hemp]
 have hok : ∀ v, Go.Lib.parseIntB 64 ((x :: r).takeWhile isWord) = .ok v → numN ((x :: r).takeWhile isWord) = v ∧ numOk ((x :: r).takeWhile isWord) = decide (bs (Go.Lib.itoa v) = bs ((x :: r).takeWhile isWord)) := by
  intro v hv
  unfold numN numOk
  rw [hv]
  refine ⟨rfl, ?_⟩
  show decide _ = decide _
  rw [decide_eq_decide]
  exact bs_inj.symm
 have hno : (∀ v, Go.Lib.parseIntB 64 ((x :: r).takeWhile isWord) ≠ .ok v) → numOk ((x :: r).takeWhile isWord) = false := by
  intro hv
  unfold numOk
  split
  ·rename_i v h; exact absurd h (hv v)
  ·rfl
 unfold x194 scanM at *
 generalize x194L1 = L at *
 unfold u8V at *
 rcases hp with ⟨v, hv, hp⟩ | ⟨hv, hp⟩
 ·obtain ⟨g1, g2⟩ := hok v hv
  have hf := zfa c (ziu hv)
  rw [g1, g2]
  clear hok hno g1 g2 hv hx hx2 hl hlen
  generalize bs (Go.Lib.itoa v) = F at *
  generalize bs ((x :: r).takeWhile isWord) = T at *
  generalize bs ((x :: r).dropWhile isWord) = D at *
  generalize bs (x :: r) = B at *
  simp -implicitDefEqProofs [he, hp, hd, hle, hat, h34, hf]
 ·rw [hno hv]
  clear hok hno hv hx hx2 hl hlen
  generalize numN ((x :: r).takeWhile isWord) = N at *
  generalize bs ((x :: r).takeWhile isWord) = T at *
  generalize bs ((x :: r).dropWhile isWord) = D at *
  generalize bs (x :: r) = B at *
  simp -implicitDefEqProofs [he, hp, hd, hle, hat, h34]
def signs5 : List (List UInt8) := [[61, 61], [33, 61], [60, 61], [40], [41], [123], [125], [91], [93], [44], [59], [58], [61], [60], [43], [45], [42], [47], [37], [35], [36]]
def signC : List AV := signs5.map fun s => strV (bs s)
theorem zml (c : LexCode code ext) : ∃ m, callW code ext 571 [] [] = some (.agg signC, m) := by
 refine mem_of ?_
 rw [zbj code ext c.c571]
 unfold signC signs5 bs
 simp -implicitDefEqProofs [x571]
theorem zb9 (c : LexCode code ext) (l p : List UInt8) : callW code ext 723 [strV (bs l), strV (bs p)] [] = some (.tup [strV (bs (if hasPre p l then l.drop p.length else l)), avb (hasPre p l)], []) := by
 have hp := zjm (ext := ext) c.c725 l p
 rw [zbj code ext c.c723]
 have hs1 := zba l
 have hs2 := zba p
 have hd := za8 l p.length
 cases hb : hasPre p l with
 | false =>
  rw [hb] at hp
  simp only [Bool.false_eq_true, if_false]
  generalize bs l = L at *
  generalize bs p = Q at *
  simp -implicitDefEqProofs [x723, hp]
 | true =>
  rw [hb] at hp
  have hle : p.length ≤ l.length := by
   unfold hasPre at hb
   have := congrArg List.length (of_decide_eq_true hb)
   rw [List.length_take] at this
   omega
  have hle' : (p.length : Int) ≤ l.length := by omega
  simp only [if_true]
  generalize bs (l.drop p.length) = D at *
  generalize bs l = L at *
  generalize bs p = Q at *
  simp -implicitDefEqProofs [x723, hp, hs1, hs2, hd, hle, hle']
theorem zca (c : LexCode code ext) (l p : List UInt8) : callW code ext 796 [strV (bs l), strV (bs p)] [] = some (.tup [strV (bs (if hasPre p l then l.drop p.length else l)), avb (hasPre p l)], []) := by
 have hp := zb9 c l p
 rw [zbj code ext c.c796]
 generalize bs (if hasPre p l then l.drop p.length else l) = D at *
 generalize bs l = L at *
 generalize bs p = Q at *
 simp -implicitDefEqProofs [x796, hp]
def signOf (l : List UInt8) : Option (List UInt8) := signs5.find? fun s => hasPre s l
theorem zmi (c : LexCode code ext) (l : List UInt8) (n : Int) (s0 : St) (hs0 : s0.tidy [0, 2, 70, 71] = ⟨1, [(0, .optr 0 0), (2, .optr 1 0), (70, .agg signC), (71, int64 0)], [.rich [strV (bs l), int64 n], .rich [.imm (.val (.int .u8 0)), strV .empty, int64 0, int64 n]]⟩) :
  ∃ e s', den code ext (.loop [0, 2, 70, 71] x194L1) s0 = some (e, s') ∧ e ≠ .normal ∧
   ((signOf l = none ∧ e = .exit 1 ∧ ∃ x, s' = ⟨1, [(0, .optr 0 0), (2, .optr 1 0), (70, x), (71, int64 21), (72, avb false)], [.rich [strV (bs l), int64 n], .rich [.imm (.val (.int .u8 0)), strV .empty, int64 0, int64 n]]⟩) ∨
    (∃ sg, signOf l = some sg ∧ e = .ret ∧ s' = ⟨1, [(2, .optr 1 0), (3, avb true)], [.rich [strV (bs (l.drop sg.length)), int64 n], .rich [.imm (.val (.int .u8 4)), strV (bs sg), int64 0, int64 n]]⟩)) := by
 have hlen : signs5.length = 21 := rfl
 refine zhc (fun m s => ∃ i, i + m = 21 ∧ (∀ j, j < i → ∀ sg, signs5[j]? = some sg → hasPre sg l = false) ∧ s.tidy [0, 2, 70, 71] = ⟨1, [(0, .optr 0 0), (2, .optr 1 0), (70, .agg signC), (71, int64 (i : Nat))], [.rich [strV (bs l), int64 n], .rich [.imm (.val (.int .u8 0)), strV .empty, int64 0, int64 n]]⟩) _ ?_ 21 _ ⟨0, by simp, fun j hj => by omega, by simpa using hs0⟩
 rintro m s ⟨i, hi, hno, hst⟩
 rw [hst]
 by_cases hlt : i < 21
 ·have hx := List.getElem?_eq_getElem (l := signs5) (i := i) (by rw [hlen]; exact hlt)
  have hg : signC[i]? = some (strV (bs signs5[i])) := by unfold signC; rw [List.getElem?_map, hx]; rfl
  have hc := zca c l signs5[i]
  have hlt' : (i : Int) < 21 := by omega
  have e1 : IntKind.wrap .i64 ((i : Int) + 1) = (i : Int) + 1 := wrapI64 (by omega) (by omega)
  cases hp : hasPre signs5[i] l with
  | false =>
   rw [hp] at hc
   simp only [Bool.false_eq_true, if_false] at hc
   refine ⟨.normal, ⟨1, [(0, .optr 0 0), (2, .optr 1 0), (70, .agg signC), (71, int64 ((i : Int) + 1))], [.rich [strV (bs l), int64 n], .rich [.imm (.val (.int .u8 0)), strV .empty, int64 0, int64 n]]⟩, ?_, .inl ⟨rfl, m - 1, by omega, i + 1, by omega, fun j hj sg hsg => ?_, ?_⟩⟩
   ·generalize signC = SC at *
    generalize bs signs5[i] = S at *
    generalize bs l = B at *
    simp -implicitDefEqProofs [x194L1, hlt, hlt', hg, hc, e1]
   ·by_cases hji : j = i
    ·subst hji
     rw [hx] at hsg
     cases hsg
     exact hp
    ·exact hno j (by omega) sg hsg
   ·have hrefs : AV.refs.refsL signC = [] := rfl
    have hren : ∀ f, AV.ren.renL f signC = signC := fun f => rfl
    generalize signC = SC at *
    simp -implicitDefEqProofs [hrefs, hren]
  | true =>
   rw [hp] at hc
   simp only [if_true] at hc
   have hsg : signOf l = some signs5[i] := by
    unfold signOf
    rw [List.find?_eq_some_iff_getElem]
    refine ⟨hp, i, by rw [hlen]; exact hlt, rfl, fun j hj => ?_⟩
    have := hno j hj _ (List.getElem?_eq_getElem (l := signs5) (i := j) (by rw [hlen]; omega))
    rw [this]
    rfl
   refine ⟨.ret, _, ?_, .inr ⟨by simp, .inr ⟨_, hsg, rfl, rfl⟩⟩⟩
   generalize bs (l.drop signs5[i].length) = D at *
   generalize signC = SC at *
   generalize bs signs5[i] = S at *
   generalize bs l = B at *
   simp -implicitDefEqProofs [x194L1, hlt, hlt', hg, hc]
 ·have : i = 21 := by omega
  subst this
  have hsg : signOf l = none := by
   unfold signOf
   rw [List.find?_eq_none]
   intro s hs
   obtain ⟨j, hj⟩ := List.getElem?_of_mem hs
   have hj2 := (List.getElem?_eq_some_iff.1 hj).1
   rw [hlen] at hj2
   rw [hno j hj2 s hj]
   simp
  refine ⟨.exit 1, ⟨1, [(0, .optr 0 0), (2, .optr 1 0), (70, .agg signC), (71, int64 21), (72, avb false)], [.rich [strV (bs l), int64 n], .rich [.imm (.val (.int .u8 0)), strV .empty, int64 0, int64 n]]⟩, ?_, .inr ⟨by simp, .inl ⟨hsg, rfl, .agg signC, rfl⟩⟩⟩
  generalize signC = SC at *
  generalize bs l = B at *
  simp -implicitDefEqProofs [x194L1]
theorem zpc (c : LexCode code ext) (x : UInt8) (r : List UInt8) (hx : isLetter x = false) (hx2 : isDigit x = false) (hq : x.toNat ≠ 34) (n : Int) (hl : (x :: r).length ≤ 1000000) :
  (∀ sg, signOf (x :: r) = some sg → callW code ext 194 [.optr 0 0] (scanM (x :: r) n) = some (.tup [.agg [.imm (.val (.int .u8 4)), strV (bs sg), int64 0, int64 n], avb true], scanM ((x :: r).drop sg.length) n)) ∧
  (signOf (x :: r) = none → callW code ext 194 [.optr 0 0] (scanM (x :: r) n) = some (.tup [.agg [.imm (.val (.int .u8 0)), strV .empty, int64 0, int64 n], avb false], scanM (x :: r) n)) := by
 have hd := zc1 (ext := ext) c.c569 x
 have hle := zg1 (ext := ext) c.c570 x
 rw [hx] at hle
 rw [hx2] at hd
 obtain ⟨ms, hsn⟩ := zml c
 have h34 : ¬ (x.toNat : Int) = 34 := by omega
 have hat := bs_get (x :: r) 0
 rw [show (x :: r)[0]? = some x from rfl] at hat
 have hpl : signC.all AV.plain1 = true := rfl
 have hrefs : AV.refs.refsL signC = [] := rfl
 have hren : ∀ f, AV.ren.renL f signC = signC := fun f => rfl
 obtain ⟨e, s', l1, _, hor⟩ := zmi c (x :: r) n ⟨1, [(0, .optr 0 0), (2, .optr 1 0), (70, .agg signC), (71, int64 0)], [.rich [strV (bs (x :: r)), int64 n], .rich [.imm (.val (.int .u8 0)), strV .empty, int64 0, int64 n]]⟩ (by generalize signC = SC at *; simp -implicitDefEqProofs [hrefs, hren])
 refine ⟨fun sg hsg => ?_, fun hsg => ?_⟩
 ·rcases hor with ⟨h1, _⟩ | ⟨sg', h1, rfl, rfl⟩
  ·rw [hsg] at h1; cases h1
  ·rw [hsg] at h1
   cases h1
   rw [zbj code ext c.c194]
   unfold x194 scanM u8V at *
   clear hsg hx hx2 hl
   generalize x194L1 = L at *
   generalize bs ((x :: r).drop sg.length) = D at *
   generalize signC = SC at *
   generalize bs sg = S at *
   generalize bs (x :: r) = B at *
   simp -implicitDefEqProofs [l1, hd, hle, hat, h34, hsn, hpl]
 ·rcases hor with ⟨h1, rfl, y, rfl⟩ | ⟨sg', h1, _⟩
  ·rw [zbj code ext c.c194]
   unfold x194 scanM u8V at *
   clear hsg hx hx2 hl h1
   generalize x194L1 = L at *
   generalize signC = SC at *
   generalize bs (x :: r) = B at *
   simp -implicitDefEqProofs [l1, hd, hle, hat, h34, hsn, hpl]
  ·rw [hsg] at h1; cases h1
end
end Go.EX


set_option linter.unusedVariables false
set_option linter.unusedSimpArgs false
namespace Go.EX
structure W5 where
 k : Nat
 s : List UInt8
 n : Int
 line : Nat
def W5.cells (w : W5) : List IV := [.val (.int .u8 w.k), .val (.string (bs w.s)), .val (.int .i64 w.n), .val (.int .i64 (w.line : Nat))]
def rowW (ws : List W5) : List IV := ws.flatMap W5.cells
theorem zk7 (ws : List W5) : (rowW ws).length = ws.length * 4 := by
 unfold rowW
 induction ws with
 | nil => rfl
 | cons w ws ih => rw [List.flatMap_cons, List.length_append, ih, List.length_cons]; show 4 + _ = _; omega
theorem zk8 (ws : List W5) (w : W5) : rowW (ws ++ [w]) = rowW ws ++ w.cells := by unfold rowW; simp
def wordOf : List UInt8 → Option (Nat × List UInt8 × Int × List UInt8)
 | [] => none
 | x :: r =>
  if x.toNat = 34 then match textL [] r with
   | some (t, q) => if t.length ≤ 4096 then some (3, t, 0, q) else none
   | none => none
  else if isLetter x = true then (if ((x :: r).takeWhile isWord).length ≤ 4096 then some (1, (x :: r).takeWhile isWord, 0, (x :: r).dropWhile isWord) else none)
  else if isDigit x = true then (if numOk ((x :: r).takeWhile isWord) = true then some (2, [], numN ((x :: r).takeWhile isWord), (x :: r).dropWhile isWord) else none)
  else match signOf (x :: r) with
   | some sg => some (4, sg, 0, (x :: r).drop sg.length)
   | none => none
theorem zo4 (x : UInt8) (r : List UInt8) : wordOf (x :: r) =
  if x.toNat = 34 then match textL [] r with
   | some (t, q) => if t.length ≤ 4096 then some (3, t, 0, q) else none
   | none => none
  else if isLetter x = true then (if ((x :: r).takeWhile isWord).length ≤ 4096 then some (1, (x :: r).takeWhile isWord, 0, (x :: r).dropWhile isWord) else none)
  else if isDigit x = true then (if numOk ((x :: r).takeWhile isWord) = true then some (2, [], numN ((x :: r).takeWhile isWord), (x :: r).dropWhile isWord) else none)
  else match signOf (x :: r) with
   | some sg => some (4, sg, 0, (x :: r).drop sg.length)
   | none => none := rfl
theorem znu : ∀ (m : Nat) (acc l : List UInt8), l.length = m → ∀ t q, textL acc l = some (t, q) → q.length < l.length := by
 intro m
 induction m using Nat.strongRecOn with
 | _ m ih =>
  intro acc l hm t q h
  have htw := tw_len isPlain l
  cases hs : stepT (l.dropWhile isPlain) with
  | none => rw [znq acc hs] at h; cases h
  | some o =>
   cases o with
   | none =>
    obtain ⟨r, hr⟩ := zm6 hs
    rw [zns acc hs, hr] at h
    rw [hr] at htw
    cases h
    simp at htw ⊢
    omega
   | some c =>
    have hless := zm7 hs
    rw [znv acc hs] at h
    have := ih _ (by omega) _ _ rfl t q h
    omega
theorem zo6 {l : List UInt8} {k : Nat} {s : List UInt8} {N : Int} {q : List UInt8} (h : wordOf l = some (k, s, N, q)) : q.length < l.length := by
 cases l with
 | nil => cases h
 | cons x r =>
  rw [zo4] at h
  have hdw : isWord x = true → ((x :: r).dropWhile isWord).length < (x :: r).length := by
   intro hx
   have := zdc isWord r
   simp [List.dropWhile, hx]
   omega
  split at h
  ·split at h
   ·rename_i ht
    split at h
    ·cases h
     have := znu _ [] r rfl _ _ ht
     simp; omega
    ·cases h
   ·cases h
  split at h
  ·rename_i hlt
   split at h
   ·cases h; exact hdw (by unfold isWord; rw [hlt]; simp)
   ·cases h
  split at h
  ·rename_i hlt
   split at h
   ·cases h; exact hdw (by unfold isWord; rw [hlt]; simp)
   ·cases h
  split at h
  ·rename_i sg hsg
   cases h
   unfold signOf at hsg
   have hm := List.mem_of_find?_eq_some hsg
   have : ∀ s ∈ signs5, 0 < s.length := by decide
   have := this s hm
   simp
   omega
  ·cases h
theorem zms : ∀ (m : Nat) (l : List UInt8) (n : Nat), l.length = m → (skipL l n).1.length ≤ l.length ∧ (skipL l n).2 + (skipL l n).1.length ≤ n + l.length := by
 intro m
 induction m using Nat.strongRecOn with
 | _ m ih =>
  intro l n hm
  have htw := tw_len isBlank l
  have hc := zb6 (l.takeWhile isBlank)
  cases hp : hasPre [47, 47] (l.dropWhile isBlank) with
  | false =>
   rw [zmp n hp]
   dsimp only
   omega
  | true =>
   have hless := zhy hp
   have hd := zdc notEnd (l.dropWhile isBlank)
   rw [zmt n hp]
   have := ih _ (by omega) ((l.dropWhile isBlank).dropWhile notEnd) (n + countNL (l.takeWhile isBlank)) rfl
   omega
def wordsR (l : List UInt8) (n : Nat) : List W5 ⊕ Nat :=
 if l = [] then .inl [] else
 match h : wordOf l with
 | none => .inr n
 | some (k, s, N, q) => match wordsR (skipL q n).1 (skipL q n).2 with
  | .inl ws => .inl (⟨k, s, N, n⟩ :: ws)
  | .inr m => .inr m
termination_by l.length
decreasing_by
 have h1 := zo6 h
 have h2 := (zms _ q n rfl).1
 omega
def wordsL (l : List UInt8) (n : Nat) : List W5 ⊕ Nat := wordsR (skipL l n).1 (skipL l n).2
theorem zpm (n : Nat) : wordsR [] n = .inl [] := by unfold wordsR; simp
theorem zpj {l : List UInt8} (n : Nat) (hne : l ≠ []) (h : wordOf l = none) : wordsR l n = .inr n := by
 unfold wordsR
 rw [if_neg hne]
 split <;> simp_all
theorem zpl {l : List UInt8} (n : Nat) {k : Nat} {s : List UInt8} {N : Int} {q : List UInt8} (h : wordOf l = some (k, s, N, q)) : wordsR l n = match wordsR (skipL q n).1 (skipL q n).2 with
  | .inl ws => .inl (⟨k, s, N, n⟩ :: ws)
  | .inr m => .inr m := by
 have hne : l ≠ [] := by intro he; subst he; cases h
 conv => lhs; unfold wordsR
 rw [if_neg hne]
 split
 ·rename_i h2; rw [h] at h2; cases h2
 ·rename_i k2 s2 N2 q2 h2
  rw [h] at h2
  cases h2
  rfl
section
variable {code : Nat → Option XFun} {ext : Calls'}
theorem zo2 (c : LexCode code ext) (x : UInt8) (r : List UInt8) (n : Int) (hl : (x :: r).length ≤ 1000000) :
  (∀ k s N q, wordOf (x :: r) = some (k, s, N, q) → callW code ext 194 [.optr 0 0] (scanM (x :: r) n) = some (.tup [.agg [.imm (.val (.int .u8 (k : Nat))), strV (bs s), int64 N, int64 n], avb true], scanM q n)) ∧
  (wordOf (x :: r) = none → ∃ (k : Int) (s : ByteArray) (N : Int) (l' : List UInt8), callW code ext 194 [.optr 0 0] (scanM (x :: r) n) = some (.tup [.agg [.imm (.val (.int .u8 k)), strV s, int64 N, int64 n], avb false], scanM l' n)) := by
 rw [zo4]
 by_cases h34 : x.toNat = 34
 ·have hx : x = 34 := by
   have : x.toNat = (34 : UInt8).toNat := h34
   exact UInt8.toNat_inj.1 this
  subst hx
  rw [if_pos (show (34 : UInt8).toNat = 34 from rfl)]
  obtain ⟨l', ht, hq⟩ := zpd c r n (by simp at hl; omega)
  cases htx : textL [] r with
  | none =>
   have hv : textV r = ([], false) := by unfold textV; rw [htx]
   rw [hv] at ht
   exact ⟨fun k s N q h => (by cases h), fun _ => ⟨_, _, _, _, ht⟩⟩
  | some p =>
   obtain ⟨t, q⟩ := p
   have hv : textV r = (t, decide (t.length ≤ 4096)) := by unfold textV; rw [htx]
   rw [hv] at ht
   have := hq t q htx
   subst this
   by_cases h4 : t.length ≤ 4096
   ·simp only [h4, if_true]
    simp only [h4, decide_true] at ht
    exact ⟨fun k s N q h => (by cases h; exact ht), fun h => (by cases h)⟩
   ·simp only [h4, if_false]
    simp only [h4, decide_false] at ht
    exact ⟨fun k s N q h => (by cases h), fun _ => ⟨_, _, _, _, ht⟩⟩
 ·rw [if_neg h34]
  cases hlt : isLetter x with
  | true =>
   rw [if_pos rfl]
   have hw := zpa c x r hlt h34 n hl
   by_cases h4 : ((x :: r).takeWhile isWord).length ≤ 4096
   ·rw [if_pos h4]
    rw [decide_eq_true h4] at hw
    exact ⟨fun k s N q h => (by cases h; exact hw), fun h => (by cases h)⟩
   ·rw [if_neg h4]
    rw [decide_eq_false h4] at hw
    exact ⟨fun k s N q h => (by cases h), fun _ => ⟨_, _, _, _, hw⟩⟩
  | false =>
   rw [if_neg (by simp)]
   cases hdg : isDigit x with
   | true =>
    rw [if_pos rfl]
    have hw := word_num c x r hlt hdg n hl
    cases hno : numOk ((x :: r).takeWhile isWord) with
    | true =>
     rw [hno] at hw
     rw [if_pos rfl]
     exact ⟨fun k s N q h => (by cases h; exact hw), fun h => (by cases h)⟩
    | false =>
     rw [hno] at hw
     rw [if_neg (by simp)]
     exact ⟨fun k s N q h => (by cases h), fun _ => ⟨_, _, _, _, hw⟩⟩
   | false =>
    rw [if_neg (by simp)]
    obtain ⟨w1, w2⟩ := zpc c x r hlt hdg h34 n hl
    cases hsg : signOf (x :: r) with
    | some sg =>
     exact ⟨fun k s N q h => (by cases h; exact w1 sg hsg), fun h => (by cases h)⟩
    | none =>
     exact ⟨fun k s N q h => (by cases h), fun _ => ⟨_, _, _, _, w2 hsg⟩⟩
end
end Go.EX


set_option linter.unusedVariables false
set_option linter.unusedSimpArgs false
namespace Go.EX
section
variable {code : Nat → Option XFun} {ext : Calls'}
def lwV (ws : List W5) : AV := if ws.length = 0 then nilS else .osl 1 0 4 ws.length none
def lwM (ws : List W5) : Mem := if ws.length = 0 then [] else [.flat (rowW ws) false]
def comb5 (ws : List W5) : List W5 ⊕ Nat → List W5 ⊕ Nat
 | .inl us => .inl (ws ++ us)
 | .inr m => .inr m
theorem bs_ne (x : UInt8) (r : List UInt8) : ¬ bs (x :: r) = ByteArray.empty := by
 intro h
 have : bs (x :: r) = bs [] := h
 rw [bs_inj] at this
 cases this
theorem skip5 (c : LexCode code ext) (l : List UInt8) (n : Nat) (hl : l.length ≤ 1000000) (hb : n + l.length ≤ 1000000000) : callW code ext 189 [.optr 0 0] (scanM l (n : Nat)) = some (.tup [], scanM (skipL l n).1 ((skipL l n).2 : Nat)) :=
 zmx (ext := ext) c.c189 c.c188 c.c190 c.c191 c.c798 c.c725 l n hl hb
theorem zpr (c : LexCode code ext) (ws : List W5) (hws : ws.length ≤ 1000000) (x : UInt8) (r : List UInt8) (n : Nat) (hl : (x :: r).length ≤ 1000000) (hb : n + (x :: r).length ≤ 1000000000) :
  (∀ k s N q, wordOf (x :: r) = some (k, s, N, q) → ∃ s', den code ext x568L1 ⟨0, [(5, .optr 0 0), (6, lwV ws)], .rich [strV (bs (x :: r)), int64 (n : Nat)] :: lwM ws⟩ = some (.normal, s') ∧
   s'.tidy [5, 6] = ⟨0, [(5, .optr 0 0), (6, lwV (ws ++ [⟨k, s, N, n⟩]))], .rich [strV (bs (skipL q n).1), int64 ((skipL q n).2 : Nat)] :: lwM (ws ++ [⟨k, s, N, n⟩])⟩) ∧
  (wordOf (x :: r) = none → ∃ l' J, den code ext x568L1 ⟨0, [(5, .optr 0 0), (6, lwV ws)], .rich [strV (bs (x :: r)), int64 (n : Nat)] :: lwM ws⟩ = some (.ret, ⟨0, [(2, nilS), (3, int64 (n : Nat)), (4, int64 4)], .rich [strV (bs l'), int64 (n : Nat)] :: J⟩)) := by
 obtain ⟨w1, w2⟩ := zo2 c x r (n : Nat) hl
 have hne := bs_ne x r
 have hrl := zk7 ws
 constructor
 ·intro k s N q hw
  have hq := zo6 hw
  have h1 := w1 k s N q hw
  have h2 := skip5 c q n (by omega) (by omega)
  have hlen : (ws ++ [(⟨k, s, N, n⟩ : W5)]).length = ws.length + 1 := by simp
  have hrow : rowW (ws ++ [(⟨k, s, N, n⟩ : W5)]) = rowW ws ++ [.val (.int .u8 (k : Nat)), .val (.string (bs s)), .val (.int .i64 N), .val (.int .i64 (n : Nat))] := zk8 ws _
  unfold lwV lwM
  rw [hlen, hrow]
  unfold scanM at h1 h2
  clear w1 w2 hw hl hb hq hlen hrow
  generalize bs (skipL q n).1 = R2 at *
  generalize (skipL q n).2 = n2 at *
  generalize bs q = Q at *
  generalize bs s = T at *
  generalize bs (x :: r) = B at *
  by_cases h0 : ws.length = 0
  ·have hw0 : rowW ws = [] := by
    have : ws = [] := List.eq_nil_of_length_eq_zero h0
    subst this; rfl
   rw [if_pos h0, if_pos h0, if_neg (by omega), if_neg (by omega), hw0, h0]
   refine ⟨⟨0, [(5, .optr 0 0), (6, .osl 3 0 4 1 none)], [.rich [strV R2, int64 (n2 : Nat)], .rich [.imm (.val (.int .u8 (k : Nat))), strV T, int64 N, int64 (n : Nat)], .flat [.val (.int .u8 (k : Nat)), .val (.string T), .val (.int .i64 N), .val (.int .i64 (n : Nat))] false, .flat [.val (.int .u8 (k : Nat)), .val (.string T), .val (.int .i64 N), .val (.int .i64 (n : Nat))] false]⟩, ?_, by simp -implicitDefEqProofs⟩
   simp -implicitDefEqProofs [x568L1, h1, h2, hne, exAppendX, exAppend, elems]
  ·have hcut : cut (rowW ws) 0 (ws.length * 4) = some (rowW ws) := zcb _ hrl
   have hle : (ws.length + 1) * 40 ≤ 140737488355328 := by omega
   rw [if_neg h0, if_neg h0, if_neg (by omega), if_neg (by omega)]
   generalize rowW ws = RW at *
   generalize ws.length = wl at *
   refine ⟨⟨0, [(5, .optr 0 0), (6, .osl 1 0 4 (wl + 1) none)], [.rich [strV R2, int64 (n2 : Nat)], .flat (RW ++ [.val (.int .u8 (k : Nat)), .val (.string T), .val (.int .i64 N), .val (.int .i64 (n : Nat))]) false, .rich [.imm (.val (.int .u8 (k : Nat))), strV T, int64 N, int64 (n : Nat)], .flat [.val (.int .u8 (k : Nat)), .val (.string T), .val (.int .i64 N), .val (.int .i64 (n : Nat))] false]⟩, ?_, by simp -implicitDefEqProofs⟩
   simp -implicitDefEqProofs [x568L1, h1, h2, hne, exAppendX, exAppend, elems, hcut, hle]
 ·intro hw
  obtain ⟨k, s, N, l', h1⟩ := w2 hw
  unfold scanM at h1
  clear w1 w2 hw hl hb
  by_cases h0 : ws.length = 0
  ·refine ⟨l', [.rich [.imm (.val (.int .u8 k)), strV s, int64 N, int64 (n : Nat)]], ?_⟩
   unfold lwV lwM
   rw [if_pos h0, if_pos h0]
   generalize bs l' = L2 at *
   generalize bs (x :: r) = B at *
   simp -implicitDefEqProofs [x568L1, h1, hne]
  ·refine ⟨l', [.flat (rowW ws) false, .rich [.imm (.val (.int .u8 k)), strV s, int64 N, int64 (n : Nat)]], ?_⟩
   unfold lwV lwM
   rw [if_neg h0, if_neg h0]
   generalize bs l' = L2 at *
   generalize bs (x :: r) = B at *
   generalize rowW ws = RW at *
   simp -implicitDefEqProofs [x568L1, h1, hne]
theorem zpp (c : LexCode code ext) (l0 : List UInt8) (n0 : Nat) (hl : l0.length ≤ 1000000) (hb : n0 + l0.length ≤ 1000000000) :
  ∃ e s', den code ext (.loop [5, 6] x568L1) ⟨0, [(5, .optr 0 0), (6, nilS)], [.rich [strV (bs l0), int64 (n0 : Nat)]]⟩ = some (e, s') ∧ e ≠ .normal ∧
   ((∃ ws, wordsR l0 n0 = .inl ws ∧ e = .exit 0 ∧ ∃ n, s' = ⟨0, [(5, .optr 0 0), (6, lwV ws), (21, avb false)], .rich [strV .empty, int64 (n : Nat)] :: lwM ws⟩) ∨
    (∃ m, wordsR l0 n0 = .inr m ∧ e = .ret ∧ ∃ l' J, s' = ⟨0, [(2, nilS), (3, int64 (m : Nat)), (4, int64 4)], .rich [strV (bs l'), int64 (m : Nat)] :: J⟩)) := by
 refine zhc (fun m s => ∃ l n ws, l.length = m ∧ ws.length + l.length ≤ l0.length ∧ n + l.length ≤ n0 + l0.length ∧ comb5 ws (wordsR l n) = wordsR l0 n0 ∧ s.tidy [5, 6] = ⟨0, [(5, .optr 0 0), (6, lwV ws)], .rich [strV (bs l), int64 (n : Nat)] :: lwM ws⟩) _ ?_ l0.length _
  ⟨l0, n0, [], rfl, by simp, by simp, by cases wordsR l0 n0 <;> rfl, by unfold lwV lwM; simp -implicitDefEqProofs⟩
 rintro m s ⟨l, n, ws, hm, h1, h2, hcb, hst⟩
 rw [hst]
 cases l with
 | nil =>
  rw [zpm] at hcb
  refine ⟨.exit 0, _, ?_, .inr ⟨by simp, .inl ⟨ws, ?_, rfl, n, rfl⟩⟩⟩
  ·have he : bs [] = ByteArray.empty := rfl
   rw [he]
   unfold lwV lwM
   by_cases h0 : ws.length = 0
   ·rw [if_pos h0, if_pos h0]
    simp -implicitDefEqProofs [x568L1]
   ·rw [if_neg h0, if_neg h0]
    generalize rowW ws = RW at *
    simp -implicitDefEqProofs [x568L1]
  ·rw [← hcb]
   simp [comb5]
 | cons x r =>
  obtain ⟨r1, r2⟩ := zpr c ws (by omega) x r n (by omega) (by omega)
  cases hw : wordOf (x :: r) with
  | none =>
   obtain ⟨l', J, g1⟩ := r2 hw
   rw [zpj n (by simp) hw] at hcb
   exact ⟨.ret, _, g1, .inr ⟨by simp, .inr ⟨n, hcb.symm, rfl, l', J, rfl⟩⟩⟩
  | some p =>
   obtain ⟨k, sx, N, q⟩ := p
   obtain ⟨s', g1, g2⟩ := r1 k sx N q hw
   have hq := zo6 hw
   have hsk := zms _ q n rfl
   refine ⟨.normal, s', g1, .inl ⟨rfl, _, by omega, _, _, _, rfl, ?_, ?_, ?_, g2⟩⟩
   ·simp only [List.length_append, List.length_singleton]; omega
   ·omega
   ·rw [← hcb, zpl n hw]
    cases wordsR (skipL q n).1 (skipL q n).2 with
    | inl us => simp [comb5]
    | inr m => rfl
theorem zpf (c : LexCode code ext) (l : List UInt8) (hl : l.length ≤ 1000000) :
  callW code ext 568 [strV (bs l)] [] =
   if 65536 < l.length then some (.tup [nilS, int64 0, int64 3], [])
   else match wordsL l 0 with
    | .inl ws => some (.tup [if ws.length = 0 then nilS else .osl 0 0 4 ws.length none, int64 0, int64 0], lwM ws)
    | .inr m => some (.tup [nilS, int64 (m : Nat), int64 4], []) := by
 rw [zbj code ext c.c568]
 have hz := zba l
 by_cases hbig : 65536 < l.length
 ·rw [if_pos hbig]
  have hbig' : (65536 : Int) < l.length := by omega
  generalize bs l = B at *
  simp -implicitDefEqProofs [x568, hz, hbig, hbig']
 ·rw [if_neg hbig]
  have hbig' : ¬ (65536 : Int) < l.length := by omega
  have hsk : callW code ext 189 [.optr 0 0] (scanM l 0) = some (.tup [], scanM (skipL l 0).1 ((skipL l 0).2 : Nat)) := skip5 c l 0 hl (by omega)
  have hlen := zms _ l 0 rfl
  obtain ⟨e, s', l1, _, hor⟩ := zpp c (skipL l 0).1 (skipL l 0).2 (by omega) (by omega)
  unfold wordsL
  unfold x568 scanM at *
  generalize x568L1 = L at *
  rcases hor with ⟨ws, h1, rfl, n, rfl⟩ | ⟨m, h1, rfl, l', J, rfl⟩
  ·rw [h1]
   dsimp only
   unfold lwV lwM at *
   clear h1 hlen hl
   generalize bs (skipL l 0).1 = R at *
   generalize (skipL l 0).2 = q at *
   generalize bs l = B at *
   by_cases h0 : ws.length = 0
   ·rw [if_pos h0] at l1 ⊢
    rw [if_pos h0] at l1 ⊢
    simp -implicitDefEqProofs [l1, hz, hbig, hbig', hsk]
   ·rw [if_neg h0] at l1 ⊢
    rw [if_neg h0] at l1 ⊢
    generalize rowW ws = RW at *
    simp -implicitDefEqProofs [l1, hz, hbig, hbig', hsk]
  ·rw [h1]
   dsimp only
   clear h1 hlen hl
   generalize bs (skipL l 0).1 = R at *
   generalize (skipL l 0).2 = q at *
   generalize bs l = B at *
   generalize bs l' = B2 at *
   simp -implicitDefEqProofs [l1, hz, hbig, hbig', hsk]
end
end Go.EX


set_option linter.unusedVariables false
set_option linter.unusedSimpArgs false
namespace Go.EX
theorem zoj (p : UInt8 → Bool) : ∀ (l b : List UInt8), l.dropWhile p = [] → (l ++ b).takeWhile p = l ++ b.takeWhile p ∧ (l ++ b).dropWhile p = b.dropWhile p
 | [], b, _ => by simp
 | x :: l, b, h => by
  cases hx : p x with
  | false => simp [List.dropWhile, hx] at h
  | true =>
   obtain ⟨h1, h2⟩ := zoj p l b (by simpa [List.dropWhile, hx] using h)
   simp [List.takeWhile, List.dropWhile, hx, h1, h2]
theorem zoi (p : UInt8 → Bool) (l : List UInt8) : l.takeWhile p ++ l.dropWhile p = l := List.takeWhile_append_dropWhile
theorem zb5 (a b : List UInt8) : countNL (a ++ b) = countNL a + countNL b := List.countP_append
theorem zb7 {l : List UInt8} (h : ∀ x ∈ l, x.toNat ≠ 10) : countNL l = 0 := by
 unfold countNL
 rw [List.countP_eq_zero]
 intro x hx
 simpa using h x hx
theorem zmu (d : Nat) : ∀ (m : Nat) (l : List UInt8) (n : Nat), l.length = m → skipL l (n + d) = ((skipL l n).1, (skipL l n).2 + d) := by
 intro m
 induction m using Nat.strongRecOn with
 | _ m ih =>
  intro l n hm
  cases hp : hasPre [47, 47] (l.dropWhile isBlank) with
  | false => rw [zmp _ hp, zmp _ hp]; dsimp only; congr 1; omega
  | true =>
   rw [zmt _ hp, zmt _ hp, ← ih _ (by have := zhy hp; omega) _ (n + countNL (l.takeWhile isBlank)) rfl]
   congr 1
   omega
theorem zmo : ∀ (m : Nat) (l : List UInt8) (n : Nat), l.length = m → (skipL l n).2 + countNL (skipL l n).1 = n + countNL l := by
 intro m
 induction m using Nat.strongRecOn with
 | _ m ih =>
  intro l n hm
  have hs := congrArg countNL (zoi isBlank l)
  rw [zb5] at hs
  cases hp : hasPre [47, 47] (l.dropWhile isBlank) with
  | false => rw [zmp _ hp]; dsimp only; omega
  | true =>
   have hs2 := congrArg countNL (zoi notEnd (l.dropWhile isBlank))
   rw [zb5] at hs2
   have h0 : countNL ((l.dropWhile isBlank).takeWhile notEnd) = 0 := zb7 fun x hx => by
    have := tw_all notEnd _ x hx
    unfold notEnd at this
    simpa using this
   rw [zmt _ hp, ih _ (by have := zhy hp; omega) _ _ rfl]
   omega
theorem znr : ∀ (m : Nat) (acc l : List UInt8), l.length = m → ∀ t q, textL acc l = some (t, q) → countNL q = countNL l := by
 intro m
 induction m using Nat.strongRecOn with
 | _ m ih =>
  intro acc l hm t q h
  have hs2 := congrArg countNL (zoi isPlain l)
  rw [zb5] at hs2
  have h0 : countNL (l.takeWhile isPlain) = 0 := zb7 fun x hx => by
   have := tw_all isPlain _ x hx
   unfold isPlain at this
   simp only [Bool.and_eq_true, Bool.not_eq_true', decide_eq_false_iff_not] at this
   exact this.2
  cases hs : stepT (l.dropWhile isPlain) with
  | none => rw [znq acc hs] at h; cases h
  | some o =>
   cases o with
   | none =>
    obtain ⟨r, hr⟩ := zm6 hs
    rw [zns acc hs, hr] at h
    rw [hr] at hs2
    cases h
    have : countNL (34 :: r) = countNL r := by unfold countNL; simp
    rw [List.drop_one, List.tail_cons]
    omega
   | some c =>
    obtain ⟨d, r, hr, hd⟩ := zm9 hs
    have hless := zm7 hs
    rw [znv acc hs] at h
    have h3 := ih _ (by omega) _ _ rfl t q h
    rw [hr] at h3 hs2
    have : countNL (92 :: d :: r) = countNL r := by
     unfold countNL
     rcases hd with ⟨rfl, _⟩ | ⟨rfl, _⟩ | ⟨rfl, _⟩ <;> simp
    have e : List.drop 2 (92 :: d :: r) = r := rfl
    rw [e] at h3
    omega
theorem zo8 {l : List UInt8} : countNL (l.dropWhile isWord) = countNL l := by
 have hs2 := congrArg countNL (zoi isWord l)
 rw [zb5] at hs2
 have h0 : countNL (l.takeWhile isWord) = 0 := zb7 fun x hx => by
  have := tw_all isWord _ x hx
  intro h10
  unfold isWord isDigit isLetter at this
  simp only [h10, Bool.or_eq_true, Bool.and_eq_true, decide_eq_true_eq] at this
  omega
 omega
theorem zo5 {l : List UInt8} {k : Nat} {s : List UInt8} {N : Int} {q : List UInt8} (h : wordOf l = some (k, s, N, q)) : countNL q = countNL l := by
 cases l with
 | nil => cases h
 | cons x r =>
  rw [zo4] at h
  split at h
  ·rename_i h34
   split at h
   ·rename_i ht
    split at h
    ·cases h
     rw [znr _ [] r rfl _ _ ht]
     unfold countNL
     simp [h34]
    ·cases h
   ·cases h
  split at h
  ·split at h
   ·cases h; exact zo8
   ·cases h
  split at h
  ·split at h
   ·cases h; exact zo8
   ·cases h
  cases hsg : signOf (x :: r) with
  | none => rw [hsg] at h; cases h
  | some sg =>
   rw [hsg] at h
   simp only [Option.some.injEq, Prod.mk.injEq] at h
   obtain ⟨_, _, _, rfl⟩ := h
   unfold signOf at hsg
   have hm : sg ∈ signs5 := List.mem_of_find?_eq_some hsg
   have hpre : hasPre sg (x :: r) = true := List.find?_some (p := fun s => hasPre s (x :: r)) hsg
   have hall : ∀ s ∈ signs5, countNL s = 0 := by decide
   unfold hasPre at hpre
   have ht := of_decide_eq_true hpre
   have hs2 := congrArg countNL (List.take_append_drop sg.length (x :: r))
   rw [zb5, ht, hall sg hm] at hs2
   omega
end Go.EX


set_option linter.unusedVariables false
set_option linter.unusedSimpArgs false
namespace Go.EX
def t5 : Ty W5 := ⟨4, true, W5.cells, fun _ => True, fun _ => rfl⟩
theorem zk6 {ws : List W5} {i : Nat} {w : W5} (h : ws[i]? = some w) : cut (rowW ws) (i * 4) 4 = some w.cells := ze7 (t := t5) h
theorem zk5 {ws : List W5} {i : Nat} {w : W5} (h : ws[i]? = some w) (j : Nat) (hj : j < 4) : (rowW ws)[i * 4 + j]? = w.cells[j]? := zcc (zk6 h) j hj
section
variable {code : Nat → Option XFun} {ext : Calls'}
end
end Go.EX


set_option linter.unusedVariables false
set_option linter.unusedSimpArgs false
namespace Go.EX
theorem zpk : ∀ (m : Nat) (l : List UInt8) (n : Nat), l.length = m →
  (∀ ws, wordsR l n = .inl ws → ws.length ≤ l.length ∧ ∀ w ∈ ws, w.line ≤ n + countNL l) ∧ (∀ e, wordsR l n = .inr e → e ≤ n + countNL l) := by
 intro m
 induction m using Nat.strongRecOn with
 | _ m ih =>
  intro l n hm
  by_cases hne : l = []
  ·subst hne
   rw [zpm]
   refine ⟨fun ws h => ?_, fun e h => by cases h⟩
   cases h
   exact ⟨Nat.zero_le _, fun w hw => by cases hw⟩
  ·cases hw : wordOf l with
   | none =>
    rw [zpj _ hne hw]
    refine ⟨fun ws h => (by cases h), fun e h => ?_⟩
    cases h
    omega
   | some p =>
    obtain ⟨k, s, N, q⟩ := p
    have hq := zo6 hw
    have hc := zo5 hw
    have hsl := zms _ q n rfl
    have hsc := zmo _ q n rfl
    obtain ⟨h1, h2⟩ := ih (skipL q n).1.length (by omega) (skipL q n).1 (skipL q n).2 rfl
    rw [zpl _ hw]
    cases hr : wordsR (skipL q n).1 (skipL q n).2 with
    | inl us =>
     obtain ⟨g1, g2⟩ := h1 us hr
     refine ⟨fun ws h => ?_, fun e h => by cases h⟩
     cases h
     refine ⟨by simp only [List.length_cons]; omega, fun w hw' => ?_⟩
     rcases List.mem_cons.1 hw' with rfl | h
     ·show n ≤ _; omega
     ·have := g2 w h; omega
    | inr e' =>
     have g := h2 e' hr
     refine ⟨fun ws h => (by cases h), fun e h => ?_⟩
     cases h
     omega
theorem zpg (l : List UInt8) (n : Nat) :
  (∀ ws, wordsL l n = .inl ws → ws.length ≤ l.length ∧ ∀ w ∈ ws, w.line ≤ n + countNL l) ∧ (∀ e, wordsL l n = .inr e → e ≤ n + countNL l) := by
 have hsc := zmo _ l n rfl
 have hsl := zms _ l n rfl
 obtain ⟨h1, h2⟩ := zpk _ (skipL l n).1 (skipL l n).2 rfl
 unfold wordsL
 refine ⟨fun ws h => ?_, fun e h => ?_⟩
 ·obtain ⟨g1, g2⟩ := h1 ws h
  exact ⟨by omega, fun w hw => by have := g2 w hw; omega⟩
 ·have := h2 e h
  omega
section
variable {code : Nat → Option XFun} {ext : Calls'}
end
end Go.EX


set_option linter.unusedVariables false
set_option linter.unusedSimpArgs false
namespace Go.EX
section
variable {code : Nat → Option XFun} {ext : Calls'}
structure JoinCode (code : Nat → Option XFun) (ext : Calls') : Prop where
 l : LexCode code ext
 c450 : code 450 = some x450
 c358 : code 358 = some x358
 al : callW code ext 453 [] [] = some (avb true, [])
theorem zpq (c : LexCode code ext) (l : List UInt8) (hl : l.length ≤ 65536) (h : wordsL l 0 = .inl []) : callW code ext 568 [strV (bs l)] [] = some (.tup [nilS, int64 0, int64 0], []) := by
 rw [zpf c l (by omega), if_neg (by omega), h]
 rfl
theorem zps (c : LexCode code ext) (l : List UInt8) (hl : l.length ≤ 65536) {ws : List W5} (h : wordsL l 0 = .inl ws) (h0 : ws.length ≠ 0) :
  callW code ext 568 [strV (bs l)] [] = some (.tup [.osl 0 0 4 ws.length none, int64 0, int64 0], [.flat (rowW ws) false]) := by
 rw [zpf c l (by omega), if_neg (by omega), h]
 unfold lwM
 dsimp only
 rw [if_neg h0, if_neg h0]
theorem zpo (c : LexCode code ext) (l : List UInt8) (hl : l.length ≤ 65536) {m : Nat} (h : wordsL l 0 = .inr m) : callW code ext 568 [strV (bs l)] [] = some (.tup [nilS, int64 (m : Nat), int64 4], []) := by
 rw [zpf c l (by omega), if_neg (by omega), h]
section
variable (c : JoinCode code ext) (a b : List UInt8) (hl : a.length + b.length ≤ 65535)
include c hl
end
end
end Go.EX


set_option linter.unusedVariables false
set_option linter.unusedSimpArgs false
namespace Go.EX
def ext5 (dg : Int → ByteArray) : Calls' := fun f a m =>
 if f = 674 then extCheck 674 674 a m
 else if f = 670 then extStr 670 670 a m
 else if f = 708 then match a with
  | [.imm (.val (.int .i64 n)), .imm (.val (.int .i64 10))] => if -9223372036854775808 ≤ n ∧ n ≤ 9223372036854775807 then some (.imm (.val (.string (dg n))), m) else none
  | _ => none
 else if f = 787 then extPI 787 787 a m
 else if f = 721 then extCl 721 721 a m
 else none
def dig5 (n : Int) : ByteArray := if n = 5 then ⟨#[53]⟩ else dig n
theorem zc0 : dig5 = dig := by
 funext n
 unfold dig5
 split
 ·rename_i h
  subst h
  simp [dig, Lib.itoa, Lib.decDigits]
 ·rfl
theorem alive5 : callW code5 (ext5 dig) 453 [] [] = some (avb true, []) := by
 rw [← zc0]
 exact (zbk code5 (ext5 dig5)).2 ⟨80, by kernel_rfl⟩
theorem zeo {num : Names} {P : Program} (h1 : ExtOK num P (extCheck 674)) (h2 : ExtOK num P (extStr 670)) (h3 : ExtOK num P (extItoa 708)) (h4 : ExtOK num P (extPI 787)) (h5 : ExtOK num P (extCl 721)) : ExtOK num P (ext5 dig) := by
 intro f args m r m' C vals hc hm hl hr
 unfold ext5 at hc
 split at hc
 ·rename_i hf
  exact h1 f args m r m' C vals (by rw [hf]; exact hc) hm hl hr
 split at hc
 ·rename_i hf
  exact h2 f args m r m' C vals (by rw [hf]; exact hc) hm hl hr
 split at hc
 ·rename_i hf
  exact h3 f args m r m' C vals (by rw [hf]; exact hc) hm hl hr
 split at hc
 ·rename_i hf
  exact h4 f args m r m' C vals (by rw [hf]; exact hc) hm hl hr
 split at hc
 ·rename_i hf
  exact h5 f args m r m' C vals (by rw [hf]; exact hc) hm hl hr
 ·cases hc
theorem buf5 : BufCode code5 (ext5 dig) := ⟨rfl, rfl, rfl, rfl, fun _ _ => rfl, rfl, fun _ _ => rfl⟩
theorem lex5 : LexCode code5 (ext5 dig) where
 b := buf5
 c188 := rfl
 c189 := rfl
 c190 := rfl
 c191 := rfl
 c192 := rfl
 c193 := rfl
 c194 := rfl
 c195 := rfl
 c568 := rfl
 c569 := rfl
 c570 := rfl
 c571 := rfl
 c723 := rfl
 c725 := rfl
 c785 := rfl
 c796 := rfl
 c798 := rfl
 n708 := rfl
 e708 := fun _ _ => rfl
 n787 := rfl
 e787 := fun _ _ => rfl
 c793 := rfl
 n721 := rfl
 e721 := fun _ _ => rfl
end Go.EX


namespace Go.Proofs.YtkmdbfhagicidaaDoor
open Go.EX Go.Shelf
def gids : List Nat := [100000, 100001, 703, 449, 451, 450, 568, 453, 456, 454, 455, 358, 189, 194, 188, 190, 798, 191, 192, 569, 570, 195, 793, 787, 785, 571, 796, 725, 673, 193, 670, 669, 672, 721, 710, 792, 708, 723, 674, 711, 791, 790, 788, 789, 719, 718, 713, 714, 100048, 717, 720, 702, 786, 716, 732, 712, 715, 733, 709, 734, 735, 100061, 100062, 100063, 100064, 100065, 100066, 100067, 100068, 100069, 100070, 100071, 100072, 100073, 100074, 100075, 100076, 100077, 100078, 100079, 100080, 100081, 100082, 100083, 100084, 100085, 100086, 100087, 100088, 704]
def num (f : FuncId) : Nat := (gids[f]?).getD (100000 + f)
theorem ok3 : FunOK Tryd.prog num 3 x449 := .of Tryd.func3 (by kernel_rfl) (by kernel_rfl) (by kernel_rfl) (by kernel_rfl) (by kernel_rfl)
theorem ok4 : FunOK Tryd.prog num 4 x451 := .of Tryd.func4 (by kernel_rfl) (by kernel_rfl) (by kernel_rfl) (by kernel_rfl) (by kernel_rfl)
theorem ok5 : FunOK Tryd.prog num 5 x450 := .of Tryd.func5 (by kernel_rfl) (by kernel_rfl) (by kernel_rfl) (by kernel_rfl) (by kernel_rfl)
theorem ok6 : FunOK Tryd.prog num 6 x568 := .of Tryd.func6 (by kernel_rfl) (by kernel_rfl) (by kernel_rfl) (by kernel_rfl) (by kernel_rfl)
theorem ok7 : FunOK Tryd.prog num 7 x453 := .of Tryd.func7 (by kernel_rfl) (by kernel_rfl) (by kernel_rfl) (by kernel_rfl) (by kernel_rfl)
theorem ok8 : FunOK Tryd.prog num 8 x456 := .of Tryd.func8 (by kernel_rfl) (by kernel_rfl) (by kernel_rfl) (by kernel_rfl) (by kernel_rfl)
theorem ok9 : FunOK Tryd.prog num 9 x454 := .of Tryd.func9 (by kernel_rfl) (by kernel_rfl) (by kernel_rfl) (by kernel_rfl) (by kernel_rfl)
theorem ok10 : FunOK Tryd.prog num 10 x455 := .of Tryd.func10 (by kernel_rfl) (by kernel_rfl) (by kernel_rfl) (by kernel_rfl) (by kernel_rfl)
theorem ok11 : FunOK Tryd.prog num 11 x358 := .of Tryd.func11 (by kernel_rfl) (by kernel_rfl) (by kernel_rfl) (by kernel_rfl) (by kernel_rfl)
theorem ok12 : FunOK Tryd.prog num 12 x189 := .of Tryd.func12 (by kernel_rfl) (by kernel_rfl) (by kernel_rfl) (by kernel_rfl) (by kernel_rfl)
theorem ok13 : FunOK Tryd.prog num 13 x194 := .of Tryd.func13 (by kernel_rfl) (by kernel_rfl) (by kernel_rfl) (by kernel_rfl) (by kernel_rfl)
theorem ok14 : FunOK Tryd.prog num 14 x188 := .of Tryd.func14 (by kernel_rfl) (by kernel_rfl) (by kernel_rfl) (by kernel_rfl) (by kernel_rfl)
theorem ok15 : FunOK Tryd.prog num 15 x190 := .of Tryd.func15 (by kernel_rfl) (by kernel_rfl) (by kernel_rfl) (by kernel_rfl) (by kernel_rfl)
theorem ok16 : FunOK Tryd.prog num 16 x798 := .of Tryd.func16 (by kernel_rfl) (by kernel_rfl) (by kernel_rfl) (by kernel_rfl) (by kernel_rfl)
theorem ok17 : FunOK Tryd.prog num 17 x191 := .of Tryd.func17 (by kernel_rfl) (by kernel_rfl) (by kernel_rfl) (by kernel_rfl) (by kernel_rfl)
theorem ok18 : FunOK Tryd.prog num 18 x192 := .of Tryd.func18 (by kernel_rfl) (by kernel_rfl) (by kernel_rfl) (by kernel_rfl) (by kernel_rfl)
theorem ok19 : FunOK Tryd.prog num 19 x569 := .of Tryd.func19 (by kernel_rfl) (by kernel_rfl) (by kernel_rfl) (by kernel_rfl) (by kernel_rfl)
theorem ok20 : FunOK Tryd.prog num 20 x570 := .of Tryd.func20 (by kernel_rfl) (by kernel_rfl) (by kernel_rfl) (by kernel_rfl) (by kernel_rfl)
theorem ok21 : FunOK Tryd.prog num 21 x195 := .of Tryd.func21 (by kernel_rfl) (by kernel_rfl) (by kernel_rfl) (by kernel_rfl) (by kernel_rfl)
theorem ok22 : FunOK Tryd.prog num 22 x793 := .of Tryd.func22 (by kernel_rfl) (by kernel_rfl) (by kernel_rfl) (by kernel_rfl) (by kernel_rfl)
theorem ok24 : FunOK Tryd.prog num 24 x785 := .of Tryd.func24 (by kernel_rfl) (by kernel_rfl) (by kernel_rfl) (by kernel_rfl) (by kernel_rfl)
theorem ok25 : FunOK Tryd.prog num 25 x571 := .of Tryd.func25 (by kernel_rfl) (by kernel_rfl) (by kernel_rfl) (by kernel_rfl) (by kernel_rfl)
theorem ok26 : FunOK Tryd.prog num 26 x796 := .of Tryd.func26 (by kernel_rfl) (by kernel_rfl) (by kernel_rfl) (by kernel_rfl) (by kernel_rfl)
theorem ok27 : FunOK Tryd.prog num 27 x725 := .of Tryd.func27 (by kernel_rfl) (by kernel_rfl) (by kernel_rfl) (by kernel_rfl) (by kernel_rfl)
theorem ok28 : FunOK Tryd.prog num 28 x673 := .of Tryd.func28 (by kernel_rfl) (by kernel_rfl) (by kernel_rfl) (by kernel_rfl) (by kernel_rfl)
theorem ok29 : FunOK Tryd.prog num 29 x193 := .of Tryd.func29 (by kernel_rfl) (by kernel_rfl) (by kernel_rfl) (by kernel_rfl) (by kernel_rfl)
theorem ok31 : FunOK Tryd.prog num 31 x669 := .of Tryd.func31 (by kernel_rfl) (by kernel_rfl) (by kernel_rfl) (by kernel_rfl) (by kernel_rfl)
theorem ok32 : FunOK Tryd.prog num 32 x672 := .of Tryd.func32 (by kernel_rfl) (by kernel_rfl) (by kernel_rfl) (by kernel_rfl) (by kernel_rfl)
theorem ok37 : FunOK Tryd.prog num 37 x723 := .of Tryd.func37 (by kernel_rfl) (by kernel_rfl) (by kernel_rfl) (by kernel_rfl) (by kernel_rfl)
abbrev FnAt (f : Nat) : Prop := ∀ xf, code5 (num f) = some xf → FunOK Tryd.prog num f xf
theorem hit {n : Nat} {x : XFun} (e : code5 (num n) = some x) (k : FunOK Tryd.prog num n x) (r : ∀ f, f < n → FnAt f) : ∀ f, f < n + 1 → FnAt f := fun f h xf hx => by
 rcases Nat.lt_or_eq_of_le (Nat.le_of_lt_succ h) with h | rfl
 ·exact r f h xf hx
 ·rw [e] at hx; cases hx; exact k
theorem nix {n : Nat} (e : code5 (num n) = none) (r : ∀ f, f < n → FnAt f) : ∀ f, f < n + 1 → FnAt f := fun f h xf hx => by
 rcases Nat.lt_or_eq_of_le (Nat.le_of_lt_succ h) with h | rfl
 ·exact r f h xf hx
 ·rw [e] at hx; cases hx
theorem upto20 : ∀ f, f < 20 → FnAt f :=
 hit (by kernel_rfl) ok19 <|
 hit (by kernel_rfl) ok18 <|
 hit (by kernel_rfl) ok17 <|
 hit (by kernel_rfl) ok16 <|
 hit (by kernel_rfl) ok15 <|
 hit (by kernel_rfl) ok14 <|
 hit (by kernel_rfl) ok13 <|
 hit (by kernel_rfl) ok12 <|
 hit (by kernel_rfl) ok11 <|
 hit (by kernel_rfl) ok10 <|
 hit (by kernel_rfl) ok9 <|
 hit (by kernel_rfl) ok8 <|
 hit (by kernel_rfl) ok7 <|
 hit (by kernel_rfl) ok6 <|
 hit (by kernel_rfl) ok5 <|
 hit (by kernel_rfl) ok4 <|
 hit (by kernel_rfl) ok3 <|
 nix (by kernel_rfl) <|
 nix (by kernel_rfl) <|
 nix (by kernel_rfl) (fun f h => absurd h (Nat.not_lt_zero f))
theorem upto40 : ∀ f, f < 40 → FnAt f :=
 nix (by kernel_rfl) <|
 nix (by kernel_rfl) <|
 hit (by kernel_rfl) ok37 <|
 nix (by kernel_rfl) <|
 nix (by kernel_rfl) <|
 nix (by kernel_rfl) <|
 nix (by kernel_rfl) <|
 hit (by kernel_rfl) ok32 <|
 hit (by kernel_rfl) ok31 <|
 nix (by kernel_rfl) <|
 hit (by kernel_rfl) ok29 <|
 hit (by kernel_rfl) ok28 <|
 hit (by kernel_rfl) ok27 <|
 hit (by kernel_rfl) ok26 <|
 hit (by kernel_rfl) ok25 <|
 hit (by kernel_rfl) ok24 <|
 nix (by kernel_rfl) <|
 hit (by kernel_rfl) ok22 <|
 hit (by kernel_rfl) ok21 <|
 hit (by kernel_rfl) ok20 upto20
theorem upto60 : ∀ f, f < 60 → FnAt f :=
 nix (by kernel_rfl) <|
 nix (by kernel_rfl) <|
 nix (by kernel_rfl) <|
 nix (by kernel_rfl) <|
 nix (by kernel_rfl) <|
 nix (by kernel_rfl) <|
 nix (by kernel_rfl) <|
 nix (by kernel_rfl) <|
 nix (by kernel_rfl) <|
 nix (by kernel_rfl) <|
 nix (by kernel_rfl) <|
 nix (by kernel_rfl) <|
 nix (by kernel_rfl) <|
 nix (by kernel_rfl) <|
 nix (by kernel_rfl) <|
 nix (by kernel_rfl) <|
 nix (by kernel_rfl) <|
 nix (by kernel_rfl) <|
 nix (by kernel_rfl) <|
 nix (by kernel_rfl) upto40
theorem upto80 : ∀ f, f < 80 → FnAt f :=
 nix (by kernel_rfl) <|
 nix (by kernel_rfl) <|
 nix (by kernel_rfl) <|
 nix (by kernel_rfl) <|
 nix (by kernel_rfl) <|
 nix (by kernel_rfl) <|
 nix (by kernel_rfl) <|
 nix (by kernel_rfl) <|
 nix (by kernel_rfl) <|
 nix (by kernel_rfl) <|
 nix (by kernel_rfl) <|
 nix (by kernel_rfl) <|
 nix (by kernel_rfl) <|
 nix (by kernel_rfl) <|
 nix (by kernel_rfl) <|
 nix (by kernel_rfl) <|
 nix (by kernel_rfl) <|
 nix (by kernel_rfl) <|
 nix (by kernel_rfl) <|
 nix (by kernel_rfl) upto60
theorem upto90 : ∀ f, f < 90 → FnAt f :=
 nix (by kernel_rfl) <|
 nix (by kernel_rfl) <|
 nix (by kernel_rfl) <|
 nix (by kernel_rfl) <|
 nix (by kernel_rfl) <|
 nix (by kernel_rfl) <|
 nix (by kernel_rfl) <|
 nix (by kernel_rfl) <|
 nix (by kernel_rfl) <|
 nix (by kernel_rfl) upto80
theorem fns (f : FuncId) (xf : XFun) (h : code5 (num f) = some xf) : FunOK Tryd.prog num f xf := by
 by_cases hf : f < 90
 ·exact upto90 f hf xf h
 ·have hn : num f = 100000 + f := by
   unfold num
   rw [List.getElem?_eq_none (by rw [show gids.length = 90 from by kernel_rfl]; simp only [FuncId] at *; omega)]; rfl
  rw [hn] at h
  unfold code5 at h
  split at h <;> first | (exfalso; simp only [FuncId] at *; omega) | cases h
theorem nz (f : FuncId) : num f ≠ yieldNo := by
 by_cases hf : f < 90
 ·exact (by decide +kernel : ∀ f : Fin 90, num f.val ≠ yieldNo) ⟨f, hf⟩
 ·have hn : num f = 100000 + f := by
   unfold num
   rw [List.getElem?_eq_none (by rw [show gids.length = 90 from by kernel_rfl]; simp only [FuncId] at *; omega)]; rfl
  rw [hn, yieldNo]
  simp only [FuncId] at *; omega
def ren169 : Go.Shelf.Ren := ⟨fun | 169 => 30 | n => n, fun | 70 => 55 | 9 => 9 | 0 => 0 | 72 => 57 | 37 => 27 | 127 => 64 | 3 => 3 | 5 => 5 | n => n, fun | n => n⟩
theorem lays169 : Go.Proofs.Lays.n169 Tryd.prog ren169 := {
 mixed := by kernel_rfl
 f169 := Tryd.func30.trans (congrArg some (by kernel_rfl))
 t0 := Tryd.underlying0
 a0 := Tryd.isAgg0
 z0 := Tryd.sizeOf0
 v0 := Tryd.zeroValue0
 t3 := Tryd.underlying3
 a3 := Tryd.isAgg3
 z3 := Tryd.sizeOf3
 v3 := Tryd.zeroValue3
 t9 := Tryd.underlying9
 a9 := Tryd.isAgg9
 z9 := Tryd.sizeOf9
 v9 := Tryd.zeroValue9
 t37 := Tryd.underlying27
 a37 := Tryd.isAgg27
 z37 := Tryd.sizeOf27
 v37 := Tryd.zeroValue27
 t70 := Tryd.underlying55
 a70 := Tryd.isAgg55
 z70 := Tryd.sizeOf55
 v70 := Tryd.zeroValue55
 t72 := Tryd.underlying57
 a72 := Tryd.isAgg57
 z72 := Tryd.sizeOf57
 v72 := Tryd.zeroValue57
 t127 := Tryd.underlying64
 a127 := Tryd.isAgg64
 z127 := Tryd.sizeOf64
 v127 := Tryd.zeroValue64 }
def ren246 : Go.Shelf.Ren := ⟨fun | 246 => 36 | 283 => 44 | 284 => 45 | 285 => 46 | 286 => 47 | 129 => 54 | 317 => 53 | 318 => 55 | 319 => 56 | 320 => 57 | 337 => 59 | 338 => 60 | n => n, fun | 2 => 2 | 3 => 3 | 9 => 9 | 4 => 4 | 171 => 74 | 0 => 0 | 53 => 66 | 37 => 27 | 5 => 5 | 173 => 77 | 212 => 87 | 51 => 88 | 20 => 20 | 213 => 89 | 46 => 69 | 232 => 96 | 233 => 97 | n => n, fun | 17 => 2 | 18 => 3 | 19 => 4 | n => n⟩
theorem lays246 : Go.Proofs.LaysM.n246 Tryd.prog ren246 := {
 mixed := by kernel_rfl
 f129 := Tryd.func54.trans (congrArg some (by kernel_rfl))
 f246 := Tryd.func36.trans (congrArg some (by kernel_rfl))
 f283 := Tryd.func44.trans (congrArg some (by kernel_rfl))
 f284 := Tryd.func45.trans (congrArg some (by kernel_rfl))
 f285 := Tryd.func46.trans (congrArg some (by kernel_rfl))
 f286 := Tryd.func47.trans (congrArg some (by kernel_rfl))
 f317 := Tryd.func53.trans (congrArg some (by kernel_rfl))
 f318 := Tryd.func55.trans (congrArg some (by kernel_rfl))
 f319 := Tryd.func56.trans (congrArg some (by kernel_rfl))
 f320 := Tryd.func57.trans (congrArg some (by kernel_rfl))
 f337 := Tryd.func59.trans (congrArg some (by kernel_rfl))
 f338 := Tryd.func60.trans (congrArg some (by kernel_rfl))
 t0 := Tryd.underlying0
 a0 := Tryd.isAgg0
 z0 := Tryd.sizeOf0
 v0 := Tryd.zeroValue0
 t2 := Tryd.underlying2
 a2 := Tryd.isAgg2
 z2 := Tryd.sizeOf2
 v2 := Tryd.zeroValue2
 t3 := Tryd.underlying3
 a3 := Tryd.isAgg3
 z3 := Tryd.sizeOf3
 v3 := Tryd.zeroValue3
 t4 := Tryd.underlying4
 a4 := Tryd.isAgg4
 z4 := Tryd.sizeOf4
 v4 := Tryd.zeroValue4
 t5 := Tryd.underlying5
 a5 := Tryd.isAgg5
 z5 := Tryd.sizeOf5
 v5 := Tryd.zeroValue5
 t9 := Tryd.underlying9
 a9 := Tryd.isAgg9
 z9 := Tryd.sizeOf9
 v9 := Tryd.zeroValue9
 t20 := Tryd.underlying20
 a20 := Tryd.isAgg20
 z20 := Tryd.sizeOf20
 v20 := Tryd.zeroValue20
 t37 := Tryd.underlying27
 a37 := Tryd.isAgg27
 z37 := Tryd.sizeOf27
 v37 := Tryd.zeroValue27
 t46 := Tryd.underlying69
 a46 := Tryd.isAgg69
 z46 := Tryd.sizeOf69
 v46 := Tryd.zeroValue69
 t51 := Tryd.underlying88
 a51 := Tryd.isAgg88
 z51 := Tryd.sizeOf88
 v51 := Tryd.zeroValue88
 t53 := Tryd.underlying66
 a53 := Tryd.isAgg66
 z53 := Tryd.sizeOf66
 v53 := Tryd.zeroValue66
 t171 := Tryd.underlying74
 a171 := Tryd.isAgg74
 z171 := Tryd.sizeOf74
 v171 := Tryd.zeroValue74
 t173 := Tryd.underlying77
 a173 := Tryd.isAgg77
 z173 := Tryd.sizeOf77
 v173 := Tryd.zeroValue77
 t212 := Tryd.underlying87
 a212 := Tryd.isAgg87
 z212 := Tryd.sizeOf87
 v212 := Tryd.zeroValue87
 t213 := Tryd.underlying89
 a213 := Tryd.isAgg89
 z213 := Tryd.sizeOf89
 t232 := Tryd.underlying96
 a232 := Tryd.isAgg96
 z232 := Tryd.sizeOf96
 v232 := Tryd.zeroValue96
 t233 := Tryd.underlying97
 a233 := Tryd.isAgg97
 z233 := Tryd.sizeOf97
 v233 := Tryd.zeroValue97
 g17 := by kernel_rfl
 g18 := by kernel_rfl
 g19 := by kernel_rfl
 i0 := by kernel_rfl
 i2 := by kernel_rfl
 i3 := by kernel_rfl
 i4 := by kernel_rfl
 i5 := by kernel_rfl
 i9 := by kernel_rfl
 i20 := by kernel_rfl
 i37 := by kernel_rfl
 i46 := by kernel_rfl
 i51 := by kernel_rfl
 i53 := by kernel_rfl
 i171 := by kernel_rfl
 i173 := by kernel_rfl
 i212 := by kernel_rfl
 i232 := by kernel_rfl
 i233 := by kernel_rfl
 m17 := by kernel_rfl
 m18 := by kernel_rfl
 m19 := by kernel_rfl }
def ren174 : Go.Shelf.Ren := ⟨fun | 174 => 23 | 247 => 34 | 245 => 35 | 287 => 39 | 279 => 40 | 280 => 41 | 281 => 42 | 282 => 43 | 321 => 49 | 322 => 50 | 316 => 33 | 171 => 52 | 205 => 51 | 243 => 58 | 246 => 36 | 283 => 44 | 284 => 45 | 285 => 46 | 286 => 47 | 129 => 54 | 317 => 53 | 318 => 55 | 319 => 56 | 320 => 57 | 337 => 59 | 338 => 60 | n => n, fun | 9 => 9 | 3 => 3 | 2 => 2 | 75 => 48 | 85 => 49 | 4 => 4 | 167 => 65 | 5 => 5 | 53 => 66 | 175 => 67 | 46 => 69 | 168 => 70 | 37 => 27 | 0 => 0 | 210 => 83 | 21 => 21 | 127 => 64 | 145 => 94 | 143 => 92 | 171 => 74 | 173 => 77 | 212 => 87 | 51 => 88 | 20 => 20 | 213 => 89 | 232 => 96 | 233 => 97 | 80 => 60 | n => n, fun | 15 => 0 | 16 => 1 | 17 => 2 | 18 => 3 | 19 => 4 | n => n⟩
theorem lays174 : Go.Proofs.LaysC.n174 Tryd.prog ren174 := {
 mixed := by kernel_rfl
 f129 := Tryd.func54.trans (congrArg some (by kernel_rfl))
 f171 := Tryd.func52.trans (congrArg some (by kernel_rfl))
 f174 := Tryd.func23.trans (congrArg some (by kernel_rfl))
 f205 := Tryd.func51.trans (congrArg some (by kernel_rfl))
 f243 := Tryd.func58.trans (congrArg some (by kernel_rfl))
 f245 := Tryd.func35.trans (congrArg some (by kernel_rfl))
 f246 := Tryd.func36.trans (congrArg some (by kernel_rfl))
 f247 := Tryd.func34.trans (congrArg some (by kernel_rfl))
 f279 := Tryd.func40.trans (congrArg some (by kernel_rfl))
 f280 := Tryd.func41.trans (congrArg some (by kernel_rfl))
 f281 := Tryd.func42.trans (congrArg some (by kernel_rfl))
 f282 := Tryd.func43.trans (congrArg some (by kernel_rfl))
 f283 := Tryd.func44.trans (congrArg some (by kernel_rfl))
 f284 := Tryd.func45.trans (congrArg some (by kernel_rfl))
 f285 := Tryd.func46.trans (congrArg some (by kernel_rfl))
 f286 := Tryd.func47.trans (congrArg some (by kernel_rfl))
 f287 := Tryd.func39.trans (congrArg some (by kernel_rfl))
 f316 := Tryd.func33.trans (congrArg some (by kernel_rfl))
 f317 := Tryd.func53.trans (congrArg some (by kernel_rfl))
 f318 := Tryd.func55.trans (congrArg some (by kernel_rfl))
 f319 := Tryd.func56.trans (congrArg some (by kernel_rfl))
 f320 := Tryd.func57.trans (congrArg some (by kernel_rfl))
 f321 := Tryd.func49.trans (congrArg some (by kernel_rfl))
 f322 := Tryd.func50.trans (congrArg some (by kernel_rfl))
 f337 := Tryd.func59.trans (congrArg some (by kernel_rfl))
 f338 := Tryd.func60.trans (congrArg some (by kernel_rfl))
 t0 := Tryd.underlying0
 a0 := Tryd.isAgg0
 z0 := Tryd.sizeOf0
 v0 := Tryd.zeroValue0
 t2 := Tryd.underlying2
 a2 := Tryd.isAgg2
 z2 := Tryd.sizeOf2
 v2 := Tryd.zeroValue2
 t3 := Tryd.underlying3
 a3 := Tryd.isAgg3
 z3 := Tryd.sizeOf3
 v3 := Tryd.zeroValue3
 t4 := Tryd.underlying4
 a4 := Tryd.isAgg4
 z4 := Tryd.sizeOf4
 v4 := Tryd.zeroValue4
 t5 := Tryd.underlying5
 a5 := Tryd.isAgg5
 z5 := Tryd.sizeOf5
 v5 := Tryd.zeroValue5
 t9 := Tryd.underlying9
 a9 := Tryd.isAgg9
 z9 := Tryd.sizeOf9
 v9 := Tryd.zeroValue9
 t20 := Tryd.underlying20
 a20 := Tryd.isAgg20
 z20 := Tryd.sizeOf20
 v20 := Tryd.zeroValue20
 t21 := Tryd.underlying21
 a21 := Tryd.isAgg21
 z21 := Tryd.sizeOf21
 v21 := Tryd.zeroValue21
 t37 := Tryd.underlying27
 a37 := Tryd.isAgg27
 z37 := Tryd.sizeOf27
 v37 := Tryd.zeroValue27
 t46 := Tryd.underlying69
 a46 := Tryd.isAgg69
 z46 := Tryd.sizeOf69
 v46 := Tryd.zeroValue69
 t51 := Tryd.underlying88
 a51 := Tryd.isAgg88
 z51 := Tryd.sizeOf88
 v51 := Tryd.zeroValue88
 t53 := Tryd.underlying66
 a53 := Tryd.isAgg66
 z53 := Tryd.sizeOf66
 v53 := Tryd.zeroValue66
 t75 := Tryd.underlying48
 a75 := Tryd.isAgg48
 z75 := Tryd.sizeOf48
 v75 := Tryd.zeroValue48
 t85 := Tryd.underlying49
 a85 := Tryd.isAgg49
 z85 := Tryd.sizeOf49
 v85 := Tryd.zeroValue49
 t127 := Tryd.underlying64
 a127 := Tryd.isAgg64
 z127 := Tryd.sizeOf64
 v127 := Tryd.zeroValue64
 t143 := Tryd.underlying92
 a143 := Tryd.isAgg92
 z143 := Tryd.sizeOf92
 v143 := Tryd.zeroValue92
 t145 := Tryd.underlying94
 a145 := Tryd.isAgg94
 z145 := Tryd.sizeOf94
 v145 := Tryd.zeroValue94
 t167 := Tryd.underlying65
 a167 := Tryd.isAgg65
 z167 := Tryd.sizeOf65
 v167 := Tryd.zeroValue65
 t168 := Tryd.underlying70
 a168 := Tryd.isAgg70
 z168 := Tryd.sizeOf70
 v168 := Tryd.zeroValue70
 t171 := Tryd.underlying74
 a171 := Tryd.isAgg74
 z171 := Tryd.sizeOf74
 v171 := Tryd.zeroValue74
 t173 := Tryd.underlying77
 a173 := Tryd.isAgg77
 z173 := Tryd.sizeOf77
 v173 := Tryd.zeroValue77
 t175 := Tryd.underlying67
 a175 := Tryd.isAgg67
 z175 := Tryd.sizeOf67
 v175 := Tryd.zeroValue67
 t210 := Tryd.underlying83
 a210 := Tryd.isAgg83
 z210 := Tryd.sizeOf83
 v210 := Tryd.zeroValue83
 t212 := Tryd.underlying87
 a212 := Tryd.isAgg87
 z212 := Tryd.sizeOf87
 v212 := Tryd.zeroValue87
 t213 := Tryd.underlying89
 a213 := Tryd.isAgg89
 z213 := Tryd.sizeOf89
 t232 := Tryd.underlying96
 a232 := Tryd.isAgg96
 z232 := Tryd.sizeOf96
 v232 := Tryd.zeroValue96
 t233 := Tryd.underlying97
 a233 := Tryd.isAgg97
 z233 := Tryd.sizeOf97
 v233 := Tryd.zeroValue97
 g15 := by kernel_rfl
 g16 := by kernel_rfl
 g17 := by kernel_rfl
 g18 := by kernel_rfl
 g19 := by kernel_rfl
 t80 := Tryd.underlying60
 a80 := Tryd.isAgg60
 z80 := Tryd.sizeOf60
 v80 := Tryd.zeroValue60
 i0 := by kernel_rfl
 i2 := by kernel_rfl
 i3 := by kernel_rfl
 i4 := by kernel_rfl
 i5 := by kernel_rfl
 i9 := by kernel_rfl
 i20 := by kernel_rfl
 i21 := by kernel_rfl
 i37 := by kernel_rfl
 i46 := by kernel_rfl
 i51 := by kernel_rfl
 i53 := by kernel_rfl
 i75 := by kernel_rfl
 i80 := by kernel_rfl
 i85 := by kernel_rfl
 i127 := by kernel_rfl
 i143 := by kernel_rfl
 i145 := by kernel_rfl
 i167 := by kernel_rfl
 i168 := by kernel_rfl
 i171 := by kernel_rfl
 i173 := by kernel_rfl
 i175 := by kernel_rfl
 i210 := by kernel_rfl
 i212 := by kernel_rfl
 i232 := by kernel_rfl
 i233 := by kernel_rfl
 m15 := by kernel_rfl
 m16 := by kernel_rfl
 m17 := by kernel_rfl
 m18 := by kernel_rfl
 m19 := by kernel_rfl
 c0 := by kernel_rfl
 c2 := by kernel_rfl
 c3 := by kernel_rfl
 c4 := by kernel_rfl
 c5 := by kernel_rfl
 c9 := by kernel_rfl
 c20 := by kernel_rfl
 c21 := by kernel_rfl
 c37 := by kernel_rfl
 c46 := by kernel_rfl
 c51 := by kernel_rfl
 c53 := by kernel_rfl
 c75 := by kernel_rfl
 c80 := by kernel_rfl
 c85 := by kernel_rfl
 c127 := by kernel_rfl
 c143 := by kernel_rfl
 c145 := by kernel_rfl
 c167 := by kernel_rfl
 c168 := by kernel_rfl
 c171 := by kernel_rfl
 c173 := by kernel_rfl
 c175 := by kernel_rfl
 c210 := by kernel_rfl
 c212 := by kernel_rfl
 c213 := by kernel_rfl
 c232 := by kernel_rfl
 c233 := by kernel_rfl }
def ren316 : Go.Shelf.Ren := ⟨fun | 316 => 33 | n => n, fun | 9 => 9 | 3 => 3 | 4 => 4 | 37 => 27 | 0 => 0 | 127 => 64 | 5 => 5 | n => n, fun | n => n⟩
theorem lays316 : Go.Proofs.LaysM.n316 Tryd.prog ren316 := {
 mixed := by kernel_rfl
 f316 := Tryd.func33.trans (congrArg some (by kernel_rfl))
 t0 := Tryd.underlying0
 a0 := Tryd.isAgg0
 z0 := Tryd.sizeOf0
 v0 := Tryd.zeroValue0
 t3 := Tryd.underlying3
 a3 := Tryd.isAgg3
 z3 := Tryd.sizeOf3
 v3 := Tryd.zeroValue3
 t4 := Tryd.underlying4
 a4 := Tryd.isAgg4
 z4 := Tryd.sizeOf4
 v4 := Tryd.zeroValue4
 t9 := Tryd.underlying9
 a9 := Tryd.isAgg9
 z9 := Tryd.sizeOf9
 v9 := Tryd.zeroValue9
 t37 := Tryd.underlying27
 a37 := Tryd.isAgg27
 z37 := Tryd.sizeOf27
 v37 := Tryd.zeroValue27
 t127 := Tryd.underlying64
 a127 := Tryd.isAgg64
 z127 := Tryd.sizeOf64
 v127 := Tryd.zeroValue64
 t5 := Tryd.underlying5
 a5 := Tryd.isAgg5
 z5 := Tryd.sizeOf5
 v5 := Tryd.zeroValue5
 i0 := by kernel_rfl
 i3 := by kernel_rfl
 i4 := by kernel_rfl
 i5 := by kernel_rfl
 i9 := by kernel_rfl
 i37 := by kernel_rfl
 i127 := by kernel_rfl }
theorem ck_num (f : FuncId) (h : num f = 674) : f = 38 := by
 by_cases hf : f < 90
 ·exact (by decide +kernel : ∀ f : Fin 90, num f.val = 674 → f.val = 38) ⟨f, hf⟩ h
 ·have hn : num f = 100000 + f := by
   unfold num
   rw [List.getElem?_eq_none (by rw [show gids.length = 90 from by kernel_rfl]; simp only [FuncId] at *; omega)]; rfl
  rw [hn] at h
  exfalso; simp only [FuncId] at *; omega
theorem str_num (f : FuncId) (h : num f = 670) : f = ren169.f 169 := by
 by_cases hf : f < 90
 ·exact (by decide +kernel : ∀ f : Fin 90, num f.val = 670 → f.val = ren169.f 169) ⟨f, hf⟩ h
 ·have hn : num f = 100000 + f := by
   unfold num
   rw [List.getElem?_eq_none (by rw [show gids.length = 90 from by kernel_rfl]; simp only [FuncId] at *; omega)]; rfl
  rw [hn] at h
  exfalso; simp only [FuncId] at *; omega
theorem fmt_num (f : FuncId) (h : num f = 708) : f = ren246.f 246 := by
 by_cases hf : f < 90
 ·exact (by decide +kernel : ∀ f : Fin 90, num f.val = 708 → f.val = ren246.f 246) ⟨f, hf⟩ h
 ·have hn : num f = 100000 + f := by
   unfold num
   rw [List.getElem?_eq_none (by rw [show gids.length = 90 from by kernel_rfl]; simp only [FuncId] at *; omega)]; rfl
  rw [hn] at h
  exfalso; simp only [FuncId] at *; omega
theorem pi_num (f : FuncId) (h : num f = 787) : f = ren174.f 174 := by
 by_cases hf : f < 90
 ·exact (by decide +kernel : ∀ f : Fin 90, num f.val = 787 → f.val = ren174.f 174) ⟨f, hf⟩ h
 ·have hn : num f = 100000 + f := by
   unfold num
   rw [List.getElem?_eq_none (by rw [show gids.length = 90 from by kernel_rfl]; simp only [FuncId] at *; omega)]; rfl
  rw [hn] at h
  exfalso; simp only [FuncId] at *; omega
theorem cl_num (f : FuncId) (h : num f = 721) : f = ren316.f 316 := by
 by_cases hf : f < 90
 ·exact (by decide +kernel : ∀ f : Fin 90, num f.val = 721 → f.val = ren316.f 316) ⟨f, hf⟩ h
 ·have hn : num f = 100000 + f := by
   unfold num
   rw [List.getElem?_eq_none (by rw [show gids.length = 90 from by kernel_rfl]; simp only [FuncId] at *; omega)]; rfl
  rw [hn] at h
  exfalso; simp only [FuncId] at *; omega
theorem zbu : Callable Tryd.prog 38 := ⟨Tryd.f38, Tryd.func38, by decide +kernel, by kernel_rfl⟩
theorem znd : Callable Tryd.prog (ren169.f 169) := ⟨Tryd.f30, Tryd.func30, by decide +kernel, by kernel_rfl⟩
theorem zfb : Callable Tryd.prog (ren246.f 246) := ⟨Tryd.f36, Tryd.func36, by decide +kernel, by kernel_rfl⟩
theorem ziz : Callable Tryd.prog (ren174.f 174) := ⟨Tryd.f23, Tryd.func23, by decide +kernel, by kernel_rfl⟩
theorem zbv : Callable Tryd.prog (ren316.f 316) := ⟨Tryd.f33, Tryd.func33, by decide +kernel, by kernel_rfl⟩
theorem strExtra : Builder.Extra Tryd.prog ren169 := {
 sizeBuilder := by kernel_rfl
 liesBuilder := by kernel_rfl
 t5 := Tryd.underlying5
 a5 := Tryd.isAgg5
 z5 := Tryd.sizeOf5
 v5 := Tryd.zeroValue5
 infoByte := by kernel_rfl
 cellsByte := by kernel_rfl
 sizeByte := by kernel_rfl
 neB5 := by decide }
abbrev powTab : Tab := ("internal/strconv.uint64pow10", .u64, Lib.pow10Tab)
abbrev errNames : List String := ["strconv.ErrRange", "strconv.ErrSyntax"]
theorem ext_ok : ExtOK (Names.errs num Tryd.prog [powTab] errNames) Tryd.prog (ext5 dig) :=
 zeo (zep checkFacts (by kernel_rfl) ck_num zbu) (zet lays169 strExtra str_num znd) (zer lays246 (List.mem_cons_self ..) fmt_num zfb)
  (zes lays174 (List.mem_cons_of_mem _ (List.mem_cons_self ..)) (List.mem_cons_self ..) pi_num ziz) (zeq lays316 cl_num zbv)
theorem runs : Runs Tryd.prog (Names.errs num Tryd.prog [powTab] errNames) code5 (ext5 dig) :=
 ⟨by kernel_rfl, fns, ext_ok, nz, zb0, fun _ _ _ _ _ _ => Iff.rfl, fun _ _ _ h => h, fun _ h1 h2 => ⟨h1, h2⟩⟩
end Go.Proofs.YtkmdbfhagicidaaDoor


namespace Go.Proofs.YtkmdbfhagicidaaDoor
open Go.EX Go.ChangeShapes Go.WideShapes Go.ChangeAt Go.RowKit
set_option linter.unusedVariables false
theorem own : ownKnob Tryd.prog.godebug = none := by kernel_rfl
theorem laidOut : laidOutB Tryd.prog = true := by kernel_rfl
abbrev laidTabs : List (String × DataW Unit) := [("math/bits.deBruijn32tab", Rows.laid_math_bits_deBruijn32tab), ("math/bits.deBruijn64tab", Rows.laid_math_bits_deBruijn64tab), ("internal/strconv.uint64pow10", Rows.laid_internal_strconv_uint64pow10), ("strconv.ErrRange", Rows.laid_strconv_ErrRange), ("strconv.ErrSyntax", Rows.laid_strconv_ErrSyntax)]
theorem zni : (Rows.laid_internal_strconv_uint64pow10 : DataW Unit) = Lib.tabData .u64 Lib.pow10Tab := by kernel_rfl
theorem gP : Tryd.prog.globalNamed "internal/strconv.uint64pow10" = some 2 := by kernel_rfl
theorem gR : Tryd.prog.globalNamed "strconv.ErrRange" = some 1 := by kernel_rfl
theorem gS : Tryd.prog.globalNamed "strconv.ErrSyntax" = some 0 := by kernel_rfl
theorem star : "*" ++ "errors.errorString" = "*errors.errorString" := by decide
theorem row92 (u : TypeId) (h : Tryd.prog.typeName? 3 u = some "*errors.errorString") : u = 92 :=
 typeName_ptr_named (nm := "errors.errorString") (by rw [star]; kernel_rfl) (by kernel_rfl) (by decide) u (by rw [star]; exact h)
theorem var_lt {W : World} {n : String} {g : Nat} {cs : Array Value} (hg : Tryd.prog.globalNamed n = some g) (h : W.var? Tryd.prog n = some cs) : g < W.heap.size := by
 unfold World.var? at h
 rw [hg] at h
 simp only [Option.bind_some] at h
 by_cases hlt : g < W.heap.size
 ·exact hlt
 ·rw [Array.getElem?_eq_none (by omega)] at h
  cases h
theorem znj {W : World} (h : laidMetH Tryd.prog laidTabs W) :
  TabsIn Tryd.prog [powTab] (fun b => b < W.heap.size) W ∧ ErrsIn Tryd.prog errNames (fun b => b < W.heap.size) W := by
 have h2 : laidMet Tryd.prog laidTabs W := h
 rw [laidTabs, zni] at h2
 have hl := h2.tail.tail
 have hR : laidMet Tryd.prog [("strconv.ErrRange", .iface "*errors.errorString" (.ptr (.agg [.lit (.string [118, 97, 108, 117, 101, 32, 111, 117, 116, 32, 111, 102, 32, 114, 97, 110, 103, 101])]))), ("strconv.ErrSyntax", Rows.laid_strconv_ErrSyntax)] W := hl.tail
 have hS : laidMet Tryd.prog [("strconv.ErrSyntax", .iface "*errors.errorString" (.ptr (.agg [.lit (.string [105, 110, 118, 97, 108, 105, 100, 32, 115, 121, 110, 116, 97, 120])])))] W := hl.tail.tail
 refine ⟨?_, ?_⟩
 ·have ht := Lib.tabIs_of_head (t := 87) (e := 66) (n := 20) gP (by kernel_rfl) Tryd.underlying87 Tryd.underlying66 (by kernel_rfl) (by kernel_rfl) hl
  intro t ht'
  simp only [List.mem_singleton] at ht'
  subst ht'
  exact ⟨⟨2, gP, var_lt gP ht⟩, ht⟩
 ·obtain ⟨a0, sa, hva, _, _, _⟩ := laid_sentinel hR gR (by kernel_rfl) Tryd.underlying48 row92 Tryd.underlying92 Tryd.underlying94 rfl rfl Tryd.underlying9 (by kernel_rfl) (by kernel_rfl)
  obtain ⟨b0, sb, hvb, _, _, _⟩ := laid_sentinel hS gS (by kernel_rfl) Tryd.underlying48 row92 Tryd.underlying92 Tryd.underlying94 rfl rfl Tryd.underlying9 (by kernel_rfl) (by kernel_rfl)
  intro t ht'
  simp only [List.mem_cons, List.not_mem_nil, or_false] at ht'
  rcases ht' with rfl | rfl
  ·exact ⟨⟨1, gR, var_lt gR hva⟩, _, _, hva⟩
  ·exact ⟨⟨0, gS, var_lt gS hvb⟩, _, _, hvb⟩
theorem zc7 (os : Os) (args : Array Value) : laidMetH Tryd.prog laidTabs ((World.doorLaid Tryd.prog 400 os).forCall (fun _ _ => 0) ⟨#[], args, []⟩).memory :=
 laidMetH_of_parts3 (fuel := 8) (laidMet_of_run' 8 (by kernel_rfl) (by kernel_rfl)) (by kernel_rfl) (by kernel_rfl)
theorem readsText : ReadsAs Tryd.prog 9 tStr := readsStr Tryd.underlying9
end Go.Proofs.YtkmdbfhagicidaaDoor


set_option linter.unusedVariables false
set_option linter.unusedSimpArgs false
namespace Go.EX
open Go.Lib
theorem zis (M : Nat) : ∀ (l r : List UInt8) (acc : Nat), parseUintM M acc (l ++ r) = match parseUintM M acc l with
  | .ok v => parseUintM M v r
  | e => e
 | [], r, acc => rfl
 | c :: l, r, acc => by
  rw [List.cons_append, parseUintM, parseUintM]
  split
  ·split
   ·rfl
   ·split
    ·rfl
    ·exact zis M l r _
  ·rfl
theorem zbc (d : Nat) (h : d < 10) : (UInt8.ofNat (48 + d)).toNat = 48 + d := by
 rw [UInt8.toNat_ofNat']
 omega
theorem zit : ∀ (u : Nat), u ≤ 9223372036854775807 → parseUintM (2 ^ 64 - 1) 0 (decDigits u) = .ok u := by
 intro u
 induction u using Nat.strongRecOn with
 | _ u ih =>
  intro hu
  by_cases h : u < 10
  ·rw [decDigits, dif_pos h, parseUintM, zbc u h, if_pos (by omega), if_neg (by omega), if_neg (by omega), parseUintM]
   congr 1
   omega
  ·rw [decDigits, dif_neg h, zis, ih (u / 10) (by omega) (by omega)]
   dsimp only
   rw [parseUintM, zbc (u % 10) (by omega), if_pos (by omega), if_neg (by omega), if_neg (by omega), parseUintM]
   congr 1
   omega
theorem dec_ne (u : Nat) : decDigits u ≠ [] := by
 by_cases h : u < 10
 ·rw [decDigits, dif_pos h]; simp
 ·rw [decDigits, dif_neg h]; simp
theorem zcl : ∀ (u : Nat), ∀ x ∈ decDigits u, isDigit x = true := by
 intro u
 induction u using Nat.strongRecOn with
 | _ u ih =>
  intro x hx
  by_cases h : u < 10
  ·rw [decDigits, dif_pos h, List.mem_singleton] at hx
   subst hx
   unfold isDigit
   rw [zbc u h]
   simp
   omega
  ·rw [decDigits, dif_neg h, List.mem_append, List.mem_singleton] at hx
   rcases hx with hx | rfl
   ·exact ih (u / 10) (by omega) x hx
   ·unfold isDigit
    rw [zbc (u % 10) (by omega)]
    simp
    omega
theorem zcm : ∀ (k u : Nat), u < 10 ^ (k + 1) → (decDigits u).length ≤ k + 1 := by
 intro k
 induction k with
 | zero => intro u hu; rw [decDigits, dif_pos (by simpa using hu)]; simp
 | succ k ih =>
  intro u hu
  by_cases h : u < 10
  ·rw [decDigits, dif_pos h]; simp
  ·rw [decDigits, dif_neg h, List.length_append, List.length_singleton]
   have := ih (u / 10) (by rw [Nat.pow_succ] at hu; omega)
   omega
theorem ziv {u : Nat} (hu : u ≤ 9223372036854775807) : parseIntB 64 (decDigits u) = .ok (u : Int) := by
 obtain ⟨x, r, he⟩ : ∃ x r, decDigits u = x :: r := by
  cases h : decDigits u with
  | nil => exact absurd h (dec_ne u)
  | cons x r => exact ⟨x, r, rfl⟩
 have hx := zcl u x (by rw [he]; exact List.mem_cons_self ..)
 have hp := zit u hu
 unfold isDigit at hx
 simp only [Bool.and_eq_true, decide_eq_true_eq] at hx
 have h43 : ¬ (x.toNat = 43 ∨ x.toNat = 45) := by omega
 have h45 : ¬ x.toNat = 45 := by omega
 rw [he] at hp ⊢
 unfold parseIntB parseUintB
 dsimp only
 rw [if_neg h43, if_neg (by simp), hp]
 dsimp only
 rw [if_neg (by omega), if_neg (by omega), if_neg h45]
theorem zco {u : Nat} (hu : u ≤ 9223372036854775807) : numOk (decDigits u) = true := by
 unfold numOk
 rw [ziv hu]
 simp [itoa_nonneg]
theorem zcn {u : Nat} (hu : u ≤ 9223372036854775807) : numN (decDigits u) = (u : Int) := by
 unfold numN
 rw [ziv hu]
def escL : List UInt8 → List UInt8
 | [] => []
 | c :: r => (if c = 34 ∨ c = 92 then [92, c] else if c = 10 then [92, 110] else [c]) ++ escL r
theorem zdx : ∀ (l : List UInt8) (c : UInt8), escL (l ++ [c]) = escL l ++ escL [c]
 | [], c => rfl
 | x :: l, c => by rw [List.cons_append, escL, escL, zdx l c, List.append_assoc]
theorem zdw : ∀ (l : List UInt8), (escL l).length ≤ 2 * l.length
 | [] => Nat.le_refl _
 | x :: l => by
  have := zdw l
  rw [escL, List.length_append, List.length_cons]
  split
  ·simp only [List.length_cons, List.length_nil]; omega
  ·split <;> simp only [List.length_cons, List.length_nil] <;> omega
theorem znw (acc : List UInt8) {x : UInt8} (hx : isPlain x = true) (l : List UInt8) : textL acc (x :: l) = textL (acc ++ [x]) l := by
 have h1 : (x :: l).dropWhile isPlain = l.dropWhile isPlain := by simp [List.dropWhile, hx]
 have h2 : (x :: l).takeWhile isPlain = x :: l.takeWhile isPlain := by simp [List.takeWhile, hx]
 cases hs : stepT (l.dropWhile isPlain) with
 | none => rw [znq acc (by rw [h1]; exact hs), znq _ hs]
 | some o =>
  cases o with
  | none => rw [zns acc (by rw [h1]; exact hs), zns _ hs, h1, h2]; simp
  | some c => rw [znv acc (by rw [h1]; exact hs), znv _ hs, h1, h2]; simp
theorem plain34 : isPlain 34 = false := by decide
theorem plain92 : isPlain 92 = false := by decide
theorem znt : ∀ (s : List UInt8) (acc r : List UInt8), textL acc (escL s ++ 34 :: r) = some (acc ++ s, r)
 | [], acc, r => by
  have hd : (escL [] ++ 34 :: r).dropWhile isPlain = 34 :: r := by simp [escL, List.dropWhile, plain34]
  have ht : (escL [] ++ 34 :: r).takeWhile isPlain = [] := by simp [escL, List.takeWhile, plain34]
  rw [zns acc (by rw [hd]; rfl), hd, ht]
  simp
 | c :: s, acc, r => by
  have hstep : ∀ d : UInt8, ∀ e : UInt8, stepT (92 :: d :: (escL s ++ 34 :: r)) = some (some e) → textL acc (92 :: d :: (escL s ++ 34 :: r)) = some (acc ++ e :: s, r) := by
   intro d e hs
   have hd : (92 :: d :: (escL s ++ 34 :: r)).dropWhile isPlain = 92 :: d :: (escL s ++ 34 :: r) := by simp [List.dropWhile, plain92]
   have ht : (92 :: d :: (escL s ++ 34 :: r)).takeWhile isPlain = [] := by simp [List.takeWhile, plain92]
   rw [znv acc (c := e) (by rw [hd]; exact hs), hd, ht]
   show textL (acc ++ [] ++ [e]) (escL s ++ 34 :: r) = _
   rw [znt s]
   simp
  rw [escL]
  by_cases h1 : c = 34
  ·subst h1
   exact hstep 34 34 rfl
  by_cases h2 : c = 92
  ·subst h2
   exact hstep 92 92 rfl
  rw [if_neg (by simp [h1, h2])]
  by_cases h3 : c = 10
  ·subst h3
   exact hstep 110 10 rfl
  rw [if_neg h3]
  have hp : isPlain c = true := by
   unfold isPlain
   have q : ∀ n : UInt8, ¬ c = n → ¬ c.toNat = n.toNat := fun n h e => h (UInt8.toNat_inj.1 e)
   have q1 := q 34 h1
   have q2 := q 92 h2
   have q3 := q 10 h3
   simp only [Bool.and_eq_true, Bool.not_eq_true', decide_eq_false_iff_not]
   exact ⟨⟨q1, q2⟩, q3⟩
  show textL acc (c :: (escL s ++ 34 :: r)) = _
  rw [znw acc hp, znt s]
  simp
def quoteL (s : List UInt8) : List UInt8 := 34 :: escL s ++ [34]
theorem zpb (s r : List UInt8) (hs : s.length ≤ 4096) : wordOf (quoteL s ++ r) = some (3, s, 0, r) := by
 have he : quoteL s ++ r = 34 :: (escL s ++ 34 :: r) := by simp [quoteL]
 rw [he, zo4, if_pos (by decide), znt]
 simp [hs]
theorem dw_all (p : UInt8 → Bool) : ∀ (l : List UInt8), (∀ y ∈ l, p y = true) → l.dropWhile p = []
 | [], _ => rfl
 | x :: l, h => by
  have hx := h x (List.mem_cons_self ..)
  simp only [List.dropWhile, hx]
  exact dw_all p l fun y hy => h y (List.mem_cons_of_mem _ hy)
theorem zo9 {u : Nat} (hu : u ≤ 9223372036854775807) (r : List UInt8) (hr : ∀ x q, r = x :: q → isWord x = false) : wordOf (decDigits u ++ r) = some (2, [], (u : Int), r) := by
 obtain ⟨x, q, he⟩ : ∃ x r, decDigits u = x :: r := by
  cases h : decDigits u with
  | nil => exact absurd h (dec_ne u)
  | cons x r => exact ⟨x, r, rfl⟩
 have hall : ∀ y ∈ decDigits u, isWord y = true := fun y hy => by unfold isWord; rw [zcl u y hy]; rfl
 have hx := zcl u x (by rw [he]; exact List.mem_cons_self ..)
 have hdw : (decDigits u).dropWhile isWord = [] := by
  exact dw_all isWord _ hall
 have hr1 : r.takeWhile isWord = [] ∧ r.dropWhile isWord = r := by
  cases r with
  | nil => exact ⟨rfl, rfl⟩
  | cons y q => have := hr y q rfl; simp [List.takeWhile, List.dropWhile, this]
 obtain ⟨t1, t2⟩ := zoj isWord (decDigits u) r hdw
 rw [hr1.1, List.append_nil] at t1
 rw [hr1.2] at t2
 rw [he] at t1 t2
 have hl : isLetter x = false := by
  unfold isDigit at hx
  unfold isLetter
  simp only [Bool.and_eq_true, decide_eq_true_eq] at hx
  simp only [Bool.or_eq_false_iff, Bool.and_eq_false_iff, decide_eq_false_iff_not]
  omega
 have h34 : ¬ x.toNat = 34 := by
  unfold isDigit at hx
  simp only [Bool.and_eq_true, decide_eq_true_eq] at hx
  omega
 rw [he, List.cons_append, zo4, if_neg h34, if_neg (by rw [hl]; simp), if_pos hx]
 rw [List.cons_append] at t1 t2
 rw [t1, t2, ← he, if_pos (zco hu), zcn hu]
end Go.EX


set_option linter.unusedVariables false
set_option linter.unusedSimpArgs false
namespace Go.EX
open Go.Lib
def tenS : List UInt8 := [48, 49, 50, 51, 52, 53, 54, 55, 56, 57]
theorem ten_at : ∀ d : Fin 10, (tenS.drop d.val).take 1 = [UInt8.ofNat (48 + d.val)] := by decide
section
variable {code : Nat → Option XFun} {ext : Calls'}
theorem zc3 (h454 : code 454 = some x454) (u : Nat) (hu : u ≤ 9223372036854775807) : callW code ext 454 [int64 u] [] = some (strV (bs (decDigits u)), []) := by
 rw [zbj code ext h454]
 have L : ∃ e s', den code ext (.loop [0, 3] x454L1) ⟨0, [(0, int64 u), (3, strV .empty)], []⟩ = some (e, s') ∧ e ≠ .normal ∧ (e = .ret ∧ s' = ⟨0, [(2, strV (bs (decDigits u)))], []⟩) := by
  refine zhc (fun k s => ∃ T : List UInt8, decDigits k ++ T = decDigits u ∧ k ≤ 9223372036854775807 ∧ s.tidy [0, 3] = ⟨0, [(0, int64 k), (3, strV (bs T))], []⟩) _ ?_ u _
   ⟨[], by simp, hu, rfl⟩
  rintro k s ⟨T, hT, hk, hst⟩
  rw [hst]
  have hTl : T.length ≤ 1000 := by
   have h1 := congrArg List.length hT
   have h2 := zcm 18 u (by omega)
   rw [List.length_append] at h1
   omega
  have hrem : intBin .rem .i64 (k : Int) 10 = some (.int .i64 ((k % 10 : Nat) : Int)) := by
   have : IntKind.wrap .i64 ((k : Int).tmod 10) = ((k % 10 : Nat) : Int) := by rw [Int.tmod_eq_emod_of_nonneg (by omega), wrapI64 (by omega) (by omega)]; omega
   simp only [intBin, this]
   rfl
  have hquo : intBin .quo .i64 (k : Int) 10 = some (.int .i64 ((k / 10 : Nat) : Int)) := by
   have : IntKind.wrap .i64 ((k : Int).tdiv 10) = ((k / 10 : Nat) : Int) := by rw [Int.tdiv_eq_ediv_of_nonneg (by omega), wrapI64 (by omega) (by omega)]; omega
   simp only [intBin, this]
   rfl
  have hd : k % 10 < 10 := by omega
  have hext : (⟨#[48, 49, 50, 51, 52, 53, 54, 55, 56, 57]⟩ : ByteArray).extract (k % 10) (k % 10 + 1) = bs [UInt8.ofNat (48 + k % 10)] := by
   have := ten_at ⟨k % 10, hd⟩
   have h2 := za9 tenS (k % 10) (k % 10 + 1)
   rw [show k % 10 + 1 - k % 10 = 1 by omega] at h2
   dsimp only at this
   rw [this] at h2
   exact h2
  have hadd : intBin .add .i64 ((k % 10 : Nat) : Int) 1 = some (.int .i64 ((k % 10 + 1 : Nat) : Int)) := by
   have : IntKind.wrap .i64 (((k % 10 : Nat) : Int) + 1) = ((k % 10 + 1 : Nat) : Int) := by rw [wrapI64 (by omega) (by omega)]; omega
   simp only [intBin, this]
  have hsz : (⟨#[48, 49, 50, 51, 52, 53, 54, 55, 56, 57]⟩ : ByteArray).size = 10 := rfl
  have hcat : bs [UInt8.ofNat (48 + k % 10)] ++ bs T = bs (UInt8.ofNat (48 + k % 10) :: T) := za7 _ _
  have hs1 : (bs [UInt8.ofNat (48 + k % 10)]).size = 1 := rfl
  have hs2 := zba T
  have hs3 : 1 + T.length ≤ 9223372036854775807 := by omega
  have hd1 : ((k % 10 : Nat) : Int) ≤ ((k % 10 : Nat) : Int) + 1 := by omega
  have hd2 : ((k % 10 : Nat) : Int) + 1 ≤ 10 := by omega
  have hd3 : (0 : Int) ≤ ((k % 10 : Nat) : Int) := by omega
  by_cases h : k < 10
  ·have hk10 : k / 10 = 0 := by omega
   have hfin : UInt8.ofNat (48 + k % 10) :: T = decDigits u := by
    rw [← hT, decDigits, dif_pos h, show k % 10 = k by omega]
    rfl
   rw [hk10] at hquo
   refine ⟨.ret, _, ?_, .inr ⟨by simp, rfl, rfl⟩⟩
   rw [← hfin]
   generalize bs (UInt8.ofNat (48 + k % 10) :: T) = R at *
   generalize bs [UInt8.ofNat (48 + k % 10)] = D at *
   generalize bs T = TT at *
   generalize k % 10 = d at *
   generalize T.length = tl at *
   clear hT hfin hk hTl
   generalize (k : Int) = ki at *
   simp -implicitDefEqProofs [-intBin, x454L1, hrem, hquo, hadd, hext, hcat, hs1, hs2, hs3, hsz, bounds, hd, hd1, hd2, hd3, q_eql]
  ·have hfin : decDigits (k / 10) ++ UInt8.ofNat (48 + k % 10) :: T = decDigits u := by
    rw [← hT]
    conv => rhs; rw [decDigits, dif_neg h]
    simp
   have hk0 : ¬ ((k / 10 : Nat) : Int) = 0 := by omega
   refine ⟨.normal, ⟨0, [(0, int64 (k / 10 : Nat)), (3, strV (bs (UInt8.ofNat (48 + k % 10) :: T))), (16, avb false)], []⟩, ?_, .inl ⟨rfl, k / 10, by omega, _, hfin, by omega, rfl⟩⟩
   generalize bs (UInt8.ofNat (48 + k % 10) :: T) = R at *
   generalize bs [UInt8.ofNat (48 + k % 10)] = D at *
   generalize bs T = TT at *
   generalize k % 10 = d at *
   generalize T.length = tl at *
   generalize ((k / 10 : Nat) : Int) = kq at *
   clear hT hfin hk hTl
   generalize (k : Int) = ki at *
   simp -implicitDefEqProofs [-intBin, x454L1, hrem, hquo, hadd, hext, hcat, hs1, hs2, hs3, hsz, bounds, hd, hd1, hd2, hd3, q_eql, hk0]
 obtain ⟨e, s', l1, _, rfl, rfl⟩ := L
 unfold x454
 generalize x454L1 = LL at *
 generalize bs (decDigits u) = D at *
 simp -implicitDefEqProofs [l1]
end
end Go.EX


set_option linter.unusedVariables false
set_option linter.unusedSimpArgs false
namespace Go.EX
open Go.Lib
section
variable {code : Nat → Option XFun} {ext : Calls'}
def rowB (l : List UInt8) : List IV := l.map fun c => .val (.int .u8 c.toNat)
theorem zk1 (l : List UInt8) : (rowB l).length = l.length := by simp [rowB]
theorem zop (l : List UInt8) : u8s (rowB l) = some (l.map fun c => (c.toNat : Int)) := by
 induction l with
 | nil => rfl
 | cons c l ih =>
  have : rowB (c :: l) = .val (.int .u8 c.toNat) :: rowB l := rfl
  rw [this]
  simp [u8s, ih]
theorem znc (l : List UInt8) (n : Nat) (h : l.length = n) : strOfV [.flat (rowB l) false] (.osl 0 0 1 n none) = some ⟨l.toArray⟩ := by
 have hc : cut (rowB l) 0 n = some (rowB l) := zcb _ (by rw [zk1, h])
 simp only [strOfV, elems, List.getElem?_cons_zero, Nat.mul_one, hc, Option.map_some, zop, zjs]
 congr 2
 simp
 have : ((fun n : Int => UInt8.ofNat n.toNat) ∘ fun c : UInt8 => (c.toNat : Int)) = id := by
  funext c
  simp
 rw [this]; simp
end
end Go.EX


set_option linter.unusedVariables false
set_option linter.unusedSimpArgs false
namespace Go.EX
section
variable {code : Nat → Option XFun} {ext : Calls'}
def qL (s : List UInt8) (i : Nat) : List UInt8 := 34 :: escL (s.take i)
theorem zjz {s : List UInt8} {i : Nat} {c : UInt8} (h : s[i]? = some c) : qL s (i + 1) = qL s i ++ escL [c] := by
 unfold qL
 rw [List.take_add_one, h]
 show 34 :: escL (s.take i ++ [c]) = _
 rw [zdx]
 rfl
theorem qL_len (s : List UInt8) (i : Nat) : (qL s i).length ≤ 2 * s.length + 1 := by
 unfold qL
 have := zdw (s.take i)
 rw [List.length_take] at this
 rw [List.length_cons]
 omega
theorem zj1 (h455 : code 455 = some x455) (s : List UInt8) (hs : s.length ≤ 1000000) : callW code ext 455 [strV (bs s)] [] = some (strV (bs (quoteL s)), []) := by
 rw [zbj code ext h455]
 have L : ∀ s0 : St, s0.tidy [0, 3, 4] = ⟨0, [(0, strV (bs s)), (3, .osl 0 0 1 1 none), (4, int64 0)], [.flat (rowB [34]) false]⟩ →
   ∃ e s', den code ext (.loop [0, 3, 4] x455L1) s0 = some (e, s') ∧ e ≠ .normal ∧ (e = .exit 0 ∧ s' = ⟨0, [(0, strV (bs s)), (3, .osl 0 0 1 (qL s s.length).length none), (4, int64 s.length), (11, avb false)], [.flat (rowB (qL s s.length)) false]⟩) := by
  intro s0 hs0
  refine zhc (fun k st => ∃ i, i + k = s.length ∧ st.tidy [0, 3, 4] = ⟨0, [(0, strV (bs s)), (3, .osl 0 0 1 (qL s i).length none), (4, int64 i)], [.flat (rowB (qL s i)) false]⟩) _ ?_ s.length _
   ⟨0, by simp, hs0⟩
  rintro k st ⟨i, hik, hst⟩
  rw [hst]
  clear hs0 hst
  have hsz := zba s
  by_cases hlt : i < s.length
  ·obtain ⟨c, hx⟩ : ∃ c, s[i]? = some c := ⟨_, List.getElem?_eq_getElem hlt⟩
   have hget : ∀ hi : i < (bs s).size, (bs s)[i]'hi = c := fun hi => bs_at hx hi
   have e2 : IntKind.wrap .i64 ((i : Int) + 1) = ((i + 1 : Nat) : Int) := by rw [wrapI64 (by omega) (by omega)]; omega
   have hq := zjz hx
   have hlen := qL_len s i
   have hln := zk1 (qL s i)
   have hcut : cut (rowB (qL s i)) 0 (qL s i).length = some (rowB (qL s i)) := zcb _ hln
   have hle1 : (qL s i).length ≤ 140737488355327 := by omega
   have hle2 : (qL s i).length ≤ 140737488355326 := by omega
   have hl2 : (qL s (i + 1)).length = (qL s i).length + (escL [c]).length := by rw [hq, List.length_append]
   have q : ∀ n : UInt8, ¬ c = n → ¬ (c.toNat : Int) = (n.toNat : Int) := fun n h e => h (UInt8.toNat_inj.1 (by omega))
   by_cases h34 : c = 34
   ·subst h34
    have hr : rowB (qL s (i + 1)) = rowB (qL s i) ++ [.val (.int .u8 92), .val (.int .u8 34)] := by rw [hq]; simp [rowB, escL]
    refine ⟨.normal, ⟨0, [(0, strV (bs s)), (3, .osl 0 0 1 (qL s (i + 1)).length none), (4, int64 (i + 1 : Nat))], [.flat (rowB (qL s (i + 1))) false, .flat [.val (.int .u8 92), .val (.int .u8 34)] false]⟩, ?_, .inl ⟨rfl, k - 1, by omega, i + 1, by omega, by simp -implicitDefEqProofs⟩⟩
    rw [hr, hl2, show (escL [34]).length = 2 from rfl]
    generalize i + 1 = i1 at *
    clear hq hr hl2 hx hik
    generalize rowB (qL s i) = R at *
    generalize (qL s i).length = n at *
    generalize s.length = sl at *
    generalize bs s = S at *
    simp -implicitDefEqProofs [x455L1, hsz, hlt, hget, e2, hcut, hle2, exAppendX, exAppend, elems]
   by_cases h92 : c = 92
   ·subst h92
    have hr : rowB (qL s (i + 1)) = rowB (qL s i) ++ [.val (.int .u8 92), .val (.int .u8 92)] := by rw [hq]; simp [rowB, escL]
    refine ⟨.normal, ⟨0, [(0, strV (bs s)), (3, .osl 0 0 1 (qL s (i + 1)).length none), (4, int64 (i + 1 : Nat))], [.flat (rowB (qL s (i + 1))) false, .flat [.val (.int .u8 92), .val (.int .u8 92)] false]⟩, ?_, .inl ⟨rfl, k - 1, by omega, i + 1, by omega, by simp -implicitDefEqProofs⟩⟩
    rw [hr, hl2, show (escL [92]).length = 2 from rfl]
    generalize i + 1 = i1 at *
    clear hq hr hl2 hx hik
    generalize rowB (qL s i) = R at *
    generalize (qL s i).length = n at *
    generalize s.length = sl at *
    generalize bs s = S at *
    simp -implicitDefEqProofs [x455L1, hsz, hlt, hget, e2, hcut, hle2, exAppendX, exAppend, elems]
   by_cases h10 : c = 10
   ·subst h10
    have hr : rowB (qL s (i + 1)) = rowB (qL s i) ++ [.val (.int .u8 92), .val (.int .u8 110)] := by rw [hq]; simp [rowB, escL]
    refine ⟨.normal, ⟨0, [(0, strV (bs s)), (3, .osl 0 0 1 (qL s (i + 1)).length none), (4, int64 (i + 1 : Nat))], [.flat (rowB (qL s (i + 1))) false, .flat [.val (.int .u8 92), .val (.int .u8 110)] false]⟩, ?_, .inl ⟨rfl, k - 1, by omega, i + 1, by omega, by simp -implicitDefEqProofs⟩⟩
    rw [hr, hl2, show (escL [10]).length = 2 from rfl]
    generalize i + 1 = i1 at *
    clear hq hr hl2 hx hik
    generalize rowB (qL s i) = R at *
    generalize (qL s i).length = n at *
    generalize s.length = sl at *
    generalize bs s = S at *
    simp -implicitDefEqProofs [x455L1, hsz, hlt, hget, e2, hcut, hle2, exAppendX, exAppend, elems]
   ·have g1 : ¬ (c.toNat : Int) = 34 := q 34 h34
    have g2 : ¬ (c.toNat : Int) = 92 := q 92 h92
    have g3 : ¬ (c.toNat : Int) = 10 := q 10 h10
    have g1' : ¬ c.toNat = 34 := by omega
    have g2' : ¬ c.toNat = 92 := by omega
    have g3' : ¬ c.toNat = 10 := by omega
    have he : escL [c] = [c] := by simp [escL, h34, h92, h10]
    have hr : rowB (qL s (i + 1)) = rowB (qL s i) ++ [.val (.int .u8 c.toNat)] := by rw [hq, he]; simp [rowB]
    refine ⟨.normal, ⟨0, [(0, strV (bs s)), (3, .osl 0 0 1 (qL s (i + 1)).length none), (4, int64 (i + 1 : Nat))], [.flat (rowB (qL s (i + 1))) false, .flat [.val (.int .u8 c.toNat)] false]⟩, ?_, .inl ⟨rfl, k - 1, by omega, i + 1, by omega, by simp -implicitDefEqProofs⟩⟩
    rw [hr, hl2, he, show [c].length = 1 from rfl]
    generalize i + 1 = i1 at *
    clear hq hr hl2 hx hik q h34 h92 h10 he
    generalize rowB (qL s i) = R at *
    generalize (qL s i).length = n at *
    generalize s.length = sl at *
    generalize bs s = S at *
    simp -implicitDefEqProofs [x455L1, hsz, hlt, hget, e2, hcut, hle1, exAppendX, exAppend, elems, g1, g2, g3, g1', g2', g3']
  ·have hil : i = s.length := by omega
   subst hil
   refine ⟨.exit 0, _, ?_, .inr ⟨by simp, rfl, rfl⟩⟩
   generalize rowB (qL s s.length) = R at *
   generalize (qL s s.length).length = n at *
   generalize s.length = sl at *
   generalize bs s = S at *
   simp -implicitDefEqProofs [x455L1, hsz]
 have hL0 := L ⟨0, [(0, strV (bs s)), (3, .osl 1 0 1 1 none), (4, int64 0)], [.flat (rowB [34]) false, .flat (rowB [34]) false]⟩ (by unfold rowB; simp -implicitDefEqProofs)
 obtain ⟨e, s', l1, _, rfl, rfl⟩ := hL0
 have hlen := qL_len s s.length
 have hln := zk1 (qL s s.length)
 have hcut : cut (rowB (qL s s.length)) 0 (qL s s.length).length = some (rowB (qL s s.length)) := zcb _ hln
 have hle1 : (qL s s.length).length ≤ 140737488355327 := by omega
 have hq : quoteL s = qL s s.length ++ [34] := by unfold quoteL qL; rw [List.take_length]
 have hr : rowB (qL s s.length) ++ [.val (.int .u8 34)] = rowB (quoteL s) := by rw [hq]; simp [rowB]
 have hst : ∀ x, strOfV [.flat (rowB (quoteL s)) false, x] (.osl 0 0 1 ((qL s s.length).length + 1) none) = some (bs (quoteL s)) := by
  intro x
  have h : strOfV [.flat (rowB (quoteL s)) false] (.osl 0 0 1 ((qL s s.length).length + 1) none) = some (bs (quoteL s)) := znc (quoteL s) ((qL s s.length).length + 1) (by rw [hq]; simp)
  rw [← h]
  simp [strOfV, elems]
 unfold x455
 have hrow1 : rowB [34] = [.val (.int .u8 34)] := rfl
 rw [hrow1] at l1
 clear hq hln hlen
 generalize x455L1 = LL at *
 generalize bs (quoteL s) = Q at *
 generalize rowB (quoteL s) = R2 at *
 generalize rowB (qL s s.length) = R at *
 generalize (qL s s.length).length = n at *
 generalize bs s = S at *
 simp -implicitDefEqProofs [l1, hcut, hle1, hr, hst, exAppendX, exAppend, elems]
end
end Go.EX


set_option linter.unusedVariables false
set_option linter.unusedSimpArgs false
namespace Go.EX
open Go.Lib
theorem zmr {x : UInt8} (hx : isBlank x = false) (r : List UInt8) (h : hasPre [47, 47] (x :: r) = false) (n : Nat) : skipL (x :: r) n = (x :: r, n) := by
 have hd : (x :: r).dropWhile isBlank = x :: r := by simp [List.dropWhile, hx]
 have ht : (x :: r).takeWhile isBlank = [] := by simp [List.takeWhile, hx]
 rw [zmp n (by rw [hd]; exact h), hd, ht]
 rfl
theorem zmn {p : List UInt8} (hp : ∀ x ∈ p, isBlank x = true) {x : UInt8} (hx : isBlank x = false) (r : List UInt8) (h : hasPre [47, 47] (x :: r) = false) (n : Nat) :
  skipL (p ++ x :: r) n = (x :: r, n + countNL p) := by
 have h0 := dw_all isBlank p hp
 obtain ⟨t1, t2⟩ := zoj isBlank p (x :: r) h0
 have hd : (x :: r).dropWhile isBlank = x :: r := by simp [List.dropWhile, hx]
 have ht : (x :: r).takeWhile isBlank = [] := by simp [List.takeWhile, hx]
 rw [hd] at t2
 rw [ht, List.append_nil] at t1
 rw [zmp n (by rw [t2]; exact h), t2, t1]
theorem zc2 {x : UInt8} (hx : isDigit x = true) : isBlank x = false ∧ x ≠ 47 ∧ x ≠ 61 ∧ isWord x = true := by
 unfold isDigit at hx
 simp only [Bool.and_eq_true, decide_eq_true_eq] at hx
 refine ⟨?_, ?_, ?_, ?_⟩
 ·unfold isBlank
  simp only [Bool.or_eq_false_iff, decide_eq_false_iff_not]
  omega
 ·intro e; subst e; simp at hx
 ·intro e; subst e; simp at hx
 ·unfold isWord isDigit; simp [hx.1, hx.2]
theorem zck (u : Nat) : ∃ x r, decDigits u = x :: r ∧ isDigit x = true := by
 cases h : decDigits u with
 | nil => exact absurd h (dec_ne u)
 | cons x r => exact ⟨x, r, rfl, zcl u x (by rw [h]; exact List.mem_cons_self ..)⟩
theorem pre47 {x : UInt8} (h : x ≠ 47) (r : List UInt8) : hasPre [47, 47] (x :: r) = false := zjn (by intro q hq; simp at hq; exact h hq.1)
end Go.EX


set_option linter.unusedVariables false
set_option linter.unusedSimpArgs false
namespace Go.EX
open Go.Lib
def toldL (w : W5) : List UInt8 := if w.k = 2 then decDigits w.n.toNat else if w.k = 3 then quoteL w.s else w.s
def OkW (w : W5) : Prop :=
 (w.k = 1 ∧ w.n = 0 ∧ w.s.length ≤ 4096 ∧ (∀ x ∈ w.s, isWord x = true) ∧ ∃ x r, w.s = x :: r ∧ isLetter x = true) ∨
 (w.k = 2 ∧ w.s = [] ∧ 0 ≤ w.n ∧ w.n ≤ 9223372036854775807) ∨
 (w.k = 3 ∧ w.n = 0 ∧ w.s.length ≤ 4096) ∨
 (w.k = 4 ∧ w.n = 0 ∧ w.s ∈ signs5)
theorem zo7 {l : List UInt8} {k : Nat} {s : List UInt8} {N : Int} {q : List UInt8} (h : wordOf l = some (k, s, N, q)) (n : Nat) : OkW ⟨k, s, N, n⟩ := by
 cases l with
 | nil => cases h
 | cons x r =>
  rw [zo4] at h
  split at h
  ·split at h
   ·split at h
    ·cases h
     exact .inr (.inr (.inl ⟨rfl, rfl, by assumption⟩))
    ·cases h
   ·cases h
  split at h
  ·rename_i hl
   split at h
   ·rename_i hlen
    cases h
    have hw : isWord x = true := by unfold isWord; rw [hl]; simp
    exact .inl ⟨rfl, rfl, hlen, fun y hy => tw_all isWord _ y hy, x, r.takeWhile isWord, by simp [List.takeWhile, hw], hl⟩
   ·cases h
  split at h
  ·rename_i hd
   split at h
   ·rename_i hok
    cases h
    have hw : isWord x = true := (zc2 hd).2.2.2
    have ht : (x :: r).takeWhile isWord = x :: r.takeWhile isWord := by simp [List.takeWhile, hw]
    unfold numOk at hok
    have hNN : ∀ v, parseIntB 64 ((x :: r).takeWhile isWord) = .ok v → numN ((x :: r).takeWhile isWord) = v := fun v hv => by unfold numN; rw [hv]
    generalize numN ((x :: r).takeWhile isWord) = NN at *
    cases hp : parseIntB 64 ((x :: r).takeWhile isWord) with
    | ok v =>
     rw [hp] at hok
     have hv := of_decide_eq_true hok
     have hb := ziu hp
     rw [hNN v hp]
     refine .inr (.inl ⟨rfl, rfl, ?_, hb.2⟩)
     by_cases h0 : 0 ≤ v
     ·exact h0
     ·exfalso
      unfold itoa at hv
      rw [if_pos (by omega), ht] at hv
      have : x = 45 := (List.cons.inj hv).1.symm
      subst this
      exact absurd hd (by decide)
    | range => rw [hp] at hok; cases hok
    | «syntax» => rw [hp] at hok; cases hok
   ·cases h
  cases hsg : signOf (x :: r) with
  | none => rw [hsg] at h; cases h
  | some sg =>
   rw [hsg] at h
   simp only [Option.some.injEq, Prod.mk.injEq] at h
   obtain ⟨rfl, rfl, rfl, rfl⟩ := h
   unfold signOf at hsg
   exact .inr (.inr (.inr ⟨rfl, rfl, List.mem_of_find?_eq_some hsg⟩))
theorem pre_sp : ∀ (p l b : List UInt8), (∀ x ∈ p, x ≠ 32) → hasPre p (l ++ 32 :: b) = hasPre p l := by
 intro p
 induction p with
 | nil => intro l b _; unfold hasPre; simp
 | cons x p ih =>
  intro l b hp
  have hx : x ≠ 32 := hp x (List.mem_cons_self ..)
  cases l with
  | nil =>
   have : hasPre (x :: p) (32 :: b) = false := zjn (by intro q hq; simp at hq; exact hx hq.1.symm)
   rw [List.nil_append, this]
   unfold hasPre
   simp
  | cons y l =>
   have := ih l b fun z hz => hp z (List.mem_cons_of_mem _ hz)
   unfold hasPre at this ⊢
   simp only [List.cons_append, List.length_cons, List.take_succ_cons, List.cons.injEq, decide_eq_decide] at this ⊢
   rw [this]
theorem zmj (l b : List UInt8) : signOf (l ++ 32 :: b) = signOf l := by
 unfold signOf
 have hall : ∀ s ∈ signs5, ∀ x ∈ s, x ≠ 32 := by decide
 have : ∀ (L : List (List UInt8)), (∀ s ∈ L, ∀ x ∈ s, x ≠ 32) → L.find? (fun s => hasPre s (l ++ 32 :: b)) = L.find? (fun s => hasPre s l) := by
  intro L
  induction L with
  | nil => intro _; rfl
  | cons s L ih =>
   intro h
   simp only [List.find?_cons, pre_sp s l b (h s (List.mem_cons_self ..)), ih fun t ht => h t (List.mem_cons_of_mem _ ht)]
 exact this signs5 hall
def Free (r : List UInt8) : Prop := r = [] ∨ ∃ b, r = 32 :: b
theorem zfe {r : List UInt8} (h : Free r) : ∀ x q, r = x :: q → isWord x = false := by
 rintro x q rfl
 rcases h with h | ⟨b, h⟩
 ·cases h
 ·cases h; decide
theorem zmk : ∀ s ∈ signs5, signOf s = some s ∧ hasPre [47, 47] s = false ∧ ∃ x r, s = x :: r ∧ ¬ x.toNat = 34 ∧ isLetter x = false ∧ isDigit x = false ∧ isBlank x = false := by
 have h1 : ∀ s ∈ signs5, signOf s = some s ∧ hasPre [47, 47] s = false := by decide
 have h2 : ∀ s ∈ signs5, (match s with | x :: _ => (!decide (x.toNat = 34)) && (!isLetter x) && (!isDigit x) && (!isBlank x) | [] => false) = true := by decide
 intro s hs
 refine ⟨(h1 s hs).1, (h1 s hs).2, ?_⟩
 have h := h2 s hs
 cases s with
 | nil => cases h
 | cons x r =>
  simp only [Bool.and_eq_true, Bool.not_eq_true', decide_eq_false_iff_not] at h
  exact ⟨x, r, rfl, h.1.1.1, h.1.1.2, h.1.2, h.2⟩
theorem zob {w : W5} (h : OkW w) {r : List UInt8} (hr : Free r) : wordOf (toldL w ++ r) = some (w.k, w.s, w.n, r) := by
 obtain ⟨k, s, n, ln⟩ := w
 rcases h with ⟨h1, h2, h3, h4, x, q, h5, h6⟩ | ⟨h1, h2, h3, h4⟩ | ⟨h1, h2, h3⟩ | ⟨h1, h2, h3⟩
 ·dsimp only at h1 h2 h3 h4 h5 h6
  subst h1 h2 h5
  have ht : toldL ⟨1, x :: q, 0, ln⟩ = x :: q := rfl
  have hr1 : r.takeWhile isWord = [] ∧ r.dropWhile isWord = r := by
   cases r with
   | nil => exact ⟨rfl, rfl⟩
   | cons y p => have := zfe hr y p rfl; simp [List.takeWhile, List.dropWhile, this]
  obtain ⟨t1, t2⟩ := zoj isWord (x :: q) r (dw_all isWord _ h4)
  rw [hr1.1, List.append_nil] at t1
  rw [hr1.2] at t2
  rw [ht]
  rw [List.cons_append] at t1 t2 ⊢
  have h34 : ¬ x.toNat = 34 := by
   intro e
   unfold isLetter at h6
   simp [e] at h6
  rw [zo4, if_neg h34, if_pos h6, t1, t2, if_pos h3]
 ·dsimp only at h1 h2 h3 h4
  subst h1 h2
  obtain ⟨u, rfl⟩ : ∃ u : Nat, n = u := ⟨n.toNat, by omega⟩
  have ht : toldL ⟨2, [], (u : Int), ln⟩ = decDigits u := by unfold toldL; simp
  rw [ht]
  exact zo9 (by omega) r (zfe hr)
 ·dsimp only at h1 h2 h3
  subst h1 h2
  exact zpb s r h3
 ·dsimp only at h1 h2 h3
  subst h1 h2
  obtain ⟨g1, _, x, q, rfl, g2, g3, g4, _⟩ := zmk s h3
  have ht : toldL ⟨4, x :: q, 0, ln⟩ = x :: q := rfl
  have hsg : signOf (x :: q ++ r) = some (x :: q) := by
   rcases hr with rfl | ⟨b, rfl⟩
   ·rw [List.append_nil]; exact g1
   ·rw [zmj]; exact g1
  rw [ht]
  have hdr : (x :: q ++ r).drop (x :: q).length = r := by simp
  rw [List.cons_append] at hsg hdr ⊢
  rw [zo4, if_neg g2, if_neg (by rw [g3]; simp), if_neg (by rw [g4]; simp), hsg]
  dsimp only
  rw [hdr]
theorem zn9 {w : W5} (h : OkW w) {r : List UInt8} (hr : Free r) : ∃ x q, toldL w ++ r = x :: q ∧ isBlank x = false ∧ hasPre [47, 47] (x :: q) = false := by
 obtain ⟨k, s, n, ln⟩ := w
 rcases h with ⟨h1, h2, h3, h4, x, q, h5, h6⟩ | ⟨h1, h2, h3, h4⟩ | ⟨h1, h2, h3⟩ | ⟨h1, h2, h3⟩
 ·dsimp only at h1 h2 h3 h4 h5 h6
  subst h1 h2 h5
  refine ⟨x, q ++ r, rfl, ?_, pre47 ?_ _⟩
  ·unfold isLetter at h6
   unfold isBlank
   simp only [Bool.or_eq_true, Bool.and_eq_true, decide_eq_true_eq] at h6
   simp only [Bool.or_eq_false_iff, decide_eq_false_iff_not]
   omega
  ·intro e; subst e; exact absurd h6 (by decide)
 ·dsimp only at h1 h2 h3 h4
  subst h1 h2
  obtain ⟨u, rfl⟩ : ∃ u : Nat, n = u := ⟨n.toNat, by omega⟩
  have ht : toldL ⟨2, [], (u : Int), ln⟩ = decDigits u := by unfold toldL; simp
  obtain ⟨x, q, he, hx⟩ := zck u
  obtain ⟨f1, f2, _, _⟩ := zc2 hx
  rw [ht, he]
  exact ⟨x, q ++ r, rfl, f1, pre47 f2 _⟩
 ·dsimp only at h1 h2 h3
  subst h1 h2
  exact ⟨34, escL s ++ [34] ++ r, rfl, by decide, pre47 (by decide) _⟩
 ·dsimp only at h1 h2 h3
  subst h1 h2
  obtain ⟨_, g1, x, q, rfl, _, _, _, g5⟩ := zmk s h3
  refine ⟨x, q ++ r, rfl, g5, ?_⟩
  have : hasPre [47, 47] (x :: q ++ r) = false := by
   rcases hr with rfl | ⟨b, rfl⟩
   ·rw [List.append_nil]; exact g1
   ·rw [pre_sp _ _ _ (by decide)]; exact g1
  exact this
theorem zoa {w : W5} (h : OkW w) : (toldL w).length ≤ 8194 ∧ toldL w ≠ [] := by
 refine ⟨?_, ?_⟩
 ·obtain ⟨k, s, n, ln⟩ := w
  rcases h with ⟨h1, h2, h3, h4, x, q, h5, h6⟩ | ⟨h1, h2, h3, h4⟩ | ⟨h1, h2, h3⟩ | ⟨h1, h2, h3⟩
  ·dsimp only at h1 h3; subst h1; show s.length ≤ _; omega
  ·dsimp only at h1 h2 h3 h4
   subst h1
   have := zcm 18 n.toNat (by omega)
   show (decDigits n.toNat).length ≤ _
   omega
  ·dsimp only at h1 h3
   subst h1
   show (quoteL s).length ≤ _
   have := zdw s
   unfold quoteL
   simp only [List.length_append, List.length_cons, List.length_nil]
   omega
  ·dsimp only at h1 h3
   subst h1
   have : ∀ s ∈ signs5, s.length ≤ 8194 := by decide
   exact this s h3
 ·intro e
  obtain ⟨x, q, h1, _⟩ := zn9 h (r := []) (.inl rfl)
  rw [e] at h1
  cases h1
def tailT (ws : List W5) : List UInt8 := ws.flatMap fun w => 32 :: toldL w
def allT : List W5 → List UInt8
 | [] => []
 | w :: r => toldL w ++ tailT r
theorem znl (ws : List W5) : Free (tailT ws) := by
 cases ws with
 | nil => exact .inl rfl
 | cons w r => exact .inr ⟨toldL w ++ tailT r, rfl⟩
theorem znn (ws : List W5) (w : W5) : tailT (ws ++ [w]) = tailT ws ++ 32 :: toldL w := by unfold tailT; simp
theorem zan (ws : List W5) (w : W5) (h : ws ≠ []) : allT (ws ++ [w]) = allT ws ++ [32] ++ toldL w := by
 cases ws with
 | nil => exact absurd rfl h
 | cons v r =>
  show toldL v ++ tailT (r ++ [w]) = toldL v ++ tailT r ++ [32] ++ toldL w
  rw [znn]
  simp
theorem zpt : ∀ (r : List W5) (w : W5), (∀ v ∈ w :: r, OkW v) → wordsR (toldL w ++ tailT r) 0 = .inl ((w :: r).map fun v => { v with line := 0 })
 | [], w, h => by
  have hw := zob (h w (List.mem_cons_self ..)) (r := tailT []) (znl [])
  rw [zpl _ hw]
  have hs : skipL (tailT []) 0 = ([], 0) := zmp 0 (by decide)
  rw [hs]
  dsimp only
  rw [zpm]
  rfl
 | v :: r, w, h => by
  have hw := zob (h w (List.mem_cons_self ..)) (r := tailT (v :: r)) (znl _)
  rw [zpl _ hw]
  obtain ⟨x, q, h1, h2, h3⟩ := zn9 (h v (List.mem_cons_of_mem _ (List.mem_cons_self ..))) (r := tailT r) (znl r)
  have hs : skipL (tailT (v :: r)) 0 = (toldL v ++ tailT r, 0) := by
   have he : tailT (v :: r) = [32] ++ x :: q := by rw [← h1]; rfl
   have hc : countNL [32] = 0 := by decide
   rw [he, zmn (by decide) h2 q h3 0, h1, hc]
  rw [hs]
  dsimp only
  rw [zpt r v fun y hy => h y (List.mem_cons_of_mem _ hy)]
  rfl
theorem zpi (ws : List W5) (h : ∀ v ∈ ws, OkW v) : wordsL (allT ws) 0 = .inl (ws.map fun v => { v with line := 0 }) := by
 unfold wordsL
 cases ws with
 | nil =>
  have hs : skipL (allT []) 0 = ([], 0) := zmp 0 (by decide)
  rw [hs]
  exact zpm 0
 | cons w r =>
  obtain ⟨x, q, h1, h2, h3⟩ := zn9 (h w (List.mem_cons_self ..)) (r := tailT r) (znl r)
  have hs : skipL (allT (w :: r)) 0 = (toldL w ++ tailT r, 0) := by
   show skipL (toldL w ++ tailT r) 0 = _
   rw [h1]
   exact zmr h2 q h3 0
  rw [hs]
  exact zpt r w h
theorem zmq (l : List UInt8) (n : Nat) : n ≤ (skipL l n).2 := by
 have := zmu n _ l 0 rfl
 rw [Nat.zero_add] at this
 rw [this]
 show n ≤ _ + n
 omega
theorem zpn : ∀ (m : Nat) (l : List UInt8) (n : Nat), l.length = m → ∀ ws, wordsR l n = .inl ws → (∀ w ∈ ws, OkW w ∧ n ≤ w.line) ∧ ∀ i v w, ws[i]? = some v → ws[i + 1]? = some w → v.line ≤ w.line := by
 intro m
 induction m using Nat.strongRecOn with
 | _ m ih =>
  intro l n hm ws h
  by_cases hne : l = []
  ·subst hne
   rw [zpm] at h
   cases h
   exact ⟨fun w hw => (by cases hw), fun i v w hv => (by simp at hv)⟩
  ·cases hw : wordOf l with
   | none => rw [zpj _ hne hw] at h; cases h
   | some p =>
    obtain ⟨k, s, N, q⟩ := p
    have hq := zo6 hw
    have hsl := zms _ q n rfl
    have hge := zmq q n
    rw [zpl _ hw] at h
    cases hr : wordsR (skipL q n).1 (skipL q n).2 with
    | inr e => rw [hr] at h; cases h
    | inl us =>
     rw [hr] at h
     cases h
     obtain ⟨g1, g2⟩ := ih (skipL q n).1.length (by omega) (skipL q n).1 (skipL q n).2 rfl us hr
     refine ⟨fun w hw' => ?_, fun i v w hv hw' => ?_⟩
     ·rcases List.mem_cons.1 hw' with rfl | hm'
      ·exact ⟨zo7 hw n, Nat.le_refl _⟩
      ·have := g1 w hm'; exact ⟨this.1, by omega⟩
     ·cases i with
      | zero =>
       cases hv
       have := (g1 w (List.mem_of_getElem? hw')).2
       show n ≤ _
       omega
      | succ i => exact g2 i v w hv hw'
theorem zph {l : List UInt8} {ws : List W5} (h : wordsL l 0 = .inl ws) : (∀ w ∈ ws, OkW w) ∧ ∀ i v w, ws[i]? = some v → ws[i + 1]? = some w → v.line ≤ w.line := by
 obtain ⟨h1, h2⟩ := zpn _ (skipL l 0).1 (skipL l 0).2 rfl ws h
 exact ⟨fun w hw => (h1 w hw).1, h2⟩
end Go.EX

