import Derived.Test.YtdmjigplboafjaaK12
import Derived.Test.YtdmjigplboafjaaK9
import Derived.Test.YtdmjigplboafjaaK11
import Derived.Test.YtdmjigplboafjaaK10
import Derived.KernelRfl
set_option linter.unusedVariables false
set_option linter.unusedSimpArgs false
namespace Go.EX
abbrev irow (l : List Int) : List IV := l.map fun z => .val (.int .i64 z)
theorem zg5 {l : List Int} {i : Nat} {z : Int} (h : l[i]? = some z) : (irow l)[i]? = some (.val (.int .i64 z)) := by simp [h]
theorem zov {α : Type} : ∀ (l : List α) (i : Nat) (x : α), setAll l i [x] = l.set i x
 | [], _, _ => rfl
 | _ :: _, 0, _ => by simp
 | y :: l, i + 1, x => by
  have := zov l i x
  simp only [List.set_cons_succ, ← this]
  rfl
def findZ : List Int → Int → Option Nat
 | [], _ => none
 | y :: l, z => if z = y then some 0 else (findZ l z).map (· + 1)
theorem ze8 : ∀ {l : List Int} {z : Int} {j : Nat}, findZ l z = some j → l[j]? = some z ∧ ∀ i, i < j → l[i]? ≠ some z
 | y :: l, z, j, h => by
  unfold findZ at h
  by_cases hz : z = y
  ·rw [if_pos hz] at h
   cases h
   exact ⟨by rw [hz]; rfl, fun l hl => absurd hl (Nat.not_lt_zero l)⟩
  ·rw [if_neg hz] at h
   cases hf : findZ l z with
   | none => rw [hf] at h; cases h
   | some i =>
    rw [hf] at h
    cases h
    obtain ⟨h1, h2⟩ := ze8 hf
    refine ⟨h1, fun k hk => ?_⟩
    cases k with
    | zero => exact fun hh => hz (Option.some.inj hh).symm
    | succ k =>
     have hl' : k + 1 < i + 1 := hk
     exact h2 k (by omega)
theorem ze7 : ∀ {l : List Int} {z : Int} {j : Nat}, l[j]? = some z → (∀ i, i < j → l[i]? ≠ some z) → findZ l z = some j
 | y :: l, z, 0, h, _ => by
  cases h
  unfold findZ; rw [if_pos rfl]
 | y :: l, z, j + 1, h, h2 => by
  have h0 := h2 0 (by omega)
  unfold findZ
  rw [if_neg (fun hh => h0 (by rw [hh]; rfl)), ze7 (l := l) (j := j) h (fun i hi => h2 (i + 1) (by omega))]
  rfl
theorem findZ_none : ∀ {l : List Int} {z : Int}, findZ l z = none ↔ z ∉ l
 | [], _ => by simp [findZ]
 | y :: l, z => by
  unfold findZ
  by_cases hz : z = y
  ·simp [hz]
  ·rw [if_neg hz, Option.map_eq_none_iff, findZ_none, List.mem_cons, not_or]
   exact ⟨fun h => ⟨hz, h⟩, fun h => h.2⟩
theorem ze4 {tx : Bool} {z : Int} (hz : NmOk tx z) : ∀ {l : List Int}, (∀ y ∈ l, NmOk tx y) → findQ (l.map (kq tx)) (kq tx z) = findZ l z
 | [], _ => rfl
 | y :: l, h => by
  show (if kq tx z = kq tx y then some 0 else (findQ (l.map (kq tx)) (kq tx z)).map (· + 1)) = if z = y then some 0 else (findZ l z).map (· + 1)
  rw [ze4 hz fun y hy => h y (List.mem_cons_of_mem _ hy)]
  by_cases hh : z = y
  ·rw [if_pos hh, if_pos (by rw [hh])]
  ·rw [if_neg hh, if_neg fun hk => hh (kq_inj hz (h y (List.mem_cons_self ..)) hk)]
def putZ (s : List Int × List Int) (z w : Int) : List Int × List Int :=
 match findZ s.1 z with
 | some j => (s.1, s.2.set j w)
 | none => (s.1 ++ [z], s.2 ++ [w])
theorem zlx {s : List Int × List Int} {z w : Int} {j : Nat} (h : findZ s.1 z = some j) : putZ s z w = (s.1, s.2.set j w) := by unfold putZ; rw [h]
theorem zlw {s : List Int × List Int} {z w : Int} (h : findZ s.1 z = none) : putZ s z w = (s.1 ++ [z], s.2 ++ [w]) := by unfold putZ; rw [h]
section
variable {code : Nat → Option XFun} {ext : Calls'}
abbrev pt0 (tx : Bool) : Mem := [.rich [nilS], .rich [.clo 430 [.optr 3 0]], .rich [nilS], .rich [avb tx]]
def orow (b : Bool) (l : List Int) : AObj := if b then .rich ((irow l).map .imm) else .flat (irow l) false
theorem orow_t (l : List Int) : orow true l = .rich ((irow l).map .imm) := rfl
theorem orow_f (l : List Int) : orow false l = .flat (irow l) false := rfl
abbrev pt1 (tx : Bool) (n : Nat) (Z U : AObj) : Mem := [.rich [.osl 3 0 1 n none], .rich [.clo 430 [.optr 4 0]], .rich [.osl 5 0 1 n none], Z, .rich [avb tx], U]
abbrev pt2 (tx : Bool) (n : Nat) (Z2 U2 : AObj) : Mem := [.rich [.osl 6 0 1 (n + 1) none], .rich [.clo 430 [.optr 4 0]], .rich [.osl 7 0 1 (n + 1) none], .dead, .rich [avb tx], .dead, Z2, U2]
abbrev ptEnv (n w : Int) (i : Nat) : Env := [(0, int64 n), (1, int64 w), (2, .optr 0 0), (3, .optr 1 0), (4, .optr 2 0), (7, int64 i)]
theorem zli (h430 : code 430 = some x430) {tx b : Bool} {zs ws : List Int} (hl : zs.length ≤ 1000) (hw : ws.length = zs.length) (n w : Int) : ∀ (m : Nat) (st : St), (∃ i, m + i = zs.length ∧ (∀ l, l < i → zs[l]? ≠ some (nm tx n)) ∧ st.tidy [0, 1, 2, 3, 4, 7] = ⟨6, ptEnv n w i, pt1 tx zs.length (orow b zs) (orow b ws)⟩) →
  ∃ x s', den code ext (.loop [0, 1, 2, 3, 4, 7] x431L1) st = some (x, s') ∧ x ≠ .normal ∧ ((∃ j, findZ zs (nm tx n) = some j ∧ x = .ret ∧ s' = ⟨6, [], pt1 tx zs.length (orow b zs) (orow b (ws.set j w))⟩) ∨ (findZ zs (nm tx n) = none ∧ x = .exit 0 ∧ s' = ⟨6, ptEnv n w zs.length ++ [(11, avb false)], pt1 tx zs.length (orow b zs) (orow b ws)⟩)) := by
 have f1 := zi8 (code := code) (ext := ext) h430 tx n
 refine zic _ _ ?_
 rintro m st ⟨i, hm, hno, hst⟩
 rw [hst]
 by_cases hil : i < zs.length
 ·obtain ⟨y, hy⟩ : ∃ y, zs[i]? = some y := ⟨_, List.getElem?_eq_getElem hil⟩
  have hg := zg5 hy
  have e1 : (i : Int) < zs.length := by omega
  have e2 : i < ws.length := by omega
  have e2' : i < (irow ws).length := by simpa using e2
  by_cases hz : y = nm tx n
  ·have hset : setAll (irow ws) i [.val (.int .i64 w)] = irow (ws.set i w) := by rw [zov]; simp [List.map_set]
   have hset2 : setAll ((irow ws).map AV.imm) i [.imm (.val (.int .i64 w))] = (irow (ws.set i w)).map AV.imm := by rw [zov]; simp [List.map_set]
   have e2'' : i + 1 ≤ (irow ws).length := by rw [List.length_map]; omega
   refine ⟨.ret, ⟨6, [], pt1 tx zs.length (orow b zs) (orow b (ws.set i w))⟩, ?_, .inr ⟨by simp, .inl ⟨i, ze7 (by rw [hy, hz]) hno, rfl, rfl⟩⟩⟩
   rw [hz] at hg
   cases b
   ·rw [orow_f, orow_f, orow_f]
    generalize irow (ws.set i w) = U2 at *
    generalize irow ws = U at *
    generalize irow zs = Z at *
    generalize zs.length = l at *
    generalize nm tx n = z at *
    simp -implicitDefEqProofs [x431L1, e1, hil, hg, f1, e2', e2'', hset, exPeek]
   ·rw [orow_t, orow_t, orow_t]
    generalize irow (ws.set i w) = U2 at *
    generalize irow ws = U at *
    generalize irow zs = Z at *
    have r1 := zmi U
    have r2 := zmi Z
    have r3 := fun f => zmq f U
    have r4 := fun f => zmq f Z
    generalize zs.length = l at *
    generalize nm tx n = z at *
    simp -implicitDefEqProofs [-List.map_map, x431L1, e1, hil, hg, f1, e2', e2'', hset2, exPeek, r1, r2, r3, r4]
  ·obtain ⟨i1, hi1⟩ : ∃ i1, i1 = i + 1 := ⟨_, rfl⟩
   have e3 : IntKind.wrap .i64 ((i : Int) + 1) = (i1 : Int) := by rw [wrapI64 (by omega) (by omega)]; omega
   refine ⟨.normal, ⟨6, ptEnv n w i1, pt1 tx zs.length (orow b zs) (orow b ws)⟩, ?_, .inl ⟨rfl, m - 1, by omega, i1, by omega, fun l hl => ?_, ?_⟩⟩
   ·cases b
    ·rw [orow_f, orow_f]
     generalize irow ws = U at *
     generalize irow zs = Z at *
     generalize zs.length = l at *
     generalize nm tx n = z at *
     simp -implicitDefEqProofs [x431L1, e1, hil, hg, f1, hz, e3, exPeek]
    ·rw [orow_t, orow_t]
     generalize irow ws = U at *
     generalize irow zs = Z at *
     have r1 := zmi U
     have r2 := zmi Z
     have r3 := fun f => zmq f U
     have r4 := fun f => zmq f Z
     generalize zs.length = l at *
     generalize nm tx n = z at *
     simp -implicitDefEqProofs [-List.map_map, x431L1, e1, hil, hg, f1, hz, e3, exPeek, r1, r2, r3, r4]
   ·by_cases hli : l = i
    ·subst hli; rw [hy]; exact fun h => hz (Option.some.inj h)
    ·exact hno l (by omega)
   ·cases b
    ·rw [orow_f, orow_f]
     generalize irow ws = U at *
     generalize irow zs = Z at *
     generalize zs.length = l at *
     simp -implicitDefEqProofs []
    ·rw [orow_t, orow_t]
     generalize irow ws = U at *
     generalize irow zs = Z at *
     have r1 := zmi U
     have r2 := zmi Z
     have r3 := fun f => zmq f U
     have r4 := fun f => zmq f Z
     generalize zs.length = l at *
     simp -implicitDefEqProofs [-List.map_map, r1, r2, r3, r4]
 ·have hie : i = zs.length := by omega
  subst hie
  refine ⟨.exit 0, ⟨6, ptEnv n w zs.length ++ [(11, avb false)], pt1 tx zs.length (orow b zs) (orow b ws)⟩, ?_, .inr ⟨by simp, .inr ⟨findZ_none.2 fun hh => ?_, rfl, rfl⟩⟩⟩
  ·cases b
   ·rw [orow_f, orow_f]
    generalize irow ws = U at *
    generalize irow zs = Z at *
    generalize zs.length = l at *
    simp -implicitDefEqProofs [x431L1]
   ·rw [orow_t, orow_t]
    generalize irow ws = U at *
    generalize irow zs = Z at *
    generalize zs.length = l at *
    have r1 := zmi U
    have r2 := zmi Z
    have r3 := fun f => zmq f U
    have r4 := fun f => zmq f Z
    simp -implicitDefEqProofs [-List.map_map, x431L1, r1, r2, r3, r4]
  ·obtain ⟨l, hl⟩ := List.getElem?_of_mem hh
   exact hno l (List.getElem?_eq_some_iff.1 hl).1 hl
theorem zl1 (h430 : code 430 = some x430) (h431 : code 431 = some x431) {tx b : Bool} {zs ws : List Int} (hne : zs ≠ []) (hl : zs.length ≤ 1000) (hw : ws.length = zs.length) (n w : Int) :
  callW code ext 431 [int64 n, int64 w, .optr 0 0, .optr 1 0, .optr 2 0] (pt1 tx zs.length (orow b zs) (orow b ws)) = some (.tup [], match findZ zs (nm tx n) with
   | some j => pt1 tx zs.length (orow b zs) (orow b (ws.set j w))
   | none => pt2 tx zs.length (orow true (zs ++ [nm tx n])) (orow true (ws ++ [w]))) := by
 have f0 := zi8 (code := code) (ext := ext) h430 tx n
 have hst : St.tidy ⟨6, ptEnv n w 0, pt1 tx zs.length (orow b zs) (orow b ws)⟩ [0, 1, 2, 3, 4, 7] = ⟨6, ptEnv n w 0, pt1 tx zs.length (orow b zs) (orow b ws)⟩ := by
  cases b
  ·rw [orow_f, orow_f]
   generalize irow ws = U at *
   generalize irow zs = Z at *
   generalize zs.length = l at *
   simp -implicitDefEqProofs []
  ·rw [orow_t, orow_t]
   generalize irow ws = U at *
   generalize irow zs = Z at *
   generalize zs.length = l at *
   have r1 := zmi U
   have r2 := zmi Z
   have r3 := fun f => zmq f U
   have r4 := fun f => zmq f Z
   simp -implicitDefEqProofs [-List.map_map, r1, r2, r3, r4]
 obtain ⟨x, s', f1, _, hq⟩ := zli (code := code) (ext := ext) h430 (tx := tx) (b := b) hl hw n w zs.length ⟨6, ptEnv n w 0, pt1 tx zs.length (orow b zs) (orow b ws)⟩ ⟨0, rfl, fun l hl => absurd hl (Nat.not_lt_zero l), hst⟩
 clear hst
 simp only [Int.natCast_zero, ptEnv] at f1
 rw [zb5 code ext h431]
 rcases hq with ⟨j, g1, rfl, rfl⟩ | ⟨g1, rfl, rfl⟩
 ·rw [g1]
  show _ = some (AV.tup [], pt1 tx zs.length (orow b zs) (orow b (ws.set j w)))
  cases b
  ·simp only [orow_f] at f1 ⊢
   generalize irow (ws.set j w) = U2 at *
   generalize irow ws = U at *
   generalize irow zs = Z at *
   generalize zs.length = l at *
   simp -implicitDefEqProofs [x431, f1]
  ·simp only [orow_t] at f1 ⊢
   generalize irow (ws.set j w) = U2 at *
   generalize irow ws = U at *
   generalize irow zs = Z at *
   generalize zs.length = l at *
   have r1 := zmi U2
   have r2 := zmi Z
   have r3 := fun f => zmq f U2
   have r4 := fun f => zmq f Z
   simp -implicitDefEqProofs [-List.map_map, x431, f1, r1, r2, r3, r4]
 ·rw [g1]
  have a1 : (irow zs).map AV.imm ++ [.imm (.val (.int .i64 (nm tx n)))] = (irow (zs ++ [nm tx n])).map AV.imm := by simp
  have a2 : (irow ws).map AV.imm ++ [.imm (.val (.int .i64 w))] = (irow (ws ++ [w])).map AV.imm := by simp
  have c1 : cut (irow zs) 0 zs.length = some (irow zs) := zct _ (by simp)
  have c2 : cut (irow ws) 0 zs.length = some (irow ws) := zct _ (by simpa using hw)
  have c1' : cut ((irow zs).map AV.imm) 0 zs.length = some ((irow zs).map AV.imm) := zct _ (by simp)
  have c2' : cut ((irow ws).map AV.imm) 0 zs.length = some ((irow ws).map AV.imm) := zct _ (by simpa using hw)
  have hfit : (zs.length + 1) * 8 ≤ 140737488355328 := by omega
  have hfit' : zs.length + 1 ≤ 17592186044416 := by omega
  show _ = some (AV.tup [], pt2 tx zs.length (orow true (zs ++ [nm tx n])) (orow true (ws ++ [w])))
  have hne0 : ¬ zs.length = 0 := fun h => hne (List.eq_nil_of_length_eq_zero h)
  have r1 := zmi (irow (ws ++ [w]))
  have r2 := zmi (irow (zs ++ [nm tx n]))
  have r3 := fun f => zmq f (irow (ws ++ [w]))
  have r4 := fun f => zmq f (irow (zs ++ [nm tx n]))
  cases b
  ·simp only [orow_f, orow_t] at f1 ⊢
   generalize irow (ws ++ [w]) = U2 at *
   generalize irow (zs ++ [nm tx n]) = Z2 at *
   generalize irow ws = U at *
   generalize irow zs = Z at *
   generalize zs.length = l at *
   generalize nm tx n = z at *
   simp -implicitDefEqProofs [-List.map_map, x431, f0, f1, a1, a2, c1, c2, hfit, hfit', hne0, exPeek, exAppendX, exAppend, exAppendR, elems, elemsR, r1, r2, r3, r4]
  ·simp only [orow_f, orow_t] at f1 ⊢
   generalize irow (ws ++ [w]) = U2 at *
   generalize irow (zs ++ [nm tx n]) = Z2 at *
   generalize irow ws = U at *
   generalize irow zs = Z at *
   generalize zs.length = l at *
   generalize nm tx n = z at *
   have r5 := zmi U
   have r6 := zmi Z
   have r7 := fun f => zmq f U
   have r8 := fun f => zmq f Z
   simp -implicitDefEqProofs [-List.map_map, x431, f0, f1, a1, a2, c1', c2', hfit, hfit', hne0, exPeek, exAppendX, exAppend, exAppendR, elems, elemsR, r1, r2, r3, r4, r5, r6, r7, r8]
theorem zl3 (h430 : code 430 = some x430) (h431 : code 431 = some x431) {tx : Bool} (n w : Int) :
  callW code ext 431 [int64 n, int64 w, .optr 0 0, .optr 1 0, .optr 2 0] (pt0 tx) = some (.tup [], [.rich [.osl 4 0 1 1 none], .rich [.clo 430 [.optr 3 0]], .rich [.osl 5 0 1 1 none], .rich [avb tx], orow false [nm tx n], orow false [w]]) := by
 have f0 := zi8 (code := code) (ext := ext) h430 tx n
 have f1 : ∀ M : Mem, M = pt0 tx → den code ext (.loop [0, 1, 2, 3, 4, 7] x431L1) ⟨4, ptEnv n w 0, M⟩ = some (.exit 0, ⟨4, ptEnv n w 0 ++ [(11, avb false)], pt0 tx⟩) := by
  rintro M rfl
  rw [zc5]
  simp -implicitDefEqProofs [x431L1]
 have f2 := f1 _ rfl
 simp only [Int.natCast_zero, ptEnv] at f2
 rw [zb5 code ext h431, orow_f, orow_f]
 generalize nm tx n = z at *
 simp -implicitDefEqProofs [x431, f0, f2, exPeek, exAppendX, exAppend, elems]
end
end Go.EX


set_option linter.unusedVariables false
set_option linter.unusedSimpArgs false
namespace Go.EX
open Go.RowKit
section
variable {P : Program} {t : TypeId}
theorem zbk {α : Type} {n : Nat} {e : TypeId} {τ : Ty α} (ht : P.underlying t = some (.array n e)) (he : ReadsAs P e τ) (hc : P.cellsOf e = τ.sz) {H : Type} (enc : TypeId × Value → H) (w : World) (spare : Nat → Bool) (hsp : ∀ b, spare b = true) (fuel : Nat) (cs : List Value) (x : DataW H × List MemPlace)
  (h : DataW.trod enc P w 0 spare true fuel t cs = some x) (hwt : (DataW.weights P t x.1).all (· ≤ reachBytes) = true) :
  cs.length = P.cellsOf t ∧ ∀ i, i < n → ∃ d : α, τ.wf d ∧ ∀ (j : Nat) (y : IV) (u : Value), (τ.enc d)[j]? = some y → cs[i * τ.sz + j]? = some u → IRep (fun b => b < w.heap.size) w y u := by
 obtain ⟨xs, m, _, rfl, hl, hxl, hg⟩ := DataW.trod_array ht h
 simp only [DataW.weights, ht] at hwt
 refine ⟨hl, fun i hi => ?_⟩
 have hie : i < xs.length := by omega
 have h1 := hg i hi
 rw [List.getElem?_eq_getElem hie] at h1
 have h2 := zrd _ hwt i xs[i].1 (by rw [List.getElem?_map, List.getElem?_eq_getElem hie]; rfl)
 obtain ⟨d, hd, hdl, hr⟩ := he enc w spare hsp m _ _ h1 h2
 refine ⟨d, hd, fun j y u hy hu => hr j y u hy ?_⟩
 have hj : j < τ.sz := by rw [← τ.len d]; exact (List.getElem?_eq_some_iff.1 hy).1
 rw [List.getElem?_take, hc, if_pos hj, List.getElem?_drop]
 exact hu
theorem readsArr2 {α : Type} {e : TypeId} {τ : Ty α} (ht : P.underlying t = some (.array 2 e)) (he : ReadsAs P e τ) (hc : P.cellsOf e = τ.sz) (hct : P.cellsOf t = τ.sz + τ.sz) : ReadsAs P t (tPair τ τ) := by
 intro H enc w spare hsp fuel cs x h hwt
 obtain ⟨hl, hp⟩ := zbk ht he hc enc w spare hsp fuel cs x h hwt
 obtain ⟨a, ha, ra⟩ := hp 0 (by decide)
 obtain ⟨b, hb, rb⟩ := hp 1 (by decide)
 refine ⟨(a, b), ⟨ha, hb⟩, by rw [hl, hct]; rfl, fun j y u hy hu => ?_⟩
 simp only [tPair] at hy
 rw [List.getElem?_append, τ.len] at hy
 split at hy
 ·exact ra j y u hy (by rw [Nat.zero_mul, Nat.zero_add]; exact hu)
 ·rename_i hj
  refine rb _ y u hy ?_
  rw [← hu]
  congr 1
  omega
end
end Go.EX


set_option linter.unusedVariables false
set_option linter.unusedSimpArgs false
namespace Go.EX
abbrev tII : Ty (Int × Int) := tPair (tInt .i64) (tInt .i64)
theorem zc0 {β : Type} {l : List β} {o : Nat} {x y : β} (h : cut l o 2 = some [x, y]) : l[o]? = some x ∧ l[o + 1]? = some y := by
 obtain ⟨h1, h2⟩ := zcz h
 have a : ((l.drop o).take 2)[0]? = some x := by rw [← h1]; rfl
 have b : ((l.drop o).take 2)[1]? = some y := by rw [← h1]; rfl
 rw [List.getElem?_take, if_pos (by omega), List.getElem?_drop] at a b
 exact ⟨a, b⟩
structure Rel3 (tx : Bool) (s : List Key × List Val) (zs ws : List Int) : Prop where
 q : s.1 = zs.map (kq tx)
 len : ws.length = zs.length
 vlen : s.2.length = 2 * zs.length
 vals : ∀ (j : Nat) w, ws[j]? = some w → s.2[2 * j + 1]? = some ⟨2, w⟩
 ok : ∀ z ∈ zs, NmOk tx z
 nd : zs.Nodup
theorem Rel3.put {tx : Bool} {s : List Key × List Val} {zs ws : List Int} (h : Rel3 tx s zs ws) {z w : Int} (hz : NmOk tx z) (v : Val) : Rel3 tx (putM s (kq tx z) v ⟨2, w⟩) (putZ (zs, ws) z w).1 (putZ (zs, ws) z w).2 := by
 have hq : findQ s.1 (kq tx z) = findZ zs z := by rw [h.q]; exact ze4 hz h.ok
 have hlen := h.len
 have hvl := h.vlen
 cases hf : findZ zs z with
 | some j =>
  have hj := (List.getElem?_eq_some_iff.1 (ze8 hf).1).1
  rw [zls (hq.trans hf), zlx (s := (zs, ws)) hf]
  refine ⟨h.q, by simpa using h.len, by simpa using h.vlen, fun i u hu => ?_, h.ok, h.nd⟩
  change (ws.set j w)[i]? = some u at hu
  by_cases hi : i = j
  ·subst hi
   rw [List.getElem?_set_self (by omega)] at hu
   cases hu
   show (s.2.set (2 * i + 1) _)[2 * i + 1]? = _
   rw [List.getElem?_set_self (by omega)]
  ·rw [List.getElem?_set_ne (by omega)] at hu
   show (s.2.set (2 * j + 1) _)[2 * i + 1]? = _
   rw [List.getElem?_set_ne (by omega)]
   exact h.vals i u hu
 | none =>
  rw [zlr (hq.trans hf), zlw (s := (zs, ws)) hf]
  refine ⟨by simp [h.q], by simpa using h.len, by simp [h.vlen]; omega, fun i u hu => ?_, fun y hy => ?_, ?_⟩
  ·change (ws ++ [w])[i]? = some u at hu
   by_cases hi : i < ws.length
   ·rw [List.getElem?_append_left hi] at hu
    show (s.2 ++ [v, _])[2 * i + 1]? = _
    rw [List.getElem?_append_left (by omega)]
    exact h.vals i u hu
   ·rw [List.getElem?_append_right (by omega)] at hu
    have hi0 : i - ws.length = 0 := by
     have := (List.getElem?_eq_some_iff.1 hu).1
     simpa using this
    rw [hi0] at hu
    cases hu
    show (s.2 ++ [v, _])[2 * i + 1]? = _
    rw [List.getElem?_append_right (by omega), show 2 * i + 1 - s.2.length = 1 by omega]
    rfl
  ·rcases List.mem_append.1 hy with hy | hy
   ·exact h.ok y hy
   ·rw [List.mem_singleton.1 hy]; exact hz
  ·have hn := findZ_none.1 hf
   rw [List.nodup_append]
   refine ⟨h.nd, by simp, ?_⟩
   intro a ha b hb hab
   rw [List.mem_singleton.1 hb] at hab
   exact hn (hab ▸ ha)
theorem Held.more {W B : List Nat} {e : Nat} {v : Val} (h : Held W B e v) {W' B' : List Nat} {e' : Nat} (he : e ≤ e') (hw : ∀ i, i < e → W'[i]? = W[i]?) (hb : ∀ i, i < e → bitAt B' i = bitAt B i) : Held W' B' e' v := by
 rcases h with h | ⟨h1, a, s, h2, h3⟩
 ·exact .inl h
 ·exact .inr ⟨h1, a, s, h2, h3.more he hw hb⟩
theorem TriOk.more {W B : List Nat} {e : Nat} {t : Tri} (h : TriOk W B e t) {W' B' : List Nat} {e' : Nat} (he : e ≤ e') (hw : ∀ i, i < e → W'[i]? = W[i]?) (hb : ∀ i, i < e → bitAt B' i = bitAt B i) : TriOk W' B' e' t :=
 ⟨h.key.more he hw hb, h.h1.more he hw hb, h.h2.more he hw hb, h.o1, h.o2⟩
structure L1 (tx : Bool) (ts : List Tri) (zs ws : List Int) (W B : List Nat) (e : Nat) : Prop where
 hi : HI W B e
 len : W.length = 40000
 lenB : B.length = 626
 tri : ∀ t ∈ ts, TriOk W B e t
 rel : Rel3 tx (madeT ts) zs ws
theorem L1.next {tx : Bool} {ts : List Tri} {zs ws : List Int} {W B : List Nat} {e : Nat} (h : L1 tx ts zs ws W B e) {n w : Int} (hw : (tInt .i64).wf w) {v : Val} {W' B' : List Nat} {e' : Nat} (hk : Keyed W B e v (kq tx (nm tx n)) W' B' e') :
  L1 tx (ts ++ [(kq tx (nm tx n), v, ⟨2, w⟩)]) (putZ (zs, ws) (nm tx n) w).1 (putZ (zs, ws) (nm tx n) w).2 W' B' e' := by
 have hwf := wfI64.1 hw
 refine ⟨hk.hi, hk.sz.trans h.len, hk.szB.trans h.lenB, fun t ht => ?_, ?_⟩
 ·rcases List.mem_append.1 ht with ht | ht
  ·exact (h.tri t ht).more hk.le hk.old hk.bits
  ·rw [List.mem_singleton.1 ht]
   exact ⟨hk.key, hk.held, .inl rfl, hk.ok, ⟨by simp, by simp, hwf.1, hwf.2⟩⟩
 ·rw [zig]
  exact h.rel.put (nm_ok tx n) v
abbrev a1Env0 (fv lv : IV) (i : Nat) : Env := [(0, .imm fv), (1, .imm lv), (7, .optr 0 0), (8, .clo 429 [.optr 1 0, .optr 0 0]), (10, nilS), (11, .optr 2 0), (12, .optr 3 0), (13, .clo 431 [.optr 2 0, .optr 4 0, .optr 3 0]), (14, int64 i)]
abbrev a1Mem0 (tx : Bool) (W B : List Nat) (e : Nat) : Mem := [.rich [.optr 5 0], .rich [avb tx], .rich [nilS], .rich [nilS], .rich [.clo 430 [.optr 1 0]], .rich [.osl 6 0 1 40000 (some 40000), .osl 7 0 1 626 (some 626), int64 e], .flat (urow W) false, .flat (urow B) false]
abbrev a1Env1 (fv lv : IV) (u : Nat) (i : Nat) : Env := [(0, .imm fv), (1, .imm lv), (7, .optr 0 0), (8, .clo 429 [.optr 1 0, .optr 0 0]), (10, .osl 2 0 2 u none), (11, .optr 3 0), (12, .optr 4 0), (13, .clo 431 [.optr 3 0, .optr 5 0, .optr 4 0]), (14, int64 i)]
abbrev a1Mem1 (tx : Bool) (W B : List Nat) (e : Nat) (R : List IV) (n : Nat) (Z U : AObj) : Mem := [.rich [.optr 6 0], .rich [avb tx], .flat R false, .rich [.osl 7 0 1 n none], .rich [.osl 8 0 1 n none], .rich [.clo 430 [.optr 1 0]], .rich [.osl 9 0 1 40000 (some 40000), .osl 10 0 1 626 (some 626), int64 e], Z, U, .flat (urow W) false, .flat (urow B) false]
section
variable {code : Nat → Option XFun} {ext : Calls'}
structure MapLaw (code : Nat → Option XFun) : Prop extends RowCode code where
 c429 : code 429 = some x429
 c430 : code 430 = some x430
 c431 : code 431 = some x431
set_option maxHeartbeats 1000000 in
theorem zal (c : MapLaw code) {tx : Bool} {fv lv : IV} {fs : List (Int × Int)} (hr : Reads tII fv fs) (hb : fs.length ≤ 60) {i : Nat} {a w : Int} (ha : fs[i]? = some (a, w)) {W B : List Nat} {e : Nat} (hi : HI W B e) (hW : W.length = 40000) (hB : B.length = 626) (he : e ≤ 1000) :
  ∃ s' v W' B' e', Keyed W B e v (kq tx (nm tx a)) W' B' e' ∧ den code ext x428L1 ⟨0, a1Env0 fv lv i, a1Mem0 tx W B e⟩ = some (.normal, s') ∧
   s'.tidy [0, 1, 7, 8, 10, 11, 12, 13, 14] = ⟨0, a1Env1 fv lv 2 (i + 1), a1Mem1 tx W' B' e' (tVal.row [v, ⟨2, w⟩]) 1 (orow false [nm tx a]) (orow false [w])⟩ := by
 obtain ⟨v, W', B', e', hk, f1⟩ := zhi (code := code) (ext := ext) c.toRowCode c.c429 (tx := tx) hi a (by omega)
 refine (fun h => ?_) (step_3 (p := den code ext x428L1 ⟨0, a1Env0 fv lv i, a1Mem0 tx W B e⟩) (k := [0, 1, 7, 8, 10, 11, 12, 13, 14]) (X := ⟨0, a1Env1 fv lv 2 (i + 1), a1Mem1 tx W' B' e' (tVal.row [v, ⟨2, w⟩]) 1 (orow false [nm tx a]) (orow false [w])⟩) ?_)
 ·obtain ⟨s', h1, h2⟩ := h
  exact ⟨s', v, W', B', e', hk, h1, h2⟩
 have f2 := zjj (code := code) (ext := ext) c.toTextCode w
 have f3 := zl3 (code := code) (ext := ext) c.c430 c.c431 (tx := tx) a w
 obtain ⟨row, off, cap, rfl, _, _, hget⟩ := zmg hr ha
 have hil := (List.getElem?_eq_some_iff.1 ha).1
 obtain ⟨g1, g2⟩ := zc0 (x := IV.val (.int .i64 a)) (y := IV.val (.int .i64 w)) hget
 have hsz : tII.sz = 2 := rfl
 rw [hsz] at g1 g2
 have l1 : W'.length = 40000 := hk.sz.trans hW
 have l2 : B'.length = 626 := hk.szB.trans hB
 obtain ⟨i1, hi1⟩ : ∃ i1, i1 = i + 1 := ⟨_, rfl⟩
 have e1 : (i : Int) < fs.length := by omega
 have e3 : IntKind.wrap .i64 ((i : Int) + 1) = (i1 : Int) := by rw [wrapI64 (by omega) (by omega)]; omega
 rw [← hi1]
 have hrow : tVal.row [v, ⟨2, w⟩] = [.val (.int .u8 v.k), .val (.int .i64 v.n), .val (.int .u8 2), .val (.int .i64 w)] := rfl
 rw [hrow]
 rw [orow_f, orow_f] at f3 ⊢
 simp only [kyMem, hW, hB, l1, l2] at f1
 generalize irow [nm tx a] = Z at *
 generalize irow [w] = U at *
 generalize fs.length = n at *
 simp -implicitDefEqProofs [x428L1, f1, f2, f3, g1, g2, e1, hil, e3, exTouch, exAppendX, exAppend, elems, sameLoad]
end
end Go.EX


set_option linter.unusedVariables false
set_option linter.unusedSimpArgs false
namespace Go.EX
section
variable {code : Nat → Option XFun} {ext : Calls'}
set_option maxHeartbeats 2000000 in
theorem zan (c : MapLaw code) {tx b : Bool} {fv lv : IV} {fs : List (Int × Int)} (hr : Reads tII fv fs) (hb : fs.length ≤ 60) {i : Nat} {a w : Int} (ha : fs[i]? = some (a, w)) {W B : List Nat} {e : Nat} (hi : HI W B e) (hW : W.length = 40000) (hB : B.length = 626) (he : e ≤ 1000)
  {us : List Val} {zs ws : List Int} (hne : zs ≠ []) (hz : zs.length ≤ 1000) (hlen : ws.length = zs.length) (hus : us.length ≤ 1000) :
  ∃ b' s' v W' B' e', Keyed W B e v (kq tx (nm tx a)) W' B' e' ∧ den code ext x428L1 ⟨0, a1Env1 fv lv us.length i, a1Mem1 tx W B e (tVal.row us) zs.length (orow b zs) (orow b ws)⟩ = some (.normal, s') ∧
   s'.tidy [0, 1, 7, 8, 10, 11, 12, 13, 14] = ⟨0, a1Env1 fv lv (us.length + 2) (i + 1), a1Mem1 tx W' B' e' (tVal.row (us ++ [v, ⟨2, w⟩])) (putZ (zs, ws) (nm tx a) w).1.length (orow b' (putZ (zs, ws) (nm tx a) w).1) (orow b' (putZ (zs, ws) (nm tx a) w).2)⟩ := by
 obtain ⟨v, W', B', e', hk, f1⟩ := zhi (code := code) (ext := ext) c.toRowCode c.c429 (tx := tx) hi a (by omega)
 have f2 := zjj (code := code) (ext := ext) c.toTextCode w
 have f3 := zl1 (code := code) (ext := ext) c.c430 c.c431 (tx := tx) (b := b) hne hz hlen a w
 obtain ⟨row, off, cap, rfl, _, _, hget⟩ := zmg hr ha
 have hil := (List.getElem?_eq_some_iff.1 ha).1
 obtain ⟨g1, g2⟩ := zc0 (x := IV.val (.int .i64 a)) (y := IV.val (.int .i64 w)) hget
 have hsz : tII.sz = 2 := rfl
 rw [hsz] at g1 g2
 have l1 : W'.length = 40000 := hk.sz.trans hW
 have l2 : B'.length = 626 := hk.szB.trans hB
 obtain ⟨i1, hi1⟩ : ∃ i1, i1 = i + 1 := ⟨_, rfl⟩
 have e1 : (i : Int) < fs.length := by omega
 have e3 : IntKind.wrap .i64 ((i : Int) + 1) = (i1 : Int) := by rw [wrapI64 (by omega) (by omega)]; omega
 rw [← hi1]
 have hrow : tVal.row us ++ [.val (.int .u8 v.k), .val (.int .i64 v.n), .val (.int .u8 2), .val (.int .i64 w)] = tVal.row (us ++ [v, ⟨2, w⟩]) := by rw [zni]; rfl
 have hcut : cut (tVal.row us) 0 (us.length * 2) = some (tVal.row us) := zct _ (zq7 us)
 obtain ⟨u2, hu2⟩ : ∃ u2, u2 = us.length + 2 := ⟨_, rfl⟩
 have hfit : u2 * 16 ≤ 140737488355328 := by omega
 rw [← hu2]
 simp only [kyMem, hW, hB, l1, l2] at f1
 have r1 := zmi (irow zs)
 have r2 := fun f => zmq f (irow zs)
 cases hf : findZ zs (nm tx a) with
 | some j =>
  rw [zlx (s := (zs, ws)) hf]
  rw [hf] at f3
  dsimp only
  refine ⟨b, (fun h => ?_) (step_3 (p := den code ext x428L1 ⟨0, a1Env1 (.slice row off fs.length cap) lv us.length i, a1Mem1 tx W B e (tVal.row us) zs.length (orow b zs) (orow b ws)⟩) (k := [0, 1, 7, 8, 10, 11, 12, 13, 14]) (X := ⟨0, a1Env1 (.slice row off fs.length cap) lv u2 i1, a1Mem1 tx W' B' e' (tVal.row (us ++ [v, ⟨2, w⟩])) zs.length (orow b zs) (orow b (ws.set j w))⟩) ?_)⟩
  ·obtain ⟨s', h1, h2⟩ := h
   exact ⟨s', v, W', B', e', hk, h1, h2⟩
  have r3 := zmi (irow (ws.set j w))
  have r4 := fun f => zmq f (irow (ws.set j w))
  have r5 := zmi (irow ws)
  have r6 := fun f => zmq f (irow ws)
  cases b
  ·simp only [orow_f] at f3 ⊢
   generalize irow (ws.set j w) = U2 at *
   generalize irow ws = U at *
   generalize irow zs = Z at *
   generalize zs.length = l at *
   generalize tVal.row (us ++ [v, ⟨2, w⟩]) = R2 at *
   generalize tVal.row us = R at *
   generalize us.length = u at *
   generalize fs.length = n at *
   simp -implicitDefEqProofs [x428L1, f1, f2, f3, g1, g2, e1, hil, e3, hrow, hcut, hfit, ← hu2, exTouch, exAppendX, exAppend, elems, sameLoad]
  ·simp only [orow_t] at f3 ⊢
   generalize irow (ws.set j w) = U2 at *
   generalize irow ws = U at *
   generalize irow zs = Z at *
   generalize zs.length = l at *
   generalize tVal.row (us ++ [v, ⟨2, w⟩]) = R2 at *
   generalize tVal.row us = R at *
   generalize us.length = u at *
   generalize fs.length = n at *
   simp -implicitDefEqProofs [-List.map_map, x428L1, f1, f2, f3, g1, g2, e1, hil, e3, hrow, hcut, hfit, ← hu2, exTouch, exAppendX, exAppend, elems, sameLoad, r1, r2, r3, r4, r5, r6]
 | none =>
  rw [zlw (s := (zs, ws)) hf]
  rw [hf] at f3
  dsimp only
  have hl2 : (zs ++ [nm tx a]).length = zs.length + 1 := by simp
  rw [hl2]
  refine ⟨true, (fun h => ?_) (step_3 (p := den code ext x428L1 ⟨0, a1Env1 (.slice row off fs.length cap) lv us.length i, a1Mem1 tx W B e (tVal.row us) zs.length (orow b zs) (orow b ws)⟩) (k := [0, 1, 7, 8, 10, 11, 12, 13, 14]) (X := ⟨0, a1Env1 (.slice row off fs.length cap) lv u2 i1, a1Mem1 tx W' B' e' (tVal.row (us ++ [v, ⟨2, w⟩])) (zs.length + 1) (orow true (zs ++ [nm tx a])) (orow true (ws ++ [w]))⟩) ?_)⟩
  ·obtain ⟨s', h1, h2⟩ := h
   exact ⟨s', v, W', B', e', hk, h1, h2⟩
  have r3 := zmi (irow (ws ++ [w]))
  have r4 := fun f => zmq f (irow (ws ++ [w]))
  have r5 := zmi (irow ws)
  have r6 := fun f => zmq f (irow ws)
  have r7 := zmi (irow (zs ++ [nm tx a]))
  have r8 := fun f => zmq f (irow (zs ++ [nm tx a]))
  cases b
  ·simp only [orow_f, orow_t] at f3 ⊢
   generalize irow (ws ++ [w]) = U2 at *
   generalize irow (zs ++ [nm tx a]) = Z2 at *
   generalize irow ws = U at *
   generalize irow zs = Z at *
   generalize zs.length = l at *
   generalize tVal.row (us ++ [v, ⟨2, w⟩]) = R2 at *
   generalize tVal.row us = R at *
   generalize us.length = u at *
   generalize fs.length = n at *
   simp -implicitDefEqProofs [-List.map_map, x428L1, f1, f2, f3, g1, g2, e1, hil, e3, hrow, hcut, hfit, ← hu2, exTouch, exAppendX, exAppend, elems, sameLoad, r3, r4, r7, r8]
  ·simp only [orow_t] at f3 ⊢
   generalize irow (ws ++ [w]) = U2 at *
   generalize irow (zs ++ [nm tx a]) = Z2 at *
   generalize irow ws = U at *
   generalize irow zs = Z at *
   generalize zs.length = l at *
   generalize tVal.row (us ++ [v, ⟨2, w⟩]) = R2 at *
   generalize tVal.row us = R at *
   generalize us.length = u at *
   generalize fs.length = n at *
   simp -implicitDefEqProofs [-List.map_map, x428L1, f1, f2, f3, g1, g2, e1, hil, e3, hrow, hcut, hfit, ← hu2, exTouch, exAppendX, exAppend, elems, sameLoad, r1, r2, r3, r4, r5, r6, r7, r8]
end
end Go.EX


set_option linter.unusedVariables false
set_option linter.unusedSimpArgs false
namespace Go.EX
def a1St (fv lv : IV) (tx b : Bool) (i : Nat) (us : List Val) (zs ws : List Int) (W B : List Nat) (e : Nat) : St :=
 if i = 0 then ⟨0, a1Env0 fv lv 0, a1Mem0 tx W B e⟩ else ⟨0, a1Env1 fv lv us.length i, a1Mem1 tx W B e (tVal.row us) zs.length (orow b zs) (orow b ws)⟩
def A1 (tx : Bool) (i : Nat) (ts : List Tri) (zs ws : List Int) (W B : List Nat) (e : Nat) : Prop :=
 L1 tx ts zs ws W B e ∧ ts.length = i ∧ e ≤ 3 * i ∧ (i ≠ 0 → zs ≠ [])
theorem A1.zlen {tx : Bool} {i : Nat} {ts : List Tri} {zs ws : List Int} {W B : List Nat} {e : Nat} (h : A1 tx i ts zs ws W B e) : zs.length ≤ i := by
 obtain ⟨h1, h2, h3, _⟩ := h
 have hm := zif h1.tri ts.length (Nat.le_refl _)
 rw [List.take_length] at hm
 have := hm.len
 have := h1.rel.vlen
 omega
theorem zlv (s : List Int × List Int) (z w : Int) : (putZ s z w).1 ≠ [] := by
 cases hf : findZ s.1 z with
 | some j =>
  rw [zlx hf]
  intro h
  have := (ze8 hf).1
  rw [show s.1 = [] from h] at this
  cases this
 | none => rw [zlw hf]; simp
section
variable {code : Nat → Option XFun} {ext : Calls'}
theorem zao (c : MapLaw code) {tx b : Bool} {fv lv : IV} {fs : List (Int × Int)} (hr : Reads tII fv fs) (hb : fs.length ≤ 60) {i : Nat} (hi : i < fs.length) {ts : List Tri} {zs ws : List Int} {W B : List Nat} {e : Nat} (h : A1 tx i ts zs ws W B e) :
  ∃ s' b' ts' zs' ws' W' B' e', A1 tx (i + 1) ts' zs' ws' W' B' e' ∧ den code ext x428L1 (a1St fv lv tx b i (flatT ts) zs ws W B e) = some (.normal, s') ∧ s'.tidy [0, 1, 7, 8, 10, 11, 12, 13, 14] = a1St fv lv tx b' (i + 1) (flatT ts') zs' ws' W' B' e' := by
 obtain ⟨⟨a, w⟩, ha⟩ : ∃ p, fs[i]? = some p := ⟨_, List.getElem?_eq_getElem hi⟩
 have hwf : (tInt .i64).wf w := (hr.1 _ (List.mem_of_getElem? ha)).2
 have hzl := h.zlen
 obtain ⟨h1, h2, h3, h4⟩ := h
 have hfl := zfl ts
 have hflat : ∀ t : Tri, flatT (ts ++ [t]) = flatT ts ++ [t.2.1, t.2.2] := fun t => by simp [flatT]
 by_cases h0 : i = 0
 ·subst h0
  have hts : ts = [] := List.eq_nil_of_length_eq_zero h2
  subst hts
  have hzs : zs = [] := List.eq_nil_of_length_eq_zero (by omega)
  subst hzs
  have hws : ws = [] := List.eq_nil_of_length_eq_zero h1.rel.len
  subst hws
  obtain ⟨s', v, W', B', e', hk, f1, f2⟩ := zal (code := code) (ext := ext) (lv := lv) c (tx := tx) hr hb ha h1.hi h1.len h1.lenB (by omega)
  have hn := h1.next (n := a) hwf hk
  refine ⟨s', false, _, _, _, W', B', e', ⟨hn, by simp, by have := hk.le3; omega, fun _ => zlv _ _ _⟩, f1, ?_⟩
  rw [f2]
  unfold a1St
  rw [if_neg (by omega)]
  rfl
 ·obtain ⟨b', s', v, W', B', e', hk, f1, f2⟩ := zan (code := code) (ext := ext) (lv := lv) c (tx := tx) (b := b) hr hb ha h1.hi h1.len h1.lenB (by omega) (us := flatT ts) (h4 h0) (by omega) h1.rel.len (by omega)
  have hn := h1.next (n := a) hwf hk
  have e0 : a1St fv lv tx b i (flatT ts) zs ws W B e = ⟨0, a1Env1 fv lv (flatT ts).length i, a1Mem1 tx W B e (tVal.row (flatT ts)) zs.length (orow b zs) (orow b ws)⟩ := if_neg h0
  refine ⟨s', b', _, _, _, W', B', e', ⟨hn, by simp [h2], by have := hk.le3; omega, fun _ => zlv _ _ _⟩, by rw [e0]; exact f1, ?_⟩
  rw [f2]
  unfold a1St
  rw [if_neg (by omega), hflat]
  simp only [List.length_append, List.length_cons, List.length_nil]
theorem zam (c : MapLaw code) {tx : Bool} {fv lv : IV} {fs : List (Int × Int)} (hr : Reads tII fv fs) (hb : fs.length ≤ 60) : ∀ (m : Nat) (st : St), (∃ i b ts zs ws W B e, m + i = fs.length ∧ A1 tx i ts zs ws W B e ∧ st.tidy [0, 1, 7, 8, 10, 11, 12, 13, 14] = a1St fv lv tx b i (flatT ts) zs ws W B e) →
  ∃ x s', den code ext (.loop [0, 1, 7, 8, 10, 11, 12, 13, 14] x428L1) st = some (x, s') ∧ x ≠ .normal ∧ (x = .exit 0 ∧ ∃ b ts zs ws W B e, A1 tx fs.length ts zs ws W B e ∧
   s' = ⟨0, (a1St fv lv tx b fs.length (flatT ts) zs ws W B e).env ++ [(46, avb false)], (a1St fv lv tx b fs.length (flatT ts) zs ws W B e).mem⟩) := by
 have hlenv : ∀ s : St, lenOf (AV.imm fv) = some fs.length := fun _ => zmf hr
 refine zic _ _ ?_
 rintro m st ⟨i, b, ts, zs, ws, W, B, e, hm, hA, hst⟩
 rw [hst]
 by_cases hil : i < fs.length
 ·obtain ⟨s', b', ts', zs', ws', W', B', e', hA', f1, f2⟩ := zao (code := code) (ext := ext) (lv := lv) (b := b) c hr hb hil hA
  exact ⟨.normal, s', f1, .inl ⟨rfl, m - 1, by omega, i + 1, b', ts', zs', ws', W', B', e', by omega, hA', f2⟩⟩
 ·have hie : i = fs.length := by omega
  subst hie
  refine ⟨.exit 0, _, ?_, .inr ⟨by simp, rfl, b, ts, zs, ws, W, B, e, hA, rfl⟩⟩
  have e1 := zmf hr
  unfold a1St
  by_cases h0 : fs.length = 0
  ·rw [if_pos h0]
   rw [h0] at e1
   simp -implicitDefEqProofs [x428L1, e1]
  ·rw [if_neg h0]
   have r1 := zmi (irow zs)
   have r2 := fun f => zmq f (irow zs)
   have r5 := zmi (irow ws)
   have r6 := fun f => zmq f (irow ws)
   cases b
   ·simp only [orow_f]
    generalize irow ws = U at *
    generalize irow zs = Z at *
    generalize zs.length = l at *
    generalize tVal.row (flatT ts) = R at *
    generalize (flatT ts).length = u at *
    generalize fs.length = n at *
    simp -implicitDefEqProofs [x428L1, e1]
   ·simp only [orow_t]
    generalize irow ws = U at *
    generalize irow zs = Z at *
    generalize zs.length = l at *
    generalize tVal.row (flatT ts) = R at *
    generalize (flatT ts).length = u at *
    generalize fs.length = n at *
    simp -implicitDefEqProofs [-List.map_map, x428L1, e1, r1, r2, r5, r6]
end
end Go.EX


set_option maxHeartbeats 4000000
set_option linter.unusedVariables false
set_option linter.unusedSimpArgs false
namespace Go.EX
abbrev a2Env0 (lv : IV) (i : Nat) : Env := [(1, .imm lv), (7, .optr 0 0), (8, .clo 429 [.optr 1 0, .optr 0 0]), (11, .optr 2 0), (12, .optr 3 0), (13, .clo 431 [.optr 2 0, .optr 4 0, .optr 3 0]), (15, .optr 5 0), (16, int64 0), (17, int64 i)]
abbrev a2Mem0 (tx : Bool) (W B : List Nat) (e m : Nat) : Mem := [.rich [.optr 6 0], .rich [avb tx], .rich [nilS], .rich [nilS], .rich [.clo 430 [.optr 1 0]], .rich [uint8 5, int64 m], .rich [.osl 7 0 1 40000 (some 40000), .osl 8 0 1 626 (some 626), int64 e], .flat (urow W) false, .flat (urow B) false]
abbrev a2Mem1 (tx : Bool) (W B : List Nat) (e m : Nat) (n : Nat) (Z U : AObj) : Mem := [.rich [.optr 6 0], .rich [avb tx], .rich [.osl 7 0 1 n none], .rich [.osl 8 0 1 n none], .rich [.clo 430 [.optr 1 0]], .rich [uint8 5, int64 m], .rich [.osl 9 0 1 40000 (some 40000), .osl 10 0 1 626 (some 626), int64 e], Z, U, .flat (urow W) false, .flat (urow B) false]
theorem zoj (a b : Nat) : (AV.optr a b).same (.optr a b) = true := by simp [AV.same]
theorem zoh (k j : IntKind) (a b : Int) : (AV.agg [.imm (.val (.int k a)), .imm (.val (.int j b))]).same (.agg [.imm (.val (.int k a)), .imm (.val (.int j b))]) = true := by simp [AV.same, AV.sameL, IV.same, vsame]
section
variable {code : Nat → Option XFun} {ext : Calls'}
theorem zap (c : MapLaw code) {tx : Bool} {lv : IV} {bs : List (Int × Int)} (hr : Reads tII lv bs) (hb : bs.length ≤ 100) {i : Nat} {a w : Int} (ha : bs[i]? = some (a, w)) {W B W1 B1 W2 B2 : List Nat} {e e1 e2 m : Nat} {v : Val} (hW : W.length = 40000) (hB : B.length = 626) (l1 : W1.length = 40000) (l2 : B1.length = 626) (l3 : W2.length = 40000) (l4 : B2.length = 626)
  (f1 : callW code ext 429 [int64 a, .optr 0 0, .optr 1 0] (kyMem tx W B e) = some (valA v, kyMem tx W1 B1 e1))
  (f4 : callW code ext 602 [.optr 0 0, valV 5 m, valA v, valA ⟨2, w⟩] (hMem W1 B1 e1) = some (int64 0, hMem W2 B2 e2)) :
  ∃ s', den code ext x428L2 ⟨0, a2Env0 lv i, a2Mem0 tx W B e m⟩ = some (.normal, s') ∧
   s'.tidy [1, 7, 8, 11, 12, 13, 15, 16, 17] = ⟨0, a2Env0 lv (i + 1), a2Mem1 tx W2 B2 e2 m 1 (orow false [nm tx a]) (orow false [w])⟩ := by
 have f3 := zl3 (code := code) (ext := ext) c.c430 c.c431 (tx := tx) a w
 have f2 := zjj (code := code) (ext := ext) c.toTextCode w
 obtain ⟨row, off, cap, rfl, _, _, hget⟩ := zmg hr ha
 have hil := (List.getElem?_eq_some_iff.1 ha).1
 obtain ⟨g1, g2⟩ := zc0 (x := IV.val (.int .i64 a)) (y := IV.val (.int .i64 w)) hget
 have hsz : tII.sz = 2 := rfl
 rw [hsz] at g1 g2
 obtain ⟨i1, hi1⟩ : ∃ i1, i1 = i + 1 := ⟨_, rfl⟩
 have e1 : (i : Int) < bs.length := by omega
 have e3 : IntKind.wrap .i64 ((i : Int) + 1) = (i1 : Int) := by rw [wrapI64 (by omega) (by omega)]; omega
 rw [← hi1]
 simp only [kyMem, hW, hB, l1, l2] at f1
 simp only [hMem, l1, l2, l3, l4] at f4
 refine step_3 ?_
 rw [orow_f, orow_f] at f3 ⊢
 generalize irow [nm tx a] = Z at *
 generalize irow [w] = U at *
 generalize bs.length = n at *
 simp -implicitDefEqProofs [x428L2, f1, f2, f3, f4, g1, g2, e1, hil, e3, exTouch, sameLoad, zoj, zoh]
theorem zar (c : MapLaw code) {tx b : Bool} {lv : IV} {bs : List (Int × Int)} (hr : Reads tII lv bs) (hb : bs.length ≤ 100) {i : Nat} {a w : Int} (ha : bs[i]? = some (a, w)) {W B W1 B1 W2 B2 : List Nat} {e e1 e2 m : Nat} {v : Val} (hW : W.length = 40000) (hB : B.length = 626) (l1 : W1.length = 40000) (l2 : B1.length = 626) (l3 : W2.length = 40000) (l4 : B2.length = 626)
  (f1 : callW code ext 429 [int64 a, .optr 0 0, .optr 1 0] (kyMem tx W B e) = some (valA v, kyMem tx W1 B1 e1))
  (f4 : callW code ext 602 [.optr 0 0, valV 5 m, valA v, valA ⟨2, w⟩] (hMem W1 B1 e1) = some (int64 0, hMem W2 B2 e2))
  {zs ws : List Int} (hne : zs ≠ []) (hz : zs.length ≤ 1000) (hlen : ws.length = zs.length) :
  ∃ b' s', den code ext x428L2 ⟨0, a2Env0 lv i, a2Mem1 tx W B e m zs.length (orow b zs) (orow b ws)⟩ = some (.normal, s') ∧
   s'.tidy [1, 7, 8, 11, 12, 13, 15, 16, 17] = ⟨0, a2Env0 lv (i + 1), a2Mem1 tx W2 B2 e2 m (putZ (zs, ws) (nm tx a) w).1.length (orow b' (putZ (zs, ws) (nm tx a) w).1) (orow b' (putZ (zs, ws) (nm tx a) w).2)⟩ := by
 have f3 := zl1 (code := code) (ext := ext) c.c430 c.c431 (tx := tx) (b := b) hne hz hlen a w
 have f2 := zjj (code := code) (ext := ext) c.toTextCode w
 obtain ⟨row, off, cap, rfl, _, _, hget⟩ := zmg hr ha
 have hil := (List.getElem?_eq_some_iff.1 ha).1
 obtain ⟨g1, g2⟩ := zc0 (x := IV.val (.int .i64 a)) (y := IV.val (.int .i64 w)) hget
 have hsz : tII.sz = 2 := rfl
 rw [hsz] at g1 g2
 obtain ⟨i1, hi1⟩ : ∃ i1, i1 = i + 1 := ⟨_, rfl⟩
 have e1 : (i : Int) < bs.length := by omega
 have e3 : IntKind.wrap .i64 ((i : Int) + 1) = (i1 : Int) := by rw [wrapI64 (by omega) (by omega)]; omega
 rw [← hi1]
 simp only [kyMem, hW, hB, l1, l2] at f1
 simp only [hMem, l1, l2, l3, l4] at f4
 have r1 := zmi (irow zs)
 have r2 := fun f => zmq f (irow zs)
 have r5 := zmi (irow ws)
 have r6 := fun f => zmq f (irow ws)
 cases hf : findZ zs (nm tx a) with
 | some j =>
  rw [zlx (s := (zs, ws)) hf]
  rw [hf] at f3
  dsimp only
  refine ⟨b, step_3 ?_⟩
  have r3 := zmi (irow (ws.set j w))
  have r4 := fun f => zmq f (irow (ws.set j w))
  cases b
  ·simp only [orow_f] at f3 ⊢
   generalize irow (ws.set j w) = U2 at *
   generalize irow ws = U at *
   generalize irow zs = Z at *
   generalize zs.length = l at *
   generalize bs.length = n at *
   simp -implicitDefEqProofs [x428L2, f1, f2, f3, f4, g1, g2, e1, hil, e3, exTouch, sameLoad, zoj, zoh]
  ·simp only [orow_t] at f3 ⊢
   generalize irow (ws.set j w) = U2 at *
   generalize irow ws = U at *
   generalize irow zs = Z at *
   generalize zs.length = l at *
   generalize bs.length = n at *
   simp -implicitDefEqProofs [-List.map_map, x428L2, f1, f2, f3, f4, g1, g2, e1, hil, e3, exTouch, sameLoad, zoj, zoh, r1, r2, r3, r4, r5, r6]
 | none =>
  rw [zlw (s := (zs, ws)) hf]
  rw [hf] at f3
  dsimp only
  have hl2 : (zs ++ [nm tx a]).length = zs.length + 1 := by simp
  rw [hl2]
  refine ⟨true, step_3 ?_⟩
  have r3 := zmi (irow (ws ++ [w]))
  have r4 := fun f => zmq f (irow (ws ++ [w]))
  have r7 := zmi (irow (zs ++ [nm tx a]))
  have r8 := fun f => zmq f (irow (zs ++ [nm tx a]))
  cases b
  ·simp only [orow_f, orow_t] at f3 ⊢
   generalize irow (ws ++ [w]) = U2 at *
   generalize irow (zs ++ [nm tx a]) = Z2 at *
   generalize irow ws = U at *
   generalize irow zs = Z at *
   generalize zs.length = l at *
   generalize bs.length = n at *
   simp -implicitDefEqProofs [-List.map_map, x428L2, f1, f2, f3, f4, g1, g2, e1, hil, e3, exTouch, sameLoad, zoj, zoh, r3, r4, r7, r8]
  ·simp only [orow_t] at f3 ⊢
   generalize irow (ws ++ [w]) = U2 at *
   generalize irow (zs ++ [nm tx a]) = Z2 at *
   generalize irow ws = U at *
   generalize irow zs = Z at *
   generalize zs.length = l at *
   generalize bs.length = n at *
   simp -implicitDefEqProofs [-List.map_map, x428L2, f1, f2, f3, f4, g1, g2, e1, hil, e3, exTouch, sameLoad, zoj, zoh, r1, r2, r3, r4, r5, r6, r7, r8]
end
end Go.EX


set_option linter.unusedVariables false
set_option linter.unusedSimpArgs false
namespace Go.EX
structure L2 (tx : Bool) (s : List Key × List Val) (zs ws : List Int) (W B : List Nat) (e m room : Nat) : Prop where
 hi : HI W B e
 len : W.length = 40000
 lenB : B.length = 626
 row : LM W B e m 5 room s.2
 keys : KeysAt W B e s.2 s.1
 ok : ∀ v ∈ s.2, v.ok3
 rel : Rel3 tx s zs ws
theorem KeysAt.imp {W B W' B' : List Nat} {e e' : Nat} {vs : List Val} {qs : List Key} (h : KeysAt W B e vs qs) (hk : ∀ v q, KeyAt W B e v q → KeyAt W' B' e' v q) : KeysAt W' B' e' vs qs :=
 ⟨h.1, fun j q hq => by obtain ⟨v, h1, h2⟩ := h.2 j q hq; exact ⟨v, h1, hk v q h2⟩⟩
theorem L2.keyed {tx : Bool} {s : List Key × List Val} {zs ws : List Int} {W B : List Nat} {e m room : Nat} (h : L2 tx s zs ws W B e m room) {v : Val} {q : Key} {W1 B1 : List Nat} {e1 : Nat} (hk : Keyed W B e v q W1 B1 e1) : L2 tx s zs ws W1 B1 e1 m room :=
 ⟨hk.hi, hk.sz.trans h.len, hk.szB.trans h.lenB, h.row.more hk.le hk.old hk.bits, h.keys.imp fun u r hu => hu.more hk.le hk.old hk.bits, h.ok, h.rel⟩
section
variable {code : Nat → Option XFun} {ext : Calls'}
theorem L2.put (c : MapLaw code) {tx : Bool} {s : List Key × List Val} {zs ws : List Int} {W B : List Nat} {e m room : Nat} (h : L2 tx s zs ws W B e m room) {a w : Int} (hw : (tInt .i64).wf w) {v : Val} (hv : KeyAt W B e v (kq tx (nm tx a))) (hh : Held W B e v) (ho : v.ok3) (hz : zs.length ≤ 160) (hr : room ≤ 700) (he : e ≤ 10000) :
  ∃ W2 B2 e2 r, L2 tx (putM s (kq tx (nm tx a)) v ⟨2, w⟩) (putZ (zs, ws) (nm tx a) w).1 (putZ (zs, ws) (nm tx a) w).2 W2 B2 e2 m r ∧ ((r = room ∧ e2 = e) ∨ (room < s.2.length + 2 ∧ r = max 8 (2 * room) ∧ e2 = e + 2 * r + 1)) ∧
   callW code ext 602 [.optr 0 0, valV 5 m, valA v, valA ⟨2, w⟩] (hMem W B e) = some (int64 0, hMem W2 B2 e2) := by
 have hwf := wfI64.1 hw
 have hox : Val.ok3 ⟨2, w⟩ := ⟨by simp, by simp, hwf.1, hwf.2⟩
 have hvl := h.rel.vlen
 have hlen := h.len
 have hrel := h.rel.put (w := w) (nm_ok tx a) v
 have hkp := fun {W' B' : List Nat} {e' : Nat} (hk : ∀ u q, KeyAt W B e u q → KeyAt W' B' e' u q) => (h.keys.imp hk).put (x := ⟨2, w⟩) (hk _ _ hv)
 have hokp : ∀ u ∈ (putM s (kq tx (nm tx a)) v ⟨2, w⟩).2, u.ok3 := fun u hu => (zlp hu).elim (h.ok u) (fun h1 => h1.elim (fun e => e ▸ ho) (fun e => e ▸ hox))
 cases hf : findQ s.1 (kq tx (nm tx a)) with
 | some j =>
  obtain ⟨hq, hno⟩ := ze6 hf
  obtain ⟨W2, g1, f1⟩ := zai (code := code) (ext := ext) c.toRowCode h.hi h.row (by omega) h.keys hv hh (.inl rfl) hox hq hno
  refine ⟨W2, B, e, room, ⟨g1.hi, g1.sz.trans h.len, h.lenB, ?_, hkp g1.keys, hokp, hrel⟩, .inl ⟨rfl, rfl⟩, f1⟩
  rw [zls hf]
  exact g1.row
 | none =>
  obtain ⟨W2, B2, e2, r, g1, g2, f1⟩ := zah (code := code) (ext := ext) c.toRowCode h.hi h.row (by omega) h.keys hv hh (.inl rfl) ho hox h.ok (ze5 hf) (by omega)
  refine ⟨W2, B2, e2, r, ⟨g1.hi, g1.sz.trans h.len, g1.szB.trans h.lenB, ?_, hkp g1.keys, hokp, hrel⟩, g2, f1⟩
  rw [zlr hf]
  exact g1.row
def a2St (lv : IV) (tx b : Bool) (i : Nat) (zs ws : List Int) (W B : List Nat) (e m : Nat) : St :=
 if zs = [] then ⟨0, a2Env0 lv i, a2Mem0 tx W B e m⟩ else ⟨0, a2Env0 lv i, a2Mem1 tx W B e m zs.length (orow b zs) (orow b ws)⟩
def A2 (tx : Bool) (i : Nat) (s : List Key × List Val) (zs ws : List Int) (W B : List Nat) (e m room : Nat) : Prop :=
 L2 tx s zs ws W B e m room ∧ zs.length ≤ 60 + i ∧ room ≤ 700 ∧ e ≤ 1000 + 4 * i + 4 * room
theorem zas (c : MapLaw code) {tx b : Bool} {lv : IV} {bs : List (Int × Int)} (hr : Reads tII lv bs) (hb : bs.length ≤ 100) {i : Nat} (hi : i < bs.length) {s : List Key × List Val} {zs ws : List Int} {W B : List Nat} {e m room : Nat} (h : A2 tx i s zs ws W B e m room) :
  ∃ s' b' t zs' ws' W' B' e' r, A2 tx (i + 1) t zs' ws' W' B' e' m r ∧ den code ext x428L2 (a2St lv tx b i zs ws W B e m) = some (.normal, s') ∧ s'.tidy [1, 7, 8, 11, 12, 13, 15, 16, 17] = a2St lv tx b' (i + 1) zs' ws' W' B' e' m := by
 obtain ⟨⟨a, w⟩, ha⟩ : ∃ p, bs[i]? = some p := ⟨_, List.getElem?_eq_getElem hi⟩
 have hwf : (tInt .i64).wf w := (hr.1 _ (List.mem_of_getElem? ha)).2
 obtain ⟨h1, h2, h3, h4⟩ := h
 obtain ⟨v, W1, B1, e1, hk, f1⟩ := zhi (code := code) (ext := ext) c.toRowCode c.c429 (tx := tx) h1.hi a (by have := h1.len; omega)
 have hle3 := hk.le3
 have hK := h1.keyed hk
 obtain ⟨W2, B2, e2, r, g1, g2, f2⟩ := hK.put (code := code) (ext := ext) c (a := a) hwf hk.key hk.held hk.ok (by omega) h3 (by omega)
 have hvl := h1.rel.vlen
 have hzl : (putZ (zs, ws) (nm tx a) w).1.length ≤ zs.length + 1 := by
  cases hf : findZ zs (nm tx a) with
  | some j => rw [zlx (s := (zs, ws)) hf]; simp
  | none => rw [zlw (s := (zs, ws)) hf]; simp
 have hA : A2 tx (i + 1) (putM s (kq tx (nm tx a)) v ⟨2, w⟩) (putZ (zs, ws) (nm tx a) w).1 (putZ (zs, ws) (nm tx a) w).2 W2 B2 e2 m r := by
  refine ⟨g1, by omega, ?_, ?_⟩
  ·rcases g2 with ⟨rfl, _⟩ | ⟨g2, rfl, _⟩ <;> omega
  ·rcases g2 with ⟨rfl, rfl⟩ | ⟨g2, rfl, rfl⟩ <;> omega
 have hne := zlv (zs, ws) (nm tx a) w
 by_cases hz : zs = []
 ·subst hz
  have hws : ws = [] := List.eq_nil_of_length_eq_zero h1.rel.len
  subst hws
  obtain ⟨s', k1, k2⟩ := zap (code := code) (ext := ext) c (tx := tx) hr hb ha h1.len h1.lenB hK.len hK.lenB g1.len g1.lenB f1 f2
  refine ⟨s', false, _, _, _, W2, B2, e2, r, hA, k1, ?_⟩
  rw [k2]
  unfold a2St
  rw [if_neg hne]
  rfl
 ·obtain ⟨b', s', k1, k2⟩ := zar (code := code) (ext := ext) c (tx := tx) (b := b) hr hb ha h1.len h1.lenB hK.len hK.lenB g1.len g1.lenB f1 f2 hz (by omega) h1.rel.len
  have e0 : a2St lv tx b i zs ws W B e m = ⟨0, a2Env0 lv i, a2Mem1 tx W B e m zs.length (orow b zs) (orow b ws)⟩ := if_neg hz
  refine ⟨s', b', _, _, _, W2, B2, e2, r, hA, by rw [e0]; exact k1, ?_⟩
  rw [k2]
  unfold a2St
  rw [if_neg hne]
theorem zaq (c : MapLaw code) {tx : Bool} {lv : IV} {bs : List (Int × Int)} (hr : Reads tII lv bs) (hb : bs.length ≤ 100) : ∀ (n : Nat) (st : St), (∃ i b s zs ws W B e m room, n + i = bs.length ∧ A2 tx i s zs ws W B e m room ∧ st.tidy [1, 7, 8, 11, 12, 13, 15, 16, 17] = a2St lv tx b i zs ws W B e m) →
  ∃ x s', den code ext (.loop [1, 7, 8, 11, 12, 13, 15, 16, 17] x428L2) st = some (x, s') ∧ x ≠ .normal ∧ (x = .exit 2 ∧ ∃ b s zs ws W B e m room, A2 tx bs.length s zs ws W B e m room ∧
   s' = ⟨0, a2Env0 lv bs.length ++ [(90, avb false)], (a2St lv tx b bs.length zs ws W B e m).mem⟩) := by
 refine zic _ _ ?_
 rintro n st ⟨i, b, s, zs, ws, W, B, e, m, room, hm, hA, hst⟩
 rw [hst]
 by_cases hil : i < bs.length
 ·obtain ⟨s', b', t, zs', ws', W', B', e', r, hA', f1, f2⟩ := zas (code := code) (ext := ext) (b := b) c hr hb hil hA
  exact ⟨.normal, s', f1, .inl ⟨rfl, n - 1, by omega, i + 1, b', t, zs', ws', W', B', e', m, r, by omega, hA', f2⟩⟩
 ·have hie : i = bs.length := by omega
  subst hie
  refine ⟨.exit 2, _, ?_, .inr ⟨by simp, rfl, b, s, zs, ws, W, B, e, m, room, hA, rfl⟩⟩
  have e1 := zmf hr
  unfold a2St
  by_cases h0 : zs = []
  ·rw [if_pos h0]
   generalize bs.length = n at *
   simp -implicitDefEqProofs [x428L2, e1]
  ·rw [if_neg h0]
   have r1 := zmi (irow zs)
   have r2 := fun f => zmq f (irow zs)
   have r5 := zmi (irow ws)
   have r6 := fun f => zmq f (irow ws)
   cases b
   ·simp only [orow_f]
    generalize irow ws = U at *
    generalize irow zs = Z at *
    generalize zs.length = l at *
    generalize bs.length = n at *
    simp -implicitDefEqProofs [x428L2, e1]
   ·simp only [orow_t]
    generalize irow ws = U at *
    generalize irow zs = Z at *
    generalize zs.length = l at *
    generalize bs.length = n at *
    simp -implicitDefEqProofs [-List.map_map, x428L2, e1, r1, r2, r5, r6]
end
end Go.EX


set_option linter.unusedVariables false
set_option linter.unusedSimpArgs false
namespace Go.EX
abbrev a3Env (n u i : Nat) : Env := [(7, .optr 0 0), (8, .clo 429 [.optr 1 0, .optr 0 0]), (11, .optr 2 0), (12, .optr 3 0), (15, .optr 4 0), (18, .osl 5 0 2 u none), (20, int64 n), (22, int64 i)]
abbrev a3Mem (tx : Bool) (W B : List Nat) (e m : Nat) (R : List IV) (n : Nat) (Z U : AObj) : Mem := [.rich [.optr 6 0], .rich [avb tx], .rich [.osl 7 0 1 n none], .rich [.osl 8 0 1 n none], .rich [uint8 5, int64 m], .flat R false, .rich [.osl 9 0 1 40000 (some 40000), .osl 10 0 1 626 (some 626), int64 e], Z, U, .flat (urow W) false, .flat (urow B) false]
theorem kq_nm {tx : Bool} {z : Int} (h : NmOk tx z) : nm tx z = z := by
 unfold NmOk at h
 unfold nm
 cases tx
 ·simp only [Bool.false_eq_true, if_false] at h ⊢
  by_cases h0 : 0 ≤ z
  ·rw [Int.tmod_eq_emod_of_nonneg h0]; omega
  ·have h1 : z = -(-z) := by omega
   rw [h1, Int.neg_tmod, Int.tmod_eq_emod_of_nonneg (by omega)]; omega
 ·simp only [if_true] at h ⊢
  exact wrapU8 h.1 (by omega)
section
variable {code : Nat → Option XFun} {ext : Calls'}
set_option maxHeartbeats 4000000 in
theorem zat (c : MapLaw code) {tx b : Bool} {zs ws : List Int} {vs : List Val} {i : Nat} {z w : Int} {u v1 v2 : Val} {W B W1 B1 W2 B2 : List Nat} {e e1 e2 m : Nat} (hW : W.length = 40000) (hB : B.length = 626) (l1 : W1.length = 40000) (l2 : B1.length = 626) (l3 : W2.length = 40000) (l4 : B2.length = 626)
  (hz : zs[i]? = some z) (hw : ws[i]? = some w) (hu : vs[2 * i]? = some u) (hx : vs[2 * i + 1]? = some ⟨2, w⟩) (hn : zs.length ≤ 160) (hlen : ws.length = zs.length) (hvl : vs.length = 2 * zs.length)
  (f1 : callW code ext 429 [int64 z, .optr 0 0, .optr 1 0] (kyMem tx W B e) = some (valA v1, kyMem tx W1 B1 e1))
  (f4 : callW code ext 592 [.optr 0 0, valV 5 m, valA v1] (hMem W1 B1 e1) = some (.tup [valA ⟨2, w⟩, int64 0], hMem W1 B1 e1))
  (f5 : callW code ext 429 [int64 z, .optr 0 0, .optr 1 0] (kyMem tx W1 B1 e1) = some (valA v2, kyMem tx W2 B2 e2))
  (f6 : callW code ext 603 [.optr 0 0, valA u, valA v2] (hMem W2 B2 e2) = some (avb true, hMem W2 B2 e2)) :
  ∃ s', den code ext x428L3 ⟨0, a3Env zs.length vs.length i, a3Mem tx W B e m (tVal.row vs) zs.length (orow b zs) (orow b ws)⟩ = some (.normal, s') ∧
   s'.tidy [7, 8, 11, 12, 15, 18, 20, 22] = ⟨0, a3Env zs.length vs.length (i + 1), a3Mem tx W2 B2 e2 m (tVal.row vs) zs.length (orow b zs) (orow b ws)⟩ := by
 have f2 := zjj (code := code) (ext := ext) c.toTextCode w
 have hil := (List.getElem?_eq_some_iff.1 hz).1
 have hgz := zg5 hz
 have hgw := zg5 hw
 obtain ⟨i1, hi1⟩ : ∃ i1, i1 = i + 1 := ⟨_, rfl⟩
 obtain ⟨i2, hi2⟩ : ∃ i2, i2 = 2 * i := ⟨_, rfl⟩
 obtain ⟨i3, hi3⟩ : ∃ i3, i3 = 2 * i + 1 := ⟨_, rfl⟩
 rw [← hi2] at hu
 rw [← hi3] at hx
 have c0 : cut (tVal.row vs) (i2 * 2) 2 = some [.val (.int .u8 u.k), .val (.int .i64 u.n)] := zfm (t := tVal) hu
 have c1 : cut (tVal.row vs) (i3 * 2) 2 = some [.val (.int .u8 2), .val (.int .i64 w)] := zfm (t := tVal) hx
 have e1 : (i : Int) < zs.length := by omega
 have e1' : (i : Int) < ws.length := by omega
 have e3 : IntKind.wrap .i64 ((i : Int) + 1) = (i1 : Int) := by rw [wrapI64 (by omega) (by omega)]; omega
 have e4 : IntKind.wrap .i64 (2 * (i : Int)) = (i2 : Int) := by rw [wrapI64 (by omega) (by omega)]; omega
 have e5 : IntKind.wrap .i64 ((i2 : Int) + 1) = (i3 : Int) := by rw [wrapI64 (by omega) (by omega)]; omega
 have e6 : (i2 : Int) < vs.length := by omega
 have e6' : i2 < vs.length := by omega
 have e7 : (i3 : Int) < vs.length := by omega
 have e7' : i3 < vs.length := by omega
 rw [← hi1]
 have hs : sameCells [0, 0] [uint8 2, int64 w] [uint8 2, int64 w] = some true := by simp [sameCells]
 simp only [kyMem, hW, hB, l1, l2, l3, l4] at f1 f5
 simp only [hMem, l1, l2, l3, l4] at f4 f6
 refine step_3 ?_
 have r1 := zmi (irow zs)
 have r2 := fun f => zmq f (irow zs)
 have r5 := zmi (irow ws)
 have r6 := fun f => zmq f (irow ws)
 clear hu hx hz hw
 cases b
 ·simp only [orow_f]
  generalize irow ws = U at *
  generalize irow zs = Z at *
  generalize zs.length = l at *
  generalize tVal.row vs = R at *
  generalize vs.length = n at *
  simp -implicitDefEqProofs [-sameCells, hs, x428L3, f1, f2, f4, f5, f6, hgz, hgw, c0, c1, e1, e1', hil, e3, e4, e5, e6, e6', e7, e7', exTouch, exPeek, sameLoad, zoj, zoh]
 ·simp only [orow_t]
  generalize irow ws = U at *
  generalize irow zs = Z at *
  generalize zs.length = l at *
  generalize tVal.row vs = R at *
  generalize vs.length = n at *
  simp -implicitDefEqProofs [-sameCells, -List.map_map, hs, x428L3, f1, f2, f4, f5, f6, hgz, hgw, c0, c1, e1, e1', hil, e3, e4, e5, e6, e6', e7, e7', exTouch, exPeek, sameLoad, zoj, zoh, r1, r2, r5, r6]
end
end Go.EX


set_option linter.unusedVariables false
set_option linter.unusedSimpArgs false
namespace Go.EX
def x428E : XCode :=
 (.seq (.region [7, 8, 11, 12, 15, 16, 18, 19] [⟨(some 122), .load none (.t 7), none⟩,
  ⟨(some 123), .load (some 2) (.t 15), none⟩,
  ⟨(some 124), .call .look 593 [(.t 122), (.t 123)], none⟩,
  ⟨(some 121), .mv (.t 124), none⟩,
  ⟨(some 125), .extract (.t 121) 0, none⟩,
  ⟨(some 126), .extract (.t 121) 1, none⟩,
  ⟨(some 18), .mv (.t 125), none⟩,
  ⟨(some 19), .mv (.t 126), none⟩])
 (.seq (.region [7, 8, 11, 12, 15, 16, 18, 19, 20, 21] [⟨(some 128), .load none (.t 7), none⟩,
  ⟨(some 129), .load (some 2) (.t 15), none⟩,
  ⟨(some 130), .call .peek 594 [(.t 128), (.t 129)], none⟩,
  ⟨(some 127), .mv (.t 130), none⟩,
  ⟨(some 131), .extract (.t 127) 0, none⟩,
  ⟨(some 132), .extract (.t 127) 1, none⟩,
  ⟨(some 20), .mv (.t 131), none⟩,
  ⟨(some 21), .mv (.t 132), none⟩])
 (.seq (.seq (.region [7, 8, 11, 12, 15, 18, 20, 155] [⟨(some 133), .mv (.t 16), none⟩,
  ⟨(some 134), .bin .neq (.t 133) (.c (.int .i64 0)), none⟩,
  ⟨(some 135), .mv (.t 134), none⟩,
  ⟨(some 136), .mv (.t 19), some (135, false)⟩,
  ⟨(some 137), .bin .neq (.t 136) (.c (.int .i64 0)), some (135, false)⟩,
  ⟨(some 138), .pick (.t 135) (.c (.bool true)) (.t 137), none⟩,
  ⟨(some 139), .mv (.t 138), none⟩,
  ⟨(some 140), .mv (.t 21), some (139, false)⟩,
  ⟨(some 141), .bin .neq (.t 140) (.c (.int .i64 0)), some (139, false)⟩,
  ⟨(some 142), .pick (.t 139) (.c (.bool true)) (.t 141), none⟩,
  ⟨(some 143), .mv (.t 142), none⟩,
  ⟨(some 144), .mv (.t 20), some (143, false)⟩,
  ⟨(some 145), .load none (.t 11), some (143, false)⟩,
  ⟨(some 146), .len (.t 145), some (143, false)⟩,
  ⟨(some 147), .bin .neq (.t 144) (.t 146), some (143, false)⟩,
  ⟨(some 148), .pick (.t 143) (.c (.bool true)) (.t 147), none⟩,
  ⟨(some 149), .mv (.t 148), none⟩,
  ⟨(some 150), .mv (.t 18), some (149, false)⟩,
  ⟨(some 151), .len (.t 150), some (149, false)⟩,
  ⟨(some 152), .mv (.t 20), some (149, false)⟩,
  ⟨(some 153), .bin .mul (.c (.int .i64 2)) (.t 152), some (149, false)⟩,
  ⟨(some 154), .bin .neq (.t 151) (.t 153), some (149, false)⟩,
  ⟨(some 155), .pick (.t 149) (.c (.bool true)) (.t 154), none⟩])
 (.cond (.t 155)
  (.seq (.region [6] [⟨(some 6), .mv (.c (.bool false)), none⟩])
  .ret)
  .skip))
 (.seq (.seq (.region [7, 8, 11, 12, 15, 18, 20, 22] [⟨(some 22), .mv (.c (.int .i64 0)), none⟩])
 (.block 4 (.loop [7, 8, 11, 12, 15, 18, 20, 22] x428L3)))
 (.seq (.region [16, 25] [⟨(some 211), .load none (.t 7), none⟩,
  ⟨(some 212), .load (some 2) (.t 15), none⟩,
  ⟨(some 213), .build [(.int .u8 0), (.int .i64 0)] [(0, 1, (.c (.int .u8 1))), (1, 1, (.c (.int .i64 1)))], none⟩,
  ⟨(some 214), .call .touch 592 [(.t 211), (.t 212), (.t 213)], none⟩,
  ⟨(some 210), .mv (.t 214), none⟩,
  ⟨(some 215), .extract (.t 210) 0, none⟩,
  ⟨(some 216), .extract (.t 210) 1, none⟩,
  ⟨(some 25), .alloc [(.int .u8 0), (.int .i64 0)], none⟩,
  ⟨none, .store 2 (.t 25) (.t 215), none⟩,
  ⟨(some 16), .mv (.t 216), none⟩])
 (.seq (.region [6] [⟨(some 217), .mv (.t 16), none⟩,
  ⟨(some 218), .bin .eql (.t 217) (.c (.int .i64 0)), none⟩,
  ⟨(some 219), .mv (.t 218), none⟩,
  ⟨(some 220), .load (some 2) (.t 25), some (219, true)⟩,
  ⟨(some 221), .build [(.int .u8 0), (.int .i64 0)] [], some (219, true)⟩,
  ⟨(some 222), .eqCells false [0, 0] (.t 220) (.t 221), some (219, true)⟩,
  ⟨(some 223), .pick (.t 219) (.t 222) (.c (.bool false)), none⟩,
  ⟨(some 6), .mv (.t 223), none⟩])
 .ret))))))
def x428T : XCode :=
 (.seq (.region [1, 7, 8, 11, 12, 13, 15, 16] [⟨(some 78), .load none (.t 7), none⟩,
  ⟨(some 79), .mv (.t 10), none⟩,
  ⟨(some 80), .call .share 598 [(.t 78), (.t 79)], none⟩,
  ⟨(some 77), .mv (.t 80), none⟩,
  ⟨(some 81), .extract (.t 77) 0, none⟩,
  ⟨(some 82), .extract (.t 77) 1, none⟩,
  ⟨(some 15), .alloc [(.int .u8 0), (.int .i64 0)], none⟩,
  ⟨none, .store 2 (.t 15) (.t 81), none⟩,
  ⟨(some 16), .mv (.t 82), none⟩])
 (.seq (.seq (.region [1, 7, 8, 11, 12, 13, 15, 16, 17] [⟨(some 17), .mv (.c (.int .i64 0)), none⟩])
 (.block 2 (.loop [1, 7, 8, 11, 12, 13, 15, 16, 17] x428L2)))
 x428E))
def x428H : XCode :=
 (.seq (.region [0, 1, 5] [⟨(some 5), .box 1 (.t 2), none⟩,
  ⟨(some 6), .mv (.c (.bool false)), none⟩])
 (.seq (.seq (.region [0, 1, 5, 37] [⟨(some 26), .call .view 434 [], none⟩,
  ⟨(some 27), .un .not (.t 26), none⟩,
  ⟨(some 28), .mv (.t 27), none⟩,
  ⟨(some 29), .mv (.t 0), some (28, false)⟩,
  ⟨(some 30), .len (.t 29), some (28, false)⟩,
  ⟨(some 31), .bin .gtr (.t 30) (.c (.int .i64 60)), some (28, false)⟩,
  ⟨(some 32), .pick (.t 28) (.c (.bool true)) (.t 31), none⟩,
  ⟨(some 33), .mv (.t 32), none⟩,
  ⟨(some 34), .mv (.t 1), some (33, false)⟩,
  ⟨(some 35), .len (.t 34), some (33, false)⟩,
  ⟨(some 36), .bin .gtr (.t 35) (.c (.int .i64 100)), some (33, false)⟩,
  ⟨(some 37), .pick (.t 33) (.c (.bool true)) (.t 36), none⟩])
 (.cond (.t 37)
  (.seq (.region [6] [⟨(some 38), .call .view 434 [], none⟩,
   ⟨(some 6), .mv (.t 38), none⟩])
  .ret)
  .skip))
 (.seq (.region [0, 1, 5, 7] [⟨(some 39), .call .own 436 [(.c (.int .i64 40000))], none⟩,
  ⟨(some 7), .alloc [(.pointer none)], none⟩,
  ⟨none, .store 1 (.t 7) (.t 39), none⟩])
 (.seq (.region [0, 1, 5, 7, 8] [⟨(some 40), .mkClo 429 [(.t 5), (.t 7)], none⟩,
  ⟨(some 8), .mv (.t 40), none⟩])
 (.seq (.region [0, 1, 7, 8, 9] [⟨(some 41), .mkClo 430 [(.t 5)], none⟩,
  ⟨(some 9), .alloc [.nilFunc], none⟩,
  ⟨none, .store 1 (.t 9) (.t 41), none⟩])
 (.seq (.region [0, 1, 7, 8, 9, 10] [⟨(some 10), .mv (.c (.slice none 0 0)), none⟩])
 (.seq (.region [0, 1, 7, 8, 9, 10, 11, 12] [⟨(some 11), .alloc [(.slice none 0 0)], none⟩,
  ⟨(some 12), .alloc [(.slice none 0 0)], none⟩])
 (.seq (.region [0, 1, 7, 8, 10, 11, 12, 13] [⟨(some 42), .mkClo 431 [(.t 11), (.t 9), (.t 12)], none⟩,
  ⟨(some 13), .mv (.t 42), none⟩])
 (.seq (.seq (.region [0, 1, 7, 8, 10, 11, 12, 13, 14] [⟨(some 14), .mv (.c (.int .i64 0)), none⟩])
 (.block 0 (.loop [0, 1, 7, 8, 10, 11, 12, 13, 14] x428L1)))
 x428T)))))))))
theorem zrl : x428 = ⟨[.tmp 6], x428H⟩ := rfl
def A3 (tx : Bool) (i : Nat) (s : List Key × List Val) (zs ws : List Int) (W B : List Nat) (e m room : Nat) : Prop :=
 L2 tx s zs ws W B e m room ∧ e ≤ 5000 + 6 * i
section
variable {code : Nat → Option XFun} {ext : Calls'}
theorem zav (c : MapLaw code) {tx b : Bool} {i : Nat} {s : List Key × List Val} {zs ws : List Int} {W B : List Nat} {e m room : Nat} (h : A3 tx i s zs ws W B e m room) (hn : zs.length ≤ 160) (hi : i < zs.length) :
  ∃ s' W' B' e', A3 tx (i + 1) s zs ws W' B' e' m room ∧ den code ext x428L3 ⟨0, a3Env zs.length s.2.length i, a3Mem tx W B e m (tVal.row s.2) zs.length (orow b zs) (orow b ws)⟩ = some (.normal, s') ∧
   s'.tidy [7, 8, 11, 12, 15, 18, 20, 22] = ⟨0, a3Env zs.length s.2.length (i + 1), a3Mem tx W' B' e' m (tVal.row s.2) zs.length (orow b zs) (orow b ws)⟩ := by
 obtain ⟨h1, h2⟩ := h
 have hlen := h1.rel.len
 have hvl := h1.rel.vlen
 obtain ⟨z, hz⟩ : ∃ z, zs[i]? = some z := ⟨_, List.getElem?_eq_getElem hi⟩
 obtain ⟨w, hw⟩ : ∃ w, ws[i]? = some w := ⟨_, List.getElem?_eq_getElem (by omega)⟩
 have hok := h1.rel.ok z (List.mem_of_getElem? hz)
 have hq : s.1[i]? = some (kq tx z) := by rw [h1.rel.q, List.getElem?_map, hz]; rfl
 have hno : ∀ l, l < i → s.1[l]? ≠ some (kq tx z) := by
  intro l hl hh
  rw [h1.rel.q, List.getElem?_map] at hh
  obtain ⟨y, hy, hyz⟩ := Option.map_eq_some_iff.1 hh
  have hzy := kq_inj (h1.rel.ok y (List.mem_of_getElem? hy)) hok hyz
  subst hzy
  have hll := (List.getElem?_eq_some_iff.1 hy)
  obtain ⟨a1, a2⟩ := hll
  obtain ⟨b1, b2⟩ := (List.getElem?_eq_some_iff.1 hz)
  exact (List.pairwise_iff_getElem.1 h1.rel.nd) l i a1 b1 hl (by rw [a2, b2])
 have hx := h1.rel.vals i w hw
 obtain ⟨v1, W1, B1, e1, hk1, f1⟩ := zhi (code := code) (ext := ext) c.toRowCode c.c429 (tx := tx) h1.hi z (by have := h1.len; omega)
 have g1 := h1.keyed hk1
 have hle1 := hk1.le3
 rw [kq_nm hok] at hk1
 have f4 := zaa (code := code) (ext := ext) c.toRowCode g1.hi g1.row (by omega) g1.keys hk1.key hq hno hx
 obtain ⟨v2, W2, B2, e2, hk2, f5⟩ := zhi (code := code) (ext := ext) c.toRowCode c.c429 (tx := tx) g1.hi z (by have := g1.len; omega)
 have g2 := g1.keyed hk2
 have hle2 := hk2.le3
 rw [kq_nm hok] at hk2
 obtain ⟨u, hu, hku⟩ := g2.keys.2 i _ hq
 have f6 := zaj (code := code) (ext := ext) c.toRowCode g2.hi hku hk2.key
 obtain ⟨s', k1, k2⟩ := zat (code := code) (ext := ext) (b := b) (zs := zs) (ws := ws) (vs := s.2) (i := i) (m := m) c h1.len h1.lenB g1.len g1.lenB g2.len g2.lenB hz hw hu hx hn hlen hvl f1 f4 f5 f6
 exact ⟨s', W2, B2, e2, ⟨g2, by omega⟩, k1, k2⟩
theorem zau (c : MapLaw code) {tx b : Bool} {s : List Key × List Val} {zs ws : List Int} {m room : Nat} (hn : zs.length ≤ 160) : ∀ (n : Nat) (st : St), (∃ i W B e, n + i = zs.length ∧ A3 tx i s zs ws W B e m room ∧ st.tidy [7, 8, 11, 12, 15, 18, 20, 22] = ⟨0, a3Env zs.length s.2.length i, a3Mem tx W B e m (tVal.row s.2) zs.length (orow b zs) (orow b ws)⟩) →
  ∃ x s', den code ext (.loop [7, 8, 11, 12, 15, 18, 20, 22] x428L3) st = some (x, s') ∧ x ≠ .normal ∧ (x = .exit 4 ∧ ∃ W B e, A3 tx zs.length s zs ws W B e m room ∧
   s' = ⟨0, a3Env zs.length s.2.length zs.length ++ [(158, avb false)], a3Mem tx W B e m (tVal.row s.2) zs.length (orow b zs) (orow b ws)⟩) := by
 refine zic _ _ ?_
 rintro n st ⟨i, W, B, e, hm, hA, hst⟩
 rw [hst]
 by_cases hil : i < zs.length
 ·obtain ⟨s', W', B', e', hA', f1, f2⟩ := zav (code := code) (ext := ext) (b := b) c hA hn hil
  exact ⟨.normal, s', f1, .inl ⟨rfl, n - 1, by omega, i + 1, W', B', e', by omega, hA', f2⟩⟩
 ·have hie : i = zs.length := by omega
  subst hie
  refine ⟨.exit 4, _, ?_, .inr ⟨by simp, rfl, W, B, e, hA, rfl⟩⟩
  have r1 := zmi (irow zs)
  have r2 := fun f => zmq f (irow zs)
  have r5 := zmi (irow ws)
  have r6 := fun f => zmq f (irow ws)
  cases b
  ·simp only [orow_f]
   generalize irow ws = U at *
   generalize irow zs = Z at *
   generalize zs.length = l at *
   generalize tVal.row s.2 = R at *
   generalize s.2.length = v at *
   simp -implicitDefEqProofs [x428L3]
  ·simp only [orow_t]
   generalize irow ws = U at *
   generalize irow zs = Z at *
   generalize zs.length = l at *
   generalize tVal.row s.2 = R at *
   generalize s.2.length = v at *
   simp -implicitDefEqProofs [-List.map_map, x428L3, r1, r2, r5, r6]
end
end Go.EX


set_option maxHeartbeats 4000000
set_option linter.unusedVariables false
set_option linter.unusedSimpArgs false
namespace Go.EX
section
variable {code : Nat → Option XFun} {ext : Calls'}
theorem zdm (c : MapLaw code) {tx : Bool} {s : List Key × List Val} {zs ws : List Int} {W B : List Nat} {e m room : Nat} (h : L2 tx s zs ws W B e m room) (hn : zs.length ≤ 160) :
  callW code ext 592 [.optr 0 0, valV 5 m, valV 1 1] (hMem W B e) = some (.tup [valV 0 0, int64 0], hMem W B e) := by
 have hvl := h.rel.vlen
 refine Get_no (code := code) (ext := ext) c.toRowCode (v := ⟨1, 1⟩) (q := ⟨1, 1, []⟩) h.hi h.row (by omega) h.keys (.inr ⟨by decide, by decide, rfl⟩) ?_
 rw [h.rel.q]
 intro hh
 obtain ⟨z, _, hz⟩ := List.mem_map.1 hh
 have := congrArg Key.k hz
 unfold kq at this
 cases tx <;> simp at this
theorem zdo (c : MapLaw code) {tx : Bool} {lv : IV} {n : Nat} {s : List Key × List Val} {W B : List Nat} {e m room : Nat} (h : L2 tx s [] [] W B e m room) :
  ∃ M, den code ext x428E ⟨0, a2Env0 lv n ++ [(90, avb false)], a2Mem0 tx W B e m⟩ = some (.ret, ⟨0, [(6, avb true)], M⟩) := by
 have hvl := h.rel.vlen
 have hs : s.2 = [] := List.eq_nil_of_length_eq_zero hvl
 have f1 := zab (code := code) (ext := ext) c.toRowCode h.hi h.row (by rw [hs]; simp) (by rw [hs]; rfl)
 have f2 := zad (code := code) (ext := ext) (n := 0) c.toRowCode h.hi h.row (by rw [hs]; simp) (by rw [hs]; rfl)
 have f3 := zdm (code := code) (ext := ext) c h (by simp)
 have l1 := h.len
 have l2 := h.lenB
 have hg1 : gV 3 s.2 = nilS := by rw [hs]; rfl
 have hg2 : gM s.2 = [] := by rw [hs]; rfl
 rw [hg1, hg2] at f1
 have hl : ∀ M : Mem, M = a2Mem0 tx W B e m → den code ext (.loop [7, 8, 11, 12, 15, 18, 20, 22] x428L3) ⟨0, [(7, .optr 0 0), (8, .clo 429 [.optr 1 0, .optr 0 0]), (11, .optr 2 0), (12, .optr 3 0), (15, .optr 5 0), (18, nilS), (20, int64 0), (22, int64 0)], M⟩ = some (.exit 4, ⟨0, [(7, .optr 0 0), (8, .clo 429 [.optr 1 0, .optr 0 0]), (11, .optr 2 0), (12, .optr 3 0), (15, .optr 4 0), (18, nilS), (20, int64 0), (22, int64 0), (158, avb false)], [.rich [.optr 5 0], .rich [avb tx], .rich [nilS], .rich [nilS], .rich [uint8 5, int64 m], .rich [.osl 6 0 1 40000 (some 40000), .osl 7 0 1 626 (some 626), int64 e], .flat (urow W) false, .flat (urow B) false]⟩) := by
  rintro M rfl
  rw [zc5]
  simp -implicitDefEqProofs [x428L3]
 have f4 := hl _ rfl
 have hs0 : sameCells [0, 0] [uint8 0, int64 0] [uint8 0, int64 0] = some true := by simp [sameCells]
 simp only [hMem, l1, l2, List.append_nil, Int.natCast_zero] at f1 f2 f3
 simp -implicitDefEqProofs [-sameCells, show IntKind.wrap .i64 0 = 0 from rfl, hs0, x428E, f1, f2, f3, f4, exTouch, exPeek, exLook]
theorem zdn (c : MapLaw code) {tx b : Bool} {lv : IV} {n : Nat} {s : List Key × List Val} {zs ws : List Int} {W B : List Nat} {e m room : Nat} (h : L2 tx s zs ws W B e m room) (hz : zs ≠ []) (hn : zs.length ≤ 160) (he : e ≤ 5000) :
  ∃ M, den code ext x428E ⟨0, a2Env0 lv n ++ [(90, avb false)], a2Mem1 tx W B e m zs.length (orow b zs) (orow b ws)⟩ = some (.ret, ⟨0, [(6, avb true)], M⟩) := by
 have hvl := h.rel.vlen
 have hlen := h.rel.len
 have hzp : 0 < zs.length := List.length_pos_iff.2 hz
 have f1 := zab (code := code) (ext := ext) c.toRowCode h.hi h.row (by omega) (by omega)
 have f2 := zad (code := code) (ext := ext) (n := zs.length) c.toRowCode h.hi h.row (by omega) hvl
 have l1 := h.len
 have l2 := h.lenB
 have hne : s.2 ≠ [] := fun hh => by rw [hh] at hvl; simp at hvl; omega
 have hg1 : gV 3 s.2 = .osl 3 0 2 s.2.length none := if_neg hne
 have hg2 : gM s.2 = [.flat (tVal.row s.2) false] := if_neg hne
 rw [hg1, hg2] at f1
 have r1 := zmi (irow zs)
 have r2 := fun f => zmq f (irow zs)
 have r5 := zmi (irow ws)
 have r6 := fun f => zmq f (irow ws)
 have hst : St.tidy ⟨0, [(7, .optr 0 0), (8, .clo 429 [.optr 1 0, .optr 0 0]), (11, .optr 2 0), (12, .optr 3 0), (15, .optr 5 0), (18, .osl 11 0 2 s.2.length none), (20, int64 zs.length), (22, int64 0)], a2Mem1 tx W B e m zs.length (orow b zs) (orow b ws) ++ [.flat (tVal.row s.2) false]⟩ [7, 8, 11, 12, 15, 18, 20, 22] = ⟨0, a3Env zs.length s.2.length 0, a3Mem tx W B e m (tVal.row s.2) zs.length (orow b zs) (orow b ws)⟩ := by
  cases b
  ·simp only [orow_f]
   generalize irow ws = U at *
   generalize irow zs = Z at *
   generalize zs.length = l at *
   generalize tVal.row s.2 = R at *
   generalize s.2.length = v at *
   simp -implicitDefEqProofs []
  ·simp only [orow_t]
   generalize irow ws = U at *
   generalize irow zs = Z at *
   generalize zs.length = l at *
   generalize tVal.row s.2 = R at *
   generalize s.2.length = v at *
   simp -implicitDefEqProofs [-List.map_map, r1, r2, r5, r6]
 obtain ⟨x, s', f4, _, rfl, W3, B3, e3, ⟨h3, he3⟩, rfl⟩ := zau (code := code) (ext := ext) (b := b) (room := room) c hn zs.length _ ⟨0, W, B, e, rfl, ⟨h, by omega⟩, hst⟩
 clear hst
 have f3 := zdm (code := code) (ext := ext) c h3 hn
 have l3 := h3.len
 have l4 := h3.lenB
 have hs0 : sameCells [0, 0] [uint8 0, int64 0] [uint8 0, int64 0] = some true := by simp [sameCells]
 obtain ⟨n2, hn2⟩ : ∃ n2, n2 = 2 * zs.length := ⟨_, rfl⟩
 have e4 : IntKind.wrap .i64 (2 * (zs.length : Int)) = (n2 : Int) := by rw [wrapI64 (by omega) (by omega)]; omega
 rw [hvl, ← hn2] at f1 f4
 simp only [hMem, l1, l2, l3, l4, Int.natCast_zero, List.cons_append, List.nil_append] at f1 f2 f3
 simp only [a2Mem1, List.cons_append, List.nil_append] at f4
 cases b
 ·simp only [orow_f] at f4 ⊢
  generalize irow ws = U at *
  generalize irow zs = Z at *
  generalize zs.length = l at *
  generalize tVal.row s.2 = R at *
  simp -implicitDefEqProofs [-sameCells, hs0, x428E, f1, f2, f3, f4, e4, exTouch, exPeek, exLook]
 ·simp only [orow_t] at f4 ⊢
  generalize irow ws = U at *
  generalize irow zs = Z at *
  generalize zs.length = l at *
  generalize tVal.row s.2 = R at *
  simp -implicitDefEqProofs [-sameCells, -List.map_map, hs0, x428E, f1, f2, f3, f4, e4, exTouch, exPeek, exLook, r1, r2, r5, r6]
end
end Go.EX


set_option maxHeartbeats 4000000
set_option linter.unusedVariables false
set_option linter.unusedSimpArgs false
namespace Go.EX
section
variable {code : Nat → Option XFun} {ext : Calls'}
theorem zdl (c : MapLaw code) {tx b : Bool} {lv : IV} {n : Nat} (hn : n ≤ 100) {s : List Key × List Val} {zs ws : List Int} {W B : List Nat} {e m room : Nat} (h : A2 tx n s zs ws W B e m room) :
  ∃ M, den code ext x428E ⟨0, a2Env0 lv n ++ [(90, avb false)], (a2St lv tx b n zs ws W B e m).mem⟩ = some (.ret, ⟨0, [(6, avb true)], M⟩) := by
 obtain ⟨h1, h2, h3, h4⟩ := h
 unfold a2St
 by_cases hz : zs = []
 ·rw [if_pos hz]
  subst hz
  have hws : ws = [] := List.eq_nil_of_length_eq_zero h1.rel.len
  subst hws
  exact zdo c h1
 ·rw [if_neg hz]
  exact zdn c h1 hz (by omega) (by omega)
theorem zmm {tx : Bool} {i : Nat} {ts : List Tri} {zs ws : List Int} {W B W' B' : List Nat} {e e' room : Nat} (h : A1 tx i ts zs ws W B e) (g : Laid3 W B e 5 room (madeT ts).2 W' B' e') : L2 tx (madeT ts) zs ws W' B' e' e room := by
 obtain ⟨h1, h2, h3, _⟩ := h
 have hm := zif h1.tri ts.length (Nat.le_refl _)
 rw [List.take_length] at hm
 exact ⟨g.hi, g.sz.trans h1.len, g.szB.trans h1.lenB, g.row, hm.keys.imp g.keys, hm.ok, h1.rel⟩
theorem ziz (c : MapLaw code) {tx b : Bool} {fv lv : IV} {bs : List (Int × Int)} (hr : Reads tII lv bs) (hb : bs.length ≤ 100) {ts : List Tri} {zs ws : List Int} {W B : List Nat} {e : Nat} (h : A1 tx 0 ts zs ws W B e) :
  ∃ M, den code ext x428T ⟨0, (a1St fv lv tx b 0 (flatT ts) zs ws W B e).env ++ [(46, avb false)], (a1St fv lv tx b 0 (flatT ts) zs ws W B e).mem⟩ = some (.ret, ⟨0, [(6, avb true)], M⟩) := by
 have hzl := h.zlen
 have hts : ts = [] := List.eq_nil_of_length_eq_zero h.2.1
 subst hts
 have hzs : zs = [] := List.eq_nil_of_length_eq_zero (by omega)
 subst hzs
 have hws : ws = [] := List.eq_nil_of_length_eq_zero h.1.rel.len
 subst hws
 have h3 := h.2.2.1
 have hlen := h.1.len
 obtain ⟨W', B', g1, f1⟩ := zae (code := code) (ext := ext) c.toRowCode h.1.hi (by omega)
 have hL := zmm (ts := []) h g1
 have hst : St.tidy ⟨0, [(1, .imm lv), (7, .optr 0 0), (8, .clo 429 [.optr 1 0, .optr 0 0]), (11, .optr 2 0), (12, .optr 3 0), (13, .clo 431 [.optr 2 0, .optr 4 0, .optr 3 0]), (15, .optr 8 0), (16, int64 0), (17, int64 0)], a1Mem0 tx W' B' (e + 3) ++ [.rich [uint8 5, int64 e]]⟩ [1, 7, 8, 11, 12, 13, 15, 16, 17] = a2St lv tx b 0 [] [] W' B' (e + 3) e := by
  unfold a2St
  rw [if_pos rfl]
  generalize e + 3 = e' at *
  simp -implicitDefEqProofs []
 obtain ⟨x, s', f2, _, rfl, b', s2, zs', ws', W2, B2, e2, m2, room2, hA2, rfl⟩ := zaq (code := code) (ext := ext) c (tx := tx) hr hb bs.length _ ⟨0, b, _, [], [], W', B', e + 3, e, 0, rfl, ⟨hL, by simp, by omega, by omega⟩, hst⟩
 clear hst
 obtain ⟨M, f3⟩ := zdl (code := code) (ext := ext) (b := b') c hb hA2 (lv := lv)
 refine ⟨M, ?_⟩
 have l1 := h.1.len
 have l2 := h.1.lenB
 have l3 : W'.length = 40000 := hL.len
 have l4 : B'.length = 626 := hL.lenB
 unfold a1St
 rw [if_pos rfl]
 generalize e + 3 = e' at *
 generalize (a2St lv tx b' bs.length zs' ws' W2 B2 e2 m2).mem = M2 at *
 simp only [hMem, l1, l2, l3, l4, Int.natCast_zero, Int.cast_ofNat_Int, List.cons_append, List.nil_append] at f1 f2 f3
 simp -implicitDefEqProofs [x428T, f1, f2, f3]
theorem ziy (c : MapLaw code) {tx b : Bool} {fv lv : IV} {bs : List (Int × Int)} (hr : Reads tII lv bs) (hb : bs.length ≤ 100) {n : Nat} (hn : n ≤ 60) (hn0 : n ≠ 0) {ts : List Tri} {zs ws : List Int} {W B : List Nat} {e : Nat} (h : A1 tx n ts zs ws W B e) :
  ∃ M, den code ext x428T ⟨0, (a1St fv lv tx b n (flatT ts) zs ws W B e).env ++ [(46, avb false)], (a1St fv lv tx b n (flatT ts) zs ws W B e).mem⟩ = some (.ret, ⟨0, [(6, avb true)], M⟩) := by
 have hzl := h.zlen
 have htl := h.2.1
 have hne := h.2.2.2 hn0
 have h3 := h.2.2.1
 have hlen := h.1.len
 have htn : ts ≠ [] := fun hh => by rw [hh] at htl; simp at htl; omega
 obtain ⟨W', B', g1, f1⟩ := zaf (code := code) (ext := ext) (cap := none) c.toRowCode rfl h.1.hi h.1.tri (by omega) htn (by omega)
 have hL := zmm h g1
 have hfl := zfl ts
 have r1 := zmi (irow zs)
 have r2 := fun f => zmq f (irow zs)
 have r5 := zmi (irow ws)
 have r6 := fun f => zmq f (irow ws)
 obtain ⟨e', he'⟩ : ∃ e', e' = e + 3 + 4 * ts.length + 1 := ⟨_, rfl⟩
 rw [← he'] at g1 f1 hL
 have hst : St.tidy ⟨0, [(1, .imm lv), (7, .optr 0 0), (8, .clo 429 [.optr 1 0, .optr 0 0]), (11, .optr 3 0), (12, .optr 4 0), (13, .clo 431 [.optr 3 0, .optr 5 0, .optr 4 0]), (15, .optr 11 0), (16, int64 0), (17, int64 0)], a1Mem1 tx W' B' e' (tVal.row (flatT ts)) zs.length (orow b zs) (orow b ws) ++ [.rich [uint8 5, int64 e]]⟩ [1, 7, 8, 11, 12, 13, 15, 16, 17] = a2St lv tx b 0 zs ws W' B' e' e := by
  unfold a2St
  rw [if_neg hne]
  cases b
  ·simp only [orow_f]
   generalize irow ws = U at *
   generalize irow zs = Z at *
   generalize zs.length = l at *
   generalize tVal.row (flatT ts) = R at *
   simp -implicitDefEqProofs []
  ·simp only [orow_t]
   generalize irow ws = U at *
   generalize irow zs = Z at *
   generalize zs.length = l at *
   generalize tVal.row (flatT ts) = R at *
   simp -implicitDefEqProofs [-List.map_map, r1, r2, r5, r6]
 obtain ⟨x, s', f2, _, rfl, b', s2, zs', ws', W2, B2, e2, m2, room2, hA2, rfl⟩ := zaq (code := code) (ext := ext) c (tx := tx) hr hb bs.length _ ⟨0, b, _, zs, ws, W', B', e', e, 2 * ts.length, rfl, ⟨hL, by omega, by omega, by omega⟩, hst⟩
 clear hst
 obtain ⟨M, f3⟩ := zdl (code := code) (ext := ext) (b := b') c hb hA2 (lv := lv)
 refine ⟨M, ?_⟩
 have l1 := h.1.len
 have l2 := h.1.lenB
 have l3 : W'.length = 40000 := hL.len
 have l4 : B'.length = 626 := hL.lenB
 unfold a1St
 rw [if_neg hn0]
 rw [← hfl] at f1
 generalize (a2St lv tx b' bs.length zs' ws' W2 B2 e2 m2).mem = M2 at *
 simp only [kMem, l1, l2, l3, l4, Int.cast_ofNat_Int] at f1
 simp only [a1Mem1, Int.natCast_zero, List.cons_append, List.nil_append] at f2 f3
 cases b
 ·simp only [orow_f] at f2 ⊢
  generalize irow ws = U at *
  generalize irow zs = Z at *
  generalize zs.length = l at *
  generalize tVal.row (flatT ts) = R at *
  generalize (flatT ts).length = u at *
  simp -implicitDefEqProofs [x428T, f1, f2, f3]
 ·simp only [orow_t] at f2 ⊢
  generalize irow ws = U at *
  generalize irow zs = Z at *
  generalize zs.length = l at *
  generalize tVal.row (flatT ts) = R at *
  generalize (flatT ts).length = u at *
  simp -implicitDefEqProofs [-List.map_map, x428T, f1, f2, f3, r1, r2, r5, r6]
end
end Go.EX


set_option linter.unusedVariables false
set_option linter.unusedSimpArgs false
namespace Go.EX
section
variable {code : Nat → Option XFun} {ext : Calls'}
theorem zgc (c : TextCode code) : callW code ext 436 [int64 40000] [] = some (.optr 0 0, hMem (List.replicate 40000 0) (List.replicate 626 0) 0) := by
 have h1 : callW code ext 567 [int64 40000] [] = some (.tup [.optr 0 0, int64 0], hMem (List.replicate 40000 0) (List.replicate 626 0) 0) := new_ok (ext := ext) c.c567 40000 (by decide) (by decide)
 have e1 : (List.replicate 40000 (0 : Nat)).length = 40000 := List.length_replicate
 have e2 : (List.replicate 626 (0 : Nat)).length = 626 := List.length_replicate
 generalize List.replicate 40000 (0 : Nat) = W at *
 generalize List.replicate 626 (0 : Nat) = B at *
 simp only [hMem, e1, e2] at h1
 rw [zb5 code ext c.c436]
 simp -implicitDefEqProofs [x436, h1, e1, e2]
theorem zix (c : MapLaw code) {tx b : Bool} {fv lv : IV} {bs : List (Int × Int)} (hr : Reads tII lv bs) (hb : bs.length ≤ 100) {n : Nat} (hn : n ≤ 60) {ts : List Tri} {zs ws : List Int} {W B : List Nat} {e : Nat} (h : A1 tx n ts zs ws W B e) :
  ∃ M, den code ext x428T ⟨0, (a1St fv lv tx b n (flatT ts) zs ws W B e).env ++ [(46, avb false)], (a1St fv lv tx b n (flatT ts) zs ws W B e).mem⟩ = some (.ret, ⟨0, [(6, avb true)], M⟩) := by
 by_cases hn0 : n = 0
 ·subst hn0
  exact ziz c hr hb h
 ·exact ziy c hr hb hn hn0 h
set_option maxHeartbeats 4000000 in
theorem zjq (c : MapLaw code) (h428 : code 428 = some x428) (hal : callW code ext 434 [] [] = some (avb true, [])) {fv lv : IV} {fs bs : List (Int × Int)} (ha : Reads tII fv fs) (hl : Reads tII lv bs) (tx : Bool) :
  ∃ M, callW code ext 428 [.imm fv, .imm lv, avb tx] [] = some (avb true, M) := by
 rw [zb5 code ext h428, zrl]
 have e1 := zmf ha
 have e2 := zmf hl
 by_cases hA : fs.length ≤ 60
 ·by_cases hB : bs.length ≤ 100
  ·have f1 := zgc (code := code) (ext := ext) c.toTextCode
   have hi0 : HI (List.replicate 40000 0) (List.replicate 626 0) 0 := HI.new 40000 (by decide) (by decide)
   have l1 : (List.replicate 40000 (0 : Nat)).length = 40000 := List.length_replicate
   have l2 : (List.replicate 626 (0 : Nat)).length = 626 := List.length_replicate
   generalize List.replicate 40000 (0 : Nat) = W at *
   generalize List.replicate 626 (0 : Nat) = B at *
   have hL1 : A1 tx 0 [] [] [] W B 0 := ⟨⟨hi0, l1, l2, fun t ht => (by cases ht), ⟨rfl, rfl, rfl, fun j w hw => (by cases hw), fun z hz => (by cases hz), List.nodup_nil⟩⟩, rfl, by omega, fun h => absurd rfl h⟩
   obtain ⟨x, s', f2, _, rfl, b, ts, zs, ws, W1, B1, e3, h1, rfl⟩ := zam (code := code) (ext := ext) (lv := lv) c (tx := tx) ha hA fs.length ⟨0, [(0, .imm fv), (1, .imm lv), (7, .optr 4 0), (8, .clo 429 [.optr 0 0, .optr 4 0]), (10, nilS), (11, .optr 6 0), (12, .optr 7 0), (13, .clo 431 [.optr 6 0, .optr 5 0, .optr 7 0]), (14, int64 0)], [.rich [avb tx], .rich [.osl 2 0 1 40000 (some 40000), .osl 3 0 1 626 (some 626), int64 0], .flat (urow W) false, .flat (urow B) false, .rich [.optr 1 0], .rich [.clo 430 [.optr 0 0]], .rich [nilS], .rich [nilS]]⟩
    ⟨0, false, [], [], [], W, B, 0, rfl, hL1, by
     unfold a1St
     rw [if_pos rfl]
     simp -implicitDefEqProofs []⟩
   obtain ⟨M, f3⟩ := zix (code := code) (ext := ext) (b := b) (fv := fv) c hl hB hA h1
   generalize (a1St fv lv tx b fs.length (flatT ts) zs ws W1 B1 e3).mem = M1 at *
   generalize (a1St fv lv tx b fs.length (flatT ts) zs ws W1 B1 e3).env = E1 at *
   have e3 : ¬ (60 : Int) < fs.length := by omega
   have e3' : ¬ 60 < fs.length := by omega
   have e4 : ¬ (100 : Int) < bs.length := by omega
   have e4' : ¬ 100 < bs.length := by omega
   simp only [hMem, l1, l2, Int.natCast_zero] at f1
   simp -implicitDefEqProofs [x428H, hal, f1, f2, f3, e1, e2, e3, e3', e4, e4']
   by_cases hM : M = []
   ·exact ⟨M, by rw [if_pos hM]⟩
   ·exact ⟨[], by rw [if_neg hM]⟩
  ·have e3 : ¬ (60 : Int) < fs.length := by omega
   have e3' : ¬ 60 < fs.length := by omega
   have e4 : (100 : Int) < bs.length := by omega
   have e4' : 100 < bs.length := by omega
   simp -implicitDefEqProofs [x428H, hal, e1, e2, e3, e3', e4, e4']
 ·have e3 : (60 : Int) < fs.length := by omega
  have e3' : 60 < fs.length := by omega
  simp -implicitDefEqProofs [x428H, hal, e1, e2, e3, e3']
end
end Go.EX


set_option linter.unusedVariables false
set_option linter.unusedSimpArgs false
namespace Go.EX
structure OT (s : List UInt8) (W B : List Nat) (e : Nat) : Prop where
 hi : HI W B e
 at0 : TextAt W B e 0 s
 len : W.length = 2000
 lenB : B.length = 32
theorem OT.more {s t : List UInt8} {W B W' B' : List Nat} {e : Nat} (h : OT s W B e) (hm : Making W B e t (tN t) W' B') : OT s W' B' (e + 2 + tN t) := by
 refine ⟨hm.hi, h.at0.more (by omega) hm.old hm.bits, hm.sz.trans h.len, ?_⟩
 have h1 := hm.hi.bl
 have h2 := hm.sz
 have h3 := h.len
 rw [h2, h3] at h1
 simpa using h1
section
variable {code : Nat → Option XFun} {ext : Calls'}
end
end Go.EX


set_option linter.unusedVariables false
set_option linter.unusedSimpArgs false
namespace Go.EX
theorem alive3 (ext : Calls') : callW code3 ext 434 [] [] = some (.imm (.val (.bool true)), []) := (zb6 code3 ext).2 ⟨60, by kernel_rfl⟩
end Go.EX


set_option linter.unusedVariables false
namespace Go.EX
theorem textCode3 : TextCode code3 := ⟨⟨rfl, rfl, rfl, rfl, rfl⟩, rfl, rfl, rfl, rfl, rfl, rfl, rfl, rfl, rfl, rfl, rfl, rfl, rfl, rfl, rfl, rfl, rfl, rfl, rfl, rfl, rfl, rfl, rfl, rfl, rfl, rfl, rfl, rfl, rfl⟩
end Go.EX


set_option linter.unusedVariables false
namespace Go.EX
theorem mapLaw3 : MapLaw code3 := ⟨⟨textCode3, rfl, rfl, rfl, rfl, rfl, rfl, rfl, rfl, rfl, rfl, rfl, rfl, rfl, rfl, rfl, rfl, rfl, rfl⟩, rfl, rfl, rfl⟩
theorem objectIsMap3 (ext : Calls') {fv lv : IV} {fs bs : List (Int × Int)} (ha : Reads tII fv fs) (hl : Reads tII lv bs) (tx : Bool) :
  ∃ M, callW code3 ext 428 [.imm fv, .imm lv, .imm (.val (.bool tx))] [] = some (avb true, M) := zjq mapLaw3 rfl (alive3 ext) ha hl tx
end Go.EX

