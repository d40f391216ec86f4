import Derived.Test.YtbomedbbgfcncaaDoorK11
import Derived.Test.YtbomedbbgfcncaaDoorK9
import Derived.Test.YtbomedbbgfcncaaDoorK4
import Derived.Test.YtbomedbbgfcncaaDoorK10
set_option maxHeartbeats 2000000
set_option linter.unusedVariables false
set_option linter.unusedSimpArgs false
namespace Go.EX
def x447VL1 : XCode :=
 (.seq (.seq (.region [0, 3, 5, 7, 8, 9, 10, 11, 34] [⟨(some 27), .mv (.t 11), none⟩,
  ⟨(some 28), .mv (.t 0), none⟩,
  ⟨(some 29), .mv (.t 9), none⟩,
  ⟨(some 30), .idxA 5 (.t 28) (.t 29), none⟩,
  ⟨(some 31), .fieldA 2 (.t 30), none⟩,
  ⟨(some 32), .load none (.t 31), none⟩,
  ⟨(some 33), .len (.t 32), none⟩,
  ⟨(some 34), .bin .lss (.t 27) (.t 33), none⟩])
 (.cond (.t 34)
  .skip
  (.exit 2)))
 (.seq (.block 3 (.region [0, 3, 5, 7, 8, 9, 10, 11] [⟨(some 37), .fieldA 2 (.t 10), none⟩,
  ⟨(some 38), .load none (.t 37), none⟩,
  ⟨(some 39), .mv (.t 7), none⟩,
  ⟨(some 40), .mv (.t 0), none⟩,
  ⟨(some 41), .mv (.t 9), none⟩,
  ⟨(some 42), .idxA 5 (.t 40) (.t 41), none⟩,
  ⟨(some 43), .fieldA 2 (.t 42), none⟩,
  ⟨(some 44), .load none (.t 43), none⟩,
  ⟨(some 45), .mv (.t 11), none⟩,
  ⟨(some 46), .idxA 2 (.t 44) (.t 45), none⟩,
  ⟨(some 47), .load (some 2) (.t 46), none⟩,
  ⟨(some 48), .callP (.t 39) [(.t 47)], none⟩,
  ⟨(some 49), .buildSlice 2 [(.int .u8 0), (.int .i64 0)] 1 [(0, 2, (.t 48))], none⟩,
  ⟨(some 50), .append 2 16 (.t 38) (.t 49), none⟩,
  ⟨(some 51), .fieldA 2 (.t 10), none⟩,
  ⟨none, .store 1 (.t 51) (.t 50), none⟩]))
 (.region [0, 3, 5, 7, 8, 9, 10, 11] [⟨(some 35), .mv (.t 11), none⟩,
  ⟨(some 36), .bin .add (.t 35) (.c (.int .i64 1)), none⟩,
  ⟨(some 11), .mv (.t 36), none⟩])))
def x447VL2 : XCode :=
 (.seq (.seq (.region [0, 3, 5, 7, 8, 9, 19] [⟨(some 18), .mv (.t 9), none⟩,
  ⟨(some 19), .bin .geq (.t 18) (.c (.int .i64 0)), none⟩])
 (.cond (.t 19)
  .skip
  (.exit 0)))
 (.seq (.block 1 (.seq (.region [0, 3, 5, 7, 8, 9, 10] [⟨(some 22), .mv (.t 0), none⟩,
  ⟨(some 23), .mv (.t 9), none⟩,
  ⟨(some 24), .idxA 5 (.t 22) (.t 23), none⟩,
  ⟨(some 25), .load (some 5) (.t 24), none⟩,
  ⟨(some 10), .alloc [(.int .u8 0), (.string .empty), (.slice none 0 0), (.int .i64 0), (.int .i64 0)], none⟩,
  ⟨none, .store 5 (.t 10) (.t 25), none⟩])
 (.seq (.region [0, 3, 5, 7, 8, 9, 10] [⟨(some 26), .fieldA 2 (.t 10), none⟩,
  ⟨none, .store 1 (.t 26) (.c (.slice none 0 0)), none⟩])
 (.seq (.seq (.region [0, 3, 5, 7, 8, 9, 10, 11] [⟨(some 11), .mv (.c (.int .i64 0)), none⟩])
 (.block 2 (.loop [0, 3, 5, 7, 8, 9, 10, 11] x447VL1)))
 (.region [0, 3, 5, 7, 8, 9] [⟨(some 52), .mv (.t 8), none⟩,
  ⟨(some 53), .load (some 5) (.t 10), none⟩,
  ⟨(some 54), .buildSlice 5 [(.int .u8 0), (.string .empty), (.slice none 0 0), (.int .i64 0), (.int .i64 0)] 1 [(0, 5, (.t 53))], none⟩,
  ⟨(some 55), .append 5 64 (.t 52) (.t 54), none⟩,
  ⟨(some 8), .frz (.t 55), none⟩])))))
 (.region [0, 3, 5, 7, 8, 9] [⟨(some 20), .mv (.t 9), none⟩,
  ⟨(some 21), .bin .sub (.t 20) (.c (.int .i64 1)), none⟩,
  ⟨(some 9), .mv (.t 21), none⟩])))
def x447V : XFun := ⟨[.tmp 4, .cell 5 (some 2)],
 (.seq (.region [0, 3, 5] [⟨(some 3), .box 2 (.t 1), none⟩,
  ⟨(some 4), .mv (.c (.slice none 0 0)), none⟩,
  ⟨(some 5), .alloc [(.int .u8 0), (.int .i64 0)], none⟩])
 (.seq (.region [0, 3, 5, 6] [⟨(some 12), .mv (.t 0), none⟩,
  ⟨(some 13), .len (.t 12), none⟩,
  ⟨(some 6), .alloc [(.int .i64 0)], none⟩,
  ⟨none, .store 1 (.t 6) (.t 13), none⟩])
 (.seq (.region [0, 3, 5, 7] [⟨(some 14), .mkClo 448 [(.t 6)], none⟩,
  ⟨(some 7), .mv (.t 14), none⟩])
 (.seq (.region [0, 3, 5, 7, 8] [⟨(some 8), .mv (.c (.slice none 0 0)), none⟩])
 (.seq (.seq (.region [0, 3, 5, 7, 8, 9] [⟨(some 15), .mv (.t 0), none⟩,
  ⟨(some 16), .len (.t 15), none⟩,
  ⟨(some 17), .bin .sub (.t 16) (.c (.int .i64 1)), none⟩,
  ⟨(some 9), .mv (.t 17), none⟩])
 (.block 0 (.loop [0, 3, 5, 7, 8, 9] x447VL2)))
 (.seq (.region [4, 5] [⟨(some 56), .mv (.t 8), none⟩,
  ⟨(some 57), .mv (.t 7), none⟩,
  ⟨(some 58), .load (some 2) (.t 3), none⟩,
  ⟨(some 59), .callV (.t 57) [(.t 58)], none⟩,
  ⟨(some 4), .mv (.t 56), none⟩,
  ⟨none, .store 2 (.t 5) (.t 59), none⟩])
 .ret))))))⟩
def turnV (n : Nat) (v : Val) : Val := if 3 ≤ v.k ∧ 1 ≤ v.n ∧ v.n ≤ n then ⟨v.k, n + 1 - v.n⟩ else v
theorem zp4 {n : Nat} (hn : n ≤ 140737488355328) {v : Val} (h : tVal.wf v) : tVal.wf (turnV n v) := by
 unfold turnV
 split
 ·rename_i hc
  refine ⟨h.1, ?_⟩
  have := hc.2.1
  have := hc.2.2
  exact wfI64.2 (by dsimp only; omega)
 ·exact h
def ivOf (xs : List Val) : IV := if xs = [] then .val (.slice none 0 0) else .slice (tVal.row xs) 0 xs.length none
theorem zgh {xs : List Val} (h : ∀ x ∈ xs, tVal.wf x) (hl : xs.length ≤ 140737488355328) : Reads tVal (ivOf xs) xs := by
 unfold ivOf
 split
 ·rename_i h0
  subst h0
  exact ⟨by simp, by simp, .inl ⟨rfl, rfl⟩⟩
 ·exact zlw _ _ h hl (fun c hc => by cases hc)
open Classical in
noncomputable def turnSl (n : Nat) (l : Sl tVal) : Sl tVal :=
 if h : (∀ x ∈ l.xs.map (turnV n), tVal.wf x) then ⟨ivOf (l.xs.map (turnV n)), l.xs.map (turnV n), zgh h (by rw [List.length_map]; exact l.ok.2.1)⟩ else l
theorem zpz {n : Nat} (hn : n ≤ 140737488355328) (l : Sl tVal) : (turnSl n l).iv = ivOf (l.xs.map (turnV n)) ∧ (turnSl n l).xs = l.xs.map (turnV n) := by
 have h : ∀ x ∈ l.xs.map (turnV n), tVal.wf x := fun x hx => by
  obtain ⟨y, hy, rfl⟩ := List.mem_map.1 hx
  exact zp4 hn (l.ok.1 y hy)
 unfold turnSl
 rw [dif_pos h]
 exact ⟨rfl, rfl⟩
noncomputable def turnO (n : Nat) (o : Obj) : Obj := ⟨o.k, o.s, turnSl n o.l, o.room, o.fn⟩
section
variable {code : Nat → Option XFun} {ext : Calls'}
theorem zp3 (h : code 448 = some x448) (n : Nat) (hn : n ≤ 140737488355328) (v : Val) (hv : tVal.wf v) :
  callW code ext 448 [.agg [.imm (.val (.int .u8 v.k)), int64 v.n], .optr 0 0] [.rich [int64 n]] = some (.agg [.imm (.val (.int .u8 (turnV n v).k)), int64 (turnV n v).n], [.rich [int64 n]]) := by
 rw [zbe code ext h]
 have e1 : IntKind.wrap .i64 ((n : Int) + 1) = (n : Int) + 1 := wrapI64 (by omega) (by omega)
 unfold turnV
 by_cases c1 : 3 ≤ v.k
 ·by_cases c2 : 1 ≤ v.n
  ·by_cases c3 : v.n ≤ n
   ·have e2 : IntKind.wrap .i64 ((n : Int) + 1 - v.n) = (n : Int) + 1 - v.n := wrapI64 (by omega) (by omega)
    simp -implicitDefEqProofs [x448, c1, c2, c3, e1, e2]
   ·simp -implicitDefEqProofs [x448, c1, c2, c3]
  ·simp -implicitDefEqProofs [x448, c1, c2]
 ·simp -implicitDefEqProofs [x448, c1]
theorem zop {p : Option (XExit × St)} {k : List Nat} {X : St} (h : p.map (fun q => (q.1, q.2.tidy k)) = some (.normal, X)) : ∃ s', p = some (.normal, s') ∧ s'.tidy k = X := by
 cases p with
 | none => cases h
 | some q =>
  obtain ⟨e, s'⟩ := q
  simp only [Option.map_some, Option.some.injEq, Prod.mk.injEq] at h
  obtain ⟨rfl, h⟩ := h
  exact ⟨s', rfl, h⟩
def turnBase (v : Val) (n : Nat) : Mem := [.rich [.imm (.val (.int .u8 v.k)), int64 v.n], .rich [.imm (.val (.int .u8 0)), int64 0], .rich [int64 n]]
def turnMemN (v : Val) (n : Nat) (o : Obj) (j : Nat) : Mem := if j = 0 then turnBase v n ++ [.rich [.imm (.val (.int .u8 o.k)), .imm (.val (.string o.s)), nilS, int64 o.room, int64 o.fn]] else turnBase v n ++ [.rich [.imm (.val (.int .u8 o.k)), .imm (.val (.string o.s)), .osl 4 0 2 j none, int64 o.room, int64 o.fn], .flat (tVal.row ((o.l.xs.take j).map (turnV n))) false]
theorem zpr (h : code 448 = some x448) (v : Val) (n : Nat) (hn : n ≤ 140737488355328) {row : List IV} {off : Nat} {cap : Option Nat} {S : List Obj} (hr : Reads tObj (.slice row off S.length cap) S) (i : Nat) (o : Obj) (ho : S[i]? = some o) (j : Nat) (hj : j < o.l.xs.length) (hL : o.l.xs.length ≤ 5000) :
  ∃ s', den code ext x447VL1 ⟨0, [(0, .imm (.slice row off S.length cap)), (3, .optr 0 0), (5, .optr 1 0), (7, .clo 448 [.optr 2 0]), (8, nilS), (9, int64 (i : Nat)), (10, .optr 3 0), (11, int64 (j : Nat))], turnMemN v n o j⟩ = some (.normal, s') ∧ s'.tidy [0, 3, 5, 7, 8, 9, 10, 11] = ⟨0, [(0, .imm (.slice row off S.length cap)), (3, .optr 0 0), (5, .optr 1 0), (7, .clo 448 [.optr 2 0]), (8, nilS), (9, int64 (i : Nat)), (10, .optr 3 0), (11, int64 ((j : Int) + 1))], turnMemN v n o (j + 1)⟩ := by
 have hil := (List.getElem?_eq_some_iff.1 ho).1
 obtain ⟨row', off', cap', he, _, _, hget⟩ := zlv hr ho
 cases he
 simp only [tObj] at hget
 have g2 : row[off + i * 5 + 2]? = some o.l.iv := zcc hget 2 (by omega)
 have hx := List.getElem?_eq_getElem hj
 have hlen := zlu o.l.ok
 have hbl := o.l.ok.2.1
 have hw := o.l.ok.1 _ (List.getElem_mem hj)
 have hok := o.l.ok
 have htk : (o.l.xs.take (j + 1)).map (turnV n) = (o.l.xs.take j).map (turnV n) ++ [turnV n o.l.xs[j]] := by rw [List.take_add_one, hx, List.map_append]; rfl
 generalize o.l.xs[j] = w at hx hw htk
 generalize o.l.iv = lv at *
 obtain ⟨lrow, loff, lcap, rfl, _, _, hg⟩ := zlv hok hx
 simp only [tVal] at hg
 have ht := zp3 (ext := ext) h n hn w hw
 have e1 : IntKind.wrap .i64 ((j : Int) + 1) = (j : Int) + 1 := wrapI64 (by omega) (by omega)
 have hrow : tVal.row ((o.l.xs.take (j + 1)).map (turnV n)) = tVal.row ((o.l.xs.take j).map (turnV n)) ++ [.val (.int .u8 (turnV n w).k), .val (.int .i64 (turnV n w).n)] := by rw [htk, ← zmv]; rfl
 have hcut : cut (tVal.row ((o.l.xs.take j).map (turnV n))) 0 (j * 2) = some (tVal.row ((o.l.xs.take j).map (turnV n))) := by
  have := zcg tVal ((o.l.xs.take j).map (turnV n))
  rw [List.length_map, List.length_take, Nat.min_eq_left (by omega)] at this
  exact this
 have hbd : (j + 1) * 16 ≤ 140737488355328 := by omega
 generalize turnV n w = y at *
 unfold turnMemN
 rw [if_neg (Nat.succ_ne_zero j), hrow]
 have hla : lenOf (.imm (.slice lrow loff o.l.xs.length lcap)) = some o.l.xs.length := rfl
 clear hrow htk hx ho hr hn hw hok
 generalize tVal.row ((o.l.xs.take j).map (turnV n)) = Y at *
 generalize o.l.xs.length = ll at *
 by_cases h0 : j = 0
 ·subst h0
  have hY : Y = [] := by
   have hh : cut Y 0 0 = some Y := by simpa using hcut
   have h3 := zcd hh
   exact List.eq_nil_of_length_eq_zero h3
  subst hY
  rw [if_pos rfl]
  simp only [Nat.zero_mul, Nat.add_zero] at hg
  refine zop ?_
  have e0 : IntKind.wrap .i64 1 = 1 := by decide
  simp -implicitDefEqProofs [x447VL1, turnBase, hil, hj, hlen, g2, hg, ht, hla, e0, exAppendX, exAppend, exAppendR, elems, elemsR]
 ·rw [if_neg h0]
  refine zop ?_
  simp -implicitDefEqProofs [x447VL1, turnBase, hil, hj, hlen, g2, hg, ht, hla, e1, hcut, hbd, h0, exAppendX, exAppend, exAppendR, elems, elemsR]
theorem zpp (h : code 448 = some x448) (v : Val) (n : Nat) (hn : n ≤ 140737488355328) {row : List IV} {off : Nat} {cap : Option Nat} {S : List Obj} (hr : Reads tObj (.slice row off S.length cap) S) (i : Nat) (o : Obj) (ho : S[i]? = some o) (hL : o.l.xs.length ≤ 5000) {s : St}
  (hst : s.tidy [0, 3, 5, 7, 8, 9, 10, 11] = ⟨0, [(0, .imm (.slice row off S.length cap)), (3, .optr 0 0), (5, .optr 1 0), (7, .clo 448 [.optr 2 0]), (8, nilS), (9, int64 (i : Nat)), (10, .optr 3 0), (11, int64 0)], turnMemN v n o 0⟩) :
  den code ext (.loop [0, 3, 5, 7, 8, 9, 10, 11] x447VL1) s = some (.exit 2, ⟨0, [(0, .imm (.slice row off S.length cap)), (3, .optr 0 0), (5, .optr 1 0), (7, .clo 448 [.optr 2 0]), (8, nilS), (9, int64 (i : Nat)), (10, .optr 3 0), (11, int64 (o.l.xs.length : Nat))] ++ [(34, avb false)], turnMemN v n o o.l.xs.length⟩) := by
 obtain ⟨e, s', h2, _, rfl, rfl⟩ := zho (code := code) (ext := ext) (keep := [0, 3, 5, 7, 8, 9, 10, 11]) (b := x447VL1) (fun c s => ∃ j, j + c = o.l.xs.length ∧ s.tidy [0, 3, 5, 7, 8, 9, 10, 11] = ⟨0, [(0, .imm (.slice row off S.length cap)), (3, .optr 0 0), (5, .optr 1 0), (7, .clo 448 [.optr 2 0]), (8, nilS), (9, int64 (i : Nat)), (10, .optr 3 0), (11, int64 (j : Nat))], turnMemN v n o j⟩)
  (fun e s' => e = .exit 2 ∧ s' = ⟨0, [(0, .imm (.slice row off S.length cap)), (3, .optr 0 0), (5, .optr 1 0), (7, .clo 448 [.optr 2 0]), (8, nilS), (9, int64 (i : Nat)), (10, .optr 3 0), (11, int64 (o.l.xs.length : Nat))] ++ [(34, avb false)], turnMemN v n o o.l.xs.length⟩) (fun c s => by
  rintro ⟨j, hj, hst⟩
  rw [hst]
  by_cases hlt : j < o.l.xs.length
  ·obtain ⟨s', g1, g2⟩ := zpr (code := code) (ext := ext) h v n hn hr i o ho j hlt hL
   exact ⟨.normal, s', g1, .inl ⟨rfl, c - 1, by omega, j + 1, by omega, by rw [g2]; rfl⟩⟩
  ·have : j = o.l.xs.length := by omega
   subst this
   have hil := (List.getElem?_eq_some_iff.1 ho).1
   obtain ⟨row', off', cap', he, _, _, hget⟩ := zlv hr ho
   cases he
   simp only [tObj] at hget
   have g2 : row[off + i * 5 + 2]? = some o.l.iv := zcc hget 2 (by omega)
   have hlen := zlu o.l.ok
   refine ⟨.exit 2, ⟨0, [(0, .imm (.slice row off S.length cap)), (3, .optr 0 0), (5, .optr 1 0), (7, .clo 448 [.optr 2 0]), (8, nilS), (9, int64 (i : Nat)), (10, .optr 3 0), (11, int64 (o.l.xs.length : Nat))] ++ [(34, avb false)], turnMemN v n o o.l.xs.length⟩, ?_, .inr ⟨by simp, rfl, rfl⟩⟩
   generalize turnMemN v n o o.l.xs.length = M
   clear hst
   generalize o.l.xs.length = ll at *
   generalize o.l.iv = lv at *
   simp -implicitDefEqProofs [x447VL1, hil, g2, hlen]) o.l.xs.length s ⟨0, by simp, by rw [hst]; rfl⟩
 exact h2
theorem zpq (h : code 448 = some x448) (v : Val) (n : Nat) (hn : n ≤ 140737488355328) {row : List IV} {off : Nat} {cap : Option Nat} {S : List Obj} (hr : Reads tObj (.slice row off S.length cap) S) (i : Nat) (o : Obj) (ho : S[i]? = some o) (hL : o.l.xs.length ≤ 5000) :
  ∃ s', den code ext x447VL2 ⟨0, [(0, .imm (.slice row off S.length cap)), (3, .optr 0 0), (5, .optr 1 0), (7, .clo 448 [.optr 2 0]), (8, nilS), (9, int64 (i : Nat))], turnBase v n⟩ = some (.normal, s') ∧
   s'.tidy [0, 3, 5, 7, 8, 9] = ⟨0, [(0, .imm (.slice row off S.length cap)), (3, .optr 0 0), (5, .optr 1 0), (7, .clo 448 [.optr 2 0]), (8, .osl 3 0 5 1 none), (9, int64 ((i : Int) - 1))], turnBase v n ++ [.flat (tObj.enc (turnO n o)) false]⟩ := by
 have hil := (List.getElem?_eq_some_iff.1 ho).1
 have hb := hr.2.1
 obtain ⟨row', off', cap', he, _, _, hget⟩ := zlv hr ho
 cases he
 simp only [tObj] at hget
 have hl := fun s hs => zpp (code := code) (ext := ext) h v n hn hr i o ho hL (s := s) hs
 have e1 : IntKind.wrap .i64 ((i : Int) - 1) = (i : Int) - 1 := wrapI64 (by omega) (by omega)
 have henc : tObj.enc (turnO n o) = [.val (.int .u8 o.k), .val (.string o.s), ivOf (o.l.xs.map (turnV n)), .val (.int .i64 o.room), .val (.int .i64 o.fn)] := by
  rw [← (zpz hn o.l).1]; rfl
 rw [henc]
 have h0 := hl ⟨0, [(0, .imm (.slice row off S.length cap)), (3, .optr 0 0), (5, .optr 1 0), (7, .clo 448 [.optr 2 0]), (8, nilS), (9, int64 (i : Nat)), (10, .optr 3 0), (11, int64 0)], turnMemN v n o 0⟩ (by unfold turnMemN; rw [if_pos rfl]; simp -implicitDefEqProofs [turnBase])
 unfold turnMemN at h0
 rw [if_pos rfl] at h0
 clear hl
 have hst := zn2
 refine zop ?_
 unfold x447VL2
 by_cases hz : o.l.xs.length = 0
 ·rw [if_pos hz] at h0
  have hxs : o.l.xs = [] := List.eq_nil_of_length_eq_zero hz
  rw [hz] at h0
  have hiv : ivOf (o.l.xs.map (turnV n)) = .val (.slice none 0 0) := by rw [hxs]; rfl
  rw [hiv]
  clear henc hz hiv hxs
  generalize x447VL1 = LL at *
  simp only [turnBase, nilS, List.cons_append, List.nil_append] at h0
  simp -implicitDefEqProofs [turnBase, nilS, hil, hget, h0, e1, exAppendX, exAppend, elems, exFrz]
 ·rw [if_neg hz] at h0
  have hiv : ivOf (o.l.xs.map (turnV n)) = .slice (tVal.row (o.l.xs.map (turnV n))) 0 o.l.xs.length none := by
   unfold ivOf
   rw [if_neg, List.length_map]
   intro hc
   exact hz (by rw [← List.length_map (f := turnV n), hc]; rfl)
  rw [hiv]
  rw [List.take_length] at h0
  clear henc hiv
  generalize tVal.row (o.l.xs.map (turnV n)) = Y at *
  generalize o.l.xs.length = ll at *
  generalize x447VL1 = LL at *
  simp only [turnBase, nilS, List.cons_append, List.nil_append] at h0
  simp -implicitDefEqProofs [turnBase, nilS, hil, hget, h0, e1, exAppendX, exAppend, exAppendR, elems, elemsR, exFrz, hst, settleAll, killAll]
def turnMemR (v : Val) (n : Nat) (o : Obj) (m : Nat) (R : List IV) (j : Nat) : Mem := if j = 0 then turnBase v n ++ [.flat R false, .rich [.imm (.val (.int .u8 o.k)), .imm (.val (.string o.s)), nilS, int64 o.room, int64 o.fn]] else turnBase v n ++ [.flat R false, .rich [.imm (.val (.int .u8 o.k)), .imm (.val (.string o.s)), .osl 5 0 2 j none, int64 o.room, int64 o.fn], .flat (tVal.row ((o.l.xs.take j).map (turnV n))) false]
theorem zpv (h : code 448 = some x448) (v : Val) (n : Nat) (hn : n ≤ 140737488355328) {row : List IV} {off : Nat} {cap : Option Nat} {S : List Obj} (hr : Reads tObj (.slice row off S.length cap) S) (m : Nat) (R : List IV) (i : Nat) (o : Obj) (ho : S[i]? = some o) (j : Nat) (hj : j < o.l.xs.length) (hL : o.l.xs.length ≤ 5000) :
  ∃ s', den code ext x447VL1 ⟨0, [(0, .imm (.slice row off S.length cap)), (3, .optr 0 0), (5, .optr 1 0), (7, .clo 448 [.optr 2 0]), (8, .osl 3 0 5 m none), (9, int64 (i : Nat)), (10, .optr 4 0), (11, int64 (j : Nat))], turnMemR v n o m R j⟩ = some (.normal, s') ∧ s'.tidy [0, 3, 5, 7, 8, 9, 10, 11] = ⟨0, [(0, .imm (.slice row off S.length cap)), (3, .optr 0 0), (5, .optr 1 0), (7, .clo 448 [.optr 2 0]), (8, .osl 3 0 5 m none), (9, int64 (i : Nat)), (10, .optr 4 0), (11, int64 ((j : Int) + 1))], turnMemR v n o m R (j + 1)⟩ := by
 have hil := (List.getElem?_eq_some_iff.1 ho).1
 obtain ⟨row', off', cap', he, _, _, hget⟩ := zlv hr ho
 cases he
 simp only [tObj] at hget
 have g2 : row[off + i * 5 + 2]? = some o.l.iv := zcc hget 2 (by omega)
 have hx := List.getElem?_eq_getElem hj
 have hlen := zlu o.l.ok
 have hbl := o.l.ok.2.1
 have hw := o.l.ok.1 _ (List.getElem_mem hj)
 have hok := o.l.ok
 have htk : (o.l.xs.take (j + 1)).map (turnV n) = (o.l.xs.take j).map (turnV n) ++ [turnV n o.l.xs[j]] := by rw [List.take_add_one, hx, List.map_append]; rfl
 generalize o.l.xs[j] = w at hx hw htk
 generalize o.l.iv = lv at *
 obtain ⟨lrow, loff, lcap, rfl, _, _, hg⟩ := zlv hok hx
 simp only [tVal] at hg
 have ht := zp3 (ext := ext) h n hn w hw
 have e1 : IntKind.wrap .i64 ((j : Int) + 1) = (j : Int) + 1 := wrapI64 (by omega) (by omega)
 have hrow : tVal.row ((o.l.xs.take (j + 1)).map (turnV n)) = tVal.row ((o.l.xs.take j).map (turnV n)) ++ [.val (.int .u8 (turnV n w).k), .val (.int .i64 (turnV n w).n)] := by rw [htk, ← zmv]; rfl
 have hcut : cut (tVal.row ((o.l.xs.take j).map (turnV n))) 0 (j * 2) = some (tVal.row ((o.l.xs.take j).map (turnV n))) := by
  have := zcg tVal ((o.l.xs.take j).map (turnV n))
  rw [List.length_map, List.length_take, Nat.min_eq_left (by omega)] at this
  exact this
 have hbd : (j + 1) * 16 ≤ 140737488355328 := by omega
 generalize turnV n w = y at *
 unfold turnMemR
 rw [if_neg (Nat.succ_ne_zero j), hrow]
 have hla : lenOf (.imm (.slice lrow loff o.l.xs.length lcap)) = some o.l.xs.length := rfl
 clear hrow htk hx ho hr hn hw hok
 generalize tVal.row ((o.l.xs.take j).map (turnV n)) = Y at *
 generalize o.l.xs.length = ll at *
 by_cases h0 : j = 0
 ·subst h0
  have hY : Y = [] := by
   have hh : cut Y 0 0 = some Y := by simpa using hcut
   have h3 := zcd hh
   exact List.eq_nil_of_length_eq_zero h3
  subst hY
  rw [if_pos rfl]
  simp only [Nat.zero_mul, Nat.add_zero] at hg
  refine zop ?_
  have e0 : IntKind.wrap .i64 1 = 1 := by decide
  simp -implicitDefEqProofs [x447VL1, turnBase, hil, hj, hlen, g2, hg, ht, hla, e0, exAppendX, exAppend, exAppendR, elems, elemsR]
 ·rw [if_neg h0]
  refine zop ?_
  simp -implicitDefEqProofs [x447VL1, turnBase, hil, hj, hlen, g2, hg, ht, hla, e1, hcut, hbd, h0, exAppendX, exAppend, exAppendR, elems, elemsR]
theorem zpt (h : code 448 = some x448) (v : Val) (n : Nat) (hn : n ≤ 140737488355328) {row : List IV} {off : Nat} {cap : Option Nat} {S : List Obj} (hr : Reads tObj (.slice row off S.length cap) S) (m : Nat) (R : List IV) (i : Nat) (o : Obj) (ho : S[i]? = some o) (hL : o.l.xs.length ≤ 5000) {s : St}
  (hst : s.tidy [0, 3, 5, 7, 8, 9, 10, 11] = ⟨0, [(0, .imm (.slice row off S.length cap)), (3, .optr 0 0), (5, .optr 1 0), (7, .clo 448 [.optr 2 0]), (8, .osl 3 0 5 m none), (9, int64 (i : Nat)), (10, .optr 4 0), (11, int64 0)], turnMemR v n o m R 0⟩) :
  den code ext (.loop [0, 3, 5, 7, 8, 9, 10, 11] x447VL1) s = some (.exit 2, ⟨0, [(0, .imm (.slice row off S.length cap)), (3, .optr 0 0), (5, .optr 1 0), (7, .clo 448 [.optr 2 0]), (8, .osl 3 0 5 m none), (9, int64 (i : Nat)), (10, .optr 4 0), (11, int64 (o.l.xs.length : Nat))] ++ [(34, avb false)], turnMemR v n o m R o.l.xs.length⟩) := by
 obtain ⟨e, s', h2, _, rfl, rfl⟩ := zho (code := code) (ext := ext) (keep := [0, 3, 5, 7, 8, 9, 10, 11]) (b := x447VL1) (fun c s => ∃ j, j + c = o.l.xs.length ∧ s.tidy [0, 3, 5, 7, 8, 9, 10, 11] = ⟨0, [(0, .imm (.slice row off S.length cap)), (3, .optr 0 0), (5, .optr 1 0), (7, .clo 448 [.optr 2 0]), (8, .osl 3 0 5 m none), (9, int64 (i : Nat)), (10, .optr 4 0), (11, int64 (j : Nat))], turnMemR v n o m R j⟩)
  (fun e s' => e = .exit 2 ∧ s' = ⟨0, [(0, .imm (.slice row off S.length cap)), (3, .optr 0 0), (5, .optr 1 0), (7, .clo 448 [.optr 2 0]), (8, .osl 3 0 5 m none), (9, int64 (i : Nat)), (10, .optr 4 0), (11, int64 (o.l.xs.length : Nat))] ++ [(34, avb false)], turnMemR v n o m R o.l.xs.length⟩) (fun c s => by
  rintro ⟨j, hj, hst⟩
  rw [hst]
  by_cases hlt : j < o.l.xs.length
  ·obtain ⟨s', g1, g2⟩ := zpv (code := code) (ext := ext) h v n hn hr m R i o ho j hlt hL
   exact ⟨.normal, s', g1, .inl ⟨rfl, c - 1, by omega, j + 1, by omega, by rw [g2]; rfl⟩⟩
  ·have : j = o.l.xs.length := by omega
   subst this
   have hil := (List.getElem?_eq_some_iff.1 ho).1
   obtain ⟨row', off', cap', he, _, _, hget⟩ := zlv hr ho
   cases he
   simp only [tObj] at hget
   have g2 : row[off + i * 5 + 2]? = some o.l.iv := zcc hget 2 (by omega)
   have hlen := zlu o.l.ok
   refine ⟨.exit 2, ⟨0, [(0, .imm (.slice row off S.length cap)), (3, .optr 0 0), (5, .optr 1 0), (7, .clo 448 [.optr 2 0]), (8, .osl 3 0 5 m none), (9, int64 (i : Nat)), (10, .optr 4 0), (11, int64 (o.l.xs.length : Nat))] ++ [(34, avb false)], turnMemR v n o m R o.l.xs.length⟩, ?_, .inr ⟨by simp, rfl, rfl⟩⟩
   generalize turnMemR v n o m R o.l.xs.length = M
   clear hst
   generalize o.l.xs.length = ll at *
   generalize o.l.iv = lv at *
   simp -implicitDefEqProofs [x447VL1, hil, g2, hlen]) o.l.xs.length s ⟨0, by simp, by rw [hst]; rfl⟩
 exact h2
theorem zpu (h : code 448 = some x448) (v : Val) (n : Nat) (hn : n ≤ 140737488355328) {row : List IV} {off : Nat} {cap : Option Nat} {S : List Obj} (hr : Reads tObj (.slice row off S.length cap) S) (m : Nat) (R : List IV) (hm : R.length = m * 5) (hm2 : m ≤ 1048576) (i : Nat) (o : Obj) (ho : S[i]? = some o) (hL : o.l.xs.length ≤ 5000) :
  ∃ s', den code ext x447VL2 ⟨0, [(0, .imm (.slice row off S.length cap)), (3, .optr 0 0), (5, .optr 1 0), (7, .clo 448 [.optr 2 0]), (8, .osl 3 0 5 m none), (9, int64 (i : Nat))], turnBase v n ++ [.flat R false]⟩ = some (.normal, s') ∧
   s'.tidy [0, 3, 5, 7, 8, 9] = ⟨0, [(0, .imm (.slice row off S.length cap)), (3, .optr 0 0), (5, .optr 1 0), (7, .clo 448 [.optr 2 0]), (8, .osl 3 0 5 (m + 1) none), (9, int64 ((i : Int) - 1))], turnBase v n ++ [.flat (R ++ tObj.enc (turnO n o)) false]⟩ := by
 have hil := (List.getElem?_eq_some_iff.1 ho).1
 have hb := hr.2.1
 obtain ⟨row', off', cap', he, _, _, hget⟩ := zlv hr ho
 cases he
 simp only [tObj] at hget
 have hl := fun s hs => zpt (code := code) (ext := ext) h v n hn hr m R i o ho hL (s := s) hs
 have e1 : IntKind.wrap .i64 ((i : Int) - 1) = (i : Int) - 1 := wrapI64 (by omega) (by omega)
 have henc : tObj.enc (turnO n o) = [.val (.int .u8 o.k), .val (.string o.s), ivOf (o.l.xs.map (turnV n)), .val (.int .i64 o.room), .val (.int .i64 o.fn)] := by
  rw [← (zpz hn o.l).1]; rfl
 rw [henc]
 have h0 := hl ⟨0, [(0, .imm (.slice row off S.length cap)), (3, .optr 0 0), (5, .optr 1 0), (7, .clo 448 [.optr 2 0]), (8, .osl 3 0 5 m none), (9, int64 (i : Nat)), (10, .optr 4 0), (11, int64 0)], turnMemR v n o m R 0⟩ (by unfold turnMemR; rw [if_pos rfl]; simp -implicitDefEqProofs [turnBase])
 unfold turnMemR at h0
 rw [if_pos rfl] at h0
 clear hl
 have hcut : cut R 0 (m * 5) = some R := zca _ hm
 have hbd : (m + 1) * 64 ≤ 140737488355328 := by omega
 have hst := zn2
 refine zop ?_
 unfold x447VL2
 by_cases hz : o.l.xs.length = 0
 ·rw [if_pos hz] at h0
  have hxs : o.l.xs = [] := List.eq_nil_of_length_eq_zero hz
  rw [hz] at h0
  have hiv : ivOf (o.l.xs.map (turnV n)) = .val (.slice none 0 0) := by rw [hxs]; rfl
  rw [hiv]
  clear henc hz hiv hxs
  generalize x447VL1 = LL at *
  simp only [turnBase, nilS, List.cons_append, List.nil_append] at h0
  simp -implicitDefEqProofs [turnBase, nilS, hil, hget, h0, e1, hcut, hbd, exAppendX, exAppend, elems, exFrz]
 ·rw [if_neg hz] at h0
  have hiv : ivOf (o.l.xs.map (turnV n)) = .slice (tVal.row (o.l.xs.map (turnV n))) 0 o.l.xs.length none := by
   unfold ivOf
   rw [if_neg, List.length_map]
   intro hc
   exact hz (by rw [← List.length_map (f := turnV n), hc]; rfl)
  rw [hiv]
  rw [List.take_length] at h0
  clear henc hiv
  generalize tVal.row (o.l.xs.map (turnV n)) = Y at *
  generalize o.l.xs.length = ll at *
  generalize x447VL1 = LL at *
  simp only [turnBase, nilS, List.cons_append, List.nil_append] at h0
  simp -implicitDefEqProofs [turnBase, nilS, hil, hget, h0, e1, hcut, hbd, exAppendX, exAppend, exAppendR, elems, elemsR, exFrz, hst, settleAll, killAll]
end
end Go.EX


set_option linter.unusedVariables false
set_option linter.unusedSimpArgs false
namespace Go.EX
noncomputable def doneO (S : List Obj) (m : Nat) : List Obj := ((S.drop (S.length - m)).map (turnO S.length)).reverse
noncomputable def turnS (S : List Obj) : List Obj := (S.map (turnO S.length)).reverse
theorem zcx (S : List Obj) {m : Nat} (h : m ≤ S.length) : (doneO S m).length = m := by
 unfold doneO
 rw [List.length_reverse, List.length_map, List.length_drop]
 omega
theorem zcw (S : List Obj) : doneO S S.length = turnS S := by simp [doneO, turnS]
theorem zcy (S : List Obj) {m i : Nat} (h : i + m + 1 = S.length) {o : Obj} (ho : S[i]? = some o) : tObj.row (doneO S (m + 1)) = tObj.row (doneO S m) ++ tObj.enc (turnO S.length o) := by
 obtain ⟨hi, hx⟩ := List.getElem?_eq_some_iff.1 ho
 have e : doneO S (m + 1) = doneO S m ++ [turnO S.length o] := by
  unfold doneO
  rw [show S.length - (m + 1) = i by omega, show S.length - m = i + 1 by omega, List.drop_eq_getElem_cons hi, hx]
  simp
 rw [e, ← zmv]
section
variable {code : Nat → Option XFun} {ext : Calls'}
abbrev turnEnv (sv : IV) (out : AV) (i : Int) : Env := [(0, .imm sv), (3, .optr 0 0), (5, .optr 1 0), (7, .clo 448 [.optr 2 0]), (8, out), (9, int64 i)]
noncomputable def turnOut (S : List Obj) (m : Nat) : AV := if m = 0 then nilS else .osl 3 0 5 m none
noncomputable def turnTail (S : List Obj) (m : Nat) : Mem := if m = 0 then [] else [.flat (tObj.row (doneO S m)) false]
theorem zp5 (h : code 448 = some x448) (v : Val) {sv : IV} {S : List Obj} (hr : Reads tObj sv S) (hS : S.length ≤ 1048576) (hL : ∀ o ∈ S, o.l.xs.length ≤ 5000) {s : St}
  (hst : s.tidy [0, 3, 5, 7, 8, 9] = ⟨0, turnEnv sv nilS ((S.length : Int) - 1), turnBase v S.length⟩) :
  den code ext (.loop [0, 3, 5, 7, 8, 9] x447VL2) s = some (.exit 0, ⟨0, turnEnv sv (turnOut S S.length) (-1) ++ [(19, avb false)], turnBase v S.length ++ turnTail S S.length⟩) := by
 obtain ⟨e, s', h2, _, rfl, rfl⟩ := zho (code := code) (ext := ext) (keep := [0, 3, 5, 7, 8, 9]) (b := x447VL2) (fun c s => ∃ m : Nat, m + c = S.length ∧ s.tidy [0, 3, 5, 7, 8, 9] = ⟨0, turnEnv sv (turnOut S m) ((S.length : Int) - 1 - m), turnBase v S.length ++ turnTail S m⟩)
  (fun e s' => e = .exit 0 ∧ s' = ⟨0, turnEnv sv (turnOut S S.length) (-1) ++ [(19, avb false)], turnBase v S.length ++ turnTail S S.length⟩) (fun c s => by
  rintro ⟨m, hm, hst⟩
  rw [hst]
  by_cases hlt : m < S.length
  ·obtain ⟨i, hi⟩ : ∃ i : Nat, i + m + 1 = S.length := ⟨S.length - m - 1, by omega⟩
   have hil : i < S.length := by omega
   have ho := List.getElem?_eq_getElem hil
   have hLo := hL _ (List.getElem_mem hil)
   have hrow := zcy S hi ho
   have hdl := zcx S (Nat.le_of_lt hlt)
   have hei : ((S.length : Int) - 1 - m) = (i : Int) := by omega
   have hen : ((S.length : Int) - 1 - (m + 1 : Nat)) = (i : Int) - 1 := by omega
   obtain ⟨row, off, cap, rfl, _, _, _⟩ := zlv hr ho
   generalize S[i] = o at *
   by_cases h0 : m = 0
   ·subst h0
    obtain ⟨s', g1, g2⟩ := zpq (code := code) (ext := ext) h v S.length (by omega) hr i o ho hLo
    refine ⟨.normal, s', ?_, .inl ⟨rfl, c - 1, by omega, 1, by omega, ?_⟩⟩
    ·rw [hei]
     simp only [turnOut, turnTail, if_true, List.append_nil]
     exact g1
    ·rw [g2]
     simp only [turnOut, turnTail, Nat.one_ne_zero, if_false]
     have hd0 : tObj.row (doneO S 0) = [] := by simp [doneO, Ty.row]
     rw [hd0, List.nil_append] at hrow
     rw [hrow, show ((S.length : Int) - 1 - ((1 : Nat) : Int)) = (i : Int) - 1 by omega]
   ·obtain ⟨s', g1, g2⟩ := zpu (code := code) (ext := ext) h v S.length (by omega) hr m (tObj.row (doneO S m)) (by rw [zms, hdl]; rfl) (by omega) i o ho hLo
    refine ⟨.normal, s', ?_, .inl ⟨rfl, c - 1, by omega, m + 1, by omega, ?_⟩⟩
    ·rw [hei]
     simp only [turnOut, turnTail, if_neg h0]
     exact g1
    ·rw [g2]
     simp only [turnOut, turnTail, Nat.succ_ne_zero, if_false]
     rw [hrow, hen]
  ·have : m = S.length := by omega
   subst this
   refine ⟨.exit 0, ⟨0, turnEnv sv (turnOut S S.length) (-1) ++ [(19, avb false)], turnBase v S.length ++ turnTail S S.length⟩, ?_, .inr ⟨by simp, rfl, rfl⟩⟩
   rw [show ((S.length : Int) - 1 - (S.length : Nat)) = -1 by omega]
   generalize turnBase v S.length ++ turnTail S S.length = M
   generalize turnOut S S.length = O
   simp -implicitDefEqProofs [x447VL2]) S.length s ⟨0, by simp, by
    rw [hst]
    simp only [turnOut, turnTail, if_true, List.append_nil]
    rw [show ((S.length : Int) - 1 - ((0 : Nat) : Int)) = (S.length : Int) - 1 by omega]⟩
 exact h2
theorem zp7 (h : code 448 = some x448) (h2 : code 447 = some x447V) (v : Val) (hv : tVal.wf v) {sv : IV} {S : List Obj} (hr : Reads tObj sv S) (hS : S.length ≤ 1048576) (hL : ∀ o ∈ S, o.l.xs.length ≤ 5000) :
  callW code ext 447 [.imm sv, .agg [.imm (.val (.int .u8 v.k)), int64 v.n]] [] = some (.tup [if S.length = 0 then nilS else .osl 0 0 5 S.length none, .agg [.imm (.val (.int .u8 (turnV S.length v).k)), int64 (turnV S.length v).n]], turnTail S S.length) := by
 have hlen := zlu hr
 have e1 : IntKind.wrap .i64 ((S.length : Int) - 1) = (S.length : Int) - 1 := wrapI64 (by omega) (by omega)
 have hl := zp5 (code := code) (ext := ext) h v hr hS hL (s := ⟨0, turnEnv sv nilS ((S.length : Int) - 1), turnBase v S.length⟩) (by
  generalize (S.length : Int) - 1 = q
  simp -implicitDefEqProofs [turnBase])
 have ht := zp3 (ext := ext) h S.length (by omega) v hv
 rw [zbe code ext h2]
 unfold x447V
 unfold turnTail turnOut at *
 clear hr hL
 generalize x447VL2 = LL at *
 generalize tObj.row (doneO S S.length) = R at *
 generalize turnV S.length v = w at *
 generalize S.length = sl at *
 by_cases h0 : sl = 0
 ·rw [if_pos h0, if_pos h0] at hl
  rw [if_pos h0, if_pos h0]
  simp only [turnBase, turnEnv, List.append_nil, nilS] at hl
  simp -implicitDefEqProofs [hlen, e1, hl, ht, nilS]
 ·rw [if_neg h0, if_neg h0] at hl
  rw [if_neg h0, if_neg h0]
  simp only [turnBase, turnEnv, List.cons_append, List.nil_append, nilS] at hl
  simp -implicitDefEqProofs [hlen, e1, hl, ht, nilS]
end
end Go.EX


set_option linter.unusedVariables false
set_option linter.unusedSimpArgs false
namespace Go.EX
open Classical
noncomputable def wordsN (S : List Obj) (roots : List Val) : Nat := ((List.range S.length).map fun k => if Reach S roots k then wordsAt S k else 0).sum
theorem zo1 (p : Nat → Prop) (f : Nat → Nat) : ∀ l : List Nat, ((l.filter fun k => decide (p k)).map f).sum = (l.map fun k => if p k then f k else 0).sum
 | [] => rfl
 | x :: r => by
  have ih := zo1 p f r
  by_cases h : p x
  ·simp [h, ih]
  ·simp [h, ih]
theorem zqy {S : List Obj} {roots : List Val} {out : List Nat} (hg : Grown S roots out out.length) : (out.map (wordsAt S)).sum = wordsN S roots := by
 unfold wordsN
 rw [← zo1 (Reach S roots) (wordsAt S)]
 refine List.Perm.sum_nat (List.Perm.map _ ((List.perm_ext_iff_of_nodup hg.nodup (List.nodup_range.filter _)).2 fun k => ?_))
 rw [hg.done (Nat.le_refl _), List.mem_filter, List.mem_range]
 constructor
 ·intro h; exact ⟨h.lt, by simpa using h⟩
 ·rintro ⟨_, h⟩; simpa using h
end Go.EX


set_option linter.unusedVariables false
set_option linter.unusedSimpArgs false
namespace Go.EX
theorem zp0 (n : Nat) (v : Val) : (turnV n v).k = v.k := by unfold turnV; split <;> rfl
theorem zp1 (n : Nat) {v : Val} (h : v.k < 3) : turnV n v = v := by
 unfold turnV
 rw [if_neg]
 rintro ⟨h1, _⟩
 omega
theorem zp2 (n : Nat) {a b : Val} (hk : a.k = b.k) : (turnV n a).n = (turnV n b).n ↔ a.n = b.n := by
 unfold turnV
 split
 ·rename_i ha
  split
  ·rename_i hb
   dsimp only
   omega
  ·rename_i hb
   dsimp only
   constructor
   ·intro h
    exact absurd ⟨by omega, by omega, by omega⟩ hb
   ·intro h
    exact absurd ⟨by omega, by omega, by omega⟩ hb
 ·rename_i ha
  split
  ·rename_i hb
   dsimp only
   constructor
   ·intro h
    exact absurd ⟨by omega, by omega, by omega⟩ ha
   ·intro h
    exact absurd ⟨by omega, by omega, by omega⟩ ha
  ·rfl
section
variable {S : List Obj} (hn : S.length ≤ 1048576)
include hn
theorem zps (o : Obj) : (turnO S.length o).l.xs = o.l.xs.map (turnV S.length) := (zpz (by omega) o.l).2
omit hn in
theorem zpx (S : List Obj) : (turnS S).length = S.length := by simp [turnS]
omit hn in
theorem zpw (S : List Obj) {i : Nat} (hi : i < S.length) : (turnS S)[i]? = (S[S.length - 1 - i]?).map (turnO S.length) := by
 unfold turnS
 rw [List.getElem?_reverse (by rw [List.length_map]; exact hi), List.length_map, List.getElem?_map]
omit hn in
theorem zpy {k : Nat} {o : Obj} (h : S[k]? = some o) : (turnS S)[S.length - 1 - k]? = some (turnO S.length o) := by
 have hk := (List.getElem?_eq_some_iff.1 h).1
 rw [zpw S (by omega), show S.length - 1 - (S.length - 1 - k) = k by omega, h]
 rfl
omit hn in
theorem zg4 (v : Val) : leadsOf (turnS S) (turnV S.length v) = (leadsOf S v).map fun k => S.length - 1 - k := by
 unfold leadsOf
 rw [zp0, zpx]
 by_cases c1 : v.k < 3
 ·rw [if_pos c1, if_pos c1]; rfl
 rw [if_neg c1, if_neg c1]
 by_cases c2 : 7 < v.k
 ·rw [if_pos c2, if_pos c2]; rfl
 rw [if_neg c2, if_neg c2]
 by_cases c3 : v.n < 1
 ·have : turnV S.length v = v := by
   unfold turnV
   rw [if_neg (fun c => by omega)]
  rw [this, if_pos c3, if_pos c3]; rfl
 by_cases c4 : (S.length : Int) < v.n
 ·have : turnV S.length v = v := by
   unfold turnV
   rw [if_neg (fun c => by omega)]
  rw [this, if_neg c3, if_pos c4, if_neg c3, if_pos c4]; rfl
 have ht : (turnV S.length v).n = S.length + 1 - v.n := by
  unfold turnV
  rw [if_pos ⟨by omega, by omega, by omega⟩]
 rw [ht, if_neg c3, if_neg c4, if_neg (by omega), if_neg (by omega)]
 obtain ⟨p, hp⟩ : ∃ p : Nat, v.n = (p : Int) + 1 := ⟨(v.n - 1).toNat, by omega⟩
 have e1 : (v.n - 1).toNat = p := by omega
 have e2 : ((S.length : Int) + 1 - v.n - 1).toNat = S.length - 1 - p := by omega
 rw [e1, e2]
 have hlt : p < S.length := by omega
 have hg := List.getElem?_eq_getElem hlt
 rw [hg, zpy hg]
 dsimp only
 show (if S[p].k = v.k then _ else _) = _
 split <;> rfl
omit hn in
theorem zjl (v : Val) : objOf (turnS S) (turnV S.length v) = (objOf S v).map (turnO S.length) := by
 unfold objOf
 rw [zg4]
 cases h : leadsOf S v with
 | none => rfl
 | some k =>
  have hk := (zg7 h).1
  simp only [Option.map_some, Option.bind_some]
  rw [zpy (List.getElem?_eq_getElem hk), List.getElem?_eq_getElem hk]
  rfl
omit hn in
theorem zkv (d : Bool) (v : Val) : pieceOf (turnS S) d (turnV S.length v) = pieceOf S d v := by
 unfold pieceOf
 rw [zp0]
 by_cases k0 : v.k = 0
 ·rw [if_pos k0, if_pos k0]
 rw [if_neg k0, if_neg k0]
 by_cases k1 : v.k = 1
 ·rw [if_pos k1, if_pos k1, zp1 _ (by omega)]
 rw [if_neg k1, if_neg k1]
 by_cases k2 : v.k = 2
 ·rw [if_pos k2, if_pos k2, zp1 _ (by omega)]
 rw [if_neg k2, if_neg k2, zjl]
 cases objOf S v with
 | none => rfl
 | some o => rfl
omit hn in
theorem zgd {f g : Val → ByteArray → ByteArray} {n : Nat} (h : ∀ v c, f (turnV n v) c = g v c) (m : Bool) : ∀ (l : List Val) (i : Nat) (c : ByteArray), itemsV f m (l.map (turnV n)) i c = itemsV g m l i c
 | [], i, c => rfl
 | v :: r, i, c => by
  simp only [List.map_cons, itemsV]
  split
  ·rfl
  ·rw [h]
   exact zgd h m r _ _
theorem zpe : ∀ (d : Nat) (v : Val) (c : ByteArray), tellV (turnS S) d (turnV S.length v) c = tellV S d v c
 | 0, v, c => by
  unfold tellV
  rw [zkv]
 | d + 1, v, c => by
  unfold tellV
  rw [zkv]
  cases pieceOf S (d + 1 == 0) v with
  | some x => rfl
  | none =>
   dsimp only
   rw [zjl]
   cases objOf S v with
   | none => rfl
   | some o =>
    dsimp only [Option.map_some]
    unfold rowV
    have hk : (turnO S.length o).k = o.k := rfl
    have hi := zgd (f := tellV (turnS S) d) (g := tellV S d) (n := S.length) (fun v c => zpe d v c)
    simp only [hk, zps hn o, hi, List.length_map]
omit hn in
theorem zqi (v : Val) : valOf (turnS S) (turnV S.length v) = valOf S v := by
 unfold valOf
 rw [zp0]
 by_cases k0 : v.k = 0
 ·rw [if_pos k0, if_pos k0, zp1 _ (by omega)]
 rw [if_neg k0, if_neg k0]
 by_cases k1 : v.k = 1
 ·rw [if_pos k1, if_pos k1, zp1 _ (by omega)]
 rw [if_neg k1, if_neg k1]
 by_cases k2 : v.k = 2
 ·rw [if_pos k2, if_pos k2]
 rw [if_neg k2, if_neg k2, zg4]
 cases leadsOf S v <;> rfl
omit hn in
theorem zft (l : List Val) (c : Bool) : heldOf (turnS S) (l.map (turnV S.length)) c = heldOf S l c := by
 unfold heldOf
 rw [List.all_map]
 congr 1
 funext v
 simp only [Function.comp_apply, zqi, zp0]
omit hn in
theorem znj {k : Nat} (h : k < S.length) : sAt (turnS S) (S.length - 1 - k) = sAt S k := by
 unfold sAt
 rw [zpy (List.getElem?_eq_getElem h), List.getElem?_eq_getElem h]
 rfl
omit hn in
theorem znr (a b : Val) : sameOf (turnS S) (turnV S.length a) (turnV S.length b) = sameOf S a b := by
 unfold sameOf
 rw [zp0, zp0]
 by_cases hk : a.k = b.k
 ·have hnk : ¬ (a.k ≠ b.k) := fun c => c hk
  rw [if_neg hnk, if_neg hnk]
  by_cases k0 : a.k = 0
  ·rw [if_pos k0, if_pos k0]
  rw [if_neg k0, if_neg k0]
  have hnn := zp2 S.length hk
  by_cases h : a.n = b.n
  ·rw [if_pos (hnn.2 h), if_pos h]
  rw [if_neg (fun c => h (hnn.1 c)), if_neg h]
  by_cases k3 : a.k = 3
  ·rw [if_pos k3, if_pos k3, zg4, zg4]
   cases ha : leadsOf S a with
   | none => rfl
   | some i =>
    cases hb : leadsOf S b with
    | none => rfl
    | some j =>
     simp only [Option.map_some]
     rw [znj (zg7 ha).1, znj (zg7 hb).1]
  ·rw [if_neg k3, if_neg k3]
 ·rw [if_pos hk, if_pos hk]
omit hn in
theorem zgv (l : List Val) : KeysOk (turnS S) (l.map (turnV S.length)) ↔ KeysOk S l := by
 unfold KeysOk
 constructor
 ·intro h i k a b h1 h2 h3 h4 h5
  rw [← znr]
  exact h i k _ _ h1 h2 h3 (by rw [List.getElem?_map, h4]; rfl) (by rw [List.getElem?_map, h5]; rfl)
 ·intro h i k a b h1 h2 h3 h4 h5
  rw [List.getElem?_map, Option.map_eq_some_iff] at h4 h5
  obtain ⟨a', h4, rfl⟩ := h4
  obtain ⟨b', h5, rfl⟩ := h5
  rw [znr]
  exact h i k _ _ h1 h2 h3 h4 h5
theorem zjc (o : Obj) : ObjOk (turnS S) (turnO S.length o) ↔ ObjOk S o := by
 have hx := zps hn o
 unfold ObjOk
 rw [hx, List.length_map, zft, zft, zgv, List.map_eq_nil_iff]
 rfl
theorem zls {roots : List Val} {k : Nat} (h : Reach S roots k) : Reach (turnS S) (roots.map (turnV S.length)) (S.length - 1 - k) := by
 induction h with
 | root hv hl => exact .root (List.mem_map.2 ⟨_, hv, rfl⟩) (by rw [zg4, hl]; rfl)
 | step hk ho hv hl ih => exact .step ih (zpy ho) (by rw [zps hn]; exact List.mem_map.2 ⟨_, hv, rfl⟩) (by rw [zg4, hl]; rfl)
theorem zlq {roots : List Val} {j : Nat} (h : Reach (turnS S) (roots.map (turnV S.length)) j) : ∃ k, k < S.length ∧ j = S.length - 1 - k ∧ Reach S roots k := by
 induction h with
 | root hv hl =>
  obtain ⟨v, hv2, rfl⟩ := List.mem_map.1 hv
  rw [zg4, Option.map_eq_some_iff] at hl
  obtain ⟨k, hk, rfl⟩ := hl
  exact ⟨k, (zg7 hk).1, rfl, .root hv2 hk⟩
 | step hk ho hv hl ih =>
  obtain ⟨k, hkl, rfl, hr⟩ := ih
  rw [zpy (List.getElem?_eq_getElem hkl)] at ho
  cases ho
  rw [zps hn] at hv
  obtain ⟨u, hu, rfl⟩ := List.mem_map.1 hv
  rw [zg4, Option.map_eq_some_iff] at hl
  obtain ⟨q, hq, rfl⟩ := hl
  exact ⟨q, (zg7 hq).1, rfl, .step hr (List.getElem?_eq_getElem hkl) hu hq⟩
theorem zbw (v : Val) : CheckOk (turnS S) (turnV S.length v) ↔ CheckOk S v := by
 unfold CheckOk
 rw [zqi]
 constructor
 ·rintro ⟨h1, h2⟩
  refine ⟨h1, fun k o hk ho => (zjc hn o).1 (h2 _ _ (zls hn hk) (zpy ho))⟩
 ·rintro ⟨h1, h2⟩
  refine ⟨h1, fun j o hj ho => ?_⟩
  obtain ⟨k, hkl, rfl, hr⟩ := zlq hn (roots := [v]) hj
  rw [zpy (List.getElem?_eq_getElem hkl)] at ho
  cases ho
  exact (zjc hn _).2 (h2 k _ hr (List.getElem?_eq_getElem hkl))
theorem zqw {k : Nat} (h : k < S.length) : wordsAt (turnS S) (S.length - 1 - k) = wordsAt S k := by
 unfold wordsAt
 rw [zpy (List.getElem?_eq_getElem h), List.getElem?_eq_getElem h]
 dsimp only
 unfold wordsOf
 rw [zps hn, List.length_map]
 rfl
open Classical in
theorem zqz (v : Val) : wordsN (turnS S) [turnV S.length v] = wordsN S [v] := by
 unfold wordsN
 rw [zpx]
 have hrev : (List.range S.length).reverse = (List.range S.length).map fun k => S.length - 1 - k := by
  refine List.ext_getElem? fun i => ?_
  by_cases hi : i < S.length
  ·rw [List.getElem?_reverse (by simpa using hi), List.getElem?_map, List.getElem?_range hi, List.length_range, List.getElem?_range (by omega)]
   rfl
  ·rw [List.getElem?_eq_none (by simp; omega), List.getElem?_eq_none (by simp; omega)]
 have hp : ((List.range S.length).map fun k => if Reach (turnS S) [turnV S.length v] k then wordsAt (turnS S) k else 0).sum = ((List.range S.length).reverse.map fun k => if Reach (turnS S) [turnV S.length v] k then wordsAt (turnS S) k else 0).sum :=
  List.Perm.sum_nat (List.Perm.map _ (List.reverse_perm _).symm)
 rw [hp, hrev, List.map_map]
 congr 1
 refine List.map_congr_left fun k hk => ?_
 have hkl := List.mem_range.1 hk
 simp only [Function.comp_apply]
 by_cases hr : Reach S [v] k
 ·have ht : Reach (turnS S) [turnV S.length v] (S.length - 1 - k) := zls hn (roots := [v]) hr
  rw [if_pos hr, if_pos ht, zqw hn hkl]
 ·rw [if_neg hr, if_neg]
  intro hc
  obtain ⟨q, hq, he, hr2⟩ := zlq hn (roots := [v]) hc
  have : q = k := by omega
  subst this
  exact hr hr2
end
end Go.EX


set_option linter.unusedVariables false
set_option linter.unusedSimpArgs false
namespace Go.EX
section
variable {code : Nat → Option XFun} {ext : Calls'}
theorem zqx {sA : AV} {t : TP} {T : List Obj} (hT : StoreT code ext sA t T) (h : code 657 = some x657) (k : Nat) (o : Obj) (ho : T[k]? = some o) (hs : o.s.size ≤ 1048576) (hL : o.l.xs.length ≤ 5000) :
  callW code ext 657 [t.at k] [] = some (int64 (IntKind.wrap .i64 ((wordsOf o : Nat) : Int)), []) := by
 have hsm : (¬ (o.k = 4 ∨ o.k = 5) ∨ ¬ 0 < o.room) → IntKind.wrap .i64 ((wordsOf o : Nat) : Int) = ((wordsOf o : Nat) : Int) := fun hc => by
  have hb : wordsOf o ≤ 3000000 := by
   unfold wordsOf
   split
   ·omega
   ·split
    ·rename_i h45
     rcases hc with hc | hc
     ·exact absurd h45 hc
     ·rw [if_neg hc]; omega
    ·split <;> omega
  exact wrapI64 (by omega) (by omega)
 rw [zbe code ext h]
 have hget := hT.obj k o ho
 have g0 : t.row[t.off + k * 5]? = some (.val (.int .u8 o.k)) := zcc hget 0 (by omega)
 have g1 : t.row[t.off + k * 5 + 1]? = some (.val (.string o.s)) := zcc hget 1 (by omega)
 have g2 : t.row[t.off + k * 5 + 2]? = some o.l.iv := zcc hget 2 (by omega)
 have g3 : t.row[t.off + k * 5 + 3]? = some (.val (.int .i64 o.room)) := zcc hget 3 (by omega)
 by_cases c3 : o.k = 3
 ·have hw : wordsOf o = 2 + (o.s.size + 7) / 8 := by simp [wordsOf, c3]
  have w2 : IntKind.wrap .i64 ((o.s.size : Int) + 7) = (o.s.size : Int) + 7 := wrapI64 (by omega) (by omega)
  have w3 : IntKind.wrap .i64 ((((o.s.size + 7) / 8 : Nat) : Int)) = (((o.s.size + 7) / 8 : Nat) : Int) := wrapI64 (by omega) (by omega)
  have w4 : IntKind.wrap .i64 (2 + (((o.s.size + 7) / 8 : Nat) : Int)) = 2 + (((o.s.size + 7) / 8 : Nat) : Int) := wrapI64 (by omega) (by omega)
  have hd := tdiv8T o.s.size
  generalize hqq : (o.s.size + 7) / 8 = q at *
  rw [hsm (.inl (by omega)), hw]
  simp -implicitDefEqProofs [x657, TP.at, g0, g1, c3, w2, w3, w4, hd]
 by_cases c45 : o.k = 4 ∨ o.k = 5
 ·by_cases c0 : 0 < o.room
  ·have hw : wordsOf o = 4 + 2 * o.room.toNat := by simp [wordsOf, c3, c45, c0]
   obtain ⟨r, hr⟩ : ∃ r : Nat, o.room = r := ⟨o.room.toNat, by omega⟩
   have hr2 : o.room.toNat = r := by omega
   have w4 : IntKind.wrap .i64 (4 + IntKind.wrap .i64 (2 * (r : Int))) = IntKind.wrap .i64 (4 + 2 * (r : Int)) := by
    rw [Int.add_comm, zq3, Int.add_comm]
   have hr0 : 0 < r := by omega
   rw [hw, hr2]
   rw [hr] at g3
   rcases c45 with c4 | c5
   ·simp -implicitDefEqProofs [x657, TP.at, g0, g3, c4, w4, hr0]
   ·simp -implicitDefEqProofs [x657, TP.at, g0, g3, c5, w4, hr0]
  ·have hw : wordsOf o = 3 := by simp [wordsOf, c3, c45, c0]
   rw [hsm (.inr c0), hw]
   rcases c45 with c4 | c5
   ·simp -implicitDefEqProofs [x657, TP.at, g0, g3, c4, c0]
   ·simp -implicitDefEqProofs [x657, TP.at, g0, g3, c5, c0]
 ·have c4 : ¬ o.k = 4 := fun e => c45 (.inl e)
  have c5 : ¬ o.k = 5 := fun e => c45 (.inr e)
  by_cases c6 : o.k = 6
  ·have hw : wordsOf o = 2 + 2 * o.l.xs.length := by simp [wordsOf, c6]
   have hll := zlu o.l.ok
   have w2 : IntKind.wrap .i64 (2 * (o.l.xs.length : Int)) = 2 * (o.l.xs.length : Int) := wrapI64 (by omega) (by omega)
   have w3 : IntKind.wrap .i64 (2 + 2 * (o.l.xs.length : Int)) = 2 + 2 * (o.l.xs.length : Int) := wrapI64 (by omega) (by omega)
   rw [hsm (.inl c45), hw]
   simp -implicitDefEqProofs [x657, TP.at, g0, g2, c6, w2, w3, hll]
  ·have hw : wordsOf o = 3 := by simp [wordsOf, c3, c4, c5, c6]
   rw [hsm (.inl c45), hw]
   simp -implicitDefEqProofs [x657, TP.at, g0, c3, c4, c5, c6]
theorem zoc {sA : AV} {t : TP} {T : List Obj} (hT : StoreT code ext sA t T) (h' : code 655 = some x655) (h2 : code 654 = some x654) (h3 : code 657 = some x657) (h4 : code 649 = some x649) (hb : T.length ≤ 1048576) {rv : IV} {roots : List Val} (hr : Reads tVal rv roots)
  (hs : ∀ o ∈ T, o.s.size ≤ 1048576) (hL : ∀ o ∈ T, o.l.xs.length ≤ 5000) :
  ∃ out, Grown T roots out out.length ∧ callW code ext 649 [sA, .imm rv] [] = some (int64 (IntKind.wrap .i64 (((out.map (wordsAt T)).sum : Nat) : Int)), []) := by
 obtain ⟨out, hG, hre⟩ := zlm (ext := ext) hT h' h2 hb hr
 refine ⟨out, hG, ?_⟩
 rw [zbe code ext h4]
 have hsh := hG.short
 have hsr := hT.refs
 have hsn := hT.ren
 by_cases hne : out = []
 ·subst hne
  simp only [reachOutT, if_true] at hre
  have hl : den code ext (.loop [4, 9, 10, 11] x649L1) ⟨0, [(4, int64 0), (9, nilS), (10, int64 0), (11, int64 0)], []⟩ = some (.exit 0, ⟨0, [(4, int64 0), (9, nilS), (10, int64 0), (11, int64 0), (12, avb false)], []⟩) := by
   rw [zcm]
   simp -implicitDefEqProofs [x649L1]
  have e0 : IntKind.wrap .i64 0 = 0 := by decide
  simp -implicitDefEqProofs [x649, hsr, hsn, hre, hl, e0]
 ·simp only [reachOutT, if_neg hne] at hre
  have loop : ∃ e s', den code ext (.loop [4, 9, 10, 11] x649L1) ⟨0, [(4, int64 0), (9, .osl 0 0 1 out.length none), (10, int64 out.length), (11, int64 0)], [.rich (ptrsT t out)]⟩ = some (e, s') ∧ e ≠ .normal ∧
    (e = .exit 0 ∧ s' = ⟨0, [(4, int64 (IntKind.wrap .i64 (((out.map (wordsAt T)).sum : Nat) : Int))), (9, .osl 0 0 1 out.length none), (10, int64 out.length), (11, int64 out.length), (12, avb false)], [.rich (ptrsT t out)]⟩) := by
   refine zho (fun n s => ∃ (i : Nat), i + n = out.length ∧ s = ⟨0, [(4, int64 (IntKind.wrap .i64 ((((out.take i).map (wordsAt T)).sum : Nat) : Int))), (9, .osl 0 0 1 out.length none), (10, int64 out.length), (11, int64 (i : Nat))], [.rich (ptrsT t out)]⟩) _ ?_ out.length _ ⟨0, by simp, by simp; rfl⟩
   rintro n _ ⟨i, hi, rfl⟩
   by_cases hlt : i < out.length
   ·have hk := List.getElem?_eq_getElem hlt
    have hkT := (hG.reach _ (List.getElem_mem hlt)).lt
    have htk : out.take (i + 1) = out.take i ++ [out[i]] := by rw [List.take_add_one, hk]; rfl
    generalize out[i] = k at hk hkT htk
    have hTk := List.getElem?_eq_getElem hkT
    have hmem := List.getElem_mem hkT
    have hp : (ptrsT t out)[i]? = some (t.at k) := by simp [ptrsT, hk]
    have hw := zqx (ext := ext) hT h3 k _ hTk (hs _ hmem) (hL _ hmem)
    have hwa : wordsAt T k = wordsOf T[k] := by simp [wordsAt, hTk]
    have hsum : ((out.take (i + 1)).map (wordsAt T)).sum = ((out.take i).map (wordsAt T)).sum + wordsOf T[k] := by rw [htk, List.map_append, List.sum_append]; simp [hwa]
    have e1 : IntKind.wrap .i64 ((i : Int) + 1) = (i : Int) + 1 := wrapI64 (by omega) (by omega)
    generalize ((out.take i).map (wordsAt T)).sum = m at *
    generalize wordsOf T[k] = w at *
    have e2 : IntKind.wrap .i64 (IntKind.wrap .i64 (m : Int) + IntKind.wrap .i64 (w : Int)) = IntKind.wrap .i64 ((m : Int) + (w : Int)) := by
     rw [zq3, Int.add_comm, zq3, Int.add_comm]
    refine ⟨.normal, ⟨0, [(4, int64 (IntKind.wrap .i64 ((m : Int) + (w : Int)))), (9, .osl 0 0 1 out.length none), (10, int64 out.length), (11, int64 ((i : Int) + 1))], [.rich (ptrsT t out)]⟩, ?_, .inl ⟨rfl, n - 1, by omega, i + 1, by omega, ?_⟩⟩
    ·simp -implicitDefEqProofs [x649L1, hlt, hp, hw, e1, e2]
    ·rw [hsum, Int.natCast_add]; rfl
   ·have : i = out.length := by omega
    subst this
    rw [List.take_length]
    refine ⟨.exit 0, _, ?_, .inr ⟨by simp, rfl, rfl⟩⟩
    simp -implicitDefEqProofs [x649L1]
  obtain ⟨e, s', l1, _, rfl, rfl⟩ := loop
  simp -implicitDefEqProofs [x649, hsr, hsn, hre, l1]
end
end Go.EX

