import Derived.Test.YtedddogbgdbpmaaDoorK10
set_option linter.unusedVariables false
set_option linter.unusedSimpArgs false
namespace Go.EX
def putR : List (Int × Int) → Int → Int → List (Int × Int)
 | [], k, x => [(k, x)]
 | p :: r, k, x => if p.1 = k then (k, x) :: r else p :: putR r k x
def lookP : List (Int × Int) → Int → Option Int
 | [], _ => none
 | p :: r, k => if p.1 = k then some p.2 else lookP r k
theorem zks : ∀ {P : List (Int × Int)} {k x : Int} {i : Nat}, findP P k = some i → putR P k x = P.set i (k, x)
 | [], k, x, i, h => by cases h
 | p :: r, k, x, i, h => by
  unfold findP at h
  unfold putR
  by_cases hp : p.1 = k
  ·rw [if_pos hp] at h
   cases h
   rw [if_pos hp]; rfl
  ·rw [if_neg hp, Option.map_eq_some_iff] at h
   obtain ⟨j, hj, rfl⟩ := h
   rw [if_neg hp, zks hj]; rfl
theorem zkv : ∀ {P : List (Int × Int)} {k x : Int}, findP P k = none → putR P k x = P ++ [(k, x)]
 | [], k, x, h => rfl
 | p :: r, k, x, h => by
  unfold findP at h
  unfold putR
  by_cases hp : p.1 = k
  ·rw [if_pos hp] at h; cases h
  ·rw [if_neg hp] at h ⊢
   have hr : findP r k = none := by cases hq : findP r k with
    | none => rfl
    | some i => rw [hq] at h; cases h
   rw [zkv hr]; rfl
theorem zkt (P : List (Int × Int)) (k x : Int) : (putR P k x).length ≤ P.length + 1 ∧ (putR P k x).length ≠ 0 := by
 induction P with
 | nil => simp [putR]
 | cons p r ih =>
  unfold putR
  split
  ·simp
  ·simp only [List.length_cons]; omega
theorem zg9 : ∀ (P : List (Int × Int)) (k x j : Int), lookP (putR P k x) j = if j = k then some x else lookP P j
 | [], k, x, j => by
  simp only [putR, lookP]
  by_cases h : j = k
  ·rw [if_pos h, if_pos h.symm]
  ·rw [if_neg h, if_neg (fun e => h e.symm)]
 | p :: r, k, x, j => by
  unfold putR
  by_cases hp : p.1 = k
  ·rw [if_pos hp]
   simp only [lookP]
   by_cases h : j = k
   ·rw [if_pos h.symm, if_pos h]
   ·rw [if_neg (fun e => h e.symm), if_neg h, if_neg (fun e => h (by rw [← e, hp]))]
  ·rw [if_neg hp]
   simp only [lookP, zg9 r k x j]
   by_cases hj : p.1 = j
   ·rw [if_pos hj, if_pos hj, if_neg (fun e => hp (by rw [hj, e]))]
   ·rw [if_neg hj, if_neg hj]
theorem zg8 : ∀ {P : List (Int × Int)} {k x : Int}, lookP P k = some x → ∃ i, findP P k = some i ∧ P[i]? = some (k, x)
 | [], k, x, h => by cases h
 | p :: r, k, x, h => by
  unfold lookP at h
  unfold findP
  by_cases hp : p.1 = k
  ·rw [if_pos hp] at h ⊢
   cases h
   refine ⟨0, rfl, ?_⟩
   obtain ⟨a, b⟩ := p
   cases hp
   rfl
  ·rw [if_neg hp] at h ⊢
   obtain ⟨i, h1, h2⟩ := zg8 h
   exact ⟨i + 1, by rw [h1]; rfl, by simpa using h2⟩
theorem zep {P : List (Int × Int)} {k : Int} {i : Nat} (h : findP P k = some i) : ∃ y, P[i]? = some (k, y) := (zeo h).1
structure MapOK (P : List (Int × Int)) (room : Int) : Prop where
 keys : ∀ (i j : Nat) p q, i < j → P[i]? = some p → P[j]? = some q → p.1 ≠ q.1
 wf : ∀ p ∈ P, ((Lit.int IntKind.i64 p.1).wf = true) ∧ ((Lit.int IntKind.i64 p.2).wf = true)
 len : P.length ≤ 400
 rm : ((2 * P.length : Nat) : Int) ≤ room ∧ room ≤ 2000
 zero : P.length = 0 → room = 0
theorem MapOK.nil : MapOK [] 0 := ⟨fun i j p q _ h => by simp at h, fun p h => by simp at h, by simp, by simp, fun _ => rfl⟩
theorem zku {P : List (Int × Int)} {k x : Int} {p : Int × Int} (h : p ∈ putR P k x) : p ∈ P ∨ p = (k, x) := by
 cases hf : findP P k with
 | none =>
  rw [zkv hf] at h
  rcases List.mem_append.1 h with h | h
  ·exact .inl h
  ·exact .inr (List.mem_singleton.1 h)
 | some i =>
  rw [zks hf] at h
  exact List.mem_or_eq_of_mem_set h
theorem MapOK.put {P : List (Int × Int)} {room : Int} (h : MapOK P room) {k x : Int} (hk : (Lit.int IntKind.i64 k).wf = true) (hx : (Lit.int IntKind.i64 x).wf = true) (hl : P.length < 400) :
  MapOK (putR P k x) (if (findP P k).isSome then room else roomP P.length room) := by
 have hm : ∀ p ∈ putR P k x, ((Lit.int IntKind.i64 p.1).wf = true) ∧ ((Lit.int IntKind.i64 p.2).wf = true) := fun p hp => by
  rcases zku hp with hp | rfl
  ·exact h.wf p hp
  ·exact ⟨hk, hx⟩
 cases hf : findP P k with
 | some i =>
  obtain ⟨y, hy⟩ := zep hf
  rw [zks hf] at hm ⊢
  have hget : ∀ (j : Nat) p, (P.set i (k, x))[j]? = some p → ∃ q, P[j]? = some q ∧ q.1 = p.1 := fun j p hp => by
   rw [List.getElem?_set] at hp
   split at hp
   ·rename_i hij
    subst hij
    split at hp
    ·cases hp
     exact ⟨_, hy, rfl⟩
    ·cases hp
   ·exact ⟨p, hp, rfl⟩
  refine ⟨fun a b p q hab hp hq => ?_, hm, by rw [List.length_set]; exact h.len, by rw [List.length_set]; exact h.rm, fun h0 => ?_⟩
  ·obtain ⟨p', hp', e1⟩ := hget a p hp
   obtain ⟨q', hq', e2⟩ := hget b q hq
   rw [← e1, ← e2]
   exact h.keys a b p' q' hab hp' hq'
  ·rw [List.length_set] at h0
   have := (List.getElem?_eq_some_iff.1 hy).1
   omega
 | none =>
  rw [zkv hf] at hm ⊢
  have hno := zen hf
  have hr := h.rm
  refine ⟨fun a b p q hab hp hq => ?_, hm, by rw [List.length_append, List.length_singleton]; omega, ?_, fun h0 => by simp at h0⟩
  ·by_cases hb : b < P.length
   ·rw [List.getElem?_append_left hb] at hq
    rw [List.getElem?_append_left (by omega)] at hp
    exact h.keys a b p q hab hp hq
   ·by_cases hb2 : b = P.length
    ·subst hb2
     rw [List.getElem?_append_right (Nat.le_refl _), Nat.sub_self] at hq
     simp at hq
     subst hq
     rw [List.getElem?_append_left hab] at hp
     exact hno a p hp
    ·rw [List.getElem?_eq_none (by rw [List.length_append, List.length_singleton]; omega)] at hq
     cases hq
  ·rw [List.length_append, List.length_singleton]
   have hlen := h.len
   simp only [Option.isSome_none, Bool.false_eq_true, if_false]
   unfold roomP
   split <;> omega
theorem zo2 {P : List (Int × Int)} {room : Int} (h : MapOK P room) : ∀ v ∈ valsP P, tVal.wf v := by
 intro v hv
 obtain ⟨p, hp, hv⟩ := List.mem_flatMap.1 hv
 obtain ⟨h1, h2⟩ := h.wf p hp
 unfold pairV at hv
 simp only [List.mem_cons, List.not_mem_nil, or_false] at hv
 rcases hv with rfl | rfl
 ·exact ⟨(wfU8.2 ⟨by decide, by decide⟩ : (tInt IntKind.u8).wf 2), h1⟩
 ·exact ⟨(wfU8.2 ⟨by decide, by decide⟩ : (tInt IntKind.u8).wf 2), h2⟩
theorem zf7 {P : List (Int × Int)} {room : Int} (h : MapOK P room) : Reads tVal (ivP P) (valsP P) := by
 unfold ivP
 split
 ·rename_i h0
  have : P = [] := List.eq_nil_of_length_eq_zero h0
  subst this
  exact ⟨by simp [valsP], by simp [valsP], .inl ⟨rfl, rfl⟩⟩
 ·have hl := zo0 P
  have := h.len
  have hr := zle tVal (valsP P) (cap := some (2 * P.length)) (zo2 h) (by omega) (fun c hc => by cases hc; omega)
  rwa [hl] at hr
def objP (P : List (Int × Int)) (room : Int) (h : MapOK P room) : Obj := ⟨5, .empty, ⟨ivP P, valsP P, zf7 h⟩, room, 0⟩
theorem zn1 {P : List (Int × Int)} {room : Int} (h : MapOK P room) : Reads tObj (stP P room) [objP P room h] := by
 have hr := h.rm
 refine zle tObj [objP P room h] (cap := some 1) (fun o ho => ?_) (by simp) (fun c hc => by cases hc; exact Nat.le_refl _)
 rw [List.mem_singleton.1 ho]
 refine ⟨(wfU8.2 ⟨by decide, by decide⟩ : (tInt IntKind.u8).wf 5), (by decide : ByteArray.empty.size ≤ 140737488355328), ?_, (wfI64.2 ⟨by decide, by decide⟩ : (tInt IntKind.i64).wf 0)⟩
 exact wfI64.2 (by unfold objP; dsimp only; omega)
theorem zo3 {P : List (Int × Int)} {v : Val} (hv : v ∈ valsP P) : v.k = 2 := by
 obtain ⟨p, _, hv⟩ := List.mem_flatMap.1 hv
 unfold pairV at hv
 simp only [List.mem_cons, List.not_mem_nil, or_false] at hv
 rcases hv with rfl | rfl <;> rfl
theorem zgv (S : List Obj) {v : Val} (h : v.k = 2) : leadsOf S v = none := by
 unfold leadsOf
 rw [if_pos (by omega)]
theorem ziz {P : List (Int × Int)} {room : Int} (h : MapOK P room) : ObjOk [objP P room h] (objP P room h) := by
 have hl := zo0 P
 have hn := h.len
 have hr := h.rm
 have hheld : heldOf [objP P room h] (valsP P) false = true := by
  unfold heldOf
  rw [List.all_eq_true]
  intro v hv
  have hk := zo3 hv
  have hval : valOf [objP P room h] v = true := by
   unfold valOf
   rw [if_neg (by omega), if_neg (by omega), if_pos hk]
  rw [hval, hk]
  rfl
 have hkeys : KeysOk [objP P room h] (valsP P) := by
  intro i k a b hi hk hki ha hb
  have hil := (List.getElem?_eq_some_iff.1 ha).1
  have hi2 : i / 2 < P.length := by omega
  have hk2 : k / 2 < P.length := by omega
  have e1 := (zoz P (i / 2) _ (List.getElem?_eq_getElem hi2)).1
  have e2 := (zoz P (k / 2) _ (List.getElem?_eq_getElem hk2)).1
  rw [show 2 * (i / 2) = i by omega, ha] at e1
  rw [show 2 * (k / 2) = k by omega, hb] at e2
  have hne := h.keys (k / 2) (i / 2) _ _ (by omega) (List.getElem?_eq_getElem hk2) (List.getElem?_eq_getElem hi2)
  have ea := Option.some.inj e1
  have eb := Option.some.inj e2
  unfold sameOf
  rw [ea, eb]
  simp only [ne_eq, not_true_eq_false, if_false]
  rw [if_neg (by decide), if_neg (fun c => hne c.symm), if_neg (by decide)]
 unfold ObjOk
 have k5 : (objP P room h).k = 5 := rfl
 rw [k5, if_neg (by decide), if_neg (by decide), if_pos rfl]
 refine ⟨rfl, rfl, ?_, ?_, ?_, ?_, hheld, hkeys⟩
 ·show (((valsP P).length : Nat) : Int).tmod 2 = 0
  rw [hl, Int.tmod_eq_emod_of_nonneg (by omega)]
  omega
 ·show (((valsP P).length : Nat) : Int) ≤ 131072
  rw [hl]; omega
 ·show (((valsP P).length : Nat) : Int) ≤ room
  rw [hl]; exact hr.1
 ·show room ≤ 262144
  omega
theorem zbz {P : List (Int × Int)} {room : Int} (h : MapOK P room) (n : Int) : CheckOk [objP P room h] ⟨2, n⟩ := by
 refine ⟨rfl, fun k o hk ho => ?_⟩
 have hno : ∀ j, ¬ Reach [objP P room h] [⟨2, n⟩] j := by
  intro j hj
  induction hj with
  | root hv hl => rw [List.mem_singleton.1 hv, zgv _ rfl] at hl; cases hl
  | step _ _ _ _ ih => exact ih
 exact absurd hk (hno k)
theorem zb0 {P : List (Int × Int)} {room : Int} (h : MapOK P room) : CheckOk [objP P room h] ⟨5, 1⟩ := by
 refine ⟨rfl, fun k o hk ho => ?_⟩
 have hk0 := (List.getElem?_eq_some_iff.1 ho).1
 have : k = 0 := by simpa using hk0
 subst this
 cases ho
 exact ziz h
end Go.EX


set_option linter.unusedVariables false
set_option linter.unusedSimpArgs false
namespace Go.EX
def seenP (P : List (Int × Int)) : List (AV × AV) := P.map fun p => (.imm (.val (.int .i8 p.1)), int64 p.2)
theorem zm8 (P : List (Int × Int)) : (seenP P).length = P.length := List.length_map ..
theorem zel (m : Mem) (k : Int) : ∀ (P : List (Int × Int)) (i : Nat), findK m 0 (.imm (.val (.int .i8 k))) (seenP P) i = some ((findP P k).map fun j => j + i)
 | [], i => rfl
 | p :: r, i => by
  show (match keyEq m 0 (.imm (.val (.int .i8 k))) (.imm (.val (.int .i8 p.1))) with
   | some true => some (some i)
   | some false => findK m 0 (.imm (.val (.int .i8 k))) (seenP r) (i + 1)
   | none => none) = _
  have hk : keyEq m 0 (.imm (.val (.int .i8 k))) (.imm (.val (.int .i8 p.1))) = some (k == p.1) := by simp [keyEq]
  rw [hk]
  unfold findP
  by_cases h : p.1 = k
  ·rw [if_pos h, show (k == p.1) = true by rw [h]; exact beq_self_eq_true k]
   simp
  ·rw [if_neg h, show (k == p.1) = false from beq_eq_false_iff_ne.2 (Ne.symm h)]
   simp only
   rw [zel m k r (i + 1)]
   cases findP r k with
   | none => rfl
   | some j => simp; omega
theorem zna {P : List (Int × Int)} {k x : Int} (h : findP P k = none) : seenP P ++ [(.imm (.val (.int .i8 k)), int64 x)] = seenP (putR P k x) := by
 rw [zkv h]
 simp [seenP]
theorem znb {P : List (Int × Int)} {k x : Int} {i : Nat} (h : findP P k = some i) : (seenP P).set i (.imm (.val (.int .i8 k)), int64 x) = seenP (putR P k x) := by
 rw [zks h]
 simp [seenP, List.map_set]
def accP (ks : List Int) : Nat → List (Int × Int)
 | 0 => []
 | n + 1 => match ks[n]? with
  | some k => putR (accP ks n) k n
  | none => accP ks n
theorem zad {ks : List Int} {n : Nat} {k : Int} (h : ks[n]? = some k) : accP ks (n + 1) = putR (accP ks n) k n := by
 show (match ks[n]? with | some k => putR (accP ks n) k n | none => accP ks n) = _
 rw [h]
theorem zac (ks : List Int) : ∀ n, (accP ks n).length ≤ n
 | 0 => Nat.le_refl _
 | n + 1 => by
  have ih := zac ks n
  show (match ks[n]? with | some k => putR (accP ks n) k n | none => accP ks n).length ≤ n + 1
  split
  ·rename_i k _
   have := (zkt (accP ks n) k n).1
   omega
  ·omega
theorem zab (ks : List Int) : ∀ n j k, j < n → ks[j]? = some k → ∃ x, lookP (accP ks n) k = some x
 | 0, j, k, h, _ => by omega
 | n + 1, j, k, h, hk => by
  by_cases hj : j = n
  ·subst hj
   rw [zad hk]
   exact ⟨_, by rw [zg9, if_pos rfl]⟩
  ·obtain ⟨x, hx⟩ := zab ks n j k (by omega) hk
   cases hn : ks[n]? with
   | none =>
    refine ⟨x, ?_⟩
    show lookP (match ks[n]? with | some k => putR (accP ks n) k n | none => accP ks n) k = _
    rw [hn]; exact hx
   | some k' =>
    rw [zad hn, zg9]
    split
    ·exact ⟨_, rfl⟩
    ·exact ⟨x, hx⟩
theorem zne (f : Nat → Option Nat) (P : List (Int × Int)) : List.map (fun p => (AV.ren f p.1, AV.ren f p.2)) (seenP P) = seenP P := by simp [seenP]
theorem znc (P : List (Int × Int)) : AV.refs.refsL (List.map (fun x => x.1) (seenP P)) = [] := by
 unfold seenP
 induction P with
 | nil => rfl
 | cons x r ih => simpa using ih
theorem znd (P : List (Int × Int)) : AV.refs.refsL (List.map (fun x => x.2) (seenP P)) = [] := by
 unfold seenP
 induction P with
 | nil => rfl
 | cons x r ih => simpa using ih
theorem step_m {p : Option (XExit × St)} {k : List Nat} {X : St} (h : p.map (fun q => (q.1, q.2.tidy k)) = some (.normal, X)) : ∃ s', p = some (.normal, s') ∧ s'.tidy k = X := by
 cases p with
 | none => cases h
 | some q =>
  obtain ⟨e, s'⟩ := q
  simp only [Option.map_some, Option.some.injEq, Prod.mk.injEq] at h
  obtain ⟨rfl, h⟩ := h
  exact ⟨s', rfl, h⟩
section
variable {code : Nat → Option XFun} {ext : Calls'}
structure Asked (code : Nat → Option XFun) (ext : Calls') : Prop where
 c483 : code 483 = some x483V
 put : ∀ {P : List (Int × Int)} {room : Int}, MapOK P room → P.length < 400 → ∀ {k x : Int}, (Lit.int IntKind.i64 k).wf = true → (Lit.int IntKind.i64 x).wf = true →
  ∃ room' w, MapOK (putR P k x) room' ∧ ∀ s, exView (callW code ext) s 636 [.imm (stP P room), mapV, numV k, numV x] = some (.agg [.imm (stP (putR P k x) room'), .imm (.val (.int .u8 0)), int64 0, emptyS, int64 w], s)
 get : ∀ {P : List (Int × Int)} {room : Int}, MapOK P room → ∀ {k x : Int}, lookP P k = some x → ∀ s, exView (callW code ext) s 630 [.imm (stP P room), mapV, numV k] = some (.agg [.imm (stP P room), .imm (.val (.int .u8 2)), int64 x, emptyS, int64 0], s)
 len : ∀ {P : List (Int × Int)} {room : Int}, MapOK P room → ∀ s, exView (callW code ext) s 631 [.imm (stP P room), mapV] = some (.agg [.imm (stP P room), .imm (.val (.int .u8 2)), int64 P.length, emptyS, int64 0], s)
 map : ∀ s, exView (callW code ext) s 633 [.imm (.val (.slice none 0 0)), .imm (.val (.slice none 0 0))] = some (.agg [.imm (stP [] 0), .imm (.val (.int .u8 5)), int64 1, emptyS, int64 3], s)
 num : ∀ (n : Int) s, exView (callW code ext) s 491 [int64 n] = some (numV n, s)
 lives : ∀ s, exView (callW code ext) s 489 [] = some (avb true, s)
abbrev did0 : List AV := [.imm (stP [] 0), .imm (.val (.int .u8 5)), int64 1, emptyS, int64 3]
abbrev mapsEnv (lv : IV) (k v : Int) (sv : IV) (i : Int) : Env := [(0, .imm lv), (1, int64 k), (2, int64 v), (7, .optr 0 0), (8, .imm sv), (9, .omap 1), (10, int64 i)]
theorem zeb (c : Asked code ext) {lv : IV} {ks : List Int} (hr : Reads (tInt .i8) lv ks) (k v : Int) (i : Nat) (ki : Int) (hi : ks[i]? = some ki) (hb : ks.length ≤ 300) {P : List (Int × Int)} {room : Int} (hm : MapOK P room) (hP : P.length < 400) :
  ∃ room' s', MapOK (putR P ki i) room' ∧ den code ext x483VL1 ⟨0, mapsEnv lv k v (stP P room) i, [.rich did0, .map (seenP P)]⟩ = some (.normal, s') ∧
   s'.tidy [0, 1, 2, 7, 8, 9, 10] = ⟨0, mapsEnv lv k v (stP (putR P ki i) room') (i + 1 : Nat), [.rich did0, .map (seenP (putR P ki i))]⟩ := by
 have hil := (List.getElem?_eq_some_iff.1 hi).1
 have hwf : -128 ≤ ki ∧ ki ≤ 127 := by
  have := hr.1 ki (List.mem_of_getElem? hi)
  simpa [tInt, Lit.wf, IntKind.min, IntKind.max, IntKind.signed, IntKind.bits] using this
 have w1 : IntKind.wrap .i64 ki = ki := wrapI64 (by omega) (by omega)
 have w2 : IntKind.wrap .i64 ((i : Int) + 1) = (i : Int) + 1 := wrapI64 (by omega) (by omega)
 obtain ⟨room', w, hm', hput⟩ := c.put hm hP (k := ki) (x := i) (wfI64.2 ⟨by omega, by omega⟩) (wfI64.2 ⟨by omega, by omega⟩)
 have hnum := c.num
 have hlen := zlc hr
 obtain ⟨row, off, cap, rfl, _, _, hget⟩ := zld hr hi
 have hcell := zch (by simpa [tInt] using hget)
 have hlt : (i : Int) < ks.length := by omega
 have hK := fun m => zel m ki P 0
 have e : ((i + 1 : Nat) : Int) = (i : Int) + 1 := by omega
 have r1 := fun f => zne f (putR P ki i)
 have r2 := znc (putR P ki i)
 have r3 := znd (putR P ki i)
 have r4 := fun f => zne f P
 have r5 := znc P
 have r6 := znd P
 refine ⟨room', ?_⟩
 rw [e]
 clear hr hwf hP hb hget
 cases hf : findP P ki with
 | none =>
  have hs := zna (x := (i : Int)) hf
  simp only [hf, Option.map_none] at hK
  clear hf
  generalize seenP (putR P ki i) = M2 at *
  generalize stP (putR P ki i) room' = sv2 at *
  generalize stP P room = sv at *
  generalize stP [] 0 = sv0 at *
  generalize seenP P = M1 at *
  refine (step_m (k := [0, 1, 2, 7, 8, 9, 10]) ?_).imp fun s' h => ⟨hm', h⟩
  simp -implicitDefEqProofs [x483VL1, hcell, w1, w2, hput, hnum, hlen, hlt, hK, hs, r1, r2, r3, r4, r5, r6, -exView]
 | some j =>
  have hj := (List.getElem?_eq_some_iff.1 (zep hf).choose_spec).1
  have hs := znb (x := (i : Int)) hf
  have hj2 : ((seenP P)[j]?).isSome = true := by rw [List.getElem?_eq_getElem (by rw [zm8]; exact hj)]; rfl
  simp only [hf, Option.map_some, Nat.add_zero] at hK
  clear hf hj
  generalize seenP (putR P ki i) = M2 at *
  generalize stP (putR P ki i) room' = sv2 at *
  generalize stP P room = sv at *
  generalize stP [] 0 = sv0 at *
  generalize seenP P = M1 at *
  refine (step_m (k := [0, 1, 2, 7, 8, 9, 10]) ?_).imp fun s' h => ⟨hm', h⟩
  simp -implicitDefEqProofs [x483VL1, hcell, w1, w2, hput, hnum, hlen, hlt, hK, hs, r1, r2, r3, r4, r5, r6, -exView]
theorem zea (c : Asked code ext) {lv : IV} {ks : List Int} (hr : Reads (tInt .i8) lv ks) (k v : Int) (hb : ks.length ≤ 300) {s : St}
  (hst : s.tidy [0, 1, 2, 7, 8, 9, 10] = ⟨0, mapsEnv lv k v (stP [] 0) 0, [.rich did0, .map []]⟩) :
  ∃ room, MapOK (accP ks ks.length) room ∧ den code ext (.loop [0, 1, 2, 7, 8, 9, 10] x483VL1) s = some (.exit 0, ⟨0, mapsEnv lv k v (stP (accP ks ks.length) room) ks.length ++ [(31, avb false)], [.rich did0, .map (seenP (accP ks ks.length))]⟩) := by
 obtain ⟨e, s', h2, _, rfl, room, hm, rfl⟩ := zhb (code := code) (ext := ext) (keep := [0, 1, 2, 7, 8, 9, 10]) (b := x483VL1)
  (fun n s => ∃ i room, i + n = ks.length ∧ MapOK (accP ks i) room ∧ s.tidy [0, 1, 2, 7, 8, 9, 10] = ⟨0, mapsEnv lv k v (stP (accP ks i) room) i, [.rich did0, .map (seenP (accP ks i))]⟩)
  (fun e s' => e = .exit 0 ∧ ∃ room, MapOK (accP ks ks.length) room ∧ s' = ⟨0, mapsEnv lv k v (stP (accP ks ks.length) room) ks.length ++ [(31, avb false)], [.rich did0, .map (seenP (accP ks ks.length))]⟩) (fun n s => by
  rintro ⟨i, room, hi, hm, hst⟩
  rw [hst]
  by_cases hlt : i < ks.length
  ·have hg := List.getElem?_eq_getElem hlt
   have hle := zac ks i
   obtain ⟨room', s', hm', h1, h2⟩ := zeb c hr k v i ks[i] hg hb hm (by omega)
   rw [← zad hg] at hm' h2
   exact ⟨.normal, s', h1, .inl ⟨rfl, n - 1, by omega, i + 1, room', by omega, hm', h2⟩⟩
  ·have : i = ks.length := by omega
   subst this
   have hlen := zlc hr
   refine ⟨.exit 0, _, ?_, .inr ⟨by simp, rfl, room, hm, rfl⟩⟩
   generalize seenP (accP ks ks.length) = M1
   generalize stP (accP ks ks.length) room = sv
   generalize stP [] 0 = sv0
   simp -implicitDefEqProofs [x483VL1, hlen]) ks.length s ⟨0, 0, by omega, MapOK.nil, hst⟩
 exact ⟨room, hm, h2⟩
abbrev asksEnv (lv : IV) (k v : Int) (i : Int) : Env := [(0, .imm lv), (1, int64 k), (2, int64 v), (7, .optr 0 0), (9, .omap 1), (13, .optr 2 0), (14, int64 i)]
abbrev didQ (sv : IV) (w : Int) : List AV := [.imm sv, .imm (.val (.int .u8 0)), int64 0, emptyS, int64 w]
theorem za3 (c : Asked code ext) {lv : IV} {ks : List Int} (hr : Reads (tInt .i8) lv ks) (k v w : Int) (i : Nat) (ki x : Int) (hi : ks[i]? = some ki) (hb : ks.length ≤ 300) {P : List (Int × Int)} {room : Int} (hm : MapOK (putR P k v) room) (hx : lookP P ki = some x) :
  ∃ s', den code ext x483VL2 ⟨0, asksEnv lv k v i, [.rich did0, .map (seenP P), .rich (didQ (stP (putR P k v) room) w)]⟩ = some (.normal, s') ∧
   s'.tidy [0, 1, 2, 7, 9, 13, 14] = ⟨0, asksEnv lv k v (i + 1 : Nat), [.rich did0, .map (seenP P), .rich (didQ (stP (putR P k v) room) w)]⟩ := by
 have hil := (List.getElem?_eq_some_iff.1 hi).1
 have hwf : -128 ≤ ki ∧ ki ≤ 127 := by
  have := hr.1 ki (List.mem_of_getElem? hi)
  simpa [tInt, Lit.wf, IntKind.min, IntKind.max, IntKind.signed, IntKind.bits] using this
 have w1 : IntKind.wrap .i64 ki = ki := wrapI64 (by omega) (by omega)
 have w2 : IntKind.wrap .i64 ((i : Int) + 1) = (i : Int) + 1 := wrapI64 (by omega) (by omega)
 have hl2 : lookP (putR P k v) ki = some (if ki = k then v else x) := by
  rw [zg9]
  split <;> simp_all
 have hget := c.get hm hl2
 have hnum := c.num
 have hlen := zlc hr
 obtain ⟨j, hf, hj⟩ := zg8 hx
 have hK := fun m => zel m ki P 0
 simp only [hf, Option.map_some, Nat.add_zero] at hK
 have hJ : (seenP P)[j]? = some (.imm (.val (.int .i8 ki)), int64 x) := by unfold seenP; rw [List.getElem?_map, hj]; rfl
 obtain ⟨row, off, cap, rfl, _, _, hg⟩ := zld hr hi
 have hcell := zch (by simpa [tInt] using hg)
 have hlt : (i : Int) < ks.length := by omega
 have e : ((i + 1 : Nat) : Int) = (i : Int) + 1 := by omega
 have r4 := fun f => zne f P
 have r5 := znc P
 have r6 := znd P
 rw [e]
 clear hr hwf hb hg hf hj hx hl2
 generalize stP (putR P k v) room = sv at *
 generalize stP [] 0 = sv0 at *
 generalize seenP P = M1 at *
 refine step_m ?_
 by_cases h : ki = k
 ·subst h
  simp only [if_true] at hget
  simp -implicitDefEqProofs [x483VL2, hcell, w1, w2, hget, hnum, hlen, hlt, hK, hJ, r4, r5, r6, -exView]
 ·simp only [if_neg h] at hget
  simp -implicitDefEqProofs [x483VL2, hcell, w1, w2, hget, hnum, hlen, hlt, hK, hJ, r4, r5, r6, h, -exView]
theorem za2 (c : Asked code ext) {lv : IV} {ks : List Int} (hr : Reads (tInt .i8) lv ks) (k v w : Int) (hb : ks.length ≤ 300) {P : List (Int × Int)} {room : Int} (hm : MapOK (putR P k v) room) (hx : ∀ (j : Nat) kj, ks[j]? = some kj → ∃ x, lookP P kj = some x) {s : St}
  (hst : s.tidy [0, 1, 2, 7, 9, 13, 14] = ⟨0, asksEnv lv k v 0, [.rich did0, .map (seenP P), .rich (didQ (stP (putR P k v) room) w)]⟩) :
  den code ext (.loop [0, 1, 2, 7, 9, 13, 14] x483VL2) s = some (.exit 2, ⟨0, asksEnv lv k v ks.length ++ [(78, avb false)], [.rich did0, .map (seenP P), .rich (didQ (stP (putR P k v) room) w)]⟩) := by
 obtain ⟨e, s', h2, _, rfl, rfl⟩ := zhb (code := code) (ext := ext) (keep := [0, 1, 2, 7, 9, 13, 14]) (b := x483VL2)
  (fun n s => ∃ i, i + n = ks.length ∧ s.tidy [0, 1, 2, 7, 9, 13, 14] = ⟨0, asksEnv lv k v i, [.rich did0, .map (seenP P), .rich (didQ (stP (putR P k v) room) w)]⟩)
  (fun e s' => e = .exit 2 ∧ s' = ⟨0, asksEnv lv k v ks.length ++ [(78, avb false)], [.rich did0, .map (seenP P), .rich (didQ (stP (putR P k v) room) w)]⟩) (fun n s => by
  rintro ⟨i, hi, hst⟩
  rw [hst]
  by_cases hlt : i < ks.length
  ·have hg := List.getElem?_eq_getElem hlt
   obtain ⟨x, hx⟩ := hx i _ hg
   obtain ⟨s', h1, h2⟩ := za3 c hr k v w i ks[i] x hg hb hm hx
   exact ⟨.normal, s', h1, .inl ⟨rfl, n - 1, by omega, i + 1, by omega, h2⟩⟩
  ·have : i = ks.length := by omega
   subst this
   have hlen := zlc hr
   refine ⟨.exit 2, _, ?_, .inr ⟨by simp, rfl, rfl⟩⟩
   generalize stP (putR P k v) room = sv
   generalize seenP P = M1
   generalize stP [] 0 = sv0
   simp -implicitDefEqProofs [x483VL2, hlen]) ks.length s ⟨0, by omega, hst⟩
 exact h2
theorem zi6 {p : Option (AV × Mem)} {v : AV} (h : p.map Prod.fst = some v) : ∃ m : Mem, p = some (v, m) := by
 cases p with
 | none => cases h
 | some q => obtain ⟨a, m⟩ := q; cases h; exact ⟨m, rfl⟩
theorem zki (c : Asked code ext) {lv : IV} {ks : List Int} (hr : Reads (tInt .i8) lv ks) (k v : Int) (hk : (Lit.int IntKind.i64 k).wf = true) (hv : (Lit.int IntKind.i64 v).wf = true) :
  ∃ m, callW code ext 483 [.imm lv, int64 k, int64 v] [] = some (avb true, m) := by
 apply zi6
 have hlen := zlc hr
 have hlives := c.lives
 have hmap := c.map
 rw [zbk code ext c.c483]
 by_cases hb : ks.length ≤ 300
 ·have hb' : ¬ (300 : Int) < ks.length := by omega
  obtain ⟨room, hm, hfill⟩ := zea c hr k v hb (s := ⟨0, mapsEnv lv k v (stP [] 0) 0, [.rich did0, .map []]⟩) (by
   generalize stP [] 0 = sv0
   simp -implicitDefEqProofs [])
  have hle := zac ks ks.length
  obtain ⟨room', w, hm', hput⟩ := c.put hm (by omega) hk hv
  have hask := za2 c hr k v w hb hm' (fun j kj hj => zab ks ks.length j kj (List.getElem?_eq_some_iff.1 hj).1 hj) (s := ⟨0, [(0, .imm lv), (1, int64 k), (2, int64 v), (7, .optr 0 0), (9, .omap 1), (13, .optr 3 0), (14, int64 0)], [.rich did0, .map (seenP (accP ks ks.length)), .rich [.imm (stP (accP ks ks.length) room), .imm (.val (.int .u8 2)), int64 (accP ks ks.length).length, emptyS, int64 0], .rich (didQ (stP (putR (accP ks ks.length) k v) room') w)]⟩) (by
   have r4 := fun f => zne f (accP ks ks.length)
   have r5 := znc (accP ks ks.length)
   have r6 := znd (accP ks ks.length)
   generalize stP (putR (accP ks ks.length) k v) room' = sv
   generalize seenP (accP ks ks.length) = M1 at *
   generalize stP (accP ks ks.length) room = sv1
   generalize (accP ks ks.length).length = al
   generalize stP [] 0 = sv0
   simp -implicitDefEqProofs [r4, r5, r6])
  have hget := c.get hm' (k := k) (x := v) (by rw [zg9, if_pos rfl])
  have hl := c.len hm
  have hnum := c.num
  have hsl := zm8 (accP ks ks.length)
  have r4 := fun f => zne f (accP ks ks.length)
  have r5 := znc (accP ks ks.length)
  have r6 := znd (accP ks ks.length)
  unfold x483V
  clear hr hm hm' hle hb
  simp only [mapsEnv, asksEnv, didQ, did0] at *
  generalize stP (putR (accP ks ks.length) k v) room' = sv2 at *
  generalize stP (accP ks ks.length) room = sv at *
  generalize stP [] 0 = sv0 at *
  generalize seenP (accP ks ks.length) = M1 at *
  generalize (accP ks ks.length).length = al at *
  generalize x483VL1 = L1 at *
  generalize x483VL2 = L2 at *
  simp -implicitDefEqProofs [hlen, hb', hmap, hfill, hl, hnum, hsl, hput, hask, hget, hlives, r4, r5, r6, -exView]
 ·have hb' : (300 : Int) < ks.length := by omega
  simp -implicitDefEqProofs [x483V, hlen, hb', hlives, -exView]
end
end Go.EX

