import Derived.Test.YtmpldniokcfmbaaDoorK6
set_option linter.unusedVariables false
set_option linter.unusedSimpArgs false
namespace Go.EX
def Mem.upd (m : Mem) (u : Nat → Option AObj) : Mem := (List.range m.length).map fun id => (u id).getD ((m[id]?).getD .dead)
theorem zqm (m : Mem) (u : Nat → Option AObj) : (m.upd u).length = m.length := by simp [Mem.upd]
theorem zql (m : Mem) (u : Nat → Option AObj) {id : Nat} (h : id < m.length) : (m.upd u)[id]? = some ((u id).getD ((m[id]?).getD .dead)) := by
 unfold Mem.upd
 rw [List.getElem?_map, List.getElem?_range h]; rfl
theorem zqp (m : Mem) {u : Nat → Option AObj} {id : Nat} (h : u id = none) : (m.upd u)[id]? = m[id]? := by
 rcases Nat.lt_or_ge id m.length with h1 | h1
 ·rw [zql m u h1, h, Option.getD_none, List.getElem?_eq_getElem h1]; rfl
 ·rw [List.getElem?_eq_none (by rw [zqm]; exact h1), List.getElem?_eq_none h1]
theorem zqn (m : Mem) : m.upd (fun _ => none) = m := List.ext_getElem? fun id => zqp m rfl
structure Acts (K : Nat → Prop) (len : Nat) (val : Nat → AV) (new : Nat → List AObj) (upd : Nat → Nat → Option AObj) : Prop where
 made : Makes K len val new
 inU : ∀ p id o, upd p id = some o → K id ∧ ∀ j ∈ o.refs, K j ∨ (p ≤ j ∧ j < p + len)
 renU : ∀ p q f, (∀ j, j < len → f (p + j) = some (q + j)) → (∀ id, K id → f id = some id) → ∀ id, (upd p id).map (AObj.ren f) = upd q id
theorem zal {K : Nat → Prop} {len : Nat} {val : Nat → AV} {new : Nat → List AObj} (h : Makes K len val new) : Acts K len val new fun _ _ => none :=
 ⟨h, fun _ _ _ h => (by cases h), fun _ _ _ _ _ _ => rfl⟩
theorem zi4 {K : Nat → Prop} {v : AV} (hv : In K v) : Makes K 0 (fun _ => v) (fun _ => []) :=
 ⟨fun _ => rfl, fun p id hid => .inl (hv id hid), fun p o ho => absurd ho (by simp), fun p q f _ h2 => ⟨ren_id fun id hid => h2 id (hv id hid), rfl⟩⟩
theorem zp5 {s : St} {l : List Nat} {mc : Mem} (back : Nat → Option Nat) (hlt : ∀ id ∈ l, id < s.mem.length) (hml : l.length ≤ mc.length) (hmv : ∀ id ∈ l, ((s.mem[id]?).getD .dead).moved = false) :
  (List.range (s.mem.length + (mc.length - l.length))).map (shareAt s l mc back some) = s.mem.upd (fun id => (place l id).map fun i => ((mc[i]?).getD .dead).ren back) ++ (mc.drop l.length).map (AObj.ren back) := by
 apply List.ext_getElem?
 intro id
 rcases Nat.lt_or_ge id s.mem.length with h | h
 ·rw [List.getElem?_map, List.getElem?_range (by omega), List.getElem?_append_left (by rw [zqm]; exact h), zql _ _ h]
  simp only [Option.map_some, Option.some.injEq]
  unfold shareAt
  cases hp : place l id with
  | none => simp only [h, if_true, Option.map_none, Option.getD_none]; exact zjx _
  | some i =>
   simp only [Option.map_some, Option.getD_some]
   rw [hmv id (List.mem_of_getElem? (zk8 l id i hp)), zj8]
 ·rcases Nat.lt_or_ge id (s.mem.length + (mc.length - l.length)) with h' | h'
  ·rw [List.getElem?_map, List.getElem?_range h', List.getElem?_append_right (by rw [zqm]; exact h), zqm, List.getElem?_map, List.getElem?_drop]
   have hi : l.length + (id - s.mem.length) < mc.length := by omega
   have hnone : place l id = none := zk9 fun hm => by have := hlt _ hm; omega
   simp only [Option.map_some, List.getElem?_eq_getElem hi, Option.some.injEq]
   unfold shareAt
   simp only [hnone, if_neg (Nat.not_lt.2 h), List.getElem?_eq_getElem hi, Option.getD_some]
  ·rw [List.getElem?_eq_none (by simpa using h'), List.getElem?_eq_none (by simp [zqm]; omega)]
theorem zp4 {call : Calls'} {K : Nat → Prop} {s t : St} {fn : Nat} {as : List AV} (hm : Agree K s.mem t.mem) (hk : InL K as) {r : AV} {s' : St} (h : exTouch call s fn as = some (r, s')) :
  ∃ (len : Nat) (val : Nat → AV) (new : Nat → List AObj) (upd : Nat → Nat → Option AObj), Acts K len val new upd ∧ r = val s.mem.length ∧ s' = { s with mem := s.mem.upd (upd s.mem.length) ++ new s.mem.length } ∧
   exTouch call t fn as = some (val t.mem.length, { t with mem := t.mem.upd (upd t.mem.length) ++ new t.mem.length }) := by
 have hord := zkd hm hk
 obtain ⟨_, hlts, _⟩ := zke (k := 0) (roots := AV.refs.refsL as) (m := s.mem) (Nat.zero_le _)
 obtain ⟨_, hltt, _⟩ := zke (k := 0) (roots := AV.refs.refsL as) (m := t.mem) (Nat.zero_le _)
 unfold exTouch at h ⊢
 dsimp only at h ⊢
 rw [hord.1] at hltt ⊢
 rw [zkz hm hord.2]
 have hK := hord.2
 clear hord
 generalize order 0 (AV.refs.refsL as) s.mem = l at *
 cases hc : call fn (AV.ren.renL (place l) as) (s.mem.pickAll l) with
 | none => simp [hc] at h
 | some rm =>
  obtain ⟨rv, mc⟩ := rm
  simp only [hc] at h ⊢
  split at h
  case isFalse => cases h
  rename_i hq
  obtain ⟨hml, hall⟩ := hq
  rw [Bool.and_eq_true, Bool.and_eq_true, Bool.and_eq_true] at hall
  obtain ⟨ha1, ha2, hc1, hc2⟩ := hall
  have ha1' := ha1
  rw [List.all_eq_true] at ha1'
  have hmv : ∀ id ∈ l, ((s.mem[id]?).getD .dead).moved = false := fun id hid => by
   have := ha1' id hid
   simp only [Bool.and_eq_true, Bool.not_eq_true'] at this
   exact this.2
  have ha1t : (l.all fun id => !((t.mem[id]?).getD .dead).isFix && !((t.mem[id]?).getD .dead).moved) = true := by
   rw [List.all_eq_true]
   intro id hid
   rw [hm.same id (hK id hid)]
   exact ha1' id hid
  have hmvt : ∀ id ∈ l, ((t.mem[id]?).getD .dead).moved = false := fun id hid => by rw [hm.same id (hK id hid)]; exact hmv id hid
  have hb1 : ∀ i ∈ rv.refs, i < mc.length := fun i hi => by simpa using List.all_eq_true.1 hc1 i hi
  have hb2 : ∀ o ∈ mc, ∀ i ∈ o.refs, i < mc.length := fun o ho i hi => by
   have := List.all_eq_true.1 hc2 o ho
   simpa using List.all_eq_true.1 this i hi
  rw [zp5 _ hlts hml hmv] at h
  have hback : ∀ (p i id : Nat), i < mc.length → (if i < l.length then l[i]? else some (p + (i - l.length))) = some id → K id ∨ (p ≤ id ∧ id < p + (mc.length - l.length)) := by
   intro p i id hi he
   split at he
   ·exact .inl (hK id (List.mem_of_getElem? he))
   ·cases he; right; omega
  have hbind : ∀ (p q : Nat) (f : Nat → Option Nat), (∀ j, j < mc.length - l.length → f (p + j) = some (q + j)) → (∀ id, K id → f id = some id) → ∀ i, i < mc.length → ((if i < l.length then l[i]? else some (p + (i - l.length))).bind f) = (if i < l.length then l[i]? else some (q + (i - l.length))) := by
   intro p q f h1 h2 i hi
   split
   ·rename_i hil
    rw [List.getElem?_eq_getElem hil, Option.bind_some]
    exact h2 _ (hK _ (List.getElem_mem hil))
   ·rw [Option.bind_some]; exact h1 _ (by omega)
  have hat : ∀ i id, place l id = some i → ∃ o, mc[i]? = some o ∧ o ∈ mc ∧ K id := fun i id hp => by
   have hi := zk8 l id i hp
   have hil := (List.getElem?_eq_some_iff.1 hi).1
   have : mc[i]? = some mc[i] := List.getElem?_eq_getElem (by omega)
   exact ⟨_, this, List.mem_of_getElem? this, hK id (List.mem_of_getElem? hi)⟩
  cases h
  refine ⟨mc.length - l.length, fun p => rv.ren fun i => if i < l.length then l[i]? else some (p + (i - l.length)), fun p => (mc.drop l.length).map (AObj.ren fun i => if i < l.length then l[i]? else some (p + (i - l.length))),
   fun p id => (place l id).map fun i => ((mc[i]?).getD .dead).ren fun i => if i < l.length then l[i]? else some (p + (i - l.length)), ⟨⟨fun p => by simp, fun p id hid => ?_, fun p o ho id hid => ?_, fun p q f h1 h2 => ⟨?_, ?_⟩⟩, fun p id o ho => ?_, fun p q f h1 h2 id => ?_⟩, rfl, rfl, ?_⟩
  ·obtain ⟨i, hi, e⟩ := zms rv id hid
   exact hback p i id (hb1 i hi) e
  ·obtain ⟨o', ho', rfl⟩ := List.mem_map.1 ho
   obtain ⟨i, hi, e⟩ := zjv o' id hid
   exact hback p i id (hb2 o' (List.mem_of_mem_drop ho') i hi) e
  ·rw [zmt]
   exact zmo rv fun i hi => hbind p q f h1 h2 i (hb1 i hi)
  ·rw [List.map_map]
   refine List.map_congr_left fun o ho => ?_
   simp only [Function.comp, zjw]
   exact zjt o fun i hi => hbind p q f h1 h2 i (hb2 o (List.mem_of_mem_drop ho) i hi)
  ·simp only [Option.map_eq_some_iff] at ho
   obtain ⟨i, hi, rfl⟩ := ho
   obtain ⟨o, ho, hmem, hKid⟩ := hat i id hi
   refine ⟨hKid, fun j hj => ?_⟩
   rw [ho, Option.getD_some] at hj
   obtain ⟨i', hi', e⟩ := zjv o j hj
   exact hback p i' j (hb2 o hmem i' hi') e
  ·cases hp : place l id with
   | none => rfl
   | some i =>
    obtain ⟨o, ho, hmem, hKid⟩ := hat i id hp
    simp only [Option.map_some, ho, Option.getD_some, zjw, Option.some.injEq]
    exact zjt o fun i hi => hbind p q f h1 h2 i (hb2 o hmem i hi)
  ·rw [if_pos, zp5 _ hltt hml hmvt]
   refine ⟨hml, ?_⟩
   rw [Bool.and_eq_true, Bool.and_eq_true, Bool.and_eq_true]
   exact ⟨ha1t, ha2, hc1, hc2⟩
theorem zio {s t : Mem} {agg : Option Nat} {x : AV} (h : ∀ id ∈ x.refs, t[id]? = s[id]?) : loadAt t agg x = loadAt s agg x := by
 unfold loadAt
 cases x with
 | optr id off => simp only [h id (by simp [AV.refs])]
 | imm y => cases y <;> rfl
 | tag b a y => cases y <;> rfl
 | _ => rfl
theorem zqo {m : Mem} {id : Nat} {o : AObj} (h : id < m.length) : m.upd (fun j => if j = id then some o else none) = m.set id o := by
 apply List.ext_getElem?
 intro j
 rcases Nat.lt_or_ge j m.length with hj | hj
 ·rw [zql _ _ hj]
  by_cases he : j = id
  ·subst he; rw [if_pos rfl, List.getElem?_set_self h]; rfl
  ·rw [if_neg he, List.getElem?_set_ne (Ne.symm he), List.getElem?_eq_getElem hj]; rfl
 ·rw [List.getElem?_eq_none (by rw [zqm]; exact hj), List.getElem?_eq_none (by simpa using hj)]
theorem zpj {K : Nat → Prop} {s t : Mem} (hm : Agree K s t) {a : AV} {vs : List AV} (ha : In K a) (hv : InL K vs) {m : Mem} (h : storeAt s a vs = some m) :
  ∃ id o, K id ∧ id < s.length ∧ True ∧ m = s.set id o ∧ (∀ j ∈ o.refs, K j) ∧ ∀ m2 : Mem, m2[id]? = s[id]? → storeAt m2 a vs = some (m2.set id o) := by
 unfold storeAt at h
 split at h
 ·rename_i id off
  have hK := in_optr.1 ha
  have refs : ∀ {cs : List AV}, InL K cs → ∀ j ∈ (AObj.rich cs).refs, K j := fun {cs} hc j hj => by
   simp only [AObj.refs] at hj
   obtain ⟨x, hx, hj⟩ := refsL_mem.1 hj
   exact hc x hx j hj
  split at h
  ·rename_i cs mv ho
   have hlt := (List.getElem?_eq_some_iff.1 ho).1
   split at h
   ·rename_i ys hys
    split at h
    ·rename_i hle
     cases h
     refine ⟨id, .flat (setAll cs off ys) mv, hK, hlt, trivial, rfl, fun j hj => by simp [AObj.refs] at hj, fun m2 h2 => ?_⟩
     simp only [storeAt, h2, ho, hys, hle, if_true]
    ·cases h
   ·rename_i hys
    split at h
    ·rename_i hle
     cases h
     have hr := refs (zhe vs (cs.map .imm) off (InL.mapImm cs fun x => x) hv)
     refine ⟨id, .rich (setAll (cs.map .imm) off vs), hK, hlt, trivial, rfl, hr, fun m2 h2 => ?_⟩
     simp only [storeAt, h2, ho, hys, hle, and_self, if_true]
    ·cases h
  ·rename_i cs ho
   have hlt := (List.getElem?_eq_some_iff.1 ho).1
   split at h
   ·rename_i hle
    cases h
    have hr := refs (zhe vs cs off (zhd hm hK ho) hv)
    refine ⟨id, .rich (setAll cs off vs), hK, hlt, trivial, rfl, hr, fun m2 h2 => ?_⟩
    simp only [storeAt, h2, ho, hle, if_true]
   ·cases h
  ·cases h
 ·cases h
theorem zdk {K : Nat → Prop} {s t : Mem} (hm : Agree K s t) {sz : Nat} {x : AV} (hx : In K x) : elemsR t sz x = elemsR s sz x := by
 unfold elemsR
 cases x with
 | osl id off z len cap => simp only [hm.same id (in_osl.1 hx)]
 | _ => rfl
theorem zg3 {K : Nat → Prop} {s t : Mem} (hm : Agree K s t) {sz : Nat} {x : AV} (hx : In K x) {n : Nat} {news : List AV} (h : elemsR s sz x = some (n, news)) : InL K news := by
 unfold elemsR at h
 split at h
 ·have hk := in_osl.1 hx
  split at h
  ·rename_i cs hcs
   simp only [Option.map_eq_some_iff, Prod.mk.injEq] at h
   obtain ⟨r, hr, _, rfl⟩ := h
   exact in_cut (zhd hm hk hcs) hr
  ·simp only [Option.map_eq_some_iff, Prod.mk.injEq] at h
   obtain ⟨r, hr, _, rfl⟩ := h
   exact InL.mapImm r fun x => x
  ·cases h
 ·cases h
theorem zg1 {K : Nat → Prop} {a b : List AV} (ha : InL K a) (hb : InL K b) : InL K (a ++ b) := fun x hx => by
 rcases List.mem_append.1 hx with h | h
 ·exact ha x h
 ·exact hb x h
theorem zm6 {K : Nat → Prop} {cs : List AV} (hc : InL K cs) : ∀ j ∈ (AObj.rich cs).refs, K j := fun j hj => by
 simp only [AObj.refs] at hj
 obtain ⟨x, hx, hj⟩ := refsL_mem.1 hj
 exact hc x hx j hj
theorem za4 {K : Nat → Prop} {s t : St} (hm : Agree K s.mem t.mem) {sz bytes : Nat} {a x : AV} (ha : In K a) (hx : In K x) {r : AV} {s' : St} (h : exAppendR s sz bytes a x = some (r, s')) :
  ∃ (len : Nat) (val : Nat → AV) (new : Nat → List AObj) (upd : Nat → Nat → Option AObj), (Acts K len val new upd ∧ ∀ p q, upd p = upd q) ∧ r = val s.mem.length ∧ s' = { s with mem := s.mem.upd (upd s.mem.length) ++ new s.mem.length } ∧
   exAppendR t sz bytes a x = some (val t.mem.length, { t with mem := t.mem.upd (upd t.mem.length) ++ new t.mem.length }) := by
 have one : ∀ (o : AObj) (val : Nat → AV), (∀ j ∈ o.refs, K j) → (∀ p, (val p).refs = [p]) → (∀ p q f, f p = some q → (val p).ren f = val q) → Makes K 1 val fun _ => [o] := fun o val h1 h2 h3 => zi2 o h1 val h2 h3
 unfold exAppendR at h ⊢
 rw [zdk hm hx]
 cases hel : elemsR s.mem sz x with
 | none => rw [hel] at h; cases h
 | some nn =>
  obtain ⟨n, news⟩ := nn
  have hnews := zg3 hm hx hel
  simp only [hel] at h ⊢
  split at h
  ·cases h
  ·rename_i hn0
   rw [if_neg hn0]
   split at h
   ·split at h
    ·rename_i hb
     simp only [fresh, Option.some.injEq, Prod.mk.injEq] at h
     obtain ⟨rfl, rfl⟩ := h
     refine ⟨1, fun id => .osl id 0 sz n none, fun _ => [.rich news], fun _ _ => none, ⟨zal (one _ _ (zm6 hnews) (fun _ => rfl) fun p q f hf => by simp [AV.ren, hf]), fun _ _ => rfl⟩, rfl, by rw [zqn], ?_⟩
     simp only [if_pos hb, fresh, zqn]
    ·cases h
   ·rename_i id sz' l
    have hid := in_osl.1 ha
    rw [zdk hm ha]
    split at h
    ·rename_i hsz
     split at h
     ·rename_i z old hold
      have hold' := zg3 hm ha hold
      split at h
      ·rename_i hb
       simp only [Option.some.injEq, Prod.mk.injEq] at h
       obtain ⟨rfl, rfl⟩ := h
       have hlt : id < s.mem.length := by
        unfold elemsR at hold
        dsimp only at hold
        refine Classical.byContradiction fun hge => ?_
        rw [List.getElem?_eq_none (by omega)] at hold
        cases hold
       have hltt : id < t.mem.length := by
        have := hm.same id hid
        rw [List.getElem?_eq_getElem hlt] at this
        exact (List.getElem?_eq_some_iff.1 this).1
       refine ⟨1, fun p => .osl p 0 sz (l + n) none, fun _ => [.rich (old ++ news)], fun _ j => if j = id then some .dead else none, ⟨⟨one _ _ (zm6 (zg1 hold' hnews)) (fun _ => rfl) (fun p q f hf => by simp [AV.ren, hf]), fun p j o ho => ?_, fun p q f h1 h2 j => ?_⟩, fun _ _ => rfl⟩, rfl, ?_, ?_⟩
       ·split at ho
        ·rename_i hj; cases ho; subst hj; exact ⟨hid, fun i hi => by simp [AObj.refs] at hi⟩
        ·cases ho
       ·split
        ·rfl
        ·rfl
       ·rw [zqo hlt]
       ·simp only [hsz, if_true, hold, if_pos hb, zqo hltt]
      ·cases h
     ·cases h
    ·cases h
   ·rename_i id off sz' l c
    have hid := in_osl.1 ha
    have hrich : richOf t.mem id = richOf s.mem id := by unfold richOf; rw [hm.same id hid]
    rw [zdk hm ha, hrich]
    split at h
    ·rename_i hroom
     rw [if_pos hroom]
     split at h
     ·rename_i cs hcs
      split at h
      ·rename_i hle
       simp only [Option.some.injEq, Prod.mk.injEq] at h
       obtain ⟨rfl, rfl⟩ := h
       have hlt : id < s.mem.length := by
        unfold richOf at hcs
        refine Classical.byContradiction fun hge => ?_
        rw [List.getElem?_eq_none (by omega)] at hcs
        cases hcs
       have hltt : id < t.mem.length := by
        have := hm.same id hid
        rw [List.getElem?_eq_getElem hlt] at this
        exact (List.getElem?_eq_some_iff.1 this).1
       have hcsK : InL K cs := by
        unfold richOf at hcs
        split at hcs
        ·rename_i h1; cases hcs; exact zhd hm hid h1
        ·cases hcs; exact InL.mapImm _ fun x => x
        ·cases hcs
       have hrr := zm6 (zhe news cs (off + l * sz) hcsK hnews)
       refine ⟨0, fun _ => .osl id off sz (l + n) (some c), fun _ => [], fun _ j => if j = id then some (.rich (setAll cs (off + l * sz) news)) else none, ⟨⟨zi4 (in_osl.2 hid), fun p j o ho => ?_, fun p q f h1 h2 j => ?_⟩, fun _ _ => rfl⟩, rfl, ?_, ?_⟩
       ·split at ho
        ·rename_i hj; cases ho; subst hj; exact ⟨hid, fun i hi => .inl (hrr i hi)⟩
        ·cases ho
       ·split
        ·simp only [Option.map_some, Option.some.injEq]; exact zju fun i hi => h2 i (hrr i hi)
        ·rfl
       ·rw [List.append_nil, zqo hlt]
       ·simp only [hcs, if_pos hle, List.append_nil, zqo hltt]
      ·cases h
     ·cases h
    ·rename_i hroom
     rw [if_neg hroom]
     split at h
     ·rename_i hsz
      rw [if_pos hsz]
      split at h
      ·rename_i z old hold
       have hold' := zg3 hm ha hold
       split at h
       ·rename_i hb
        simp only [fresh, Option.some.injEq, Prod.mk.injEq] at h
        obtain ⟨rfl, rfl⟩ := h
        refine ⟨1, fun p => .osl p 0 sz (l + n) none, fun _ => [.rich (old ++ news)], fun _ _ => none, ⟨zal (one _ _ (zm6 (zg1 hold' hnews)) (fun _ => rfl) fun p q f hf => by simp [AV.ren, hf]), fun _ _ => rfl⟩, rfl, by rw [zqn], ?_⟩
        simp only [hold, if_pos hb, fresh, zqn]
       ·cases h
      ·cases h
     ·cases h
   ·cases h
theorem zj6 {call : Calls'} {K : Nat → Prop} {x : XOp} (hc : touchOp x = true) (hw : x.strip = x) {s t : St} (hm : Agree K s.mem t.mem) (he : ∀ n ∈ x.reads, t.env.get n = s.env.get n) (hk : ∀ n ∈ x.reads, In K (s.env.get n)) {r : AV} {s' : St} (h : exOp call s x = some (r, s')) :
  ∃ (len : Nat) (val : Nat → AV) (new : Nat → List AObj) (upd : Nat → Nat → Option AObj), Acts K len val new upd ∧ r = val s.mem.length ∧ s' = { s with mem := s.mem.upd (upd s.mem.length) ++ new s.mem.length } ∧
   exOp call t x = some (val t.mem.length, { t with mem := t.mem.upd (upd t.mem.length) ++ new t.mem.length }) := by
 have e1 : ∀ y, (∀ n ∈ srcTmp y, n ∈ x.reads) → t.env.ev y = s.env.ev y := fun y hy => zd3 fun n hn => he n (hy n hn)
 have k1 : ∀ y, (∀ n ∈ srcTmp y, n ∈ x.reads) → In K (s.env.ev y) := fun y hy => in_ev fun n hn => hk n (hy n hn)
 unfold touchOp at hc
 split at hc
 ·rename_i fn l
  have hin : InL K (l.map s.env.ev) := fun x hx => by
   obtain ⟨q, hq, rfl⟩ := List.mem_map.1 hx
   exact k1 q fun n hn => by simp only [XOp.reads]; exact List.mem_flatMap.2 ⟨q, hq, hn⟩
  have hl : l.map t.env.ev = l.map s.env.ev := zd0 fun n hn => he n (by simp only [XOp.reads]; exact hn)
  simp only [exOp] at h ⊢
  rw [hl]
  exact zp4 hm hin h
 ·rename_i g l w
  simp only [XOp.strip, XOp.callT.injEq, true_and] at hw
  subst hw
  have kg := k1 g (by simp [XOp.reads]; intros; simp [*])
  have hin : InL K (l.map s.env.ev) := fun x hx => by
   obtain ⟨q, hq, rfl⟩ := List.mem_map.1 hx
   exact k1 q fun n hn => by simp only [XOp.reads]; exact List.mem_append.2 (.inr (List.mem_flatMap.2 ⟨q, hq, hn⟩))
  have hl : l.map t.env.ev = l.map s.env.ev := zd0 fun n hn => he n (by simp only [XOp.reads]; exact List.mem_append.2 (.inr hn))
  simp only [exOp] at h ⊢
  rw [e1 g (by simp [XOp.reads]; intros; simp [*]), hl]
  generalize s.env.ev g = gv at h kg ⊢
  split at h
  ·rename_i fn caps
   split at h
   ·rename_i r0 s0 hx
    split at h
    ·rename_i hcond
     cases h
     simp only [List.all_nil, Bool.and_true, decide_eq_true_eq] at hcond
     obtain ⟨len, val, new, upd, ha, rfl, rfl, ht⟩ := zp4 hm (fun x hx => by
      rcases List.mem_append.1 hx with hx | hx
      ·exact hin x hx
      ·exact in_clo.1 kg x hx) hx
     refine ⟨len, val, new, upd, ha, rfl, rfl, ?_⟩
     have hl0 : len = 0 := by
      have := ha.made.size s.mem.length
      simp only [List.length_append, zqm] at hcond
      omega
     subst hl0
     have hnil : ∀ p, new p = [] := fun p => List.eq_nil_of_length_eq_zero (ha.made.size p)
     simp only [ht, List.all_nil, Bool.and_true]
     rw [if_pos (by simp [zqm, hnil])]
    ·cases h
   ·cases h
  ·cases h
 ·rename_i n a y
  have ka := k1 a (by simp [XOp.reads]; intros; simp [*])
  have ky := k1 y (by simp [XOp.reads]; intros; simp [*])
  simp only [exOp] at h ⊢
  rw [e1 a (by simp [XOp.reads]; intros; simp [*]), e1 y (by simp [XOp.reads]; intros; simp [*])]
  split at h
  ·rename_i cs hcs
   split at h
   ·rename_i hn
    simp only [Option.map_eq_some_iff, Prod.mk.injEq] at h
    obtain ⟨m, hst, rfl, rfl⟩ := h
    obtain ⟨id, o, hid, hlt, _, rfl, ho, hall⟩ := zpj hm ka (zg2 ky hcs) hst
    refine ⟨0, fun _ => .junk, fun _ => [], fun _ j => if j = id then some o else none, ⟨zi4 zg7, fun p j o' ho' => ?_, fun p q f h1 h2 j => ?_⟩, rfl, ?_, ?_⟩
    ·split at ho'
     ·rename_i hj; cases ho'; subst hj; exact ⟨hid, fun i hi => .inl (ho i hi)⟩
     ·cases ho'
    ·split
     ·simp only [Option.map_some, Option.some.injEq]; exact zju fun i hi => h2 i (ho i hi)
     ·rfl
    ·rw [List.append_nil, zqo hlt]
    ·have hlt' : id < t.mem.length := by
      have := hm.same id hid
      rw [List.getElem?_eq_getElem hlt] at this
      exact (List.getElem?_eq_some_iff.1 this).1
     simp only [hcs, hn, if_true, hall t.mem (hm.same id hid), Option.map_some, List.append_nil, zqo hlt']
   ·cases h
  ·cases h
 ·rename_i sz bytes a y w
  simp only [XOp.strip, XOp.appendT.injEq, true_and] at hw
  subst hw
  have ka := k1 a (by simp [XOp.reads]; intros; simp [*])
  have ky := k1 y (by simp [XOp.reads]; intros; simp [*])
  simp only [exOp] at h ⊢
  rw [e1 a (by simp [XOp.reads]; intros; simp [*]), e1 y (by simp [XOp.reads]; intros; simp [*])]
  split at h
  ·rename_i r0 s0 hx
   split at h
   ·cases h
    obtain ⟨len, val, new, upd, ⟨ha, _⟩, rfl, rfl, ht⟩ := za4 hm ka ky hx
    refine ⟨len, val, new, upd, ha, rfl, rfl, ?_⟩
    simp only [ht, List.all_nil, if_true]
   ·cases h
  ·cases h
 ·cases hc
theorem zpn (x : XOp) : x.strip.strip = x.strip := by cases x <;> rfl
theorem strip_reads (x : XOp) : x.strip.reads = x.reads := by cases x <;> rfl
theorem strip_needs (x : XOp) : x.strip.needs = x.needs := by cases x <;> rfl
theorem zpo (x : XOp) : touchOp x.strip = touchOp x := by cases x <;> rfl
theorem strip_wipe (x : XOp) : x.strip.wipe = x.wipe := by cases x <;> rfl
theorem zpm {x : XOp} (h : (calmOp x || makeOp x) = true) : x.strip = x := by cases x <;> first | rfl | cases h
theorem XO.strip_wipe (x : XO) : x.strip.wipe = x.wipe := by simp only [XO.strip, XO.wipe, Go.EX.strip_wipe]
theorem XO.strip_reads (x : XO) : x.strip.reads = x.reads := by simp only [XO.strip, XO.reads, Go.EX.strip_reads, Go.EX.strip_needs]
theorem zj5 {call : Calls'} {x : XOp} {s : St} {r : AV × St} (h : exOp call s x = some r) : exOp call s x.strip = some r := by
 cases x with
 | callT f l w =>
  simp only [XOp.strip, exOp] at h ⊢
  split at h
  ·split at h
   ·split at h
    ·rename_i hx hcond
     rw [Bool.and_eq_true] at hcond
     cases h
     simp only [hx, hcond.1, List.all_nil, Bool.and_true, if_true]
    ·cases h
   ·cases h
  ·cases h
 | appendT sz b a x w =>
  simp only [XOp.strip, exOp] at h ⊢
  split at h
  ·split at h
   ·rename_i hx _
    cases h
    simp only [hx, List.all_nil, if_true]
   ·cases h
  ·cases h
 | _ => exact h
theorem zj2 {call : Calls'} {K : Nat → Prop} {x : XO} (hc : (calmOp x.op || makeOp x.op || touchOp x.op) = true) {s t : St} (hm : Agree K s.mem t.mem) (he : ∀ n ∈ x.reads, t.env.get n = s.env.get n) (hk : ∀ n ∈ x.reads, In K (s.env.get n))
  (hb : ∀ fn l as r mc, x.op = .call .own fn l → (l.map s.env.ev).mapM (frz s.mem) = some as → call fn as [] = some (r, mc) → (∀ id ∈ r.refs, id < mc.length) ∧ ∀ o ∈ mc, ∀ id ∈ o.refs, id < mc.length) {s' : St} (h : exOne call s x = some s') :
  ∃ (len : Nat) (val : Nat → AV) (new : Nat → List AObj) (upd : Nat → Nat → Option AObj), Acts K len val new upd ∧ (touchOp x.op = false → upd = fun _ _ => none) ∧ s' = ({ s with mem := s.mem.upd (upd s.mem.length) ++ new s.mem.length } : St).bind x.dst (val s.mem.length) ∧
   exOne call t x.strip = some (({ t with mem := t.mem.upd (upd t.mem.length) ++ new t.mem.length } : St).bind x.dst (val t.mem.length)) := by
 have r1 : ∀ n ∈ x.op.strip.reads, n ∈ x.reads := fun n hn => List.mem_append.2 (.inl (by rw [strip_reads] at hn; exact hn))
 have r3 : ∀ u b, x.guard = some (u, b) → u ∈ x.reads := fun u b hg => List.mem_append.2 (.inr (List.mem_append.2 (.inr (by simp [hg]))))
 have nil : ∀ (u : St), ({ u with mem := u.mem.upd (fun _ => none) ++ [] } : St) = u := fun u => by rw [zqn, List.append_nil]
 by_cases hq : (calmOp x.op || makeOp x.op) = true
 ·have hxs : x.strip = x := by cases x; simp only [XO.strip, zpm hq]
  rw [hxs]
  obtain ⟨len, val, new, h1, h2, h3⟩ := zj3 hq hm he hk hb h
  refine ⟨len, val, new, fun _ _ => none, zal h1, fun _ => rfl, ?_, ?_⟩
  ·rw [zqn]; exact h2
  ·rw [zqn]; exact h3
 ·have htc : touchOp x.op = true := by simpa [hq] using hc
  have hg0 : x.strip.guard = x.guard := rfl
  have hd0 : x.strip.dst = x.dst := rfl
  rcases zd8 h with ⟨v, s1, hx, rfl, hg⟩ | ⟨rfl, u, b, hg, hcc⟩
  ·obtain ⟨len, val, new, upd, h1, rfl, rfl, h4⟩ := zj6 (x := x.op.strip) (by rw [zpo]; exact htc) (zpn _) hm (fun n hn => he n (r1 n hn)) (fun n hn => hk n (r1 n hn)) (zj5 hx)
   refine ⟨len, val, new, upd, h1, fun h => absurd h (by rw [htc]; decide), rfl, ?_⟩
   have h4 : exOp call t x.strip.op = _ := h4
   unfold exOne
   rw [hg0, hd0]
   rcases hg with hg | ⟨u, b, hg, hcc⟩
   ·simp only [hg, h4, Option.map_some]; cases x.dst <;> rfl
   ·have : t.env.get u = .imm (.val (.bool b)) := by rw [he u (r3 u b hg)]; exact hcc
    simp only [hg, this, h4, Option.map_some, if_true]; cases x.dst <;> rfl
  ·refine ⟨0, fun _ => .tup [], fun _ => [], fun _ _ => none, zal (zi4 (in_tup.2 fun y hy => by cases hy)), fun _ => rfl, by rw [nil], ?_⟩
   rw [nil]
   unfold exOne
   rw [hg0, hd0]
   rcases hcc with ⟨c, hcc, hne⟩ | hcc
   ·have : t.env.get u = .imm (.val (.bool c)) := by rw [he u (r3 u b hg)]; exact hcc
    simp only [hg, this, hne, if_false]
    cases x.dst <;> rfl
   ·have : t.env.get u = .tup [] := by rw [he u (r3 u b hg)]; exact hcc
    simp only [hg, this]
    cases x.dst <;> rfl
end Go.EX


set_option linter.unusedVariables false
set_option linter.unusedSimpArgs false
namespace Go.EX
theorem zb0 {call : Calls'} {x : XOp} (hc : calmOp x = true) (hf : freeOp x = true) {s : St} (m : Mem) {r : AV} {s' : St} (h : exOp call s x = some (r, s')) : s' = s ∧ exOp call { s with mem := m } x = some (r, { s with mem := m }) := by
 have hmap : ∀ {α : Type} (o : Option α) (f : α → AV), o.map (fun v => (f v, s)) = some (r, s') → s' = s ∧ o.map (fun v => (f v, ({ s with mem := m } : St))) = some (r, { s with mem := m }) := by
  intro α o f ho
  cases o with
  | none => cases ho
  | some v => cases ho; exact ⟨rfl, rfl⟩
 cases x <;> first | (cases hf; done) | (cases hc; done) | skip
 all_goals
  simp only [exOp] at h ⊢
  first
  | exact hmap _ _ h
  | (cases h; exact ⟨rfl, rfl⟩)
  | (revert h; split <;> intro h <;> first | (cases h; done) | (cases h; exact ⟨rfl, rfl⟩) | exact hmap _ _ h | (revert h; split <;> intro h <;> first | (cases h; done) | (cases h; exact ⟨rfl, rfl⟩) | exact hmap _ _ h | (revert h; split <;> intro h <;> first | (cases h; done) | (cases h; exact ⟨rfl, rfl⟩) | exact hmap _ _ h | (revert h; split <;> intro h <;> first | (cases h; done) | (cases h; exact ⟨rfl, rfl⟩)))))
theorem zap (K : Nat → Prop) : Agree K [] [] := ⟨fun _ _ => rfl, fun id o _ ho => by simp at ho⟩
theorem zi1 {call : Calls'} {K : Nat → Prop} {x : XOp} (hc : makeOp x = true) (hf : freeOp x = true) {s t : St} (he : ∀ n ∈ x.needs, t.env.get n = s.env.get n) (hk : ∀ n ∈ x.needs, In K (s.env.get n)) {r : AV} {s' : St} (h : exOp call s x = some (r, s')) :
  ∃ (len : Nat) (val : Nat → AV) (new : Nat → List AObj), Makes K len val new ∧ r = val s.mem.length ∧ s' = { s with mem := s.mem ++ new s.mem.length } ∧ exOp call t x = some (val t.mem.length, { t with mem := t.mem ++ new t.mem.length }) := by
 have e1 : ∀ y, (∀ n ∈ srcTmp y, n ∈ x.needs) → t.env.ev y = s.env.ev y := fun y hy => zd3 fun n hn => he n (hy n hn)
 have k1 : ∀ y, (∀ n ∈ srcTmp y, n ∈ x.needs) → In K (s.env.ev y) := fun y hy => in_ev fun n hn => hk n (hy n hn)
 cases x with
 | alloc zs =>
  cases h
  refine ⟨1, fun id => .optr id 0, fun _ => [.rich (imZ zs)], zi2 _ (fun id hid => ?_) _ (fun _ => rfl) (fun p q f hf => by simp [AV.ren, hf]), rfl, rfl, rfl⟩
  simp only [AObj.refs] at hid; obtain ⟨x, hx, hid⟩ := refsL_mem.1 hid; exact in_imZ zs x hx id hid
 | box n y =>
  have ky := k1 y (by simp [XOp.needs])
  simp only [exOp] at h ⊢
  rw [e1 y (by simp [XOp.needs])]
  cases hcs : (s.env.ev y).cells with
  | none => rw [hcs] at h; cases h
  | some cs =>
   rw [hcs] at h
   cases h
   refine ⟨1, fun id => .optr id 0, fun _ => [.rich cs], zi2 _ (fun id hid => ?_) _ (fun _ => rfl) (fun p q f hf => by simp [AV.ren, hf]), rfl, rfl, rfl⟩
   simp only [AObj.refs] at hid; obtain ⟨x, hx, hid⟩ := refsL_mem.1 hid; exact zg2 ky hcs x hx id hid
 | allocB off zs =>
  cases h
  exact ⟨1, fun id => .optr id 0, fun p => [.rich ((imZ zs).set off (.seat p off))], zi3 _ off (in_imZ zs), rfl, rfl, rfl⟩
 | boxB off n y =>
  have ky := k1 y (by simp [XOp.needs])
  simp only [exOp] at h ⊢
  rw [e1 y (by simp [XOp.needs])]
  cases hcs : (s.env.ev y).cells with
  | none => rw [hcs] at h; cases h
  | some cs =>
   rw [hcs] at h
   dsimp only at h ⊢
   split at h
   ·rename_i hln
    split at h
    ·rename_i hnil
     cases h
     exact ⟨1, fun id => .optr id 0, fun p => [.rich (cs.set off (.seat p off))], zi3 _ off (zg2 ky hcs), rfl, rfl, by rw [if_pos hln]; rfl⟩
    ·cases h
   ·cases h
 | buildSlice sz zs len ps =>
  simp only [exOp] at h ⊢
  rw [zd2 (s := s.env) (t := t.env) (by simpa [XOp.needs] using he)]
  cases hf : fillAll (imZ (copies len zs)) (ps.map fun (o, n, x) => (o, n, s.env.ev x)) with
  | none => rw [hf] at h; cases h
  | some cs =>
   rw [hf] at h
   cases h
   refine ⟨1, fun id => .osl id 0 sz len (some len), fun _ => [mkObj cs], zi2 _ (zg9 (zg4 _ _ _ (in_imZ _) (fun p hp => ?_) hf)) _ (fun _ => rfl) (fun p q f hf => by simp [AV.ren, hf]), rfl, rfl, rfl⟩
   obtain ⟨q, hq, rfl⟩ := List.mem_map.1 hp
   exact k1 q.2.2 fun n hn => by simp only [XOp.needs]; exact List.mem_flatMap.2 ⟨q, hq, hn⟩
 | makeSlice sz bytes zs l c =>
  simp only [exOp] at h ⊢
  rw [e1 l (by simp [XOp.needs]; intros; simp [*]), e1 c (by simp [XOp.needs]; intros; simp [*])]
  split at h
  ·rename_i i j hi hj
   split at h
   ·rename_i hbd
    cases h
    refine ⟨1, fun id => .osl id 0 sz i.toNat (some j.toNat), fun _ => [.flat (copies j.toNat (zs.map .val)) false], zi2 _ (fun id hid => by simp [AObj.refs] at hid) _ (fun _ => rfl) (fun p q f hf => by simp [AV.ren, hf]), rfl, rfl, ?_⟩
    simp only [hi, hj, hbd, and_self, if_true]
    rfl
   ·cases h
  ·cases h
 | makeMap hint =>
  have mk : Makes K 1 (fun id => .omap id) (fun _ => [.map []]) := zi2 _ (fun id hid => by simp [AObj.refs, AV.refs.refsL] at hid) _ (fun _ => rfl) (fun p q f hf => by simp [AV.ren, hf])
  simp only [exOp] at h ⊢
  cases hint with
  | none => cases h; exact ⟨1, _, _, mk, rfl, rfl, rfl⟩
  | some y =>
   simp only at h ⊢
   rw [e1 y (by simp [XOp.needs, srcTmpO])]
   split at h
   ·rename_i i hi; cases h; exact ⟨1, _, _, mk, rfl, rfl, by rfl⟩
   ·cases h
 | call mode fn l => cases hf
 | _ => cases hc
theorem zj4 {call : Calls'} {K : Nat → Prop} {x : XO} (hc : (calmOp x.op || makeOp x.op) = true) (hf : freeOp x.op = true) {s t : St} (he : ∀ n ∈ x.reads, t.env.get n = s.env.get n) (hk : ∀ n ∈ x.reads, In K (s.env.get n)) {s' : St} (h : exOne call s x = some s') :
  ∃ (len : Nat) (val : Nat → AV) (new : Nat → List AObj), Makes K len val new ∧ s' = ({ s with mem := s.mem ++ new s.mem.length } : St).bind x.dst (val s.mem.length) ∧ exOne call t x = some (({ t with mem := t.mem ++ new t.mem.length } : St).bind x.dst (val t.mem.length)) := by
 have r1 : ∀ n ∈ x.op.reads, n ∈ x.reads := fun n hn => List.mem_append.2 (.inl hn)
 have r2 : ∀ n ∈ x.op.needs, n ∈ x.reads := fun n hn => List.mem_append.2 (.inr (List.mem_append.2 (.inl hn)))
 have r3 : ∀ u b, x.guard = some (u, b) → u ∈ x.reads := fun u b hg => List.mem_append.2 (.inr (List.mem_append.2 (.inr (by simp [hg]))))
 have nil : ∀ (u : St), ({ u with mem := u.mem ++ [] } : St) = u := fun u => by cases u; simp
 rcases zd8 h with ⟨v, s1, hx, rfl, hg⟩ | ⟨rfl, u, b, hg, hcc⟩
 ·have hop : ∃ (len : Nat) (val : Nat → AV) (new : Nat → List AObj), Makes K len val new ∧ v = val s.mem.length ∧ s1 = { s with mem := s.mem ++ new s.mem.length } ∧ exOp call t x.op = some (val t.mem.length, { t with mem := t.mem ++ new t.mem.length }) := by
   by_cases hcalm : calmOp x.op = true
   ·obtain ⟨rfl, h1⟩ := zb0 hcalm hf [] hx
    obtain ⟨_, h2, h3⟩ := zbz (K := K) hcalm (s := { s1 with mem := [] }) (t := { t with mem := [] }) (zap K) (fun n hn => he n (r1 n hn)) (fun n hn => hk n (r1 n hn)) h1
    obtain ⟨_, h4⟩ := zb0 hcalm hf t.mem h2
    refine ⟨0, fun _ => v, fun _ => [], zi4 h3, rfl, (nil _).symm, ?_⟩
    rw [nil]
    exact h4
   ·have hmake : makeOp x.op = true := by simpa [hcalm] using hc
    exact zi1 hmake hf (fun n hn => he n (r2 n hn)) (fun n hn => hk n (r2 n hn)) hx
  obtain ⟨len, val, new, h1, rfl, rfl, h4⟩ := hop
  refine ⟨len, val, new, h1, rfl, ?_⟩
  unfold exOne
  rcases hg with hg | ⟨u, b, hg, hcc⟩
  ·simp only [hg, h4, Option.map_some]; cases x.dst <;> rfl
  ·have : t.env.get u = .imm (.val (.bool b)) := by rw [he u (r3 u b hg)]; exact hcc
   simp only [hg, this, h4, Option.map_some, if_true]; cases x.dst <;> rfl
 ·refine ⟨0, fun _ => .tup [], fun _ => [], zi4 (in_tup.2 fun y hy => by cases hy), by rw [nil], ?_⟩
  unfold exOne
  rcases hcc with ⟨c, hcc, hne⟩ | hcc
  ·have : t.env.get u = .imm (.val (.bool c)) := by rw [he u (r3 u b hg)]; exact hcc
   simp only [hg, this, hne, if_false, nil]
   cases x.dst <;> rfl
  ·have : t.env.get u = .tup [] := by rw [he u (r3 u b hg)]; exact hcc
   simp only [hg, this, nil]
   cases x.dst <;> rfl
end Go.EX


set_option linter.unusedVariables false
set_option linter.unusedSimpArgs false
namespace Go.EX
def Touches (xs : List XO) (i : Nat) : Prop := ∃ x, xs[i]? = some x ∧ touchOp x.op = true
structure DrawnT (call : Calls') (P : Program) (num : Names) (N : Nat) (ops : Array Oper) (xs : List XO) (n : Nat) (s0 sF : St) (S : Nat → St) : Prop where
 len : xs.length = ops.size
 hn : n ≤ ops.size
 tr : ∀ (i : Nat) o, ops[i]? = some o → ∃ x : XO, xs[i]? = some x ∧ trOper P num N ops o = some x.wipe
 quiet : ∀ (i : Nat) x, i < n → xs[i]? = some x → (calmOp x.op || makeOp x.op || touchOp x.op) = true
 one : ∀ (i j : Nat) x y d, i < n → j < n → xs[i]? = some x → xs[j]? = some y → y.dst = some d → (i = j ∨ x.dst ≠ some d) ∧ (d ∈ x.reads → j < i ∧ Region.waitsFor .any ops i j = true)
 low : ∀ (i : Nat) o, i < n → ops[i]? = some o → ∀ e ∈ o.after, Region.binds .any e = true → e.on < i
 ord : ∀ (i j : Nat) x y, i < n → j < n → i ≠ j → xs[i]? = some x → xs[j]? = some y → touchOp x.op = true → (j < i ∧ waitsT ops 12 i j = true) ∨ (i < j ∧ waitsT ops 12 j i = true) ∨ (touchOp y.op = false ∧ freeOp y.op = true) ∨
  (j < i ∧ watched x.op y.op = true ∧ ∀ k z, j < k → k < i → xs[k]? = some z → calmOp z.op = true ∨ (makeOp z.op = true ∧ x.guard = none ∧ x.op.strict = true))
 S0 : S 0 = s0
 step : ∀ (i : Nat) x, i < n → xs[i]? = some x → exOne call (S i) x = some (S (i + 1))
 rest : exOps call (S n) (xs.drop n) = some sF
section
variable {num : Names} {P : Program}
variable {call : Calls'} {N : Nat} {ops : Array Oper} {xs : List XO} {n : Nat} {s0 sF : St} {S : Nat → St}
structure PartT (xs : List XO) (n : Nat) (S : Nat → St) (listed : Array Bool) (t : St) : Prop where
 len : t.mem.length = (S n).mem.length
 k : t.k = (S 0).k
 k0 : (S 0).k ≤ (S 0).mem.length
 live : ∀ id q, q ≤ n → id < (S q).mem.length → Live S n listed id → (∀ j, q ≤ j → j < n → Touches xs j → listed.getD j true = false) → (∀ j, j < q → Touches xs j → listed.getD j true = true ∨ (S j).mem.length ≤ id) → t.mem[id]? = (S q).mem[id]?
 dead : ∀ id, id < (S n).mem.length → ¬ Live S n listed id → t.mem[id]? = some .dead
 done : ∀ (i : Nat) x u, i < n → xs[i]? = some x → x.dst = some u → listed.getD i true = true → t.env.get u = (S (i + 1)).env.get u ∧ ∀ id ∈ (t.env.get u).refs, Live S n listed id ∧ id < (S (i + 1)).mem.length
 not : ∀ u, (∀ (i : Nat) x, i < n → xs[i]? = some x → x.dst = some u → listed.getD i true = false) → t.env.get u = (S 0).env.get u ∧ ∀ id ∈ (t.env.get u).refs, id < (S 0).mem.length
 mem : ∀ (id : Nat) o, t.mem[id]? = some o → ∀ j ∈ o.refs, Live S n listed j ∧ j < (S n).mem.length ∧ ∀ i, i ≤ n → id < (S i).mem.length → (∀ τ, i ≤ τ → τ < n → Touches xs τ → listed.getD τ true = false) → j < (S i).mem.length
 hand : ∀ τ, τ < n → Touches xs τ → listed.getD τ true = true → ∀ id, id < (S τ).mem.length → (S (τ + 1)).mem[id]? ≠ (S τ).mem[id]? → Live S n listed id
theorem zq6 {listed : Array Bool} (inv : HeadInv .any ops n listed) : ∀ (f i j : Nat), waitsT ops f i j = true → listed.getD i false = true → listed.getD j false = true
 | 0, i, j, h, _ => by cases h
 | f + 1, i, j, h, hl => by
  have one : ∀ k, Region.waitsFor .any ops i k = true → listed.getD k false = true := fun k hk => by
   obtain ⟨o, ho, e, he, hb, hon⟩ := Region.waitsFor_spec hk
   rw [← hon]
   exact inv.closed i o ho hl e he hb
  simp only [waitsT, Bool.or_eq_true] at h
  rcases h with h | h
  ·exact one j h
  ·obtain ⟨k, _, hk⟩ := List.any_eq_true.1 h
   simp only [Bool.and_eq_true] at hk
   exact zq6 inv f k j hk.2.2 (one k hk.2.1)
theorem zq7 {listed : Array Bool} (inv : HeadInv .any ops n listed) {i : Nat} (hr : i ∈ Region.ready .any ops listed) : ∀ (f j : Nat), waitsT ops f i j = true → listed.getD j true = true
 | 0, j, h => by cases h
 | f + 1, j, h => by
  simp only [waitsT, Bool.or_eq_true] at h
  rcases h with h | h
  ·exact zf7 (zmb hr h)
  ·obtain ⟨k, _, hk⟩ := List.any_eq_true.1 h
   simp only [Bool.and_eq_true] at hk
   exact zf7 (zq6 inv f k j hk.2.2 (zmb hr hk.2.1))
theorem DrawnT.at (d : DrawnT call P num N ops xs n s0 sF S) {i : Nat} (hi : i < n) : ∃ x, xs[i]? = some x := by
 have : i < xs.length := by have := d.hn; have := d.len; omega
 exact ⟨_, List.getElem?_eq_getElem this⟩
theorem zaq (m : Mem) : Agree (fun _ => True) m m := ⟨fun _ _ => rfl, fun _ _ _ _ _ _ => trivial⟩
theorem DrawnT.add (d : DrawnT call P num N ops xs n s0 sF S) {i : Nat} (hi : i < n) {x : XO} (hx : xs[i]? = some x) : ∃ new v u, S (i + 1) = ({ S i with mem := (S i).mem.upd u ++ new } : St).bind x.dst v ∧ (touchOp x.op = false → u = fun _ => none) := by
 by_cases hq : (calmOp x.op || makeOp x.op) = true
 ·obtain ⟨new, v, h⟩ := zl0 hq (d.step i x hi hx)
  exact ⟨new, v, fun _ => none, by rw [zqn]; exact h, fun _ => rfl⟩
 ·have htc : touchOp x.op = true := by have := d.quiet i x hi hx; simpa [hq] using this
  obtain ⟨len, val, new, upd, _, _, h, _⟩ := zj2 (K := fun _ => True) (t := S i) (d.quiet i x hi hx) (zaq _) (fun _ _ => rfl) (fun _ _ _ _ => trivial) (fun fn l as r mc hop => by rw [hop] at htc; cases htc) (d.step i x hi hx)
  exact ⟨_, _, _, h, fun h => absurd h (by rw [htc]; decide)⟩
theorem DrawnT.pre (d : DrawnT call P num N ops xs n s0 sF S) (i : Nat) : ∀ j, i ≤ j → j ≤ n → (S i).mem.length ≤ (S j).mem.length ∧ (S j).k = (S i).k := by
  intro j
  induction j with
  | zero => intro h _; have : i = 0 := by omega
            subst this; exact ⟨Nat.le_refl _, rfl⟩
  | succ j ih =>
    intro hij hj
    by_cases hi : i = j + 1
    · subst hi; exact ⟨Nat.le_refl _, rfl⟩
    · obtain ⟨h1, h3⟩ := ih (by omega) (by omega)
      obtain ⟨x, hx⟩ := d.at (show j < n by omega)
      obtain ⟨new, v, u, he, _⟩ := d.add (show j < n by omega) hx
      rw [he, zbk, bind_k]
      refine ⟨by simp [zqm]; omega, h3⟩
theorem DrawnT.keep (d : DrawnT call P num N ops xs n s0 sF S) {a : Nat} {id : Nat} (hid : id < (S a).mem.length) : ∀ q, a ≤ q → q ≤ n → (∀ j, a ≤ j → j < q → Touches xs j → (S (j + 1)).mem[id]? = (S j).mem[id]?) → (S q).mem[id]? = (S a).mem[id]? := by
  intro q
  induction q with
  | zero => intro h _ _; have : a = 0 := by omega
            subst this; rfl
  | succ q ih =>
    intro haq hq h
    by_cases ha : a = q + 1
    · subst ha; rfl
    · obtain ⟨x, hx⟩ := d.at (show q < n by omega)
      rw [← ih (by omega) (by omega) fun j h1 h2 => h j h1 (by omega)]
      by_cases ht : touchOp x.op = true
      · exact h q (by omega) (by omega) ⟨x, hx, ht⟩
      · obtain ⟨new, v, u, he, hu⟩ := d.add (show q < n by omega) hx
        rw [he, zbk, hu (by simpa using ht), zqn]
        exact List.getElem?_append_left (by have := (d.pre a q (by omega) (by omega)).1; omega)
theorem DrawnT.get (d : DrawnT call P num N ops xs n s0 sF S) (t : Nat) (i : Nat) : ∀ j, i ≤ j → j ≤ n → (∀ (k : Nat) x, i ≤ k → k < j → xs[k]? = some x → x.dst ≠ some t) → (S j).env.get t = (S i).env.get t := by
  intro j
  induction j with
  | zero => intro hij _ _; have : i = 0 := by omega
            subst this; rfl
  | succ j ih =>
    intro hij hj h
    by_cases hi : i = j + 1
    · subst hi; rfl
    · obtain ⟨x, hx⟩ := d.at (show j < n by omega)
      obtain ⟨new, v, u, he, _⟩ := d.add (show j < n by omega) hx
      rw [he, zbi, if_neg (h j _ (by omega) (by omega) hx)]
      exact ih (by omega) (by omega) fun k x h1 h2 h3 => h k x h1 (by omega) h3
theorem DrawnT.still (d : DrawnT call P num N ops xs n s0 sF S) {a : Nat} : ∀ q, a ≤ q → q ≤ n → (∀ j z, a ≤ j → j < q → xs[j]? = some z → calmOp z.op = true) → (S q).mem = (S a).mem := by
  intro q
  induction q with
  | zero => intro h _ _; have : a = 0 := by omega
            subst this; rfl
  | succ q ih =>
    intro haq hq h
    by_cases ha : a = q + 1
    · subst ha; rfl
    · obtain ⟨x, hx⟩ := d.at (show q < n by omega)
      rw [← ih (by omega) (by omega) fun j z h1 h2 => h j z h1 (by omega)]
      rcases zd8 (d.step q x (by omega) hx) with ⟨v, s1, hx1, he, _⟩ | ⟨he, _⟩
      · obtain ⟨rfl, _, _⟩ := zbz (K := fun _ => True) (h q x (by omega) (by omega) hx) (t := S q) (zaq _) (fun _ _ => rfl) (fun _ _ _ _ => trivial) hx1
        rw [he, zbk]
      · rw [he, zbk]
theorem zn4 {m m' : Mem} {agg : Option Nat} {a : AV} (h : sameLoad m m' agg a = true) : loadAt m' agg a = loadAt m agg a ∧ ∀ v, loadAt m agg a = some v → ∀ j ∈ v.refs, j < m.length := by
 unfold sameLoad at h
 split at h
 ·rename_i x y hx hy
  rw [Bool.and_eq_true] at h
  refine ⟨by rw [hx, hy, zbg _ _ h.1], fun v hv j hj => ?_⟩
  rw [hx] at hv
  cases hv
  simpa using List.all_eq_true.1 h.2 j hj
 ·cases h
theorem zq9 {call : Calls'} {x : XO} {y : XOp} (hw : watched x.op y = true) {s s' : St} (h : exOne call s x = some s') : ∃ agg u, y = .load agg (.t u) ∧ loadAt s'.mem agg (s.env.get u) = loadAt s.mem agg (s.env.get u) ∧ (s'.mem.length = s.mem.length ∨ ∀ v, loadAt s.mem agg (s.env.get u) = some v → ∀ j ∈ v.refs, j < s.mem.length) ∧ (x.guard = none → x.op.strict = true → ∀ v, loadAt s.mem agg (s.env.get u) = some v → ∀ j ∈ v.refs, j < s.k) := by
 unfold watched at hw
 split at hw
 ·rename_i agg u
  obtain ⟨p, hp, hpw⟩ := List.any_eq_true.1 hw
  rw [Bool.and_eq_true, beq_iff_eq] at hpw
  obtain ⟨hp1, hp2⟩ := hpw
  have hpu : p.2 = .t u := by
   split at hp2
   ·rename_i v hv; rw [hv]; rw [beq_iff_eq] at hp2; rw [hp2]
   ·cases hp2
  refine ⟨agg, u, rfl, ?_⟩
  rcases zd8 h with ⟨v, s1, hx1, rfl, _⟩ | ⟨rfl, _⟩
  ·rw [zbk]
   have hsl : sameLoad s.mem s1.mem agg (s.env.get u) = true ∧ (x.op.strict = true → ∀ v, loadAt s.mem agg (s.env.get u) = some v → ∀ j ∈ v.refs, j < s.k) := by
    cases hop : x.op with
    | callT g l w =>
     have hpw : p ∈ w := by rw [hop] at hp; exact hp
     rw [hop] at hx1
     simp only [exOp] at hx1
     split at hx1
     ·split at hx1
      ·split at hx1
       ·rename_i hcond
        cases hx1
        rw [Bool.and_eq_true, decide_eq_true_eq, List.all_eq_true] at hcond
        have := hcond.2 p hpw
        rw [hp1, hpu] at this
        exact ⟨this, fun h => by cases h⟩
       ·cases hx1
      ·cases hx1
     ·cases hx1
    | appendT sz bytes a b w =>
     have hpw : p ∈ w := by rw [hop] at hp; exact hp
     rw [hop] at hx1
     simp only [exOp] at hx1
     split at hx1
     ·split at hx1
      ·rename_i hcond
       cases hx1
       rw [List.all_eq_true] at hcond
       have := hcond p hpw
       rw [hp1, hpu, Bool.and_eq_true] at this
       refine ⟨this.1, fun _ v hv j hj => ?_⟩
       have h2 := this.2
       unfold oldLoad at h2
       rw [show s.env.ev (.t u) = s.env.get u from rfl, hv] at h2
       simpa using List.all_eq_true.1 h2 j hj
      ·cases hx1
     ·cases hx1
    | _ => rw [hop] at hp; simp [XOp.watch] at hp
   have := zn4 hsl.1
   exact ⟨this.1, .inr this.2, fun _ => hsl.2⟩
  ·rename_i hgg
   obtain ⟨w, b, hg, _⟩ := hgg
   rw [zbk]; exact ⟨rfl, .inl rfl, fun h => by rw [hg] at h; cases h⟩
 ·cases hw
theorem zin {call : Calls'} {K : Nat → Prop} {x : XO} {agg : Option Nat} {u : Nat} (hop : x.op = .load agg (.t u)) {s t : St} (he : ∀ n ∈ x.reads, t.env.get n = s.env.get n) (hl : loadAt t.mem agg (s.env.get u) = loadAt s.mem agg (s.env.get u)) (hk : ∀ v, loadAt t.mem agg (s.env.get u) = some v → In K v) {s' : St} (h : exOne call s x = some s') :
  ∃ v, In K v ∧ s' = s.bind x.dst v ∧ exOne call t x = some (t.bind x.dst v) := by
 have r3 : ∀ u b, x.guard = some (u, b) → u ∈ x.reads := fun u b hg => List.mem_append.2 (.inr (List.mem_append.2 (.inr (by simp [hg]))))
 have ru : t.env.get u = s.env.get u := he u (List.mem_append.2 (.inl (by rw [hop]; simp [XOp.reads, srcTmp])))
 rcases zd8 h with ⟨v, s1, hx, rfl, hg⟩ | ⟨rfl, w, b, hg, hcc⟩
 ·rw [hop] at hx
  simp only [exOp, Env.ev, Option.map_eq_some_iff, Prod.mk.injEq] at hx
  obtain ⟨v', hv', rfl, rfl⟩ := hx
  refine ⟨v', hk v' (hl.trans hv'), rfl, ?_⟩
  unfold exOne
  have hx2 : exOp call t x.op = some (v', t) := by
   rw [hop]
   simp only [exOp, Env.ev, ru, hl, hv', Option.map_some]
  rcases hg with hg | ⟨w, b, hg, hcc⟩
  ·simp only [hg, hx2, Option.map_some]; cases x.dst <;> rfl
  ·have : t.env.get w = .imm (.val (.bool b)) := by rw [he w (r3 w b hg)]; exact hcc
   simp only [hg, this, hx2, Option.map_some, if_true]; cases x.dst <;> rfl
 ·refine ⟨.tup [], in_tup.2 (fun y hy => by cases hy), rfl, ?_⟩
  unfold exOne
  rcases hcc with ⟨c, hcc, hne⟩ | hcc
  ·have : t.env.get w = .imm (.val (.bool c)) := by rw [he w (r3 w b hg)]; exact hcc
   simp only [hg, this, hne, if_false]
   cases x.dst <;> rfl
  ·have : t.env.get w = .tup [] := by rw [he w (r3 w b hg)]; exact hcc
   simp only [hg, this]
   cases x.dst <;> rfl
end
end Go.EX


set_option linter.unusedVariables false
set_option linter.unusedSimpArgs false
namespace Go.EX
section
variable {num : Names} {P : Program}
variable {call : Calls'} {N : Nat} {ops : Array Oper} {xs : List XO} {n : Nat} {s0 sF : St} {S : Nat → St}
structure StepT (call : Calls') (xs : List XO) (n : Nat) (S : Nat → St) (listed : Array Bool) (t : St) (i : Nat) (x : XO) (len : Nat) (val : Nat → AV) (new : Nat → List AObj) (upd : Nat → Nat → Option AObj) : Prop where
 acts : Acts (fun id => id < (S i).mem.length ∧ Live S n listed id) len val new upd
 still : touchOp x.op = false → upd = fun _ _ => none
 eqS : S (i + 1) = ({ S i with mem := (S i).mem.upd (upd (S i).mem.length) ++ new (S i).mem.length } : St).bind x.dst (val (S i).mem.length)
 eqt : exOne call t x.strip = some (({ t with mem := t.mem.upd (upd t.mem.length) ++ new t.mem.length } : St).bind x.dst (val t.mem.length))
 stage : touchOp x.op = true → (∀ j, i ≤ j → j < n → Touches xs j → listed.getD j true = false) ∧ (∀ j, j < i → Touches xs j → listed.getD j true = true)
theorem zph {x : XO} {q : Prop} (h : calmOp x.op = true ∨ (makeOp x.op = true ∧ q)) : touchOp x.op = false := by
 cases hop : x.op <;> rw [hop] at h <;> first | rfl | skip
 all_goals first | (rcases h with h | ⟨h, _⟩ <;> cases h; done) | skip
 rename_i m _ _
 cases m <;> first | rfl | (rcases h with h | ⟨h, _⟩ <;> cases h)
theorem DrawnT.step_of (d : DrawnT call P num N ops xs n s0 sF S) (hcall : CallOK num P call) {listed : Array Bool} {t : St} (inv : HeadInv .any ops n listed) (p : PartT xs n S listed t) {i : Nat} (hi : i < n) (hr : i ∈ Region.ready .any ops listed) {x : XO} (hx : xs[i]? = some x) {o : Oper} (htr : ∀ fn l, x.op = .call .own fn l → trOp P num o.op = some (XOp.call .view fn l)) {C : Cx} {a : Act} (hs : SRep num C t a) :
  ∃ len val new upd, StepT call xs n S listed t i x len val new upd := by
 have hun : listed.getD i true = false := (mem_ready.1 hr).1
 have mono : ∀ i j, i ≤ j → j ≤ n → (S i).mem.length ≤ (S j).mem.length := fun i j h1 h2 => (d.pre i j h1 h2).1
 have live0 : ∀ id, id < (S 0).mem.length → Live S n listed id := fun id h j hj h1 _ => by have := mono 0 j (by omega) (by omega); omega
 let K : Nat → Prop := fun id => id < (S i).mem.length ∧ Live S n listed id
 have hreads : ∀ u ∈ x.reads, t.env.get u = (S i).env.get u ∧ In K ((S i).env.get u) := by
  intro u hu
  by_cases hw : ∃ (j : Nat) (y : XO), j < n ∧ xs[j]? = some y ∧ y.dst = some u
  ·obtain ⟨j, y, hj, hy, hd⟩ := hw
   obtain ⟨h3, h4⟩ := (d.one i j x y u hi hj hx hy hd).2 hu
   obtain ⟨h5, h6⟩ := p.done j y u hj hy hd (zf7 (zmb hr h4))
   have h7 := d.get u (j + 1) i (by omega) (by omega) fun k z h5 h6 h7 => by
    rcases (d.one k j z y u (by omega) hj h7 hy hd).1 with h | h
    ·omega
    ·exact h
   have h8 : t.env.get u = (S i).env.get u := h5.trans h7.symm
   refine ⟨h8, fun id hid => ?_⟩
   rw [← h8] at hid
   obtain ⟨h9, h10⟩ := h6 id hid
   have := mono (j + 1) i (by omega) (by omega)
   exact ⟨by omega, h9⟩
  ·have hno : ∀ (j : Nat) (y : XO), j < n → xs[j]? = some y → y.dst ≠ some u := fun j y h1 h2 h3 => hw ⟨j, y, h1, h2, h3⟩
   obtain ⟨h5, h6⟩ := p.not u fun j y h1 h2 h3 => absurd h3 (hno j y h1 h2)
   have h7 := d.get u 0 i (Nat.zero_le _) (by omega) fun k z _ h6 h7 => hno k z (by omega) h7
   have h8 : t.env.get u = (S i).env.get u := h5.trans h7.symm
   refine ⟨h8, fun id hid => ?_⟩
   rw [← h8] at hid
   have h9 := h6 id hid
   have := mono 0 i (by omega) (by omega)
   exact ⟨by omega, live0 id h9⟩
 have hwait : ∀ j, j < n → waitsT ops 12 j i = true → listed.getD j true = false := by
  intro j hj hw
  cases hl : listed.getD j true with
  | false => rfl
  | true =>
   have hjs : j < listed.size := by rw [inv.size]; have := d.hn; omega
   have h1 : listed.getD j false = true := by simp [hjs] at hl ⊢; exact hl
   have := zf7 (zq6 inv 12 j i hw h1)
   rw [hun] at this; cases this
 have agree : (∀ j, i ≤ j → j < n → Touches xs j → listed.getD j true = false) → (∀ j, j < i → Touches xs j → listed.getD j true = true) → Agree K (S i).mem t.mem := by
  intro h1 h2
  have same : ∀ id, K id → t.mem[id]? = (S i).mem[id]? := fun id ⟨h3, h4⟩ => p.live id i (by omega) h3 h4 h1 fun j hj ht => .inl (h2 j hj ht)
  refine ⟨same, fun id o' hk ho' j hj => ?_⟩
  obtain ⟨h3, _, h4⟩ := p.mem id o' (by rw [same id hk]; exact ho') j hj
  exact ⟨h4 i (by omega) hk.1 h1, h3⟩
 have atStage : (∀ j, i ≤ j → j < n → Touches xs j → listed.getD j true = false) → (∀ j, j < i → Touches xs j → listed.getD j true = true) → ∃ len val new upd, StepT call xs n S listed t i x len val new upd := by
  intro h1 h2
  have hAgree := agree h1 h2
  have hb : ∀ fn l as r mc, x.op = .call .own fn l → (l.map (S i).env.ev).mapM (frz (S i).mem) = some as → call fn as [] = some (r, mc) → (∀ id ∈ r.refs, id < mc.length) ∧ ∀ o ∈ mc, ∀ id ∈ o.refs, id < mc.length := by
   intro fn l as r mc hop has hc
   have hsub : ∀ u ∈ l.flatMap srcTmp, u ∈ x.reads := fun u hu => List.mem_append.2 (.inr (List.mem_append.2 (.inl (by rw [hop]; exact hu))))
   have hin : InL K (l.map (S i).env.ev) := fun y hy => by
    obtain ⟨q, hq, rfl⟩ := List.mem_map.1 hy
    exact in_ev fun u hu => (hreads u (hsub u (List.mem_flatMap.2 ⟨q, hq, hu⟩))).2
   refine zkm hcall hs (op := o.op) (l := l) (fn := fn) (htr fn l hop) (as := as) ?_ hc
   rw [zd0 (s := (S i).env) (t := t.env) fun u hu => (hreads u (hsub u hu)).1, zi5 _ fun y hy => zfx hAgree y (hin y hy)]
   exact has
  obtain ⟨len, val, new, upd, g1, g2, g3, g4⟩ := zj2 (d.quiet i x hi hx) hAgree (fun u hu => (hreads u hu).1) (fun u hu => (hreads u hu).2) hb (d.step i x hi hx)
  exact ⟨len, val, new, upd, g1, g2, g3, g4, fun _ => ⟨h1, h2⟩⟩
 by_cases htc : touchOp x.op = true
 ·refine atStage (fun j hj hjn ht => ?_) (fun j hj ht => ?_)
  ·by_cases hji : j = i
   ·rw [hji]; exact hun
   ·obtain ⟨y, hy, hyt⟩ := ht
    rcases d.ord j i y x hjn hi hji hy hx hyt with h | h | h | h
    ·exact hwait j hjn h.2
    ·omega
    ·rw [htc] at h; cases h.1
    ·have := h.2.1
     unfold watched at this
     split at this
     ·rename_i heq; rw [heq] at htc; cases htc
     ·cases this
  ·obtain ⟨y, hy, hyt⟩ := ht
   have hji : j ≠ i := by omega
   rcases d.ord j i y x (by omega) hi hji hy hx hyt with h | h | h | h
   ·omega
   ·exact zq7 inv hr 12 j h.2
   ·rw [htc] at h; cases h.1
   ·have := h.2.1
    unfold watched at this
    split at this
    ·rename_i heq; rw [heq] at htc; cases htc
    ·cases this
 ·have htf : touchOp x.op = false := by simpa using htc
  have hq : (calmOp x.op || makeOp x.op) = true := by have := d.quiet i x hi hx; simpa [htf] using this
  by_cases hfree : freeOp x.op = true
  ·obtain ⟨len, val, new, h1, h2, h3⟩ := zj4 hq hfree (s := S i) (t := t) (fun u hu => (hreads u hu).1) (fun u hu => (hreads u hu).2) (d.step i x hi hx)
   refine ⟨len, val, new, fun _ _ => none, zal h1, fun _ => rfl, ?_, ?_, fun h => absurd h htc⟩
   ·rw [zqn]; exact h2
   ·rw [zqn, show x.strip = x by cases x; simp only [XO.strip, zpm hq]]; exact h3
  ·
   have hord : ∀ j, j < n → Touches xs j → (j < i ∧ listed.getD j true = true) ∨ (i < j ∧ listed.getD j true = false) ∨ (i < j ∧ ∃ y, xs[j]? = some y ∧ watched y.op x.op = true ∧ ∀ k z, i < k → k < j → xs[k]? = some z → calmOp z.op = true ∨ (makeOp z.op = true ∧ y.guard = none ∧ y.op.strict = true)) := by
    intro j hjn ht
    obtain ⟨y, hy, hyt⟩ := ht
    have hji : j ≠ i := fun h => by
     subst h
     have : y = x := Option.some.inj (hy.symm.trans hx)
     subst this
     exact htc hyt
    rcases d.ord j i y x hjn hi hji hy hx hyt with h | h | h | h
    ·exact .inr (.inl ⟨h.1, hwait j hjn h.2⟩)
    ·exact .inl ⟨h.1, zq7 inv hr 12 j h.2⟩
    ·exact absurd h.2 hfree
    ·exact .inr (.inr ⟨h.1, y, hy, h.2⟩)
   by_cases hall : ∀ j, i ≤ j → j < n → Touches xs j → listed.getD j true = false
   ·refine atStage hall fun j hj ht => ?_
    rcases hord j (by omega) ht with h | h | h
    ·exact h.2
    ·omega
    ·omega
   ·
    have hex : ∃ τ y, i < τ ∧ τ < n ∧ listed.getD τ true = true ∧ xs[τ]? = some y ∧ touchOp y.op = true ∧ watched y.op x.op = true ∧ ∀ k z, i < k → k < τ → xs[k]? = some z → calmOp z.op = true ∨ (makeOp z.op = true ∧ y.guard = none ∧ y.op.strict = true) := by
     simp only [Classical.not_forall] at hall
     obtain ⟨τ, h1, h2, h3, h4⟩ := hall
     have h4 : listed.getD τ true = true := by
      cases h : listed.getD τ true with
      | true => rfl
      | false => exact absurd h h4
     rcases hord τ h2 h3 with h | h | ⟨h5, y, h6, h7, h8⟩
     ·omega
     ·rw [h4] at h; cases h.2
     ·obtain ⟨z, hz, hzt⟩ := h3
      have : z = y := Option.some.inj (hz.symm.trans h6)
      subst this
      exact ⟨τ, z, h5, h2, h4, h6, hzt, h7, h8⟩
    obtain ⟨τ, y, hiτ, hτn, hlτ, hyτ, hyt, hwat, hcal⟩ := hex
    have hothers : ∀ j, i < j → j < n → j ≠ τ → Touches xs j → listed.getD j true = false := by
     intro j h1 h2 h3 h4
     rcases hord j h2 h4 with h | h | ⟨h5, z, h6, h7, h8⟩
     ·omega
     ·exact h.2
     ·exfalso
      obtain ⟨z', hz', hzt⟩ := h4
      have : z' = z := Option.some.inj (hz'.symm.trans h6)
      subst this
      rcases Nat.lt_or_ge j τ with h9 | h9
      ·rw [zph (hcal j z' h1 h9 hz')] at hzt; cases hzt
      ·rw [zph (h8 τ y hiτ (by omega) hyτ)] at hyt; cases hyt
    have hbefore : ∀ j, j < i → Touches xs j → listed.getD j true = true := fun j h1 h2 => by
     rcases hord j (by omega) h2 with h | h | h
     ·exact h.2
     ·omega
     ·omega
    obtain ⟨agg, u, hop, hld, hlen⟩ := zq9 hwat (d.step τ y hτn hyτ)
    have hnone : ∀ j, i ≤ j → j < τ → ¬ Touches xs j := fun j h1 h2 ⟨z, hz, hzt⟩ => by
     by_cases hji : j = i
     ·subst hji
      have : z = x := Option.some.inj (hz.symm.trans hx)
      subst this
      exact htc hzt
     ·rw [zph (hcal j z (by omega) h2 hz)] at hzt; cases hzt
    have hmemτ : ∀ id, id < (S i).mem.length → (S τ).mem[id]? = (S i).mem[id]? := fun id hid => d.keep hid τ (by omega) (by omega) fun j h1 h2 h3 => absurd h3 (hnone j h1 h2)
    have hu := hreads u (List.mem_append.2 (.inl (by rw [hop]; simp [XOp.reads, srcTmp])))
    have huτ : (S τ).env.get u = (S i).env.get u := by
     refine d.get u i τ (by omega) (by omega) fun k z h1 h2 h3 h4 => ?_
     have hur : u ∈ x.reads := List.mem_append.2 (.inl (by rw [hop]; simp [XOp.reads, srcTmp]))
     have := ((d.one i k x z u hi (by omega) hx h3 h4).2 hur).1
     omega
    have hnτ : (S i).mem.length ≤ (S (τ + 1)).mem.length := mono i (τ + 1) (by omega) (by omega)
    have hlive : ∀ id, K id → t.mem[id]? = (S (τ + 1)).mem[id]? := fun id ⟨h3, h4⟩ => by
     refine p.live id (τ + 1) (by omega) (by omega) h4 (fun j h5 h6 h7 => hothers j (by omega) h6 (by omega) h7) fun j h5 h6 => ?_
     rcases Nat.lt_trichotomy j i with h | h | h
     ·exact .inl (hbefore j h h6)
     ·subst h
      obtain ⟨z, hz, hzt⟩ := h6
      have : z = x := Option.some.inj (hz.symm.trans hx)
      subst this
      exact absurd hzt htc
     ·by_cases hjτ : j = τ
      ·rw [hjτ]; exact .inl hlτ
      ·exfalso
       obtain ⟨z, hz, hzt⟩ := h6
       rw [zph (hcal j z h (by omega) hz)] at hzt; cases hzt
    have hload : loadAt t.mem agg ((S i).env.get u) = loadAt (S i).mem agg ((S i).env.get u) := by
     rw [zio (s := (S (τ + 1)).mem) fun id hid => hlive id (hu.2 id hid), ← huτ, hld, huτ]
     exact zio fun id hid => hmemτ id (hu.2 id hid).1
    obtain ⟨v, hv, hS, ht⟩ := zin hop (K := K) (s := S i) (t := t) (fun u hu => (hreads u hu).1) hload (fun v hv => by
     have hA : Agree (fun id => id < (S (τ + 1)).mem.length ∧ Live S n listed id) t.mem t.mem := ⟨fun _ _ => rfl, fun id o hk ho j hj => by
      obtain ⟨h3, _, h4⟩ := p.mem id o ho j hj
      exact ⟨h4 (τ + 1) (by omega) hk.1 fun j h5 h6 h7 => hothers j (by omega) h6 (by omega) h7, h3⟩⟩
     have h9 := zg8 hA (fun id hid => ⟨by have := (hu.2 id hid).1; omega, (hu.2 id hid).2⟩) hv
     intro j hj
     refine ⟨?_, (h9 j hj).2⟩
     have hvτ : loadAt (S τ).mem agg ((S τ).env.get u) = some v := by
      rw [huτ, zio (s := (S i).mem) fun id hid => hmemτ id (hu.2 id hid).1, ← hload]; exact hv
     by_cases hcalm : ∀ k z, i < k → k < τ → xs[k]? = some z → calmOp z.op = true
     ·have hmem_i1 : (S (i + 1)).mem = (S i).mem := by
       refine d.still (a := i) (i + 1) (by omega) (by omega) fun j z h1 h2 h3 => ?_
       have hji : j = i := by omega
       subst hji
       have : z = x := Option.some.inj (h3.symm.trans hx)
       subst this
       rw [hop]; rfl
      have hme : (S τ).mem = (S i).mem := by
       rw [← hmem_i1]
       exact d.still (a := i + 1) τ (by omega) (by omega) fun j z h1 h2 h3 => hcalm j z (by omega) h2 h3
      rcases hlen.1 with hlen | hlen
      ·have := (h9 j hj).1
       rw [hlen, hme] at this
       exact this
      ·have := hlen v hvτ j hj
       rw [hme] at this
       exact this
     ·simp only [Classical.not_forall] at hcalm
      obtain ⟨k, z, h1, h2, h3, h4⟩ := hcalm
      rcases hcal k z h1 h2 h3 with h5 | ⟨_, h6, h7⟩
      ·exact absurd h5 h4
      ·have h8 := hlen.2 h6 h7 v hvτ j hj
       have h10 := (d.pre 0 τ (by omega) (by omega)).2
       have h11 := p.k0
       have h12 := mono 0 i (by omega) (by omega)
       omega) (d.step i x hi hx)
    refine ⟨0, fun _ => v, fun _ => [], fun _ _ => none, zal (zi4 hv), fun _ => rfl, ?_, ?_, fun h => absurd h htc⟩
    ·rw [zqn, List.append_nil]; exact hS
    ·rw [zqn, List.append_nil, show x.strip = x by cases x; simp only [XO.strip, zpm hq]]; exact ht
end
end Go.EX


set_option linter.unusedVariables false
set_option linter.unusedSimpArgs false
namespace Go.EX
section
variable {num : Names} {P : Program}
variable {call : Calls'} {N : Nat} {ops : Array Oper} {xs : List XO} {n : Nat} {s0 sF : St} {S : Nat → St}
theorem DrawnT.part_step (d : DrawnT call P num N ops xs n s0 sF S) (hcall : CallOK num P call) {listed : Array Bool} {t : St} (inv : HeadInv .any ops n listed) (p : PartT xs n S listed t) {i : Nat} (hi : i < n) (hr : i ∈ Region.ready .any ops listed) {x : XO} (hx : xs[i]? = some x) {o : Oper} (htr : ∀ fn l, x.op = .call .own fn l → trOp P num o.op = some (XOp.call .view fn l)) {C : Cx} {a : Act} (hs : SRep num C t a) :
  ∃ t1, exOne call t x.strip = some t1 ∧ ∀ D a', SRep num D t1 a' → ∃ t2 E, E.w = D.w ∧ Later num t1.k D t1.mem a' E t2 a' ∧ PartT xs n S (listed.setIfInBounds i true) t2 := by
 have hun : listed.getD i true = false := (mem_ready.1 hr).1
 have pre := fun (i j : Nat) (h1 : i ≤ j) (h2 : j ≤ n) => d.pre i j h1 h2
 have mono : ∀ i j, i ≤ j → j ≤ n → (S i).mem.length ≤ (S j).mem.length := fun i j h1 h2 => (pre i j h1 h2).1
 obtain ⟨len, val, new, upd, st⟩ := d.step_of hcall inv p hi hr hx htr hs
 have hmk := st.acts.made
 have hS := st.eqS
 refine ⟨_, st.eqt, fun D a' hD => ?_⟩
 have hlen := p.len
 rw [hlen] at hD ⊢
 generalize hM : (S n).mem.length = M at hD hlen ⊢
 have hpos1 : (S (i + 1)).mem.length = (S i).mem.length + len := by rw [hS, zbk]; simp [hmk.size, zqm]
 have hpM : (S i).mem.length + len ≤ M := by rw [← hpos1, ← hM]; exact mono (i + 1) n (by omega) (Nat.le_refl _)
 generalize hl : swapIn M (S i).mem.length len = l
 have hlget : ∀ id, id < M → l[id]? = some (if (S i).mem.length ≤ id ∧ id < (S i).mem.length + len then M + (id - (S i).mem.length) else id) := fun id h => by rw [← hl]; exact zpq h
 have hllen : l.length = M := by rw [← hl]; simp [swapIn]
 have hlnd : l.Nodup := by rw [← hl]; exact zpr ..
 generalize hf : place l = f
 have hf1 : ∀ j, j < len → f (M + j) = some ((S i).mem.length + j) := fun j hj => by rw [← hf, ← hl]; exact zpp hj hpM
 have hf2 : ∀ id, id < M → ¬ ((S i).mem.length ≤ id ∧ id < (S i).mem.length + len) → f id = some id := fun id h1 h2 => by rw [← hf, ← hl]; exact zps h1 h2
 have hnr : ∀ id, Live S n listed id → ¬ ((S i).mem.length ≤ id ∧ id < (S i).mem.length + len) := fun id h ⟨h1, h2⟩ => by
  have := h i hi h1 (by omega)
  rw [hun] at this; cases this
 have hf3 : ∀ id, Live S n listed id → id < M → f id = some id := fun id h1 h2 => hf2 id h2 (hnr id h1)
 have hiM : (S i).mem.length ≤ M := by omega
 have hfK : ∀ id, (id < (S i).mem.length ∧ Live S n listed id) → f id = some id := fun id hk => hf3 id hk.2 (by have := hk.1; omega)
 obtain ⟨hv, hn⟩ := hmk.ren M (S i).mem.length f hf1 hfK
 have hu := st.acts.renU M (S i).mem.length f hf1 hfK
 have h0i : (S 0).mem.length ≤ (S i).mem.length := mono 0 i (by omega) (by omega)
 have hk0 := p.k0
 have hkt := p.k
 generalize ht1 : (({ t with mem := t.mem.upd (upd M) ++ new M } : St).bind x.dst (val M)) = t1 at hD ⊢
 have ht1k : t1.k = (S 0).k := by rw [← ht1, bind_k]; exact hkt
 have ht1m : t1.mem = t.mem.upd (upd M) ++ new M := by rw [← ht1, zbk]
 have ht1e : ∀ u, t1.env.get u = if x.dst = some u then val M else t.env.get u := fun u => by rw [← ht1, zbi]
 have hlat := zk1 hD hlnd (fun j hj => by
  rw [ht1k] at hj
  rw [hlget j (by omega), if_neg (by omega)]) (by rw [ht1k, hllen]; omega)
 rw [hf] at hlat
 refine ⟨_, D.pick l, rfl, hlat, ?_⟩
 have hset : ∀ j, j ≠ i → (listed.setIfInBounds i true).getD j true = listed.getD j true := fun j hj => getD_set_ne true (Ne.symm hj)
 have hseti : (listed.setIfInBounds i true).getD i true = true := by
  rw [Array.getD_eq_getD_getElem?, Array.getElem?_setIfInBounds]
  split <;> (try split) <;> simp_all
 have up1 : ∀ id, Live S n listed id → Live S n (listed.setIfInBounds i true) id := fun id h j hj h1 h2 => by
  by_cases hji : j = i
  ·subst hji; exact hseti
  ·rw [hset j hji]; exact h j hj h1 h2
 have up2 : ∀ id, (S i).mem.length ≤ id → id < (S i).mem.length + len → Live S n (listed.setIfInBounds i true) id := fun id h1 h2 j hj h3 h4 => by
  by_cases hji : j = i
  ·subst hji; exact hseti
  ·exfalso
   rcases Nat.lt_or_ge j i with h | h
   ·have := mono (j + 1) i (by omega) (by omega); omega
   ·have := mono (i + 1) j (by omega) (by omega); omega
 have down : ∀ id, Live S n (listed.setIfInBounds i true) id → ¬ ((S i).mem.length ≤ id ∧ id < (S i).mem.length + len) → Live S n listed id := fun id h hno j hj h1 h2 => by
  by_cases hji : j = i
  ·subst hji; exact absurd ⟨h1, by omega⟩ hno
  ·rw [← hset j hji]; exact h j hj h1 h2
 have hnewM : (new M).length = len := hmk.size M
 have htchset : ∀ j, Touches xs j → j ≠ i → (listed.setIfInBounds i true).getD j true = listed.getD j true := fun j _ h => hset j h
 have hTi : Touches xs i ↔ touchOp x.op = true := ⟨fun ⟨y, hy, h⟩ => by
  have : y = x := Option.some.inj (hy.symm.trans hx)
  subst this; exact h, fun h => ⟨x, hx, h⟩⟩
 have hupd : ∀ p id o, upd p id = some o → touchOp x.op = true := fun q id o h => by
  by_cases htc : touchOp x.op = true
  ·exact htc
  ·rw [st.still (by simpa using htc)] at h; cases h
 have get1 : ∀ id, id < M → ¬ ((S i).mem.length ≤ id ∧ id < (S i).mem.length + len) → (Mem.pickAll t1.mem l)[id]? = some ((upd (S i).mem.length id).getD ((t.mem[id]?).getD .dead)) := by
  intro id hid hno
  rw [ht1m, Mem.pickAll, List.getElem?_map, hlget id hid, if_neg hno]
  simp only [Option.map_some]
  rw [List.getElem?_append_left (by rw [zqm]; omega), zql _ _ (by omega)]
  simp only [Option.getD_some, Option.some.injEq]
  rw [hf, ← hu id]
  cases hq : upd M id with
  | some o => rfl
  | none =>
   simp only [Option.map_none, Option.getD_none]
   have hq2 : t.mem[id]? = some t.mem[id] := List.getElem?_eq_getElem (by omega)
   rw [hq2, Option.getD_some]
   refine zju fun j hj => ?_
   obtain ⟨h1, h2, _⟩ := p.mem id _ hq2 j hj
   exact hf3 j h1 (by omega)
 have get2 : ∀ j, j < len → (Mem.pickAll t1.mem l)[(S i).mem.length + j]? = (new (S i).mem.length)[j]? := by
  intro j hj
  rw [ht1m, Mem.pickAll, List.getElem?_map, hlget _ (by omega), if_pos ⟨by omega, by omega⟩]
  simp only [Option.map_some]
  rw [show M + ((S i).mem.length + j - (S i).mem.length) = M + j by omega, List.getElem?_append_right (by rw [zqm]; omega), zqm, show M + j - t.mem.length = j by omega]
  rw [← hn, List.getElem?_map, hf]
  have hq : (new M)[j]? = some (new M)[j] := List.getElem?_eq_getElem (by omega)
  rw [hq]; rfl
 have new_get : ∀ j, j < len → (new (S i).mem.length)[j]? = (S (i + 1)).mem[(S i).mem.length + j]? := by
  intro j hj
  rw [hS, zbk, List.getElem?_append_right (by rw [zqm]; omega), zqm, show (S i).mem.length + j - (S i).mem.length = j by omega]
 have getS : ∀ id, id < (S i).mem.length → (S (i + 1)).mem[id]? = some ((upd (S i).mem.length id).getD (((S i).mem[id]?).getD .dead)) := by
  intro id hid
  rw [hS, zbk, List.getElem?_append_left (by rw [zqm]; exact hid), zql _ _ hid]
 have envKeep : ∀ u, (∀ id ∈ (t.env.get u).refs, Live S n listed id ∧ id < M) → (t.env.get u).ren f = t.env.get u := fun u h => ren_id fun id hid => hf3 id (h id hid).1 (h id hid).2
 have behind : ∀ id q, touchOp x.op = true → q ≤ n → id < (S (i + 1)).mem.length → i + 1 ≤ q → (∀ j, j < q → Touches xs j → (listed.setIfInBounds i true).getD j true = true ∨ (S j).mem.length ≤ id) → (S q).mem[id]? = (S (i + 1)).mem[id]? := by
  intro id q htc hq hid hiq hL
  refine d.keep hid q hiq hq fun j h1 h2 h3 => ?_
  exfalso
  rcases hL j h2 h3 with h | h
  ·rw [hset j (by omega)] at h
   have := (st.stage htc).1 j (by omega) (by omega) h3
   rw [h] at this; cases this
  ·have := mono (i + 1) j h1 (by omega); omega
 refine ⟨?_, ht1k, hk0, fun id q hq hid hlv hU hL => ?_, fun id hid hno => ?_, fun j y u hj hy hd hlj => ?_, fun u hu => ?_, fun id o' ho' j hj => ?_, fun τ hτ hTτ hlτ id hid hne => ?_⟩
 ·show (Mem.pickAll _ l).length = _
  rw [Mem.pickAll, List.length_map, hllen, hM]
 ·show (Mem.pickAll _ l)[id]? = _
  have hidM : id < M := by have := mono q n hq (Nat.le_refl _); omega
  by_cases hin : (S i).mem.length ≤ id ∧ id < (S i).mem.length + len
  ·have hiq : i + 1 ≤ q := by
    rcases Nat.lt_or_ge i q with h | h
    ·exact h
    ·have := mono q i h (by omega); omega
   have h1 := get2 (id - (S i).mem.length) (by omega)
   have h2 := new_get (id - (S i).mem.length) (by omega)
   rw [show (S i).mem.length + (id - (S i).mem.length) = id by omega] at h1 h2
   rw [h1, h2]
   refine (d.keep (by omega) q hiq hq fun j h3 h4 h5 => ?_).symm
   rcases hL j h4 h5 with h | h
   ·rw [hset j (by omega)] at h
    refine Classical.byContradiction fun hne => ?_
    have := p.hand j (by omega) h5 h id (by have := mono (i + 1) j h3 (by omega); omega) hne
    exact hnr id this hin
   ·have := mono (i + 1) j h3 (by omega); omega
  ·rw [get1 id hidM hin]
   cases hq2 : upd (S i).mem.length id with
   | some o' =>
    have htc := hupd _ _ _ hq2
    have hK := (st.acts.inU _ _ _ hq2).1
    have hiq : i + 1 ≤ q := by
     rcases Nat.lt_or_ge i q with h | h
     ·exact h
     ·have := hU i h hi (hTi.2 htc)
      rw [hseti] at this; cases this
    rw [behind id q htc hq (by have := hK.1; omega) hiq hL, getS id hK.1, hq2]; rfl
   | none =>
    simp only [Option.getD_none]
    have hq3 : t.mem[id]? = some ((t.mem[id]?).getD .dead) := by rw [List.getElem?_eq_getElem (by omega)]; rfl
    rw [← hq3]
    have hlv' := down id hlv hin
    by_cases htc : touchOp x.op = true
    ·have hiq : i + 1 ≤ q := by
      rcases Nat.lt_or_ge i q with h | h
      ·exact h
      ·have := hU i h hi (hTi.2 htc)
       rw [hseti] at this; cases this
     rcases Nat.lt_or_ge id (S i).mem.length with h0 | h0
     ·rw [behind id q htc hq (by omega) hiq hL, getS id h0, hq2, Option.getD_none]
      rw [p.live id i (by omega) h0 hlv' (fun j h1 h2 h3 => (st.stage htc).1 j h1 h2 h3) fun j h1 h2 => .inl ((st.stage htc).2 j h1 h2)]
      rw [List.getElem?_eq_getElem h0]; rfl
     ·refine p.live id q hq hid hlv' (fun j h1 h2 h3 => ?_) fun j h1 h2 => ?_
      ·rw [← hset j (by omega)]; exact hU j h1 h2 h3
      ·by_cases hji : j = i
       ·subst hji; exact .inr h0
       ·rw [← hset j hji]; exact hL j h1 h2
    ·have hni : ∀ j, Touches xs j → j ≠ i := fun j h1 h2 => by subst h2; exact htc (hTi.1 h1)
     refine p.live id q hq hid hlv' (fun j h1 h2 h3 => ?_) fun j h1 h2 => ?_
     ·rw [← hset j (hni j h3)]; exact hU j h1 h2 h3
     ·rw [← hset j (hni j h2)]; exact hL j h1 h2
 ·rw [hM] at hid
  have hin : ¬ ((S i).mem.length ≤ id ∧ id < (S i).mem.length + len) := fun h => hno (up2 id h.1 h.2)
  refine (get1 id hid hin).trans ?_
  have hnl : ¬ Live S n listed id := fun h => hno (up1 id h)
  have : upd (S i).mem.length id = none := by
   cases hq : upd (S i).mem.length id with
   | none => rfl
   | some o' => exact absurd (st.acts.inU _ _ _ hq).1.2 hnl
  rw [this, Option.getD_none, p.dead id (by omega) hnl]; rfl
 ·show (Env.ren f _).get u = _ ∧ _
  have heq : ∀ v, (Env.ren f t1.env).get u = v ↔ (if x.dst = some u then val M else t.env.get u).ren f = v := fun v => by rw [zds, ht1e]
  by_cases hji : j = i
  ·subst hji
   have : y = x := Option.some.inj (hy.symm.trans hx)
   subst this
   have h1 : (Env.ren f t1.env).get u = val (S j).mem.length := by
    rw [heq, if_pos hd]; exact hv
   refine ⟨h1.trans (by rw [hS, zbi, if_pos hd]), fun id hid => ?_⟩
   have hid' : id ∈ (val (S j).mem.length).refs := by rw [← h1]; exact hid
   rcases hmk.inV _ id hid' with h | h
   ·exact ⟨up1 id h.2, by have := h.1; omega⟩
   ·exact ⟨up2 id h.1 h.2, by omega⟩
  ·have hne : x.dst ≠ some u := by
    rcases (d.one i j x y u hi hj hx hy hd).1 with h | h
    ·exact absurd h.symm hji
    ·exact h
   obtain ⟨h2, h3⟩ := p.done j y u hj hy hd (by rw [← hset j hji]; exact hlj)
   have h1 : (Env.ren f t1.env).get u = t.env.get u := by
    rw [heq, if_neg hne]
    exact envKeep u fun id hid => ⟨(h3 id hid).1, by have := (h3 id hid).2; have := mono (j + 1) n (by omega) (Nat.le_refl _); omega⟩
   refine ⟨h1.trans h2, fun id hid => ?_⟩
   have hid' : id ∈ (t.env.get u).refs := by rw [← h1]; exact hid
   exact ⟨up1 id (h3 id hid').1, (h3 id hid').2⟩
 ·have hne : x.dst ≠ some u := fun h => by
   have := hu i x hi hx h
   rw [hseti] at this; cases this
  obtain ⟨h2, h3⟩ := p.not u fun j y h3 h4 h5 => by
   have hji : j ≠ i := fun h => by
    subst h
    have : y = x := Option.some.inj (h4.symm.trans hx)
    subst this
    exact hne h5
   rw [← hset j hji]
   exact hu j y h3 h4 h5
  have h1 : (Env.ren f t1.env).get u = t.env.get u := by
   rw [zds, ht1e, if_neg hne]
   exact envKeep u fun id hid => ⟨fun j hj h1 _ => by have := mono 0 j (by omega) (by omega); have := h3 id hid; omega, by have := h3 id hid; omega⟩
  exact ⟨h1.trans h2, fun id hid => h3 id (by rw [← h1]; exact hid)⟩
 ·have ho' : (Mem.pickAll t1.mem l)[id]? = some o' := ho'
  have hid : id < M := by
   have h1 : id < (Mem.pickAll t1.mem l).length := (List.getElem?_eq_some_iff.1 ho').1
   have h2 : (Mem.pickAll t1.mem l).length = M := by rw [Mem.pickAll, List.length_map, hllen]
   omega
  by_cases hin : (S i).mem.length ≤ id ∧ id < (S i).mem.length + len
  ·have h1 := get2 (id - (S i).mem.length) (by omega)
   rw [show (S i).mem.length + (id - (S i).mem.length) = id by omega] at h1
   have hmem : o' ∈ new (S i).mem.length := List.mem_of_getElem? (h1.symm.trans ho')
   have hbig : ∀ i', i' ≤ n → id < (S i').mem.length → (S i).mem.length + len ≤ (S i').mem.length := fun i' hi' h2 => by
    rcases Nat.lt_or_ge i i' with h3 | h3
    ·have := mono (i + 1) i' (by omega) hi'; omega
    ·have := mono i' i h3 (by omega); omega
   rcases hmk.inN _ o' hmem j hj with h | h
   ·exact ⟨up1 j h.2, by have := h.1; omega, fun i' hi' h2 _ => by have := h.1; have := hbig i' hi' h2; omega⟩
   ·exact ⟨up2 j h.1 h.2, by omega, fun i' hi' h2 _ => by have := hbig i' hi' h2; omega⟩
  ·rw [get1 id hid hin] at ho'
   cases hq : upd (S i).mem.length id with
   | some o2 =>
    rw [hq, Option.getD_some] at ho'
    cases ho'
    have htc := hupd _ _ _ hq
    have hbig : ∀ i', i' ≤ n → (∀ τ, i' ≤ τ → τ < n → Touches xs τ → (listed.setIfInBounds i true).getD τ true = false) → (S i).mem.length + len ≤ (S i').mem.length := fun i' hi' h2 => by
     rcases Nat.lt_or_ge i i' with h3 | h3
     ·have := mono (i + 1) i' (by omega) hi'; omega
     ·have := h2 i h3 hi (hTi.2 htc)
      rw [hseti] at this; cases this
    rcases (st.acts.inU _ _ _ hq).2 j hj with h | h
    ·exact ⟨up1 j h.2, by have := h.1; omega, fun i' hi' _ h2 => by have := h.1; have := hbig i' hi' h2; omega⟩
    ·exact ⟨up2 j h.1 h.2, by omega, fun i' hi' _ h2 => by have := hbig i' hi' h2; omega⟩
   | none =>
    rw [hq, Option.getD_none] at ho'
    have hq3 : t.mem[id]? = some ((t.mem[id]?).getD .dead) := by rw [List.getElem?_eq_getElem (by omega)]; rfl
    obtain ⟨h1, h2, h3⟩ := p.mem id o' (hq3.trans ho') j hj
    refine ⟨up1 j h1, by omega, fun i' hi' h4 h5 => h3 i' hi' h4 fun τ h6 h7 h8 => ?_⟩
    by_cases hτi : τ = i
    ·rw [hτi]; exact hun
    ·rw [← hset τ hτi]; exact h5 τ h6 h7 h8
 ·by_cases hτi : τ = i
  ·subst hτi
   refine up1 id ?_
   cases hq : upd (S τ).mem.length id with
   | some o2 => exact (st.acts.inU _ _ _ hq).1.2
   | none =>
    exfalso
    refine hne ?_
    rw [getS id hid, hq, Option.getD_none, List.getElem?_eq_getElem hid]; rfl
  ·rw [hset τ hτi] at hlτ
   exact up1 id (p.hand τ hτ hTτ hlτ id hid hne)
theorem DrawnT.ready_some (d : DrawnT call P num N ops xs n s0 sF S) {listed : Array Bool} (hsz : listed.size = ops.size) (hl : left n listed ≠ 0) : Region.ready .any ops listed ≠ [] := by
 have hex : ∃ i, i < n ∧ listed.getD i true = false := by
  obtain ⟨i, hi, h⟩ := List.countP_pos_iff.1 (Nat.pos_of_ne_zero hl)
  exact ⟨i, List.mem_range.1 hi, by simpa using h⟩
 have : ∃ i, (i < n ∧ listed.getD i true = false) ∧ ∀ j, j < i → ¬ (j < n ∧ listed.getD j true = false) := by
  obtain ⟨i, hi⟩ := hex
  induction i using Nat.strongRecOn with
  | _ i ih =>
   by_cases h : ∃ j, j < i ∧ (j < n ∧ listed.getD j true = false)
   ·obtain ⟨j, h1, h2⟩ := h; exact ih j h1 h2
   ·exact ⟨i, hi, fun j hj h' => h ⟨j, hj, h'⟩⟩
 obtain ⟨i, ⟨hi, hl⟩, hmin⟩ := this
 have hlt : i < ops.size := by have := d.hn; omega
 have ho : ops[i]? = some ops[i] := Array.getElem?_eq_getElem hlt
 have : i ∈ Region.ready .any ops listed := by
  refine mem_ready.2 ⟨hl, _, ho, fun e he hb => ?_⟩
  have h1 := d.low i _ hi ho e he hb
  have h2 : listed.getD e.on true = true := by
   cases h3 : listed.getD e.on true with
   | true => rfl
   | false => exact absurd ⟨by omega, h3⟩ (hmin e.on h1)
  have h4 : e.on < listed.size := by omega
  simp [h4] at h2 ⊢; exact h2
 intro h
 rw [h] at this; cases this
theorem DrawnT.all (d : DrawnT call P num N ops xs n s0 sF S) {listed : Array Bool} {t : St} (p : PartT xs n S listed t) (hall : ∀ i, i < n → listed.getD i true = true) : t.mem = (S n).mem ∧ (∀ u, t.env.get u = (S n).env.get u) ∧ t.k = (S n).k := by
 refine ⟨List.ext_getElem? fun id => ?_, fun u => ?_, p.k.trans (d.pre 0 n (Nat.zero_le _) (Nat.le_refl _)).2.symm⟩
 ·rcases Nat.lt_or_ge id (S n).mem.length with h | h
  ·exact p.live id n (Nat.le_refl _) h (fun j hj _ _ => hall j hj) (fun j h1 h2 _ => by omega) fun j h1 _ => .inl (hall j h1)
  ·rw [List.getElem?_eq_none h, List.getElem?_eq_none (by rw [p.len]; exact h)]
 ·by_cases hw : ∃ (j : Nat) (y : XO), j < n ∧ xs[j]? = some y ∧ y.dst = some u
  ·obtain ⟨j, y, hj, hy, hd⟩ := hw
   rw [(p.done j y u hj hy hd (hall j hj)).1]
   exact (d.get u (j + 1) n (by omega) (Nat.le_refl _) fun k z h5 h6 h7 => by
    rcases (d.one k j z y u h6 hj h7 hy hd).1 with h | h
    ·omega
    ·exact h).symm
  ·rw [(p.not u fun j y h1 h2 h3 => absurd ⟨j, y, h1, h2, h3⟩ hw).1]
   exact (d.get u 0 n (Nat.zero_le _) (Nat.le_refl _) fun k z _ h6 h7 h8 => hw ⟨k, z, h6, h7, h8⟩).symm
theorem DrawnT.any {ro : Option Nat} (d : DrawnT call P num N ops xs n s0 sF S) (htail : n = ops.size ∨ (n < ops.size ∧ Region.sinkB .any ops n = true ∧ Region.chainB .any ops n = true)) (hseq : Region.seqB .any ops (ops.size - n) n (headArr ops.size n) = true) (hcall : CallOK num P call) {Q : Exit → Act → World → Prop} {k : Nat} {C : Cx} {m : Mem} {a0 : Act} (hN : N ≤ a0.tmps.size) (hQ : ∀ D a', Later num k C m a0 D sF a' → Q .normal a' D.w) :
  ∀ (c : Nat) (listed : Array Bool) (a : Act) (D : Cx) (t : St), left n listed = c → HeadInv .any ops n listed → PartT xs n S listed t → Later num k C m a0 D t a → wpAnyIn (fz ro) 0 P .any ops Q (c + (ops.size - n)) listed a D.w := by
 intro c
 induction c with
 | zero =>
  intro listed a D t hl inv p hlat
  rw [Nat.zero_add]
  have hall : ∀ i, i < n → listed.getD i true = true := by
   intro i hi
   cases h : listed.getD i true with
   | true => rfl
   | false =>
    have := List.countP_eq_zero.1 hl i (List.mem_range.2 hi)
    simp [h] at this
  have hhead := zgr inv.size d.hn hall inv.tail
  have hdl : (ops.toList.drop n).length = ops.size - n := by simp
  obtain ⟨h1, h2, h3⟩ := d.all p hall
  have hSn : Later num k C m a0 D (S n) a :=
   ⟨⟨by rw [← h1]; exact hlat.rep.mem, fun u => by rw [← h2]; exact hlat.rep.env u, by rw [← h1, ← h3]; exact hlat.rep.k⟩, by rw [← h1]; exact hlat.step, by rw [← h3]; exact hlat.k, hlat.size, hlat.marks⟩
  have htr : trOps P num N ops (ops.toList.drop n) = (xs.drop n).map XO.wipe := by
   refine zqa _ _ (by simp [d.len]) fun i o hi => ?_
   rw [List.getElem?_drop] at hi
   obtain ⟨x, hx, h⟩ := d.tr (n + i) o (by simpa using hi)
   exact ⟨x, by rw [List.getElem?_drop]; exact hx, h⟩
  have hw := zig (ro := ro) hcall (Q := Q) (ops.toList.drop n) (xs.drop n) htr hSn.rep (by rw [hSn.size]; exact hN) d.rest fun E a'' hl' => hQ E a'' (hSn.trans (by rw [hSn.k] at hl'; exact hl'))
  have := zrg (md := .any) (Q' := Q) (ops.toList.drop n) n listed a D.w (fun j => by simp [List.getElem?_drop]) (by rw [hdl, hhead]; exact hseq) hw
  rwa [hdl] at this
 | succ c ih =>
  intro listed a D t hl inv p hlat
  rw [show c + 1 + (ops.size - n) = (c + (ops.size - n)) + 1 by omega]
  refine ⟨fun h => absurd h (d.ready_some inv.size (by omega)), fun i hi => ?_⟩
  obtain ⟨hun, oi, hoi, _⟩ := mem_ready.1 hi
  have hisz : i < ops.size := (Array.getElem?_eq_some_iff.1 hoi).1
  have hin : i < n := by
   rcases htail with h | ⟨h1, h2, h3⟩
   ·omega
   ·rcases Nat.lt_or_ge i n with h | h
    ·exact h
    ·obtain ⟨j, hj, h4⟩ := List.countP_pos_iff.1 (show 0 < left n listed by omega)
     exact absurd hi (tail_waits h2 h3 h1 inv _ j rfl (List.mem_range.1 hj) (by simpa using h4) i h)
  obtain ⟨x, hx, htr⟩ := d.tr i oi hoi
  obtain ⟨t1, h1, hnext⟩ := d.part_step hcall inv p hin hi hx (fun fn l hop => by rw [(zp7 htr).1]; simp only [XO.wipe, hop, XOp.wipe]) hlat.rep
  unfold wpOpIn
  simp only [hoi]
  refine one_wp hcall (x := x.strip) (by rw [XO.strip_wipe]; exact htr) hlat.rep (by rw [hlat.size]; exact hN) h1 fun E a' hl' _ => ?_
  obtain ⟨t2, F, hw, hl2, p2⟩ := hnext E a' hl'.rep
  rw [← hw]
  refine ih _ a' F t2 (by have := zid hin hun; omega) (inv.set hi hin) p2 ?_
  rw [hlat.k] at hl'
  rw [hl'.k] at hl2
  exact (hlat.trans hl').trans hl2
theorem DrawnT.owner (d : DrawnT call P num N ops xs n s0 sF S) {id : Nat} (h0 : (S 0).mem.length ≤ id) : ∀ m, m ≤ n → id < (S m).mem.length → ∃ j, j < m ∧ (S j).mem.length ≤ id ∧ id < (S (j + 1)).mem.length := by
 intro m
 induction m with
 | zero => intro _ h; omega
 | succ m ih =>
  intro hm h
  rcases Nat.lt_or_ge id (S m).mem.length with h1 | h1
  ·obtain ⟨j, h2, h3⟩ := ih (by omega) h1
   exact ⟨j, by omega, h3⟩
  ·exact ⟨m, by omega, h1, h⟩
theorem DrawnT.start (d : DrawnT call P num N ops xs n s0 sF S) {C : Cx} {a : Act} (hs : SRep num C s0 a) : PartT xs n S (Array.replicate ops.size false) { s0 with mem := s0.mem ++ List.replicate ((S n).mem.length - s0.mem.length) AObj.dead } := by
 have hpre := d.pre 0 n (Nat.zero_le _) (Nat.le_refl _)
 have mono : ∀ i j, i ≤ j → j ≤ n → (S i).mem.length ≤ (S j).mem.length := fun i j h1 h2 => (d.pre i j h1 h2).1
 have hS0 := d.S0
 have hn := hs.mem.len
 have hfalse : ∀ j, j < n → (Array.replicate ops.size false).getD j true = false := fun j hj => by
  have hlt : j < ops.size := by have := d.hn; omega
  simp [hlt]
 have live0 : ∀ id, id < (S 0).mem.length → Live S n (Array.replicate ops.size false) id := fun id h j hj h1 _ => by have := mono 0 j (by omega) (by omega); omega
 have hb : (S 0).mem.length = s0.mem.length := by rw [hS0]
 refine ⟨by simp; omega, by rw [hS0], by rw [hS0]; exact hs.k, fun id q hq hid hlv hU hL => ?_, fun id hid hno => ?_, fun i x u hi hx hd hl => ?_, fun u _ => ?_, fun id o ho j hj => ?_, fun τ hτ _ hl => ?_⟩
 ·rcases Nat.lt_or_ge id (S 0).mem.length with h | h
  ·rw [d.keep (a := 0) h q (Nat.zero_le _) hq fun j _ h2 h3 => ?_, hS0]
   ·exact List.getElem?_append_left (by omega)
   ·exfalso
    rcases hL j h2 h3 with h4 | h4
    ·rw [hfalse j (by omega)] at h4; cases h4
    ·have := mono 0 j (Nat.zero_le _) (by omega); omega
  ·obtain ⟨j, hj, h1, h2⟩ := d.owner h q hq hid
   have := hlv j (by omega) h1 h2
   rw [hfalse j (by omega)] at this; cases this
 ·have h : (S 0).mem.length ≤ id := Nat.le_of_not_lt fun h => hno (live0 id h)
  show (s0.mem ++ _)[id]? = _
  rw [List.getElem?_append_right (by omega), List.getElem?_replicate, if_pos (by omega)]
 ·rw [hfalse i hi] at hl; cases hl
 ·rw [hS0]
  exact ⟨rfl, fun id hid => by have := za6 (hs.env u) id hid; omega⟩
 ·have hsp : s0.mem[id]? = some o ∨ o = .dead := by
   rcases Nat.lt_or_ge id s0.mem.length with h | h
   ·left; rw [← ho]; exact (List.getElem?_append_left h).symm
   ·right
    have ho' : (s0.mem ++ List.replicate ((S n).mem.length - s0.mem.length) AObj.dead)[id]? = some o := ho
    rw [List.getElem?_append_right h] at ho'
    exact List.eq_of_mem_replicate (List.mem_of_getElem? ho')
  rcases hsp with h | rfl
  ·have hjl := zkf (hs.mem.obj id o h) j hj
   exact ⟨live0 j (by omega), by have := hpre.1; omega, fun i hi _ _ => by have := mono 0 i (by omega) hi; omega⟩
  ·simp [AObj.refs] at hj
 ·rw [hfalse τ hτ] at hl; cases hl
theorem zdi {call : Calls'} {N : Nat} {ops : Array Oper} {xs : List XO} {n : Nat} {s0 sF : St} (htr : trOps P num N ops ops.toList = xs.map XO.wipe) (hlen : xs.length = ops.size) (hok : drawOkT ops xs n = true) (h : exOps call s0 xs = some sF) :
  ∃ S, DrawnT call P num N ops xs n s0 sF S ∧ (n = ops.size ∨ (n < ops.size ∧ Region.sinkB .any ops n = true ∧ Region.chainB .any ops n = true)) ∧ Region.seqB .any ops (ops.size - n) n (headArr ops.size n) = true := by
 unfold drawOkT at hok
 simp only [Bool.and_eq_true] at hok
 obtain ⟨⟨⟨⟨⟨h1, h2⟩, h3⟩, h4⟩, h5⟩, h6⟩ := hok
 have htail : n = ops.size ∨ (n < ops.size ∧ Region.sinkB .any ops n = true ∧ Region.chainB .any ops n = true) := by
  simp only [Bool.or_eq_true, beq_iff_eq, Bool.and_eq_true, decide_eq_true_eq] at h4
  rcases h4 with h | ⟨⟨h, h'⟩, h''⟩
  ·exact .inl h
  ·exact .inr ⟨h, h', h''⟩
 have hn' : n ≤ ops.size := by rcases htail with h | h <;> omega
 have hS : ∀ i, ∃ t, exOps call s0 (xs.take i) = some t ∧ exOps call t (xs.drop i) = some sF := zeh xs s0 sF h
 obtain ⟨S, hS⟩ : ∃ S : Nat → St, ∀ i, exOps call s0 (xs.take i) = some (S i) ∧ exOps call (S i) (xs.drop i) = some sF := ⟨fun i => Classical.choose (hS i), fun i => Classical.choose_spec (hS i)⟩
 have go : ∀ (i : Nat) x, xs[i]? = some x → exOne call (S i) x = some (S (i + 1)) := by
  intro i x hx
  have e1 := (hS i).1
  have e2 := (hS (i + 1)).1
  have : xs.take (i + 1) = xs.take i ++ [x] := by
   rw [List.take_add_one, hx]; rfl
  rw [this] at e2
  exact zeg _ x s0 _ _ e1 e2
 refine ⟨S, ⟨hlen, hn', fun i o ho => zp8 ops.toList xs htr h i o (by simpa using ho), ?_, ?_, ?_, ?_, ?_, fun i x _ hx => go i x hx, (hS n).2⟩, htail, h5⟩
 ·intro i x hi hx
  refine List.all_eq_true.1 h1 x (List.mem_of_getElem? (i := i) ?_)
  rw [List.getElem?_take, if_pos hi]; exact hx
 ·intro i j x y d hi hj hx hy hyd
  have := List.all_eq_true.1 (List.all_eq_true.1 h2 i (List.mem_range.2 hi)) j (List.mem_range.2 hj)
  simp only [hx, hy, hyd, Bool.and_eq_true, Bool.or_eq_true, beq_iff_eq, bne_iff_ne, Bool.not_eq_true', List.contains_eq_mem, decide_eq_false_iff_not, decide_eq_true_eq] at this
  refine ⟨this.1, fun hr => ?_⟩
  rcases this.2 with h | h
  ·exact absurd hr h
  ·exact h
 ·intro i o hi ho e he hb
  have := List.all_eq_true.1 h3 i (List.mem_range.2 hi)
  simp only [ho] at this
  have := Array.all_eq_true_iff_forall_mem.1 this e he
  simpa [hb] using this
 ·intro i j x y hi hj hij hx hy htc
  have := List.all_eq_true.1 (List.all_eq_true.1 h6 i (List.mem_range.2 hi)) j (List.mem_range.2 hj)
  simp only [hx, hy, htc, Bool.or_eq_true, Bool.and_eq_true, beq_iff_eq, decide_eq_true_eq, Bool.not_eq_true', Bool.true_eq_false, false_or] at this
  rcases this with h | (((h | h) | h) | h)
  ·exact absurd h hij
  ·exact .inr (.inr (.inl h))
  ·exact .inl h
  ·exact .inr (.inl h)
  ·refine .inr (.inr (.inr ⟨h.1.1, h.1.2, fun k z h1 h2 hz => ?_⟩))
   have := List.all_eq_true.1 h.2 k (List.mem_range.2 (by omega))
   simp only [hz, Bool.or_eq_true, Bool.and_eq_true, decide_eq_true_eq, Option.isNone_iff_eq_none] at this
   rcases this with (h | h) | h
   ·omega
   ·omega
   ·exact h
 ·have := (hS 0).1
  simp [exOps] at this
  exact this.symm
end
end Go.EX

