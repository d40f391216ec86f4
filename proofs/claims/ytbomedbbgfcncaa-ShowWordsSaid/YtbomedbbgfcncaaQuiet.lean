/-
  EX: operations that change nothing that is there; what they read; where they make things.
-/
import Derived.Test.YtbomedbbgfcncaaSound2
set_option linter.unusedVariables false
set_option linter.unusedSimpArgs false
namespace Go.EX

theorem ev_congr {s t : Env} {y : Src} (he : ∀ n ∈ srcTmp y, t.get n = s.get n) : t.ev y = s.ev y := by
  cases y with
  | t n => exact he n (by simp [srcTmp])
  | c v => rfl
  | f n => rfl

theorem evO_congr {s t : Env} {y : Option Src} (he : ∀ n ∈ srcTmpO y, t.get n = s.get n) : y.map t.ev = y.map s.ev := by
  cases y with
  | none => rfl
  | some y => exact congrArg some (ev_congr he)

theorem evL_congr {s t : Env} {l : List Src} (he : ∀ n ∈ l.flatMap srcTmp, t.get n = s.get n) : l.map t.ev = l.map s.ev :=
  List.map_congr_left fun y hy => ev_congr fun n hn => he n (List.mem_flatMap.2 ⟨y, hy, hn⟩)

theorem evP_congr {s t : Env} {l : List (Nat × Nat × Src)} (he : ∀ n ∈ l.flatMap (fun p => srcTmp p.2.2), t.get n = s.get n) : l.map (fun (o, n, x) => (o, n, t.ev x)) = l.map fun (o, n, x) => (o, n, s.ev x) :=
  List.map_congr_left fun y hy => by
    have := ev_congr (s := s) (t := t) (y := y.2.2) fun n hn => he n (List.mem_flatMap.2 ⟨y, hy, hn⟩)
    simp only [this]

/-! ### the numbers that values bear -/

def In (K : Nat → Prop) (x : AV) : Prop := ∀ id ∈ x.refs, K id
def InL (K : Nat → Prop) (l : List AV) : Prop := ∀ x ∈ l, In K x

theorem refsL_mem : ∀ {l : List AV} {id : Nat}, id ∈ AV.refs.refsL l ↔ ∃ x ∈ l, id ∈ x.refs
  | [], id => by simp [AV.refs.refsL]
  | x :: r, id => by simp [AV.refs.refsL, refsL_mem (l := r)]

theorem in_agg {K : Nat → Prop} {l : List AV} : In K (.agg l) ↔ InL K l := by
  constructor
  · intro h x hx id hid; exact h id (by simp only [AV.refs]; exact refsL_mem.2 ⟨x, hx, hid⟩)
  · intro h id hid; simp only [AV.refs] at hid; obtain ⟨x, hx, hid⟩ := refsL_mem.1 hid; exact h x hx id hid
theorem in_tup {K : Nat → Prop} {l : List AV} : In K (.tup l) ↔ InL K l := by
  constructor
  · intro h x hx id hid; exact h id (by simp only [AV.refs]; exact refsL_mem.2 ⟨x, hx, hid⟩)
  · intro h id hid; simp only [AV.refs] at hid; obtain ⟨x, hx, hid⟩ := refsL_mem.1 hid; exact h x hx id hid
theorem in_clo {K : Nat → Prop} {n : Nat} {l : List AV} : In K (.clo n l) ↔ InL K l := by
  constructor
  · intro h x hx id hid; exact h id (by simp only [AV.refs]; exact refsL_mem.2 ⟨x, hx, hid⟩)
  · intro h id hid; simp only [AV.refs] at hid; obtain ⟨x, hx, hid⟩ := refsL_mem.1 hid; exact h x hx id hid
theorem in_imm {K : Nat → Prop} {x : IV} : In K (.imm x) := fun id hid => by simp [AV.refs] at hid
theorem in_junk {K : Nat → Prop} : In K .junk := fun id hid => by simp [AV.refs] at hid
theorem in_optr {K : Nat → Prop} {i o : Nat} : In K (.optr i o) ↔ K i := by simp [In, AV.refs]
theorem in_osl {K : Nat → Prop} {i a b c : Nat} {d : Option Nat} : In K (.osl i a b c d) ↔ K i := by simp [In, AV.refs]
theorem in_omap {K : Nat → Prop} {i : Nat} : In K (.omap i) ↔ K i := by simp [In, AV.refs]
theorem in_ev {K : Nat → Prop} {e : Env} {y : Src} (h : ∀ n ∈ srcTmp y, In K (e.get n)) : In K (e.ev y) := by
  cases y with
  | t n => exact h n (by simp [srcTmp])
  | c v => exact in_imm
  | f n => exact in_clo.2 fun x hx => by cases hx

theorem InL.get {K : Nat → Prop} {l : List AV} (h : InL K l) {j : Nat} {x : AV} (hx : l[j]? = some x) : In K x := h x (List.mem_of_getElem? hx)
theorem InL.mapImm {K : Nat → Prop} {α : Type} (l : List α) (f : α → IV) : InL K (l.map fun x => .imm (f x)) := fun x hx => by obtain ⟨y, _, rfl⟩ := List.mem_map.1 hx; exact in_imm

theorem in_setAll {K : Nat → Prop} : ∀ (xs l : List AV) (off : Nat), InL K l → InL K xs → InL K (setAll l off xs)
  | [], l, off, hl, _ => hl
  | x :: xs, l, off, hl, hx => by
    simp only [setAll]
    refine in_setAll xs _ _ (fun y hy => ?_) (fun y hy => hx y (List.mem_cons_of_mem _ hy))
    rcases List.mem_or_eq_of_mem_set hy with h | h
    · exact hl y h
    · rw [h]; exact hx x (List.mem_cons_self ..)

theorem in_cells {K : Nat → Prop} {x : AV} {cs : List AV} (h : In K x) (hc : x.cells = some cs) : InL K cs := by
  cases x <;> simp only [AV.cells, Option.some.injEq, reduceCtorEq] at hc <;> subst hc <;> first | exact in_agg.1 h | (intro y hy; rw [List.mem_singleton.1 hy]; exact h)

theorem in_fill {K : Nat → Prop} : ∀ (ps : List (Nat × Nat × AV)) (cs r : List AV), InL K cs → (∀ p ∈ ps, In K p.2.2) → fillAll cs ps = some r → InL K r
  | [], cs, r, hc, _, h => by cases h; exact hc
  | (off, n, v) :: ps, cs, r, hc, hp, h => by
    simp only [fillAll] at h
    split at h
    · rename_i vs hv
      split at h
      · exact in_fill ps _ _ (in_setAll vs cs off hc (in_cells (hp _ (List.mem_cons_self ..)) hv)) (fun p hp' => hp p (List.mem_cons_of_mem _ hp')) h
      · cases h
    · cases h

theorem in_cut {K : Nat → Prop} {l r : List AV} {off n : Nat} (hl : InL K l) (h : cut l off n = some r) : InL K r := by
  unfold cut at h
  dsimp only at h
  split at h
  · cases h; exact fun x hx => hl x (List.mem_of_mem_drop (List.mem_of_mem_take hx))
  · cases h

theorem in_getCells {K : Nat → Prop} {l : List AV} {agg : Option Nat} {off : Nat} {r : AV} (hl : InL K l) (h : getCells agg l off = some r) : In K r := by
  cases agg with
  | none => exact hl.get h
  | some n =>
    simp only [getCells, Option.map_eq_some_iff] at h
    obtain ⟨c, hc, rfl⟩ := h
    exact in_agg.2 (in_cut hl hc)

theorem in_getCellsI {K : Nat → Prop} {l : List IV} {agg : Option Nat} {off : Nat} {r : AV} (h : getCellsI agg l off = some r) : In K r := by
  cases agg with
  | none => simp only [getCellsI, Option.map_eq_some_iff] at h; obtain ⟨c, _, rfl⟩ := h; exact in_imm
  | some n =>
    simp only [getCellsI, Option.map_eq_some_iff] at h
    obtain ⟨c, hc, rfl⟩ := h
    exact in_agg.2 (InL.mapImm c id)

theorem in_imZ {K : Nat → Prop} (zs : List Value) : InL K (imZ zs) := InL.mapImm zs .val

/-! ### two memories that agree -/

structure Agree (K : Nat → Prop) (s t : Mem) : Prop where
  same : ∀ id, K id → t[id]? = s[id]?
  closed : ∀ id o, K id → s[id]? = some o → ∀ j ∈ o.refs, K j

theorem in_rich {K : Nat → Prop} {s t : Mem} (h : Agree K s t) {id : Nat} (hk : K id) {cs : List AV} (hc : s[id]? = some (.rich cs)) : InL K cs := fun x hx j hj => h.closed id _ hk hc j (by simp only [AObj.refs]; exact refsL_mem.2 ⟨x, hx, hj⟩)

theorem in_map {K : Nat → Prop} {s t : Mem} (h : Agree K s t) {id : Nat} (hk : K id) {es : List (AV × AV)} (hc : s[id]? = some (.map es)) : ∀ p ∈ es, In K p.1 ∧ In K p.2 := fun p hp =>
  ⟨fun j hj => h.closed id _ hk hc j (by simp only [AObj.refs, List.mem_append]; exact .inl (refsL_mem.2 ⟨p.1, List.mem_map.2 ⟨p, hp, rfl⟩, hj⟩)),
   fun j hj => h.closed id _ hk hc j (by simp only [AObj.refs, List.mem_append]; exact .inr (refsL_mem.2 ⟨p.2, List.mem_map.2 ⟨p, hp, rfl⟩, hj⟩))⟩

theorem mapM_congr {α β : Type} {f g : α → Option β} : ∀ (l : List α), (∀ x ∈ l, f x = g x) → l.mapM f = l.mapM g
  | [], _ => rfl
  | x :: r, h => by
    rw [List.mapM_cons, List.mapM_cons, h x (List.mem_cons_self ..), mapM_congr r fun y hy => h y (List.mem_cons_of_mem _ hy)]

theorem frzV_agree {K : Nat → Prop} {s t : Mem} (h : Agree K s t) : ∀ (n : Nat) (x : AV), In K x → frzV t n x = frzV s n x
  | n, .imm x, _ => by cases n <;> rfl
  | 0, .osl .., _ => rfl
  | 0, .optr .., _ => rfl
  | n + 1, .osl id off sz len cap, hx => by
    have hk := in_osl.1 hx
    simp only [frzV, h.same id hk]
    cases hc : s[id]? with
    | none => rfl
    | some o =>
      cases o with
      | rich cs => simp only []; rw [mapM_congr cs fun y hy => frzV_agree h n y (in_rich h hk hc y hy)]
      | _ => rfl
  | n + 1, .optr id off, hx => by
    have hk := in_optr.1 hx
    simp only [frzV, h.same id hk]
    cases hc : s[id]? with
    | none => rfl
    | some o =>
      cases o with
      | rich cs => simp only []; rw [mapM_congr cs fun y hy => frzV_agree h n y (in_rich h hk hc y hy)]
      | _ => rfl
  | n, .omap _, _ => by cases n <;> rfl
  | n, .clo .., _ => by cases n <;> rfl
  | n, .agg _, _ => by cases n <;> rfl
  | n, .tup _, _ => by cases n <;> rfl
  | n, .junk, _ => by cases n <;> rfl

theorem frz1_agree {K : Nat → Prop} {s t : Mem} (h : Agree K s t) (x : AV) (hx : In K x) : frz.frz1 t x = frz.frz1 s x := by
  cases x with
  | agg cs => simp only [frz.frz1]; rw [mapM_congr cs fun y hy => frzV_agree h 20 y (in_agg.1 hx y hy)]
  | _ => simp only [frz.frz1]; rw [frzV_agree h 20 _ hx]

theorem frz_agree {K : Nat → Prop} {s t : Mem} (h : Agree K s t) (x : AV) (hx : In K x) : frz t x = frz s x := by
  cases x with
  | agg cs => simp only [frz]; rw [mapM_congr cs fun y hy => frzV_agree h 20 y (in_agg.1 hx y hy)]
  | tup vs => simp only [frz]; rw [mapM_congr vs fun y hy => frz1_agree h y (in_tup.1 hx y hy)]
  | _ => simp only [frz]; rw [frzV_agree h 20 _ hx]

theorem in_aggImm {K : Nat → Prop} (l : List IV) : In K (.agg (l.map .imm)) := in_agg.2 (InL.mapImm l id)

theorem in_frz {K : Nat → Prop} {m : Mem} {x y : AV} (h : frz m x = some y) : In K y := by
  have one : ∀ {x y : AV}, frz.frz1 m x = some y → In K y := by
    intro x y h
    cases x <;> simp only [frz.frz1, Option.map_eq_some_iff] at h <;> obtain ⟨l, _, rfl⟩ := h <;> first | exact in_imm | exact in_aggImm l
  cases x with
  | agg cs => simp only [frz, Option.map_eq_some_iff] at h; obtain ⟨l, _, rfl⟩ := h; exact in_aggImm l
  | tup vs =>
    simp only [frz, Option.map_eq_some_iff] at h
    obtain ⟨l, hl, rfl⟩ := h
    refine in_tup.2 fun y hy => ?_
    obtain ⟨j, hj⟩ := List.getElem?_of_mem hy
    obtain ⟨x, _, hx⟩ := (mapM_get _ vs l hl).2 j y hj
    exact one hx
  | _ => simp only [frz, Option.map_eq_some_iff] at h; obtain ⟨l, _, rfl⟩ := h; exact in_imm

theorem load_agree {K : Nat → Prop} {s t : Mem} (h : Agree K s t) {agg : Option Nat} {x : AV} (hx : In K x) : loadAt t agg x = loadAt s agg x := by
  unfold loadAt
  cases x with
  | optr id off => simp only [h.same id (in_optr.1 hx)]
  | imm y => cases y <;> rfl
  | _ => rfl

theorem in_load {K : Nat → Prop} {s t : Mem} (h : Agree K s t) {agg : Option Nat} {x r : AV} (hx : In K x) (hr : loadAt s agg x = some r) : In K r := by
  unfold loadAt at hr
  split at hr
  · exact in_getCellsI hr
  · rename_i id off
    have hk := in_optr.1 hx
    split at hr
    · exact in_getCellsI hr
    · rename_i cs hc; exact in_getCells (in_rich h hk hc) hr
    · cases hr
  · cases hr

theorem keyEq_agree {K : Nat → Prop} {s t : Mem} (h : Agree K s t) (kind : Nat) {x y : AV} (hx : In K x) (hy : In K y) : keyEq t kind x y = keyEq s kind x y := by
  unfold keyEq
  split <;> first | rfl | skip
  rename_i i o j p
  rw [h.same i (in_optr.1 hx), h.same j (in_optr.1 hy)]

theorem findK_agree {K : Nat → Prop} {s t : Mem} (h : Agree K s t) (kind : Nat) {k : AV} (hk : In K k) : ∀ (es : List (AV × AV)) (i : Nat), (∀ p ∈ es, In K p.1) → findK t kind k es i = findK s kind k es i
  | [], _, _ => rfl
  | e :: es, i, he => by
    simp only [findK, keyEq_agree h kind hk (he e (List.mem_cons_self ..)), findK_agree h kind hk es (i + 1) fun p hp => he p (List.mem_cons_of_mem _ hp)]


theorem in_plain1 {K : Nat → Prop} {x : AV} (h : x.plain1 = true) : In K x := by
  unfold AV.plain1 at h
  split at h
  · exact in_imm
  · cases h

theorem in_plain2 {K : Nat → Prop} {x : AV} (h : x.plain2 = true) : In K x := by
  cases x with
  | agg cs => exact in_agg.2 fun y hy => in_plain1 (List.all_eq_true.1 h y hy)
  | _ => exact in_plain1 h

theorem in_plain {K : Nat → Prop} {x : AV} (h : x.plain = true) : In K x := by
  cases x with
  | tup cs => exact in_tup.2 fun y hy => in_plain2 (List.all_eq_true.1 h y hy)
  | _ => exact in_plain2 h

/-- A calm operation, where what it reads is the same: it changes nothing; its value bears only numbers that were read. -/
theorem calm_congr {call : Calls'} {K : Nat → Prop} {x : XOp} (hc : calmOp x = true) {s t : St} (hm : Agree K s.mem t.mem) (he : ∀ n ∈ x.reads, t.env.get n = s.env.get n) (hk : ∀ n ∈ x.reads, In K (s.env.get n)) {r : AV} {s' : St} (h : exOp call s x = some (r, s')) :
    s' = s ∧ exOp call t x = some (r, t) ∧ In K r := by
  have hmap : ∀ {α : Type} (o : Option α) (f : α → AV), o.map (fun v => (f v, s)) = some (r, s') → (∀ v, o = some v → In K (f v)) → s' = s ∧ o.map (fun v => (f v, t)) = some (r, t) ∧ In K r := by
    intro α o f ho hf
    cases o with
    | none => cases ho
    | some v => cases ho; exact ⟨rfl, rfl, hf v rfl⟩
  have e1 : ∀ y, (∀ n ∈ srcTmp y, n ∈ x.reads) → t.env.ev y = s.env.ev y := fun y hy => ev_congr fun n hn => he n (hy n hn)
  have k1 : ∀ y, (∀ n ∈ srcTmp y, n ∈ x.reads) → In K (s.env.ev y) := fun y hy => in_ev fun n hn => hk n (hy n hn)
  have eO : ∀ y, (∀ n ∈ srcTmpO y, n ∈ x.reads) → y.map t.env.ev = y.map s.env.ev := fun y hy => evO_congr fun n hn => he n (hy n hn)
  cases x with
  | mv y =>
    have ky := k1 y (by simp [XOp.reads])
    simp only [exOp] at h ⊢
    rw [e1 y (by simp [XOp.reads])]
    cases h; exact ⟨rfl, rfl, ky⟩
  | load agg y =>
    have ky := k1 y (by simp [XOp.reads])
    simp only [exOp] at h ⊢
    rw [e1 y (by simp [XOp.reads]), load_agree hm ky]
    exact hmap _ _ h fun v hv => in_load hm ky hv
  | nilCheck y =>
    have ky := k1 y (by simp [XOp.reads])
    simp only [exOp] at h ⊢
    rw [e1 y (by simp [XOp.reads])]
    revert h; split <;> intro h <;> first | (cases h; done) | (cases h; exact ⟨rfl, rfl, ky⟩)
  | extract y i =>
    have ky := k1 y (by simp [XOp.reads])
    simp only [exOp] at h ⊢
    rw [e1 y (by simp [XOp.reads])]
    revert h; split <;> intro h <;> first | (cases h; done) | skip
    rename_i vs hv
    rw [hv] at ky
    exact hmap _ _ h fun v hv => (in_tup.1 ky).get hv
  | field off agg y =>
    have ky := k1 y (by simp [XOp.reads])
    simp only [exOp] at h ⊢
    rw [e1 y (by simp [XOp.reads])]
    revert h; split <;> intro h <;> first | (cases h; done) | skip
    rename_i cs hv
    rw [hv] at ky
    exact hmap _ _ h fun v hv => in_getCells (in_agg.1 ky) hv
  | fieldA off y =>
    have ky := k1 y (by simp [XOp.reads])
    simp only [exOp] at h ⊢
    rw [e1 y (by simp [XOp.reads])]
    revert h; split <;> intro h <;> first | (cases h; done) | skip
    · cases h; exact ⟨rfl, rfl, in_imm⟩
    · rename_i id o hv
      rw [hv] at ky
      cases h; exact ⟨rfl, rfl, in_optr.2 (in_optr.1 ky)⟩
  | eqNil _ _ y | un _ y | conv _ y | convS y | len y | lenS y | cap y =>
    simp only [exOp] at h ⊢
    rw [e1 y (by simp [XOp.reads])]
    first
      | exact hmap _ _ h fun _ _ => in_imm
      | (revert h; split <;> intro h <;> first | (cases h; done) | (cases h; exact ⟨rfl, rfl, in_imm⟩) | exact hmap _ _ h fun _ _ => in_imm)
  | pick a b c =>
    have kb := k1 b (by simp [XOp.reads]; intros; simp [*])
    have kc := k1 c (by simp [XOp.reads]; intros; simp [*])
    simp only [exOp] at h ⊢
    rw [e1 a (by simp [XOp.reads]; intros; simp [*]), e1 b (by simp [XOp.reads]; intros; simp [*]), e1 c (by simp [XOp.reads]; intros; simp [*])]
    revert h; split <;> intro h <;> first | (cases h; done) | skip
    cases h
    refine ⟨rfl, rfl, ?_⟩
    split
    · exact kb
    · exact kc
  | bin _ y z | binB _ y z | eqCells _ _ y z | idxS y z =>
    simp only [exOp] at h ⊢
    rw [e1 y (by simp [XOp.reads]; intros; simp [*]), e1 z (by simp [XOp.reads]; intros; simp [*])]
    repeat' (first | exact hmap _ _ h fun _ _ => in_imm | (cases h; done) | (cases h; exact ⟨rfl, rfl, in_imm⟩) | (revert h; split <;> intro h))
  | idxA _ y z =>
    have ky := k1 y (by simp [XOp.reads]; intros; simp [*])
    simp only [exOp] at h ⊢
    rw [e1 y (by simp [XOp.reads]; intros; simp [*]), e1 z (by simp [XOp.reads]; intros; simp [*])]
    split at h
    · cases h
    · split at h
      · split at h
        · rename_i hb; cases h; refine ⟨rfl, ?_, in_imm⟩; simp only [*, and_self, if_true]
        · cases h
      · rename_i heq
        split at h
        · rename_i hb; cases h; rw [heq] at ky; refine ⟨rfl, ?_, in_optr.2 (in_osl.1 ky)⟩; simp only [*, and_self, if_true]
        · cases h
      · cases h
  | build zs ps =>
    simp only [exOp] at h ⊢
    rw [evP_congr (s := s.env) (t := t.env) (by simpa [XOp.reads] using he)]
    refine hmap _ _ h fun v hv => in_agg.2 (in_fill _ _ _ (in_imZ zs) (fun p hp => ?_) hv)
    obtain ⟨q, hq, rfl⟩ := List.mem_map.1 hp
    exact k1 q.2.2 fun n hn => by simp only [XOp.reads]; exact List.mem_flatMap.2 ⟨q, hq, hn⟩
  | slice sz y lo hi =>
    have ky := k1 y (by simp [XOp.reads]; intros; simp [*])
    simp only [exOp] at h ⊢
    rw [e1 y (by simp [XOp.reads]; intros; simp [*]), eO lo (by simp [XOp.reads]; intros; simp [*]), eO hi (by simp [XOp.reads]; intros; simp [*])]
    refine hmap _ _ h fun v hv => ?_
    generalize s.env.ev y = yv at hv ky
    unfold exSlice at hv
    split at hv
    · simp only [Option.map_eq_some_iff] at hv; obtain ⟨_, _, rfl⟩ := hv; exact in_imm
    · simp only [Option.map_eq_some_iff] at hv; obtain ⟨_, _, rfl⟩ := hv; exact in_imm
    · split at hv
      · simp only [Option.map_eq_some_iff] at hv; obtain ⟨_, _, rfl⟩ := hv; exact in_osl.2 (in_osl.1 ky)
      · cases hv
    · cases hv
  | sliceS y lo hi =>
    simp only [exOp] at h ⊢
    rw [e1 y (by simp [XOp.reads]; intros; simp [*]), eO lo (by simp [XOp.reads]; intros; simp [*]), eO hi (by simp [XOp.reads]; intros; simp [*])]
    revert h; split <;> intro h <;> first | (cases h; done) | exact hmap _ _ h fun _ _ => in_imm
  | mkClo _ l =>
    simp only [exOp] at h ⊢
    rw [evL_congr (s := s.env) (t := t.env) (by simpa [XOp.reads] using he)]
    cases h
    refine ⟨rfl, rfl, in_clo.2 fun x hx => ?_⟩
    obtain ⟨q, hq, rfl⟩ := List.mem_map.1 hx
    exact k1 q fun n hn => by simp only [XOp.reads]; exact List.mem_flatMap.2 ⟨q, hq, hn⟩
  | lookup kind zs agg y z ok =>
    have ky := k1 y (by simp [XOp.reads]; intros; simp [*])
    have kz := k1 z (by simp [XOp.reads]; intros; simp [*])
    simp only [exOp] at h ⊢
    rw [e1 y (by simp [XOp.reads]; intros; simp [*]), e1 z (by simp [XOp.reads]; intros; simp [*])]
    generalize s.env.ev y = yv at h ky ⊢
    generalize s.env.ev z = zv at h kz ⊢
    have kzero : In K (zeroAV zs agg) := by
      unfold zeroAV
      split
      · exact in_agg.2 (in_imZ zs)
      · split
        · exact in_imm
        · exact in_junk
    have kout : ∀ (v : AV) (b : Bool), In K v → In K (.tup [v, .imm (.val (.bool b))]) := fun v b hv => in_tup.2 fun x hx => by
      simp only [List.mem_cons, List.not_mem_nil, or_false] at hx
      rcases hx with rfl | rfl
      · exact hv
      · exact in_imm
    split at h
    · rename_i hik
      rw [if_pos hik]
      split at h
      · cases ok <;> cases h
        · exact ⟨rfl, rfl, kzero⟩
        · exact ⟨rfl, rfl, kout _ _ kzero⟩
      · rename_i id
        have hid := in_omap.1 ky
        simp only [hm.same id hid]
        split at h
        · rename_i es hes
          have hin := in_map hm hid hes
          rw [findK_agree hm kind kz es 0 fun p hp => (hin p hp).1]
          split at h
          · cases ok <;> cases h
            · exact ⟨rfl, rfl, kzero⟩
            · exact ⟨rfl, rfl, kout _ _ kzero⟩
          · rename_i i hi
            cases hp : es[i]? with
            | none => rw [hp] at h; cases h
            | some p =>
              rw [hp] at h
              have kp := (hin p (List.mem_of_getElem? hp)).2
              cases ok <;> cases h
              · exact ⟨rfl, rfl, kp⟩
              · exact ⟨rfl, rfl, kout _ _ kp⟩
          · cases h
        · cases h
      · cases h
    · cases h
  | lenM y =>
    have ky := k1 y (by simp [XOp.reads])
    simp only [exOp] at h ⊢
    rw [e1 y (by simp [XOp.reads])]
    generalize s.env.ev y = yv at h ky ⊢
    split at h
    · cases h; exact ⟨rfl, rfl, in_imm⟩
    · rename_i id
      simp only [hm.same id (in_omap.1 ky)]
      split at h
      · cases h; exact ⟨rfl, rfl, in_imm⟩
      · cases h
    · cases h
  | call mode fn l =>
    cases mode with
    | view =>
      simp only [exOp, exView] at h ⊢
      have hin : InL K (l.map s.env.ev) := fun x hx => by
        obtain ⟨q, hq, rfl⟩ := List.mem_map.1 hx
        exact k1 q fun n hn => by simp only [XOp.reads]; exact List.mem_flatMap.2 ⟨q, hq, hn⟩
      rw [evL_congr (s := s.env) (t := t.env) (by simpa [XOp.reads] using he), mapM_congr _ fun x hx => frz_agree hm x (hin x hx)]
      split at h
      · cases h
      · split at h
        · cases h
        · rename_i mc hcall
          split at h
          · rename_i hp
            cases h
            refine ⟨rfl, by simp only [hcall, hp, if_true], ?_⟩
            exact in_plain hp
          · rename_i hp
            split at h
            · rename_i hi
              simp only [hcall, hp, hi, Bool.false_eq_true, if_true, if_false]
              exact hmap _ _ h fun v hv => in_frz hv
            · cases h
    | own => cases hc
    | share => cases hc
  | alloc | box | buildSlice | store | frz | append | makeSlice | copy | callV | makeMap | mapSet => cases hc

end Go.EX
