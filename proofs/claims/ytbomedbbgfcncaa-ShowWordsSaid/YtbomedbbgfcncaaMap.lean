/-
  EX: maps.
-/
import Derived.Test.YtbomedbbgfcncaaCall3
import Derived.MapKept
import Derived.LaidEqlPtr
set_option linter.unusedVariables false
set_option linter.unusedSimpArgs false
namespace Go.EX

section
variable {num : FuncId → Nat} {P : Program}
variable {ty : TypeId} {pos : String} {after : Array Edge} {a : Act} {C : Cx} {s : St}

/-- An object of the world that is no row of cells is another one. -/
theorem put_tr {m : Mem} (hm : MRep num C m) {id : Nat} {o : AObj} (ho : m[id]? = some o) (hlo : o.live = true) {w' : World}
    (hno : ∀ arr e, C.w.heap[C.σ id]? ≠ some (.cells arr e (0, 0))) (hw : ∀ b, b ≠ C.σ id → w'.heap[b]? = C.w.heap[b]?) : Tr some C { C with w := w' } := by
  refine ⟨fun _ h => h, fun b hb => hw b fun e => hm.imm b ⟨id, o, ho, hlo, e.symm⟩ hb, fun i j hi hj => ?_⟩
  cases hj
  refine ⟨hi, rfl, fun arr e h => ⟨arr, ?_, rfl⟩⟩
  show w'.heap[C.σ i]? = _
  rw [hw _ fun hc => hno arr e (by rw [← hc]; exact h)]
  exact h

theorem put_step {m : Mem} (hm : MRep num C m) {id : Nat} {o o' : AObj} (ho : m[id]? = some o) (hlo : o.live = true) {w' : World}
    (hno : ∀ arr e, C.w.heap[C.σ id]? ≠ some (.cells arr e (0, 0))) (hw : ∀ b, b ≠ C.σ id → w'.heap[b]? = C.w.heap[b]?) (hos : w'.os = C.w.os) (htp : w'.tape = C.w.tape) (hout : w'.output = C.w.output) (hsize : w'.heap.size = C.w.heap.size)
    (hmv : o.moved = false) (hr : ORep num { C with w := w' } id o') {k : Nat} (hk : k ≤ m.length) :
    Step num k C m { C with w := w' } (m.set id o') := by
  have ht := put_tr hm ho hlo hno hw
  have back : ∀ (i : Nat) (p : AObj), (m.set id o')[i]? = some p → (i = id ∧ p = o') ∨ (i ≠ id ∧ m[i]? = some p) := by
    intro i p hp
    rw [set_get] at hp
    split at hp
    · rename_i hi; exact .inl ⟨hi.1.symm, (Option.some.inj hp).symm⟩
    · rename_i hi
      exact .inr ⟨fun e => hi ⟨e.symm, (List.getElem?_eq_some_iff.1 hp).1⟩, hp⟩
  have hown : ∀ b, Own { C with w := w' } (m.set id o') b → Own C m b := by
    rintro b ⟨i, p, hp, hl, hb⟩
    rcases back i p hp with ⟨rfl, rfl⟩ | ⟨_, hp'⟩
    · exact ⟨i, o, ho, hlo, hb⟩
    · exact ⟨i, p, hp', hl, hb⟩
  refine ⟨⟨by simpa using hm.len, fun i p hp => ?_, fun i j p q hp hq hlp hlq hσ => ?_, fun b hb => hm.imm b (hown b hb), fun b hb => by show b < w'.heap.size; rw [hsize]; exact hm.bd b hb⟩, hos, htp, hout, by show _ ≤ w'.heap.size; omega, fun b _ hb => hw b fun e => hb ⟨id, o, ho, hlo, e.symm⟩,
    fun b arr e h => ⟨arr, ?_, rfl⟩, fun _ h => h, fun _ h => .inl h, fun b hb => .inr (hown b hb), fun i _ p hp hmp => ?_, by simpa using hk⟩
  · rcases back i p hp with ⟨rfl, rfl⟩ | ⟨hne, hp'⟩
    · exact hr
    · by_cases hlp : p.live = true
      · refine orep_mono ht rfl (fun x hx => ?_) (hm.obj i p hp')
        show w'.heap[C.σ i]? = _
        rw [hw _ fun e => hne (hm.inj i id p o hp' ho hlp hlo e)]; exact hx
      · cases p with
        | dead => trivial
        | _ => exact absurd rfl hlp
  · have hl : ∀ (i : Nat) (p : AObj), (m.set id o')[i]? = some p → p.live = true → ∃ p' : AObj, m[i]? = some p' ∧ p'.live = true := by
      intro i p hp hl
      rcases back i p hp with ⟨rfl, rfl⟩ | ⟨_, hp'⟩
      · exact ⟨o, ho, hlo⟩
      · exact ⟨p, hp', hl⟩
    obtain ⟨p', hp', hlp'⟩ := hl i p hp hlp
    obtain ⟨q', hq', hlq'⟩ := hl j q hq hlq
    exact hm.inj i j p' q' hp' hq' hlp' hlq' hσ
  · show w'.heap[b]? = _
    rw [hw b fun e' => hno arr e (by rw [← e']; exact h)]; exact h
  · rcases back i p hp with ⟨rfl, rfl⟩ | ⟨_, hp'⟩
    · exact ⟨o, ho, hmv, rfl⟩
    · exact ⟨p, hp', hmp, rfl⟩

/-! ### keys -/

/-- A value of a kind of key. -/
def IsK (P : Program) (w : World) (kt : TypeId) : Nat → Value → Prop
  | 0, v => ∃ j k n, P.underlying kt = some (.int j) ∧ v = .int k n
  | 1, v => ∃ b, P.underlying kt = some .bool ∧ v = .bool b
  | 2, v => ∃ b, P.underlying kt = some .string ∧ v = .string b
  | 3, v => ∃ e i b o, P.underlying kt = some (.pointer e) ∧ P.info? e = some i ∧ i.size ≠ 0 ∧ v = .pointer (some ⟨b, o, none⟩)
  | _, _ => False

theorem keyKind_is {kt : TypeId} {kind : Nat} (h : keyKind P kt = some kind) {x : AV} {v : Value} (hx : ARep num C x v) (hk : isKeyAV kind x = true) : IsK P C.w kt kind v := by
  unfold keyKind at h
  split at h
  · rename_i j hj
    cases h
    unfold isKeyAV at hk
    split at hk <;> first | (cases hk; done) | skip
    all_goals (rename_i h0; first | (cases h0; done) | skip)
    have := rep_val hx
    subst this
    exact ⟨_, _, _, hj, rfl⟩
  · rename_i hj
    cases h
    unfold isKeyAV at hk
    split at hk <;> first | (cases hk; done) | skip
    all_goals (rename_i h0; first | (cases h0; done) | skip)
    have := rep_val hx
    subst this
    exact ⟨_, hj, rfl⟩
  · rename_i hj
    cases h
    unfold isKeyAV at hk
    split at hk <;> first | (cases hk; done) | skip
    all_goals (rename_i h0; first | (cases h0; done) | skip)
    have := rep_val hx
    subst this
    exact ⟨_, hj, rfl⟩
  · rename_i e he
    split at h
    · rename_i hc
      simp only [Bool.and_eq_true, decide_eq_true_eq] at hc
      cases h
      obtain ⟨i, d, h1, h2, h3, _⟩ := known_some hc.1
      unfold isKeyAV at hk
      split at hk <;> first | (cases hk; done) | skip
      all_goals (rename_i h0; first | (cases h0; done) | skip)
      cases hx with
      | optr id off hid => exact ⟨e, i, _, _, he, h1, by rw [← h3]; omega, rfl⟩
    · cases h
  · cases h

theorem run_check {w : World} {kt : TypeId} {kind : Nat} {v : Value} (h : IsK P w kt kind v) (e : Bool) (n : Nat) : (Instr.checkKey e (n + 1) kt v).run P w = .ok () w := by
  unfold Instr.checkKey
  match kind, h with
  | 0, ⟨j, k, n, h1, h2⟩ => subst h2; simp [run_underlying h1, Result.andThen]
  | 1, ⟨b, h1, h2⟩ => subst h2; simp [run_underlying h1, Result.andThen]
  | 2, ⟨b, h1, h2⟩ => subst h2; simp [run_underlying h1, Result.andThen]
  | 3, ⟨e, i, b, o, h1, _, _, h2⟩ => subst h2; simp [run_underlying h1, Result.andThen]

theorem hasCells_of {m : Mem} (hm : MRep num C m) {id : Nat} (h : ((m[id]?).getD .dead).hasCells = true) : ∃ o arr e, m[id]? = some o ∧ o.live = true ∧ C.w.heap[C.σ id]? = some (.cells arr e (0, 0)) := by
  cases hq : m[id]? with
  | none => simp [hq, AObj.hasCells] at h
  | some o =>
    simp only [hq, Option.getD_some] at h
    have h1 := hm.obj id o hq
    cases o with
    | flat => obtain ⟨arr, e, h2, _⟩ := h1; exact ⟨_, arr, e, rfl, rfl, h2⟩
    | rich => obtain ⟨arr, e, h2, _⟩ := h1; exact ⟨_, arr, e, rfl, rfl, h2⟩
    | map => cases h
    | dead => cases h

/-- Two keys of a kind, as the world holds them against one another. -/
theorem key_same {m : Mem} (hm : MRep num C m) {kt : TypeId} {kind : Nat} (hkt : keyKind P kt = some kind) {x y : AV} {u v : Value} (hx : ARep num C x u) (hy : ARep num C y v) {b : Bool} (h : keyEq m kind x y = some b) :
    (kind ≠ 3 → ∃ d, P.underlying kt = some d ∧ Instr.sameNow d u v = some b) ∧ (kind = 3 → (∃ d, P.underlying kt = some d ∧ Instr.sameNow d u v = none) ∧ (Op.equal kt u v).run P C.w = .ok b C.w) := by
  unfold keyEq at h
  split at h
  · rename_i k n j n'
    split at h
    · rename_i hk
      cases h
      have e1 := rep_val hx
      have e2 := rep_val hy
      subst e1 e2 hk
      refine ⟨fun _ => ?_, fun h => by cases h⟩
      unfold keyKind at hkt
      split at hkt <;> first | (cases hkt; done) | skip
      · rename_i hj; exact ⟨_, hj, by simp [Instr.sameNow]⟩
      · split at hkt <;> cases hkt
    · cases h
  · cases h
    have e1 := rep_val hx
    have e2 := rep_val hy
    subst e1 e2
    refine ⟨fun _ => ?_, fun h => by cases h⟩
    unfold keyKind at hkt
    split at hkt <;> first | (cases hkt; done) | skip
    · rename_i hj; exact ⟨_, hj, by simp [Instr.sameNow]⟩
    · split at hkt <;> cases hkt
  · cases h
    have e1 := rep_val hx
    have e2 := rep_val hy
    subst e1 e2
    refine ⟨fun _ => ?_, fun h => by cases h⟩
    unfold keyKind at hkt
    split at hkt <;> first | (cases hkt; done) | skip
    · rename_i hj; exact ⟨_, hj, by simp [Instr.sameNow]⟩
    · split at hkt <;> cases hkt
  · rename_i i o j p
    split at h
    · rename_i hc
      simp only [Bool.and_eq_true] at hc
      cases h
      cases hx with
      | optr _ _ hi =>
        cases hy with
        | optr _ _ hj =>
          refine ⟨fun h => absurd rfl h, fun _ => ?_⟩
          unfold keyKind at hkt
          split at hkt <;> first | (cases hkt; done) | skip
          rename_i e he
          split at hkt
          · rename_i hk
            simp only [Bool.and_eq_true, decide_eq_true_eq] at hk
            obtain ⟨inf, d, h1, h2, h3, _⟩ := known_some hk.1
            refine ⟨⟨_, he, by simp [Instr.sameNow]⟩, ?_⟩
            obtain ⟨o1, arr1, e1, g1, g2, g3⟩ := hasCells_of hm hc.1
            obtain ⟨o2, arr2, e2, g4, g5, g6⟩ := hasCells_of hm hc.2
            by_cases hs : i = j ∧ o = p
            · obtain ⟨rfl, rfl⟩ := hs
              have hq : ∀ d : Nat, (Op.equalIn (d + 1) kt (.pointer (some ⟨C.σ i, o, none⟩)) (.pointer (some ⟨C.σ i, o, none⟩))).run P C.w = .ok true C.w := fun d => by
                simp [Op.equalIn, run_underlying he, sizeOf, typeInfo, h1, run_sameAddr_same]
              simpa [Op.equal, Op.maxDepth] using hq 9999
            · have hne : (⟨C.σ i, o, none⟩ : Addr) ≠ ⟨C.σ j, p, none⟩ := by
                intro heq
                simp only [Addr.mk.injEq, and_true] at heq
                exact hs ⟨hm.inj i j _ _ g1 g4 g2 g5 heq.1, heq.2⟩
              have hb : (i == j && o == p) = false := by
                cases hb : (i == j && o == p) with
                | false => rfl
                | true => simp only [Bool.and_eq_true, beq_iff_eq] at hb; exact absurd hb hs
              rw [hb]
              have hsz : inf.size ≠ 0 := by rw [← h3]; omega
              have hq : ∀ d : Nat, (Op.equalIn (d + 1) kt (.pointer (some ⟨C.σ i, o, none⟩)) (.pointer (some ⟨C.σ j, p, none⟩))).run P C.w = .ok false C.w := fun d => by
                simp [Op.equalIn, run_underlying he, sizeOf, typeInfo, h1, hsz, run_sameAddr_other C.w hne g3 g6]
              simpa [Op.equal, Op.maxDepth] using hq 9999
          · cases hkt
    · cases h
  · cases h

theorem run_find {m : Mem} (hm : MRep num C m) {kt : TypeId} {kind : Nat} (hkt : keyKind P kt = some kind) {k : AV} {kv : Value} (hk : ARep num C k kv) {es : List (AV × AV)} {es' : List MapEntry} (hl : es'.length = es.length)
    (hes : ∀ (j : Nat) (p : AV × AV) (x : MapEntry), es[j]? = some p → es'[j]? = some x → ARep num C p.1 x.key) {r : Option Nat} (h : findK m kind k es 0 = some r) :
    ∃ q, (Instr.findKey kt kv es').run P C.w = .ok q C.w ∧ q = r.bind fun i => (es'[i]?).map fun x => (i, x.val) := by
  have hd : ∃ d, P.underlying kt = some d := by
    unfold keyKind at hkt
    split at hkt <;> first | (rename_i hd; exact ⟨_, hd⟩) | skip
    cases hkt
  obtain ⟨d, hd⟩ := hd
  by_cases h3 : kind = 3
  · subst h3
    have asking : ∀ (es : List (AV × AV)) (es' : List MapEntry) (i : Nat) (r : Option Nat), es'.length = es.length → (∀ (j : Nat) (p : AV × AV) (x : MapEntry), es[j]? = some p → es'[j]? = some x → ARep num C p.1 x.key) → findK m 3 k es i = some r →
        (Instr.findAsking kt kv es' i).run P C.w = .ok (r.bind fun j => (es'[j - i]?).map fun x => (j, x.val)) C.w ∧ (∀ j, r = some j → i ≤ j) := by
      intro es
      induction es with
      | nil =>
        intro es' i r hl _ h
        have : es' = [] := by simpa using hl
        subst this
        cases h
        exact ⟨by simp [Instr.findAsking], fun j hj => by cases hj⟩
      | cons e es ih =>
        intro es' i r hl hes h
        cases es' with
        | nil => simp at hl
        | cons e' es' =>
          simp only [findK] at h
          have h0 := hes 0 e e' rfl rfl
          cases hke : keyEq m 3 k e.1 with
          | none => rw [hke] at h; cases h
          | some b =>
            rw [hke] at h
            obtain ⟨_, hrun⟩ := (key_same hm hkt hk h0 hke).2 rfl
            cases b with
            | true =>
              cases h
              refine ⟨?_, fun j hj => by cases hj; exact Nat.le_refl _⟩
              simp [Instr.findAsking, hrun, Result.andThen]
            | false =>
              obtain ⟨g1, g2⟩ := ih es' (i + 1) r (by simpa using hl) (fun j p x hp hx => hes (j + 1) p x (by simpa using hp) (by simpa using hx)) h
              refine ⟨?_, fun j hj => by have := g2 j hj; omega⟩
              simp only [Instr.findAsking, Sem.run_bind, hrun, Result.andThen_ok, Bool.false_eq_true, if_false]
              rw [g1]
              cases r with
              | none => rfl
              | some j =>
                have := g2 j rfl
                simp only [Option.bind_some]
                rw [show j - i = (j - (i + 1)) + 1 by omega, List.getElem?_cons_succ]
    cases es with
    | nil =>
      have : es' = [] := by simpa using hl
      subst this
      cases h
      exact ⟨none, by simp [Instr.findKey, run_underlying hd, Result.andThen, Instr.findNow], rfl⟩
    | cons e es =>
      cases es' with
      | nil => simp at hl
      | cons e' es' =>
        have h0 := hes 0 e e' rfl rfl
        have hnow : Instr.findNow d kv (e' :: es') 0 = none := by
          simp only [findK] at h
          cases hke : keyEq m 3 k e.1 with
          | none => rw [hke] at h; cases h
          | some b =>
            obtain ⟨⟨d', hd', hs⟩, _⟩ := (key_same hm hkt hk h0 hke).2 rfl
            rw [hd] at hd'
            cases hd'
            simp [Instr.findNow, hs]
        obtain ⟨g1, _⟩ := asking (e :: es) (e' :: es') 0 r hl hes h
        refine ⟨_, ?_, rfl⟩
        simp only [Instr.findKey, Sem.run_bind, run_underlying hd, Result.andThen_ok, hnow]
        rw [g1]; simp
  · have now : ∀ (es : List (AV × AV)) (es' : List MapEntry) (i : Nat) (r : Option Nat), es'.length = es.length → (∀ (j : Nat) (p : AV × AV) (x : MapEntry), es[j]? = some p → es'[j]? = some x → ARep num C p.1 x.key) → findK m kind k es i = some r →
        Instr.findNow d kv es' i = some (r.bind fun j => (es'[j - i]?).map fun x => (j, x.val)) ∧ (∀ j, r = some j → i ≤ j) := by
      intro es
      induction es with
      | nil =>
        intro es' i r hl _ h
        have : es' = [] := by simpa using hl
        subst this
        cases h
        exact ⟨rfl, fun j hj => by cases hj⟩
      | cons e es ih =>
        intro es' i r hl hes h
        cases es' with
        | nil => simp at hl
        | cons e' es' =>
          simp only [findK] at h
          have h0 := hes 0 e e' rfl rfl
          cases hke : keyEq m kind k e.1 with
          | none => rw [hke] at h; cases h
          | some b =>
            rw [hke] at h
            obtain ⟨d', hd', hs⟩ := (key_same hm hkt hk h0 hke).1 h3
            rw [hd] at hd'
            cases hd'
            cases b with
            | true =>
              cases h
              exact ⟨by simp [Instr.findNow, hs], fun j hj => by cases hj; exact Nat.le_refl _⟩
            | false =>
              obtain ⟨g1, g2⟩ := ih es' (i + 1) r (by simpa using hl) (fun j p x hp hx => hes (j + 1) p x (by simpa using hp) (by simpa using hx)) h
              refine ⟨?_, fun j hj => by have := g2 j hj; omega⟩
              simp only [Instr.findNow, hs, g1]
              cases r with
              | none => rfl
              | some j =>
                have := g2 j rfl
                simp only [Option.bind_some]
                rw [show j - i = (j - (i + 1)) + 1 by omega, List.getElem?_cons_succ]
    obtain ⟨g1, _⟩ := now es es' 0 r hl hes h
    refine ⟨_, ?_, rfl⟩
    simp only [Instr.findKey, Sem.run_bind, run_underlying hd, Result.andThen_ok, g1]
    simp


theorem findK_true {m : Mem} {kind : Nat} {k : AV} : ∀ (es : List (AV × AV)) (i0 i : Nat), findK m kind k es i0 = some (some i) → i0 ≤ i ∧ ∃ p, es[i - i0]? = some p ∧ keyEq m kind k p.1 = some true
  | [], i0, i, h => by cases h
  | e :: es, i0, i, h => by
    simp only [findK] at h
    cases hk : keyEq m kind k e.1 with
    | none => rw [hk] at h; cases h
    | some b =>
      rw [hk] at h
      cases b with
      | true => cases h; exact ⟨Nat.le_refl _, e, by simp, hk⟩
      | false =>
        obtain ⟨h1, p, h2, h3⟩ := findK_true es (i0 + 1) i h
        refine ⟨by omega, p, ?_, h3⟩
        rw [show i - i0 = (i - (i0 + 1)) + 1 by omega, List.getElem?_cons_succ]; exact h2

theorem key_stays {m : Mem} {kind : Nat} {x y : AV} {u v : Value} (hx : ARep num C x u) (hy : ARep num C y v) (h : keyEq m kind x y = some true) (w : World) : (Instr.keyThatStays v u).run P w = .ok u w := by
  have key : v = u ∧ Instr.sameBits 10000 v u = true := by
    unfold keyEq at h
    split at h
    · split at h
      · rename_i hk
        have e1 := rep_val hx
        have e2 := rep_val hy
        subst e1 e2 hk
        simp at h
        subst h
        exact ⟨rfl, by simp [Instr.sameBits]⟩
      · cases h
    · have e1 := rep_val hx
      have e2 := rep_val hy
      subst e1 e2
      simp at h
      subst h
      exact ⟨rfl, by simp [Instr.sameBits]⟩
    · have e1 := rep_val hx
      have e2 := rep_val hy
      subst e1 e2
      simp only [Option.some.injEq] at h
      have := (MapKept.bytes_beq _ _).1 h
      subst this
      exact ⟨rfl, by simp only [Instr.sameBits]; exact h⟩
    · split at h
      · simp only [Option.some.injEq, Bool.and_eq_true, beq_iff_eq] at h
        obtain ⟨rfl, rfl⟩ := h
        cases hx with
        | optr => cases hy with
          | optr => exact ⟨rfl, by simp [Instr.sameBits]⟩
      · cases h
    · cases h
  obtain ⟨rfl, hb⟩ := key
  simp [Instr.keyThatStays, hb]

theorem zero_rep {t : TypeId} {zs : List Value} {agg : Bool} (h : zeroOf P t = some (zs, agg)) (D : Cx) : ∃ z, (∀ w, (zeroValue t).run P w = .ok z w) ∧ ARep num D (zeroAV zs agg) z := by
  unfold zeroOf at h
  cases hi : P.info? t with
  | none => simp [hi] at h
  | some i =>
    cases hz : i.zero with
    | none => simp [hi, hz] at h
    | some z =>
      have hrun : ∀ w, (zeroValue t).run P w = .ok z w := fun w => by simp [zeroValue, typeInfo, hi, hz]
      refine ⟨z, hrun, ?_⟩
      simp only [hi, Option.bind_some, hz] at h
      split at h
      · rename_i cs heq
        cases heq
        split at h
        · rename_i hone
          cases h
          refine .agg _ _ (by simp [imZ]) (fun j u hu => ?_) (fun j x u hx hu => ?_)
          · rw [← oneCell_eq]
            exact List.all_eq_true.1 hone u (by rw [Array.mem_toList_iff]; exact Array.mem_of_getElem? hu)
          · simp only [imZ, List.getElem?_map, Array.getElem?_toList, hu, Option.map_some, Option.some.injEq] at hx
            subst hx
            refine .imm _ _ (.val u ?_)
            rw [← oneCell_eq]
            exact List.all_eq_true.1 hone u (by rw [Array.mem_toList_iff]; exact Array.mem_of_getElem? hu)
        · cases h
      · rename_i z' _ heq
        cases heq
        split at h
        · rename_i hone
          cases h
          exact .imm _ _ (.val _ (by rw [← oneCell_eq]; exact hone))
        · cases h
      · cases h

theorem y_makeMap (hs : SRep num C s a) {t kt e : TypeId} {r : Option Operand} {r' : Option Src} (ht : P.underlying t = some (.map kt e)) (hr : r.mapM (trSrc num) = some r') (hi : ∀ x, r' = some x → ∃ i, intOf (s.env.ev x) = some i) :
    Yields num P (.makeMap t r) ty pos after a C s (.omap s.mem.length) { s with mem := s.mem ++ [.map []] } := by
  have hlen := hs.mem.len
  have hnew : ORep num (C.more C.w (.map #[] 0)) C.n (.map []) := by
    refine ⟨#[], 0, ?_, rfl, fun j p x hp _ => by simp at hp⟩
    simp only [Cx.more, if_true]
    rw [alloc_get, if_pos rfl]
  refine ⟨.map (some C.w.heap.size), C.more C.w (.map #[] 0), fun _ _ => .inl ?_, more_step hs.mem rfl rfl rfl rfl _ (.map []) hnew hs.k, hs.env.mono (more_tr hs.mem rfl _), ?_, rfl⟩
  · cases r with
    | none => simp [execOp, Instr.makeMap, newObj, Cx.more, Sem.run]
    | some x =>
      simp only [Option.mapM_some, Option.map_eq_map, Option.map_eq_some_iff] at hr
      obtain ⟨x', hx, rfl⟩ := hr
      obtain ⟨i, hi⟩ := hi x' rfl
      obtain ⟨k, hk, _⟩ := rep_int (src_rep hs hx) hi
      simp [execOp, Instr.makeMap, newObj, Cx.more, Sem.run, hk, run_underlying ht, asInt, asIntOf, Result.andThen]
  · rw [hlen]
    have : C.w.heap.size = (C.more C.w (.map #[] 0)).σ C.n := by simp [Cx.more]
    rw [this]
    exact .omap _ (by simp [Cx.more])

theorem map_of {m : Mem} (hm : MRep num C m) {id : Nat} {v : Value} (h : ARep num C (.omap id) v) {es : List (AV × AV)} (he : m[id]? = some (.map es)) :
    ∃ (es' : Array MapEntry) (clock : Nat), v = .map (some (C.σ id)) ∧ C.w.heap[C.σ id]? = some (.map es' clock) ∧ es'.size = es.length ∧ ∀ (j : Nat) (p : AV × AV) (x : MapEntry), es[j]? = some p → es'[j]? = some x → ARep num C p.1 x.key ∧ ARep num C p.2 x.val := by
  cases h with
  | omap _ hid =>
    obtain ⟨es', clock, h1, h2, h3⟩ := hm.obj id _ he
    exact ⟨es', clock, rfl, h1, h2, h3⟩

theorem out_rep {D : Cx} {x : AV} {v : Value} (h : ARep num D x v) (ok b : Bool) : ARep num D (if ok then .tup [x, .imm (.val (.bool b))] else x) (if ok then .tuple #[v, .bool b] else v) := by
  cases ok with
  | false => exact h
  | true =>
    refine .tup _ _ rfl fun j y u hy hu => ?_
    match j with
    | 0 => simp at hy hu; subst hy hu; exact h
    | 1 => simp at hy hu; subst hy hu; exact .imm _ _ (.val _ rfl)
    | j + 2 => simp at hy

theorem y_lookup (hs : SRep num C s a) {t kt e : TypeId} {m k : Operand} {m' k' : Src} {kind : Nat} {zs : List Value} {agg ok : Bool} (ht : P.underlying t = some (.map kt e)) (hm : trSrc num m = some m') (hk : trSrc num k = some k') (hkt : keyKind P kt = some kind) (hz : zeroOf P e = some (zs, agg)) {call : Calls'} {r : AV} {s' : St}
    (h : exOp call s (.lookup kind zs agg m' k' ok) = some (r, s')) : Yields num P (.lookup t m k ok) ty pos after a C s r s' := by
  simp only [exOp] at h
  split at h
  · rename_i hik
    have hkr := src_rep hs hk
    have hmr := src_rep hs hm
    have hisk := keyKind_is hkt hkr hik
    obtain ⟨z, hzr, hza⟩ := zero_rep (num := num) hz C
    generalize hmv : s.env.ev m' = mv at h hmr
    split at h
    · have hv := rep_val hmr
      have : r = (if ok then .tup [zeroAV zs agg, .imm (.val (.bool false))] else zeroAV zs agg) ∧ s' = s := by
        cases ok <;> (simp at h; exact ⟨h.1.symm, h.2.symm⟩)
      obtain ⟨rfl, rfl⟩ := this
      refine yields_pure hs (fun _ _ => ?_) (out_rep hza ok false)
      have hd : ∃ d, P.underlying kt = some d := by
        unfold keyKind at hkt
        split at hkt <;> first | (rename_i hd; exact ⟨_, hd⟩) | skip
        cases hkt
      obtain ⟨d, hd⟩ := hd
      simp only [execOp, Instr.lookup, hv, Sem.run_bind, run_underlying ht, Result.andThen_ok, Sem.run_pure, run_check hisk _ 9999, Instr.findKey, run_underlying hd, Instr.findNow, hzr]
    · rename_i id
      split at h
      · rename_i es hes
        obtain ⟨es', clock, hv, hb, hl, hall⟩ := map_of hs.mem hmr hes
        have hkeys : ∀ (j : Nat) (p : AV × AV) (x : MapEntry), es[j]? = some p → es'.toList[j]? = some x → ARep num C p.1 x.key := fun j p x hp hx => (hall j p x hp (by simpa using hx)).1
        split at h
        · rename_i hf
          obtain ⟨q, hq, hqe⟩ := run_find hs.mem hkt hkr (es' := es'.toList) (by simpa using hl) hkeys hf
          have : r = (if ok then .tup [zeroAV zs agg, .imm (.val (.bool false))] else zeroAV zs agg) ∧ s' = s := by
            cases ok <;> (simp at h; exact ⟨h.1.symm, h.2.symm⟩)
          obtain ⟨rfl, rfl⟩ := this
          refine yields_pure hs (fun _ _ => ?_) (out_rep hza ok false)
          simp only [Option.bind_none] at hqe
          subst hqe
          simp [execOp, Instr.lookup, hv, run_underlying ht, MapKept.run_getObj_map hb, run_check hisk _ 9999, hq, hzr, Result.andThen]
        · rename_i i hf
          obtain ⟨q, hq, hqe⟩ := run_find hs.mem hkt hkr (es' := es'.toList) (by simpa using hl) hkeys hf
          cases hp : es[i]? with
          | none => rw [hp] at h; cases h
          | some p =>
            rw [hp] at h
            have hi : i < es'.size := by rw [hl]; exact (List.getElem?_eq_some_iff.1 hp).1
            have hx : es'[i]? = some es'[i] := by simp [hi]
            have : r = (if ok then .tup [p.2, .imm (.val (.bool true))] else p.2) ∧ s' = s := by
              cases ok <;> (simp at h; exact ⟨h.1.symm, h.2.symm⟩)
            obtain ⟨rfl, rfl⟩ := this
            refine yields_pure hs (fun _ _ => ?_) (out_rep (hall i p _ hp hx).2 ok true)
            simp only [Option.bind_some, Array.getElem?_toList, hx, Option.map_some] at hqe
            subst hqe
            simp [execOp, Instr.lookup, hv, run_underlying ht, MapKept.run_getObj_map hb, run_check hisk _ 9999, hq, Result.andThen]
        · cases h
      · cases h
    · cases h
  · cases h

theorem y_mapSet (hs : SRep num C s a) {t kt e : TypeId} {m k x : Operand} {m' k' x' : Src} {kind : Nat} (ht : P.underlying t = some (.map kt e)) (hm : trSrc num m = some m') (hk : trSrc num k = some k') (hx : trSrc num x = some x') (hkt : keyKind P kt = some kind) {call : Calls'} {r : AV} {s' : St}
    (h : exOp call s (.mapSet kind m' k' x') = some (r, s')) {op : Op} (hop : op = .mapUpdate t m k x ∨ op = .insert t m k x) : Yields num P op ty pos after a C s r s' := by
  simp only [exOp] at h
  split at h
  · rename_i hik
    have hkr := src_rep hs hk
    have hmr := src_rep hs hm
    have hxr := src_rep hs hx
    have hisk := keyKind_is hkt hkr hik
    generalize hmv : s.env.ev m' = mv at h hmr
    split at h
    · rename_i id
      split at h
      · rename_i es hes
        obtain ⟨es', clock, hv, hb, hl, hall⟩ := map_of hs.mem hmr hes
        have hkeys : ∀ (j : Nat) (p : AV × AV) (x : MapEntry), es[j]? = some p → es'.toList[j]? = some x → ARep num C p.1 x.key := fun j p x hp hx => (hall j p x hp (by simpa using hx)).1
        have hexec : ∀ {w' : World}, (Instr.mapUpdate t (.map (some (C.σ id))) (a.eval k) (a.eval x)).run P C.w = .ok () w' → ∀ dst g, (execOp a.eval ⟨dst, op, ty, pos, after, g⟩).run P C.w = .ok .skip w' := by
          intro w' hw dst g
          rcases hop with rfl | rfl <;> simp [execOp, hv, hw, Result.andThen]
        have hset : ∀ (es2 : Array MapEntry) (clock2 : Nat), let w' := { C.w with heap := C.w.heap.setIfInBounds (C.σ id) (.map es2 clock2) }
            w'.heap[C.σ id]? = some (.map es2 clock2) ∧ (∀ b, b ≠ C.σ id → w'.heap[b]? = C.w.heap[b]?) ∧ w'.heap.size = C.w.heap.size := by
          intro es2 clock2
          exact ⟨(MapKept.heap_set hb).1, (MapKept.heap_set hb).2, by simp⟩
        have hno : ∀ arr e, C.w.heap[C.σ id]? ≠ some (.cells arr e (0, 0)) := fun arr e h => by rw [hb] at h; cases h
        have build : ∀ (es2 : Array MapEntry) (clock2 : Nat) (l : List (AV × AV)), es2.size = l.length → (∀ (j : Nat) (p : AV × AV) (y : MapEntry), l[j]? = some p → es2[j]? = some y → ARep num C p.1 y.key ∧ ARep num C p.2 y.val) →
            (Instr.mapUpdate t (.map (some (C.σ id))) (a.eval k) (a.eval x)).run P C.w = .ok () { C.w with heap := C.w.heap.setIfInBounds (C.σ id) (.map es2 clock2) } →
            Yields num P op ty pos after a C s .junk { s with mem := s.mem.set id (.map l) } := by
          intro es2 clock2 l hl2 hall2 hrun
          obtain ⟨h1, h2, h3⟩ := hset es2 clock2
          have ht2 := put_tr hs.mem hes rfl hno h2
          have hnew : ORep num { C with w := { C.w with heap := C.w.heap.setIfInBounds (C.σ id) (.map es2 clock2) } } id (.map l) := by
            refine ⟨es2, clock2, h1, hl2, fun j p y hp hy => ?_⟩
            obtain ⟨g1, g2⟩ := hall2 j p y hp hy
            exact ⟨g1.mono ht2, g2.mono ht2⟩
          refine ⟨undef, { C with w := { C.w with heap := C.w.heap.setIfInBounds (C.σ id) (.map es2 clock2) } }, fun dst g => .inr ⟨hexec hrun dst g, rfl⟩, put_step hs.mem hes rfl hno h2 rfl rfl rfl h3 rfl (o' := .map l) hnew hs.k, hs.env.mono ht2, .junk _, rfl⟩
        split at h
        · rename_i hf
          cases h
          obtain ⟨q, hq, hqe⟩ := run_find hs.mem hkt hkr (es' := es'.toList) (by simpa using hl) hkeys hf
          simp only [Option.bind_none] at hqe
          subst hqe
          refine build (es'.push { key := a.eval k, val := a.eval x, born := clock }) (clock + 1) _ (by simp [hl]) (fun j p y hp hy => ?_) ?_
          · rcases Nat.lt_or_ge j es.length with hj | hj
            · rw [List.getElem?_append_left hj] at hp
              rw [Array.getElem?_push, if_neg (by omega)] at hy
              exact hall j p y hp hy
            · have hj' : j = es.length := by
                have := (List.getElem?_eq_some_iff.1 hp).1
                simp at this; omega
              subst hj'
              simp at hp
              rw [Array.getElem?_push, if_pos hl.symm] at hy
              cases hy
              subst hp
              exact ⟨hkr, hxr⟩
          · simp [Instr.mapUpdate, run_underlying ht, MapKept.run_getObj_map hb, run_check hisk _ 9999, hq, MapKept.run_setObj_map _ hb, Result.andThen]
        · rename_i i hf
          cases h
          obtain ⟨q, hq, hqe⟩ := run_find hs.mem hkt hkr (es' := es'.toList) (by simpa using hl) hkeys hf
          obtain ⟨_, p, hp, hke⟩ := findK_true es 0 i hf
          simp only [Nat.sub_zero] at hp
          have hi : i < es'.size := by rw [hl]; exact (List.getElem?_eq_some_iff.1 hp).1
          have hx' : es'[i]? = some es'[i] := by simp [hi]
          simp only [Option.bind_some, Array.getElem?_toList, hx', Option.map_some] at hqe
          subst hqe
          have hstay := key_stays (P := P) hkr (hall i p _ hp hx').1 hke C.w
          refine build (es'.modify i fun e => { e with key := a.eval k, val := a.eval x }) clock _ (by simp [hl]) (fun j p2 y hp2 hy => ?_) ?_
          · rw [set_get] at hp2
            rw [Array.getElem?_modify] at hy
            split at hp2
            · rename_i hij
              obtain ⟨rfl, _⟩ := hij
              cases hp2
              rw [if_pos rfl, hx'] at hy
              cases hy
              exact ⟨hkr, hxr⟩
            · rename_i hij
              have hne : i ≠ j := fun e => hij ⟨e, (List.getElem?_eq_some_iff.1 hp2).1⟩
              rw [if_neg hne] at hy
              exact hall j p2 y hp2 hy
          · simp [Instr.mapUpdate, run_underlying ht, MapKept.run_getObj_map hb, run_check hisk _ 9999, hq, hx', hi, hstay, MapKept.run_setObj_map _ hb, Result.andThen]
        · cases h
      · cases h
    · cases h
  · cases h

theorem y_lenM (hs : SRep num C s a) {t kt e : TypeId} {x : Operand} {x' : Src} (hx : trSrc num x = some x') (ht : P.underlying t = some (.map kt e)) {call : Calls'} {r : AV} {s' : St} (h : exOp call s (.lenM x') = some (r, s')) :
    Yields num P (.call ⟨.builtin .len, #[x], #[t]⟩) ty pos after a C s r s' := by
  have hxr := src_rep hs hx
  simp only [exOp] at h
  generalize hmv : s.env.ev x' = mv at h hxr
  split at h
  · cases h
    have hv := rep_val hxr
    refine yields_pure hs (fun _ _ => ?_) (.imm _ _ (.val _ rfl))
    simp [execOp, resolve, invoke, builtin, hv, Builtin.len_, run_underlying ht, goInt]
  · rename_i id
    split at h
    · rename_i es hes
      cases h
      obtain ⟨es', clock, hv, hb, hl, hall⟩ := map_of hs.mem hxr hes
      refine yields_pure hs (fun _ _ => ?_) (.imm _ _ (.val _ rfl))
      simp [execOp, resolve, invoke, builtin, hv, Builtin.len_, run_underlying ht, MapKept.run_getObj_map hb, goInt, hl, Result.andThen]
    · cases h
  · cases h

end
end Go.EX
