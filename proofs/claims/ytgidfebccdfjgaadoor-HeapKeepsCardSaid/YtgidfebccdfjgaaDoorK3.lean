import Derived.Test.YtgidfebccdfjgaaDoorK2
import Derived.RangeFuncRecord
import Derived.LoopNIn
import Derived.Scope
import Derived.Test.YtgidfebccdfjgaaDoorK1
import Derived.RangeFuncLeaves
import Derived.Below
import Derived.ChangeOld
import Derived.WideShapes
import Derived.OpenShut
import Derived.Laws.Strings
import Derived.WalkKit
import Derived.ProofKit
import Derived.ShutString
import Derived.Carry
set_option linter.unusedVariables false
set_option linter.unusedSimpArgs false
namespace Go.EX
theorem calm_congr {call : Calls'} {K : Nat → Prop} {x : XOp} (hc : calmOp x = true) {s t : St} (hm : Agree K s.mem t.mem) (he : ∀ n ∈ x.reads, t.env.get n = s.env.get n) (hk : ∀ n ∈ x.reads, In K (s.env.get n)) {r : AV} {s' : St} (h : exOp call s x = some (r, s')) :
    s' = s ∧ exOp call t x = some (r, t) ∧ In K r := by
  have hmap : ∀ {α : Type} (o : Option α) (f : α → AV), o.map (fun v => (f v, s)) = some (r, s') → (∀ v, o = some v → In K (f v)) → s' = s ∧ o.map (fun v => (f v, t)) = some (r, t) ∧ In K r := by
    intro α o f ho hf
    cases o with
    | none => cases ho
    | some v => cases ho; exact ⟨rfl, rfl, hf v rfl⟩
  have e1 : ∀ y, (∀ n ∈ srcTmp y, n ∈ x.reads) → t.env.ev y = s.env.ev y := fun y hy => ev_congr fun n hn => he n (hy n hn)
  have k1 : ∀ y, (∀ n ∈ srcTmp y, n ∈ x.reads) → In K (s.env.ev y) := fun y hy => in_ev fun n hn => hk n (hy n hn)
  have eO : ∀ y, (∀ n ∈ srcTmpO y, n ∈ x.reads) → y.map t.env.ev = y.map s.env.ev := fun y hy => evO_congr fun n hn => he n (hy n hn)
  cases x with
  | mv y =>
    have ky := k1 y (by simp [XOp.reads])
    simp only [exOp] at h ⊢
    rw [e1 y (by simp [XOp.reads])]
    cases h; exact ⟨rfl, rfl, ky⟩
  | load agg y =>
    have ky := k1 y (by simp [XOp.reads])
    simp only [exOp] at h ⊢
    rw [e1 y (by simp [XOp.reads]), load_agree hm ky]
    exact hmap _ _ h fun v hv => in_load hm ky hv
  | nilCheck y =>
    have ky := k1 y (by simp [XOp.reads])
    simp only [exOp] at h ⊢
    rw [e1 y (by simp [XOp.reads])]
    revert h; split <;> intro h <;> first | (cases h; done) | (cases h; exact ⟨rfl, rfl, ky⟩)
  | extract y i =>
    have ky := k1 y (by simp [XOp.reads])
    simp only [exOp] at h ⊢
    rw [e1 y (by simp [XOp.reads])]
    revert h; split <;> intro h <;> first | (cases h; done) | skip
    rename_i vs hv
    rw [hv] at ky
    exact hmap _ _ h fun v hv => (in_tup.1 ky).get hv
  | field off agg y =>
    have ky := k1 y (by simp [XOp.reads])
    simp only [exOp] at h ⊢
    rw [e1 y (by simp [XOp.reads])]
    revert h; split <;> intro h <;> first | (cases h; done) | skip
    rename_i cs hv
    rw [hv] at ky
    exact hmap _ _ h fun v hv => in_getCells (in_agg.1 ky) hv
  | fieldA off y =>
    have ky := k1 y (by simp [XOp.reads])
    simp only [exOp] at h ⊢
    rw [e1 y (by simp [XOp.reads])]
    revert h; split <;> intro h <;> first | (cases h; done) | skip
    · cases h; exact ⟨rfl, rfl, in_imm⟩
    · rename_i id o hv
      rw [hv] at ky
      cases h; exact ⟨rfl, rfl, in_optr.2 (in_optr.1 ky)⟩
  | eqNil _ _ y | un _ y | conv _ y | convS y | len y | lenS y | cap y =>
    simp only [exOp] at h ⊢
    rw [e1 y (by simp [XOp.reads])]
    first
      | exact hmap _ _ h fun _ _ => in_imm
      | (revert h; split <;> intro h <;> first | (cases h; done) | (cases h; exact ⟨rfl, rfl, in_imm⟩) | exact hmap _ _ h fun _ _ => in_imm)
  | idxP n sz y z =>
    have ky := k1 y (by simp [XOp.reads]; intros; simp [*])
    simp only [exOp] at h ⊢
    rw [e1 y (by simp [XOp.reads]; intros; simp [*]), e1 z (by simp [XOp.reads]; intros; simp [*])]
    split at h
    · cases h
    · split at h
      · rename_i hb
        split at h
        · cases h; refine ⟨rfl, ?_, in_imm⟩; simp only [*, and_self, if_true]
        · rename_i heq; cases h; rw [heq] at ky; refine ⟨rfl, ?_, in_optr.2 (in_optr.1 ky)⟩; simp only [*, and_self, if_true]
        · cases h
      · cases h
  | idxV n sz agg y z =>
    have ky := k1 y (by simp [XOp.reads]; intros; simp [*])
    simp only [exOp] at h ⊢
    rw [e1 y (by simp [XOp.reads]; intros; simp [*]), e1 z (by simp [XOp.reads]; intros; simp [*])]
    split at h
    · cases h
    · split at h
      · rename_i hb
        split at h
        · rename_i cs heq
          rw [heq] at ky
          simp only [hb, and_self, if_true]
          exact hmap _ _ h fun v hv => in_getCells (in_agg.1 ky) hv
        · cases h
      · cases h
  | strOf y =>
    have ky := k1 y (by simp [XOp.reads])
    simp only [exOp] at h ⊢
    rw [e1 y (by simp [XOp.reads]), strOf_agree hm ky]
    exact hmap _ _ h fun _ _ => in_imm
  | bytesOf y =>
    simp only [exOp] at h ⊢
    rw [e1 y (by simp [XOp.reads])]
    revert h; split <;> intro h <;> first | (cases h; done) | (cases h; exact ⟨rfl, rfl, in_imm⟩)
  | minmax mn y z =>
    simp only [exOp] at h ⊢
    rw [e1 y (by simp [XOp.reads]; intros; simp [*]), e1 z (by simp [XOp.reads]; intros; simp [*])]
    revert h; split <;> intro h <;> first | (cases h; done) | (cases h; exact ⟨rfl, rfl, in_imm⟩)
  | pick a b c =>
    have kb := k1 b (by simp [XOp.reads]; intros; simp [*])
    have kc := k1 c (by simp [XOp.reads]; intros; simp [*])
    simp only [exOp] at h ⊢
    rw [e1 a (by simp [XOp.reads]; intros; simp [*]), e1 b (by simp [XOp.reads]; intros; simp [*]), e1 c (by simp [XOp.reads]; intros; simp [*])]
    revert h; split <;> intro h <;> first | (cases h; done) | skip
    cases h
    refine ⟨rfl, rfl, ?_⟩
    split
    · exact kb
    · exact kc
  | bin _ y z | binB _ y z | eqCells _ _ y z | idxS y z =>
    simp only [exOp] at h ⊢
    rw [e1 y (by simp [XOp.reads]; intros; simp [*]), e1 z (by simp [XOp.reads]; intros; simp [*])]
    repeat' (first | exact hmap _ _ h fun _ _ => in_imm | (cases h; done) | (cases h; exact ⟨rfl, rfl, in_imm⟩) | (revert h; split <;> intro h))
  | idxA _ y z =>
    have ky := k1 y (by simp [XOp.reads]; intros; simp [*])
    simp only [exOp] at h ⊢
    rw [e1 y (by simp [XOp.reads]; intros; simp [*]), e1 z (by simp [XOp.reads]; intros; simp [*])]
    split at h
    · cases h
    · split at h
      · split at h
        · rename_i hb; cases h; refine ⟨rfl, ?_, in_imm⟩; simp only [*, and_self, if_true]
        · cases h
      · rename_i heq
        split at h
        · rename_i hb; cases h; rw [heq] at ky; refine ⟨rfl, ?_, in_optr.2 (in_osl.1 ky)⟩; simp only [*, and_self, if_true]
        · cases h
      · cases h
  | build zs ps =>
    simp only [exOp] at h ⊢
    rw [evP_congr (s := s.env) (t := t.env) (by simpa [XOp.reads] using he)]
    refine hmap _ _ h fun v hv => in_agg.2 (in_fill _ _ _ (in_imZ zs) (fun p hp => ?_) hv)
    obtain ⟨q, hq, rfl⟩ := List.mem_map.1 hp
    exact k1 q.2.2 fun n hn => by simp only [XOp.reads]; exact List.mem_flatMap.2 ⟨q, hq, hn⟩
  | slice sz y lo hi =>
    have ky := k1 y (by simp [XOp.reads]; intros; simp [*])
    simp only [exOp] at h ⊢
    rw [e1 y (by simp [XOp.reads]; intros; simp [*]), eO lo (by simp [XOp.reads]; intros; simp [*]), eO hi (by simp [XOp.reads]; intros; simp [*])]
    refine hmap _ _ h fun v hv => ?_
    generalize s.env.ev y = yv at hv ky
    unfold exSlice at hv
    split at hv
    · simp only [Option.map_eq_some_iff] at hv; obtain ⟨_, _, rfl⟩ := hv; exact in_imm
    · simp only [Option.map_eq_some_iff] at hv; obtain ⟨_, _, rfl⟩ := hv; exact in_imm
    · split at hv
      · simp only [Option.map_eq_some_iff] at hv; obtain ⟨_, _, rfl⟩ := hv; exact in_osl.2 (in_osl.1 ky)
      · cases hv
    · cases hv
  | sliceS y lo hi =>
    simp only [exOp] at h ⊢
    rw [e1 y (by simp [XOp.reads]; intros; simp [*]), eO lo (by simp [XOp.reads]; intros; simp [*]), eO hi (by simp [XOp.reads]; intros; simp [*])]
    revert h; split <;> intro h <;> first | (cases h; done) | exact hmap _ _ h fun _ _ => in_imm
  | mkClo _ l =>
    simp only [exOp] at h ⊢
    rw [evL_congr (s := s.env) (t := t.env) (by simpa [XOp.reads] using he)]
    cases h
    refine ⟨rfl, rfl, in_clo.2 fun x hx => ?_⟩
    obtain ⟨q, hq, rfl⟩ := List.mem_map.1 hx
    exact k1 q fun n hn => by simp only [XOp.reads]; exact List.mem_flatMap.2 ⟨q, hq, hn⟩
  | lookup kind zs agg y z ok =>
    have ky := k1 y (by simp [XOp.reads]; intros; simp [*])
    have kz := k1 z (by simp [XOp.reads]; intros; simp [*])
    simp only [exOp] at h ⊢
    rw [e1 y (by simp [XOp.reads]; intros; simp [*]), e1 z (by simp [XOp.reads]; intros; simp [*])]
    generalize s.env.ev y = yv at h ky ⊢
    generalize s.env.ev z = zv at h kz ⊢
    have kzero : In K (zeroAV zs agg) := by
      unfold zeroAV
      split
      · exact in_agg.2 (in_imZ zs)
      · split
        · exact in_imm
        · exact in_junk
    have kout : ∀ (v : AV) (b : Bool), In K v → In K (.tup [v, .imm (.val (.bool b))]) := fun v b hv => in_tup.2 fun x hx => by
      simp only [List.mem_cons, List.not_mem_nil, or_false] at hx
      rcases hx with rfl | rfl
      · exact hv
      · exact in_imm
    split at h
    · rename_i hik
      rw [if_pos hik]
      split at h
      · cases ok <;> cases h
        · exact ⟨rfl, rfl, kzero⟩
        · exact ⟨rfl, rfl, kout _ _ kzero⟩
      · rename_i id
        have hid := in_omap.1 ky
        simp only [hm.same id hid]
        split at h
        · rename_i es hes
          have hin := in_map hm hid hes
          rw [findK_agree hm kind kz es 0 fun p hp => (hin p hp).1]
          split at h
          · cases ok <;> cases h
            · exact ⟨rfl, rfl, kzero⟩
            · exact ⟨rfl, rfl, kout _ _ kzero⟩
          · rename_i i hi
            cases hp : es[i]? with
            | none => rw [hp] at h; cases h
            | some p =>
              rw [hp] at h
              have kp := (hin p (List.mem_of_getElem? hp)).2
              cases ok <;> cases h
              · exact ⟨rfl, rfl, kp⟩
              · exact ⟨rfl, rfl, kout _ _ kp⟩
          · cases h
        · cases h
      · cases h
    · cases h
  | lenM y =>
    have ky := k1 y (by simp [XOp.reads])
    simp only [exOp] at h ⊢
    rw [e1 y (by simp [XOp.reads])]
    generalize s.env.ev y = yv at h ky ⊢
    split at h
    · cases h; exact ⟨rfl, rfl, in_imm⟩
    · rename_i id
      simp only [hm.same id (in_omap.1 ky)]
      split at h
      · cases h; exact ⟨rfl, rfl, in_imm⟩
      · cases h
    · cases h
  | call mode fn l =>
    cases mode with
    | view =>
      simp only [exOp, exView] at h ⊢
      have hin : InL K (l.map s.env.ev) := fun x hx => by
        obtain ⟨q, hq, rfl⟩ := List.mem_map.1 hx
        exact k1 q fun n hn => by simp only [XOp.reads]; exact List.mem_flatMap.2 ⟨q, hq, hn⟩
      rw [evL_congr (s := s.env) (t := t.env) (by simpa [XOp.reads] using he), mapM_congr _ fun x hx => frz_agree hm x (hin x hx)]
      split at h
      · cases h
      · split at h
        · cases h
        · rename_i mc hcall
          split at h
          · rename_i hp
            cases h
            refine ⟨rfl, by simp only [hcall, hp, if_true], ?_⟩
            exact in_plain hp
          · rename_i hp
            split at h
            · rename_i hi
              simp only [hcall, hp, hi, Bool.false_eq_true, if_true, if_false]
              exact hmap _ _ h fun v hv => in_frz hv
            · cases h
    | own => cases hc
    | share => cases hc
    | peek =>
      simp only [exOp] at h ⊢
      have hin : InL K (l.map s.env.ev) := fun x hx => by
        obtain ⟨q, hq, rfl⟩ := List.mem_map.1 hx
        exact k1 q fun n hn => by simp only [XOp.reads]; exact List.mem_flatMap.2 ⟨q, hq, hn⟩
      rw [evL_congr (s := s.env) (t := t.env) (by simpa [XOp.reads] using he)]
      exact peek_congr hm hin h
  | alloc | box | buildSlice | store | frz | append | appendK | makeSlice | copy | clear | callV | makeMap | mapSet => cases hc
end Go.EX


set_option linter.unusedVariables false
set_option linter.unusedSimpArgs false
namespace Go.EX
section
variable {num : Names} {P : Program}
theorem countP_one {p q : Nat → Bool} {i : Nat} (hp : p i = true) (hq : q i = false) (h : ∀ j, j ≠ i → q j = p j) : ∀ (l : List Nat), l.Nodup → (i ∈ l → l.countP q + 1 = l.countP p) ∧ (i ∉ l → l.countP q = l.countP p)
  | [], _ => ⟨fun h => absurd h (by simp), fun _ => rfl⟩
  | j :: l, hn => by
    obtain ⟨hj, hn⟩ := List.nodup_cons.1 hn
    obtain ⟨h1, h2⟩ := countP_one hp hq h l hn
    by_cases hji : j = i
    · subst hji
      refine ⟨fun _ => ?_, fun hh => absurd (List.mem_cons_self ..) hh⟩
      rw [List.countP_cons, List.countP_cons, hp, hq, h2 hj]; simp
    · refine ⟨fun hh => ?_, fun hh => ?_⟩
      · have : i ∈ l := by rcases List.mem_cons.1 hh with h | h; exact absurd h.symm hji; exact h
        rw [List.countP_cons, List.countP_cons, h j hji, ← h1 this]; omega
      · have : i ∉ l := fun hh' => hh (List.mem_cons_of_mem _ hh')
        rw [List.countP_cons, List.countP_cons, h j hji, h2 this]
def left (n : Nat) (listed : Array Bool) : Nat := (List.range n).countP fun i => !listed.getD i true
theorem left_set {n i : Nat} {listed : Array Bool} (hi : i < n) (hl : listed.getD i true = false) : left n (listed.setIfInBounds i true) + 1 = left n listed := by
  refine (countP_one (p := fun i => !listed.getD i true) (q := fun j => !(listed.setIfInBounds i true).getD j true) (i := i) (by simp [hl]) ?_ ?_ (List.range n) List.nodup_range).1 (List.mem_range.2 hi)
  · show (!(listed.setIfInBounds i true).getD i true) = false
    rw [Array.getD_eq_getD_getElem?, Array.getElem?_setIfInBounds]
    split <;> (try split) <;> simp_all
  · intro j hj
    show (!(listed.setIfInBounds i true).getD j true) = _
    rw [getD_set_ne true (Ne.symm hj)]
theorem exOps_split {call : Calls'} : ∀ (xs : List XO) (s s' : St), exOps call s xs = some s' → ∀ i, ∃ t, exOps call s (xs.take i) = some t ∧ exOps call t (xs.drop i) = some s'
  | [], s, s', h, i => ⟨s, by simp [exOps], by simpa using h⟩
  | x :: xs, s, s', h, 0 => ⟨s, rfl, h⟩
  | x :: xs, s, s', h, i + 1 => by
    simp only [exOps] at h
    cases hx : exOne call s x with
    | none => rw [hx] at h; cases h
    | some s1 =>
      rw [hx] at h
      obtain ⟨t, h1, h2⟩ := exOps_split xs s1 s' h i
      exact ⟨t, by simp only [List.take_succ_cons, exOps, hx, Option.bind_some, h1], by simpa using h2⟩
theorem exOps_snoc {call : Calls'} : ∀ (xs : List XO) (x : XO) (s t u : St), exOps call s xs = some t → exOps call s (xs ++ [x]) = some u → exOne call t x = some u
  | [], x, s, t, u, h, g => by
    cases h
    simp only [List.nil_append, exOps] at g
    cases hx : exOne call s x with
    | none => rw [hx] at g; cases g
    | some s1 => rw [hx] at g; cases g; rfl
  | y :: xs, x, s, t, u, h, g => by
    simp only [List.cons_append, exOps] at h g
    cases hx : exOne call s y with
    | none => rw [hx] at h; cases h
    | some s1 => rw [hx] at h g; exact exOps_snoc xs x s1 t u h g
theorem bind_get (s : St) (d : Option Nat) (v : AV) (t : Nat) : (s.bind d v).env.get t = if d = some t then v else s.env.get t := by
  cases d with
  | none => simp [St.bind]
  | some d =>
    simp only [St.bind, Env.get, Option.some.injEq]
    by_cases h : t = d
    · subst h; simp
    · rw [if_neg h, if_neg (fun h' => h h'.symm)]
theorem one_congr {call : Calls'} {K : Nat → Prop} {x : XO} (hc : (calmOp x.op || makeOp x.op) = true) {s t : St} (hm : Agree K s.mem t.mem) (he : ∀ n ∈ x.reads, t.env.get n = s.env.get n) (hk : ∀ n ∈ x.reads, In K (s.env.get n))
    (hb : ∀ fn l as r mc, x.op = .call .own fn l → (l.map s.env.ev).mapM (frz s.mem) = some as → call fn as [] = some (r, mc) → (∀ id ∈ r.refs, id < mc.length) ∧ ∀ o ∈ mc, ∀ id ∈ o.refs, id < mc.length) {s' : St} (h : exOne call s x = some s') :
    ∃ (len : Nat) (val : Nat → AV) (new : Nat → List AObj), Makes K len val new ∧ s' = ({ s with mem := s.mem ++ new s.mem.length } : St).bind x.dst (val s.mem.length) ∧ exOne call t x = some (({ t with mem := t.mem ++ new t.mem.length } : St).bind x.dst (val t.mem.length)) := by
  have r1 : ∀ n ∈ x.op.reads, n ∈ x.reads := fun n hn => List.mem_append.2 (.inl hn)
  have r2 : ∀ n ∈ x.op.needs, n ∈ x.reads := fun n hn => List.mem_append.2 (.inr (List.mem_append.2 (.inl hn)))
  have r3 : ∀ u b, x.guard = some (u, b) → u ∈ x.reads := fun u b hg => List.mem_append.2 (.inr (List.mem_append.2 (.inr (by simp [hg]))))
  have calm : ∀ v, In K v → Makes K 0 (fun _ => v) (fun _ => []) := fun v hv => ⟨fun _ => rfl, fun p id hid => .inl (hv id hid), fun p o ho => absurd ho (by simp), fun p q f _ h2 => ⟨ren_id fun id hid => h2 id (hv id hid), rfl⟩⟩
  have nil : ∀ (u : St), ({ u with mem := u.mem ++ [] } : St) = u := fun u => by cases u; simp
  rcases exOne_bind h with ⟨v, s1, hx, rfl, hg⟩ | ⟨rfl, u, b, hg, hcc⟩
  · have hop : ∃ (len : Nat) (val : Nat → AV) (new : Nat → List AObj), Makes K len val new ∧ v = val s.mem.length ∧ s1 = { s with mem := s.mem ++ new s.mem.length } ∧ exOp call t x.op = some (val t.mem.length, { t with mem := t.mem ++ new t.mem.length }) := by
      by_cases hcalm : calmOp x.op = true
      · obtain ⟨rfl, h2, h3⟩ := calm_congr hcalm hm (fun n hn => he n (r1 n hn)) (fun n hn => hk n (r1 n hn)) hx
        exact ⟨0, fun _ => v, fun _ => [], calm v h3, rfl, (nil _).symm, by rw [nil]; exact h2⟩
      · have hmake : makeOp x.op = true := by simpa [hcalm] using hc
        exact make_congr hmake hm (fun n hn => he n (r2 n hn)) (fun n hn => hk n (r2 n hn)) hb hx
    obtain ⟨len, val, new, h1, rfl, rfl, h4⟩ := hop
    refine ⟨len, val, new, h1, rfl, ?_⟩
    unfold exOne
    rcases hg with hg | ⟨u, b, hg, hcc⟩
    · simp only [hg, h4, Option.map_some]; cases x.dst <;> rfl
    · have : t.env.get u = .imm (.val (.bool b)) := by rw [he u (r3 u b hg)]; exact hcc
      simp only [hg, this, h4, Option.map_some, if_true]; cases x.dst <;> rfl
  · refine ⟨0, fun _ => .tup [], fun _ => [], calm (.tup []) (in_tup.2 fun y hy => by cases hy), by rw [nil], ?_⟩
    unfold exOne
    rcases hcc with ⟨c, hcc, hne⟩ | hcc
    · have : t.env.get u = .imm (.val (.bool c)) := by rw [he u (r3 u b hg)]; exact hcc
      simp only [hg, this, hne, if_false, nil]
      cases x.dst <;> rfl
    · have : t.env.get u = .tup [] := by rw [he u (r3 u b hg)]; exact hcc
      simp only [hg, this, nil]
      cases x.dst <;> rfl
theorem arep_lt {C : Cx} {x : AV} {v : Value} (h : ARep num C x v) : ∀ id ∈ x.refs, id < C.n := by
  induction h with
  | imm x v h => intro id hid; simp [AV.refs] at hid
  | osl id off sz len cap c a arr e hid _ _ _ _ _ => intro j hj; simp [AV.refs] at hj; rw [hj]; exact hid
  | optr id off hid => intro j hj; simp [AV.refs] at hj; rw [hj]; exact hid
  | omap id hid => intro j hj; simp [AV.refs] at hj; rw [hj]; exact hid
  | clo f caps vs hl h ih =>
    intro j hj
    simp only [AV.refs] at hj
    obtain ⟨x, hx, hj⟩ := refsL_mem.1 hj
    obtain ⟨i, hi⟩ := List.getElem?_of_mem hx
    have : i < vs.size := by rw [← hl]; exact (List.getElem?_eq_some_iff.1 hi).1
    exact ih i x vs[i] hi (by simp [this]) j hj
  | agg caps vs hl _ h ih =>
    intro j hj
    simp only [AV.refs] at hj
    obtain ⟨x, hx, hj⟩ := refsL_mem.1 hj
    obtain ⟨i, hi⟩ := List.getElem?_of_mem hx
    have : i < vs.size := by rw [← hl]; exact (List.getElem?_eq_some_iff.1 hi).1
    exact ih i x vs[i] hi (by simp [this]) j hj
  | tup caps vs hl h ih =>
    intro j hj
    simp only [AV.refs] at hj
    obtain ⟨x, hx, hj⟩ := refsL_mem.1 hj
    obtain ⟨i, hi⟩ := List.getElem?_of_mem hx
    have : i < vs.size := by rw [← hl]; exact (List.getElem?_eq_some_iff.1 hi).1
    exact ih i x vs[i] hi (by simp [this]) j hj
  | yld id hid => intro j hj; simp [AV.refs] at hj; subst hj; exact hid
  | junk v => intro id hid; simp [AV.refs] at hid
theorem orep_lt {C : Cx} {id : Nat} {o : AObj} (h : ORep num C id o) : ∀ j ∈ o.refs, j < C.n := by
  intro j hj
  cases o with
  | flat => simp [AObj.refs] at hj
  | rich cs =>
    obtain ⟨arr, e, _, h2⟩ := h
    simp only [AObj.refs] at hj
    obtain ⟨x, hx, hj⟩ := refsL_mem.1 hj
    obtain ⟨i, hi⟩ := List.getElem?_of_mem hx
    obtain ⟨u, _, _, hr⟩ := h2 i x hi
    exact arep_lt hr j hj
  | map es =>
    obtain ⟨es', clock, _, hl, h3⟩ := h
    simp only [AObj.refs, List.mem_append] at hj
    have one : ∀ (p : AV × AV), p ∈ es → (j ∈ p.1.refs ∨ j ∈ p.2.refs) → j < C.n := by
      intro p hp hj
      obtain ⟨i, hi⟩ := List.getElem?_of_mem hp
      have : i < es'.size := by rw [hl]; exact (List.getElem?_eq_some_iff.1 hi).1
      obtain ⟨g1, g2⟩ := h3 i p es'[i] hi (by simp [this])
      rcases hj with hj | hj
      · exact arep_lt g1 j hj
      · exact arep_lt g2 j hj
    rcases hj with hj | hj
    · obtain ⟨x, hx, hj⟩ := refsL_mem.1 hj
      obtain ⟨p, hp, rfl⟩ := List.mem_map.1 hx
      exact one p hp (.inl hj)
    · obtain ⟨x, hx, hj⟩ := refsL_mem.1 hj
      obtain ⟨p, hp, rfl⟩ := List.mem_map.1 hx
      exact one p hp (.inr hj)
  | dead => simp [AObj.refs] at hj
  | fix => simp [AObj.refs] at hj
  | loop env ps as b y =>
    obtain ⟨R, N, _, _, _, _, _, _, h7⟩ := h
    simp only [AObj.refs] at hj
    obtain ⟨p, hp, hj⟩ := env_roots_mem.1 hj
    exact arep_lt (h7 p hp) j hj
theorem own_bounded {call : Calls'} (hcall : CallOK num P call) {C : Cx} {s : St} {a : Act} (hs : SRep num C s a) {op : Op} {fn : Nat} {l : List Src} {as : List AV} {r : AV} {mc : Mem} (htr : trOp P num op = some (XOp.call .view fn l)) (has : (l.map s.env.ev).mapM (frz s.mem) = some as) (hc : call fn as [] = some (r, mc)) :
    (∀ id ∈ r.refs, id < mc.length) ∧ ∀ o ∈ mc, ∀ id ∈ o.refs, id < mc.length := by
  have : ∃ f args ats, op = .call ⟨.value (.func f), args, ats⟩ ∧ num f = fn ∧ args.toList.mapM (trSrc num) = some l := by
    have hm1 : ∀ {o : Operand} {g : Src → XOp}, (∀ y, g y ≠ .call .view fn l) → (trSrc num o).map g ≠ some (.call .view fn l) := by
      intro o g hg h
      cases ho : trSrc num o with
      | none => rw [ho] at h; cases h
      | some y => rw [ho] at h; exact hg y (Option.some.inj h)
    cases op with
    | call c =>
      obtain ⟨callee, args, ats⟩ := c
      simp only [trOp] at htr
      cases callee with
      | invoke => simp [trCall] at htr
      | builtin b =>
        simp only [trCall] at htr
        repeat' (first | (cases htr; done) | exact absurd htr (hm1 fun y hy => by cases hy) | split at htr)
      | value fo =>
        cases fo with
        | func f =>
          simp only [trCall, Option.map_eq_some_iff] at htr
          obtain ⟨ys, hy, hx⟩ := htr
          cases hx
          exact ⟨f, args, ats, rfl, rfl, hy⟩
        | _ =>
          simp only [trCall] at htr
          repeat' (first | (cases htr; done) | split at htr)
    | makeFunc f fi cs =>
      cases f <;> simp only [trOp] at htr <;> repeat' (first | (cases htr; done) | split at htr)
      simp only [Option.map_eq_some_iff] at htr
      obtain ⟨_, _, h⟩ := htr
      cases h
    | build t ps =>
      simp only [trOp] at htr
      repeat' (first | (cases htr; done) | (simp only [Option.map_eq_some_iff] at htr; obtain ⟨_, _, h⟩ := htr; cases h; done) | split at htr)
    | buildSlice t n ps =>
      simp only [trOp] at htr
      repeat' (first | (cases htr; done) | (simp only [Option.map_eq_some_iff] at htr; obtain ⟨_, _, h⟩ := htr; cases h; done) | split at htr)
    | slice t o lo hi mx =>
      cases mx <;> simp only [trOp] at htr <;> repeat' (first | (cases htr; done) | split at htr)
    | _ =>
      simp only [trOp] at htr
      repeat' (first | (cases htr; done) | exact absurd htr (hm1 fun y hy => by cases hy) | split at htr)
  obtain ⟨f, args, ats, rfl, rfl, hy⟩ := this
  obtain ⟨hl, hr⟩ := args_rep hs args.toList l hy
  obtain ⟨h1, h2⟩ := args_frz hs.mem has hl hr (C.view s.mem num) (fun _ h => h) rfl
  obtain ⟨_, hcs⟩ := hcall.fn f as [] r mc _ _ hc (view_rep hs.mem) h1 h2
  obtain ⟨e, w', fr, ⟨v, D, _, _, hst, hrv⟩, _⟩ := hcs []
  have hn := hst.rep.len
  refine ⟨fun id hid => by have := arep_lt hrv id hid; omega, fun o ho id hid => ?_⟩
  obtain ⟨i, hi⟩ := List.getElem?_of_mem ho
  have := orep_lt (hst.rep.obj i o hi) id hid
  omega
theorem trOps_all {call : Calls'} {N : Nat} {ops : Array Oper} : ∀ (l : List Oper) (xs : List XO) {s s' : St}, trOps P num N ops l = xs.map XO.wipe → exOps call s xs = some s' → ∀ (i : Nat) (o : Oper), l[i]? = some o → ∃ x : XO, xs[i]? = some x ∧ trOper P num N ops o = some x.wipe
  | [], _, _, _, _, _, i, o, ho => by simp at ho
  | o :: l, xs, s, s', htr, h, i, o', hi => by
    simp only [trOps] at htr
    cases ho : trOper P num N ops o with
    | none =>
      rw [ho] at htr
      cases xs with
      | nil => simp at htr
      | cons x r =>
        simp only [List.map_cons, List.cons.injEq] at htr
        have hb : x.wipe = badOp := htr.1.symm
        have h1 : x.op = .callV (.c (.bool true)) [] ∧ x.guard = none := by
          obtain ⟨d, op, g⟩ := x
          simp only [XO.wipe, badOp, XO.mk.injEq] at hb
          obtain ⟨_, h2, h3⟩ := hb
          refine ⟨?_, h3⟩
          cases op <;> simp only [XOp.wipe, reduceCtorEq] at h2
          exact h2
        simp only [exOps] at h
        unfold exOne at h
        simp only [h1.1, h1.2, exOp, Env.ev, Option.map_none, Option.bind_none] at h
        cases h
    | some y =>
      rw [ho] at htr
      cases xs with
      | nil => simp at htr
      | cons x r =>
        simp only [List.map_cons, List.cons.injEq] at htr
        simp only [exOps] at h
        cases hx : exOne call s x with
        | none => rw [hx] at h; cases h
        | some s1 =>
          rw [hx] at h
          cases i with
          | zero => simp at hi; subst hi; exact ⟨x, rfl, by rw [ho, htr.1]⟩
          | succ i => exact trOps_all l r htr.2 h i o' (by simpa using hi)
theorem trOps_of {N : Nat} {ops : Array Oper} : ∀ (l : List Oper) (xs : List XO), l.length = xs.length → (∀ (i : Nat) (o : Oper), l[i]? = some o → ∃ x : XO, xs[i]? = some x ∧ trOper P num N ops o = some x.wipe) → trOps P num N ops l = xs.map XO.wipe
  | [], xs, hl, _ => by cases xs with | nil => rfl | cons => cases hl
  | o :: l, xs, hl, h => by
    cases xs with
    | nil => cases hl
    | cons x r =>
      obtain ⟨y, hy, ho⟩ := h 0 o rfl
      simp at hy; subst hy
      simp only [trOps, ho, List.map_cons]
      rw [trOps_of l r (by simpa using hl) fun i o hi => h (i + 1) o (by simpa using hi)]
theorem headArr_of {m n : Nat} {listed : Array Bool} (hs : listed.size = m) (hn : n ≤ m) (h1 : ∀ i, i < n → listed.getD i true = true) (h2 : ∀ t, n ≤ t → t < m → listed.getD t true = false) : listed = headArr m n := by
  apply Array.ext
  · simp [headArr, hs]
  · intro i hi _
    have hi' : i < m := by omega
    have : listed[i] = listed.getD i true := by simp [hi]
    rw [this]
    by_cases hin : i < n
    · rw [h1 i hin]; simp [headArr, hin]
    · rw [h2 i (by omega) hi']; simp [headArr, hin]
theorem pick_step' {C : Cx} {m : Mem} (hm : MRep num C m) {k : Nat} {l : List Nat} (hn : l.Nodup) (hk : ∀ i, i < k → l[i]? = some i) (hkl : k ≤ l.length) : Step num k C m (C.pick l) (m.pickAll l) := by
  have hown : ∀ b, Own (C.pick l) (m.pickAll l) b → Own C m b := by
    intro b hb
    obtain ⟨id, o, _, ho, hl, hb⟩ := pick_own hb
    exact ⟨id, o, ho, hl, hb⟩
  refine ⟨pick_rep hm hn, rfl, rfl, rfl, Nat.le_refl _, fun _ _ _ => rfl, fun _ _ _ h => h, fun _ h => h, fun _ h => .inl h, fun b hb => .inr (hown b hb), fun i hi p hp hmv => ?_, by rw [Mem.pickAll, List.length_map]; exact hkl⟩
  obtain ⟨id, h3, rfl⟩ := pick_get hp
  rw [hk i hi] at h3
  cases h3
  rw [ren_moved] at hmv
  obtain ⟨o, ho, he⟩ := getD_moved hmv
  rw [he] at hmv
  exact ⟨o, ho, hmv, pick_σ (hk i hi)⟩
theorem pick_later {C : Cx} {s : St} {a : Act} (hs : SRep num C s a) {l : List Nat} (hn : l.Nodup) (hk : ∀ i, i < s.k → l[i]? = some i) (hkl : s.k ≤ l.length) : Later num s.k C s.mem a (C.pick l) { k := s.k, env := s.env.ren (place l), mem := s.mem.pickAll l } a := by
  have hst := pick_step' hs.mem hn hk hkl
  exact ⟨⟨hst.rep, hs.env.tr (pick_tr _), hst.len⟩, hst, rfl, rfl, fun _ _ h => h⟩
theorem room_later {C : Cx} {s : St} {a : Act} (hs : SRep num C s a) (d : Nat) : Later num s.k C s.mem a { C with n := C.n + d } { s with mem := s.mem ++ List.replicate d AObj.dead } a := by
  have hm := hs.mem
  have ht : Tr some C { C with n := C.n + d } := ⟨fun _ h => h, fun _ _ => rfl, fun id j hid hj => by cases hj; exact ⟨by show _ < C.n + d; omega, rfl, fun _ _ h => h⟩⟩
  have split : ∀ (i : Nat) (p : AObj), (s.mem ++ List.replicate d AObj.dead)[i]? = some p → s.mem[i]? = some p ∨ p = .dead := by
    intro i p hp
    rcases Nat.lt_or_ge i s.mem.length with h | h
    · rw [List.getElem?_append_left h] at hp; exact .inl hp
    · rw [List.getElem?_append_right h] at hp
      exact .inr (List.eq_of_mem_replicate (List.mem_of_getElem? hp))
  have hown : ∀ b, Own { C with n := C.n + d } (s.mem ++ List.replicate d AObj.dead) b → Own C s.mem b := by
    rintro b ⟨i, p, hp, hl, hb⟩
    rcases split i p hp with h | rfl
    · exact ⟨i, p, h, hl, hb⟩
    · cases hl
  have hk : s.k ≤ (s.mem ++ List.replicate d AObj.dead).length := by have := hs.k; simp; omega
  have hrep : MRep num { C with n := C.n + d } (s.mem ++ List.replicate d AObj.dead) := by
    refine ⟨by simp [hm.len], fun i p hp => ?_, fun i j p q hp hq hlp hlq he => ?_, fun b hb => hm.imm b (hown b hb), hm.bd, hm.glo⟩
    · rcases split i p hp with h | rfl
      · exact orep_mono ht rfl (fun _ h => h) (hm.obj i p h)
      · trivial
    · rcases split i p hp with h | rfl
      · rcases split j q hq with h' | rfl
        · exact hm.inj i j p q h h' hlp hlq he
        · cases hlq
      · cases hlp
  refine ⟨⟨hrep, hs.env.mono ht, hk⟩, ⟨hrep, rfl, rfl, rfl, Nat.le_refl _, fun _ _ _ => rfl, fun _ _ _ h => h, fun _ h => h, fun _ h => .inl h, fun b hb => .inr (hown b hb), fun i _ p hp hmv => ?_, hk⟩, rfl, rfl, fun _ _ h => h⟩
  rcases split i p hp with h | rfl
  · exact ⟨p, h, hmv, rfl⟩
  · cases hmv
structure Drawn (call : Calls') (P : Program) (num : Names) (N : Nat) (ops : Array Oper) (xs : List XO) (n : Nat) (s0 sF : St) (S : Nat → St) : Prop where
  len : xs.length = ops.size
  hn : n ≤ ops.size
  tr : ∀ (i : Nat) o, ops[i]? = some o → ∃ x : XO, xs[i]? = some x ∧ trOper P num N ops o = some x.wipe
  quiet : ∀ (i : Nat) x, i < n → xs[i]? = some x → (calmOp x.op || makeOp x.op) = true
  one : ∀ (i j : Nat) x y d, i < n → j < n → xs[i]? = some x → xs[j]? = some y → y.dst = some d → (i = j ∨ x.dst ≠ some d) ∧ (d ∈ x.reads → j < i ∧ Region.waitsFor .any ops i j = true)
  low : ∀ (i : Nat) o, i < n → ops[i]? = some o → ∀ e ∈ o.after, Region.binds .any e = true → e.on < i
  S0 : S 0 = s0
  go : ∀ (i : Nat) x, xs[i]? = some x → exOne call (S i) x = some (S (i + 1))
  fin : S xs.length = sF
  step : ∀ (i : Nat) x, i < n → xs[i]? = some x → exOne call (S i) x = some (S (i + 1))
  rest : exOps call (S n) (xs.drop n) = some sF
section
variable {call : Calls'} {N : Nat} {ops : Array Oper} {xs : List XO} {n : Nat} {s0 sF : St} {S : Nat → St}
def Live (S : Nat → St) (n : Nat) (listed : Array Bool) (id : Nat) : Prop := ∀ j, j < n → (S j).mem.length ≤ id → id < (S (j + 1)).mem.length → listed.getD j true = true
structure Part (xs : List XO) (n : Nat) (S : Nat → St) (listed : Array Bool) (t : St) : Prop where
  len : t.mem.length = (S n).mem.length
  k : t.k = (S 0).k
  k0 : (S 0).k ≤ (S 0).mem.length
  live : ∀ id, id < (S n).mem.length → Live S n listed id → t.mem[id]? = (S n).mem[id]?
  dead : ∀ id, id < (S n).mem.length → ¬ Live S n listed id → t.mem[id]? = some .dead
  done : ∀ (i : Nat) x u, i < n → xs[i]? = some x → x.dst = some u → listed.getD i true = true → t.env.get u = (S (i + 1)).env.get u ∧ ∀ id ∈ (t.env.get u).refs, Live S n listed id ∧ id < (S (i + 1)).mem.length
  not : ∀ u, (∀ (i : Nat) x, i < n → xs[i]? = some x → x.dst = some u → listed.getD i true = false) → t.env.get u = (S 0).env.get u ∧ ∀ id ∈ (t.env.get u).refs, id < (S 0).mem.length
  mem : ∀ (id : Nat) o, t.mem[id]? = some o → ∀ j ∈ o.refs, Live S n listed j ∧ ∀ i, i ≤ n → id < (S i).mem.length → j < (S i).mem.length
end
section
variable {call : Calls'} {N : Nat} {ops : Array Oper} {xs : List XO} {n : Nat} {s0 sF : St} {S : Nat → St}
theorem make_adds {x : XOp} (hc : makeOp x = true) {s s' : St} {r : AV} (h : exOp call s x = some (r, s')) : ∃ new, s' = { s with mem := s.mem ++ new } := by
  cases x with
  | alloc zs => cases h; exact ⟨_, rfl⟩
  | box n y =>
    simp only [exOp, Option.map_eq_some_iff] at h
    obtain ⟨cs, _, h⟩ := h
    cases h; exact ⟨_, rfl⟩
  | buildSlice sz zs len ps =>
    simp only [exOp, Option.map_eq_some_iff] at h
    obtain ⟨cs, _, h⟩ := h
    cases h; exact ⟨_, rfl⟩
  | makeSlice sz bytes zs l c =>
    simp only [exOp] at h
    split at h
    · split at h
      · cases h; exact ⟨_, rfl⟩
      · cases h
    · cases h
  | makeMap hint =>
    simp only [exOp] at h
    split at h
    · cases h; exact ⟨_, rfl⟩
    · split at h
      · cases h; exact ⟨_, rfl⟩
      · cases h
  | call mode fn l =>
    cases mode with
    | own =>
      simp only [exOp, exOwn] at h
      split at h
      · cases h
      · split at h
        · cases h
        · split at h
          · cases h; exact ⟨_, rfl⟩
          · cases h
    | view => cases hc
    | share => cases hc
    | peek => cases hc
  | _ => cases hc
theorem quiet_adds {x : XO} (hc : (calmOp x.op || makeOp x.op) = true) {s s' : St} (h : exOne call s x = some s') : ∃ new v, s' = ({ s with mem := s.mem ++ new } : St).bind x.dst v := by
  have nil : ∀ (u : St), ({ u with mem := u.mem ++ [] } : St) = u := fun u => by cases u; simp
  rcases exOne_bind h with ⟨v, s1, hx, rfl, hg⟩ | ⟨rfl, u, b, hg, hcc⟩
  · by_cases hcalm : calmOp x.op = true
    · obtain ⟨rfl, _, _⟩ := calm_congr (K := fun _ => True) hcalm (t := s) ⟨fun _ _ => rfl, fun _ _ _ _ _ _ => trivial⟩ (fun _ _ => rfl) (fun _ _ _ _ => trivial) hx
      exact ⟨[], v, by rw [nil]⟩
    · have hmake : makeOp x.op = true := by simpa [hcalm] using hc
      obtain ⟨new, rfl⟩ := make_adds hmake hx
      exact ⟨new, v, rfl⟩
  · exact ⟨[], .tup [], by rw [nil]⟩
theorem Drawn.add (d : Drawn call P num N ops xs n s0 sF S) {i : Nat} (hi : i < n) {x : XO} (hx : xs[i]? = some x) : ∃ new v, S (i + 1) = ({ S i with mem := (S i).mem ++ new } : St).bind x.dst v := quiet_adds (d.quiet i x hi hx) (d.step i x hi hx)
theorem Drawn.at (d : Drawn call P num N ops xs n s0 sF S) {i : Nat} (hi : i < n) : ∃ x, xs[i]? = some x := by
  have : i < xs.length := by have := d.hn; have := d.len; omega
  exact ⟨_, List.getElem?_eq_getElem this⟩
theorem Drawn.pre (d : Drawn call P num N ops xs n s0 sF S) (i : Nat) : ∀ j, i ≤ j → j ≤ n → (S i).mem.length ≤ (S j).mem.length ∧ (∀ id, id < (S i).mem.length → (S j).mem[id]? = (S i).mem[id]?) ∧ (S j).k = (S i).k := by
  intro j
  induction j with
  | zero => intro h _; have : i = 0 := by omega
            subst this; exact ⟨Nat.le_refl _, fun _ _ => rfl, rfl⟩
  | succ j ih =>
    intro hij hj
    by_cases hi : i = j + 1
    · subst hi; exact ⟨Nat.le_refl _, fun _ _ => rfl, rfl⟩
    · obtain ⟨h1, h2, h3⟩ := ih (by omega) (by omega)
      obtain ⟨x, hx⟩ := d.at (show j < n by omega)
      obtain ⟨new, v, he⟩ := d.add (show j < n by omega) hx
      rw [he, bind_mem, bind_k]
      refine ⟨by simp; omega, fun id hid => ?_, h3⟩
      rw [List.getElem?_append_left (by omega)]
      exact h2 id hid
theorem Drawn.get (d : Drawn call P num N ops xs n s0 sF S) (t : Nat) (i : Nat) : ∀ j, i ≤ j → j ≤ n → (∀ (k : Nat) x, i ≤ k → k < j → xs[k]? = some x → x.dst ≠ some t) → (S j).env.get t = (S i).env.get t := by
  intro j
  induction j with
  | zero => intro hij _ _; have : i = 0 := by omega
            subst this; rfl
  | succ j ih =>
    intro hij hj h
    by_cases hi : i = j + 1
    · subst hi; rfl
    · obtain ⟨x, hx⟩ := d.at (show j < n by omega)
      obtain ⟨new, v, he⟩ := d.add (show j < n by omega) hx
      rw [he, bind_get, if_neg (h j _ (by omega) (by omega) hx)]
      exact ih (by omega) (by omega) fun k x h1 h2 h3 => h k x h1 (by omega) h3
theorem ready_waits {listed : Array Bool} {i j : Nat} (h : i ∈ Region.ready .any ops listed) (hw : Region.waitsFor .any ops i j = true) : listed.getD j false = true := by
  obtain ⟨_, o, ho, hall⟩ := mem_ready.1 h
  obtain ⟨o', ho', e, he, hb, hon⟩ := Region.waitsFor_spec hw
  have : o' = o := Option.some.inj (ho'.symm.trans ho)
  subst this
  rw [← hon]
  exact hall e he hb
theorem getD_up {listed : Array Bool} {i : Nat} (h : listed.getD i false = true) : listed.getD i true = true := by
  rcases Nat.lt_or_ge i listed.size with h' | h'
  · simp [h'] at h ⊢; exact h
  · simp [Array.getElem?_eq_none h'] at h
def swapIn (M p len : Nat) : List Nat := (List.range M).map fun id => if p ≤ id ∧ id < p + len then M + (id - p) else id
theorem swapIn_get {M p len id : Nat} (h : id < M) : (swapIn M p len)[id]? = some (if p ≤ id ∧ id < p + len then M + (id - p) else id) := by
  simp [swapIn, h]
theorem swapIn_nodup (M p len : Nat) : (swapIn M p len).Nodup := by
  unfold swapIn
  refine List.pairwise_map.2 (List.Pairwise.imp_of_mem ?_ List.nodup_range)
  intro a b ha hb hab h
  have := List.mem_range.1 ha
  have := List.mem_range.1 hb
  split at h <;> split at h <;> omega
theorem swapIn_back {M p len j : Nat} (hj : j < len) (hp : p + len ≤ M) : place (swapIn M p len) (M + j) = some (p + j) := by
  refine place_of _ _ _ (swapIn_nodup ..) ?_
  rw [swapIn_get (by omega), if_pos ⟨by omega, by omega⟩]
  exact congrArg some (by omega)
theorem swapIn_stay {M p len id : Nat} (h : id < M) (hn : ¬ (p ≤ id ∧ id < p + len)) : place (swapIn M p len) id = some id := by
  refine place_of _ _ _ (swapIn_nodup ..) ?_
  rw [swapIn_get h, if_neg hn]
theorem Drawn.part_step (d : Drawn call P num N ops xs n s0 sF S) (hcall : CallOK num P call) {listed : Array Bool} {t : St} (p : Part xs n S listed t) {i : Nat} (hi : i < n) (hr : i ∈ Region.ready .any ops listed) {x : XO} (hx : xs[i]? = some x) {o : Oper} (htr : trOp P num o.op = some x.wipe.op) {C : Cx} {a : Act} (hs : SRep num C t a) :
    ∃ t1, exOne call t x = some t1 ∧ ∀ D a', SRep num D t1 a' → ∃ t2 E, E.w = D.w ∧ Later num t1.k D t1.mem a' E t2 a' ∧ Part xs n S (listed.setIfInBounds i true) t2 := by
  have hun : listed.getD i true = false := (mem_ready.1 hr).1
  have pre := fun (i j : Nat) (h1 : i ≤ j) (h2 : j ≤ n) => d.pre i j h1 h2
  have mono : ∀ i j, i ≤ j → j ≤ n → (S i).mem.length ≤ (S j).mem.length := fun i j h1 h2 => (pre i j h1 h2).1
  let K : Nat → Prop := fun id => id < (S i).mem.length ∧ Live S n listed id
  have live0 : ∀ id, id < (S 0).mem.length → Live S n listed id := fun id h j hj h1 _ => by have := mono 0 j (by omega) (by omega); omega
  have hAgree : Agree K (S i).mem t.mem := by
    have same : ∀ id, K id → t.mem[id]? = (S i).mem[id]? := fun id ⟨h1, h2⟩ => by
      have := mono i n (by omega) (Nat.le_refl _)
      rw [p.live id (by omega) h2]
      exact (pre i n (by omega) (Nat.le_refl _)).2.1 id h1
    refine ⟨same, fun id o' hk ho' j hj => ?_⟩
    obtain ⟨h1, h2⟩ := p.mem id o' (by rw [same id hk]; exact ho') j hj
    exact ⟨h2 i (by omega) hk.1, h1⟩
  have hreads : ∀ u ∈ x.reads, t.env.get u = (S i).env.get u ∧ In K ((S i).env.get u) := by
    intro u hu
    by_cases hw : ∃ (j : Nat) (y : XO), j < n ∧ xs[j]? = some y ∧ y.dst = some u
    · obtain ⟨j, y, hj, hy, hd⟩ := hw
      obtain ⟨h3, h4⟩ := (d.one i j x y u hi hj hx hy hd).2 hu
      obtain ⟨h5, h6⟩ := p.done j y u hj hy hd (getD_up (ready_waits hr h4))
      have h7 := d.get u (j + 1) i (by omega) (by omega) fun k z h5 h6 h7 => by
        rcases (d.one k j z y u (by omega) hj h7 hy hd).1 with h | h
        · omega
        · exact h
      have h8 : t.env.get u = (S i).env.get u := h5.trans h7.symm
      refine ⟨h8, fun id hid => ?_⟩
      rw [← h8] at hid
      obtain ⟨h9, h10⟩ := h6 id hid
      have := mono (j + 1) i (by omega) (by omega)
      exact ⟨by omega, h9⟩
    · have hno : ∀ (j : Nat) (y : XO), j < n → xs[j]? = some y → y.dst ≠ some u := fun j y h1 h2 h3 => hw ⟨j, y, h1, h2, h3⟩
      obtain ⟨h5, h6⟩ := p.not u fun j y h1 h2 h3 => absurd h3 (hno j y h1 h2)
      have h7 := d.get u 0 i (Nat.zero_le _) (by omega) fun k z _ h6 h7 => hno k z (by omega) h7
      have h8 : t.env.get u = (S i).env.get u := h5.trans h7.symm
      refine ⟨h8, fun id hid => ?_⟩
      rw [← h8] at hid
      have h9 := h6 id hid
      have := mono 0 i (by omega) (by omega)
      exact ⟨by omega, live0 id h9⟩
  have hb : ∀ fn l as r mc, x.op = .call .own fn l → (l.map (S i).env.ev).mapM (frz (S i).mem) = some as → call fn as [] = some (r, mc) → (∀ id ∈ r.refs, id < mc.length) ∧ ∀ o ∈ mc, ∀ id ∈ o.refs, id < mc.length := by
    intro fn l as r mc hop has hc
    have hsub : ∀ u ∈ l.flatMap srcTmp, u ∈ x.reads := fun u hu => List.mem_append.2 (.inr (List.mem_append.2 (.inl (by rw [hop]; exact hu))))
    have hin : InL K (l.map (S i).env.ev) := fun y hy => by
      obtain ⟨q, hq, rfl⟩ := List.mem_map.1 hy
      exact in_ev fun u hu => (hreads u (hsub u (List.mem_flatMap.2 ⟨q, hq, hu⟩))).2
    refine own_bounded hcall hs (op := o.op) (l := l) (fn := fn) (by rw [htr]; simp only [XO.wipe, hop, XOp.wipe]) (as := as) ?_ hc
    rw [evL_congr (s := (S i).env) (t := t.env) fun u hu => (hreads u (hsub u hu)).1, mapM_congr _ fun y hy => frz_agree hAgree y (hin y hy)]
    exact has
  obtain ⟨len, val, new, hmk, hS, ht1⟩ := one_congr (d.quiet i x hi hx) hAgree (fun u hu => (hreads u hu).1) (fun u hu => (hreads u hu).2) hb (d.step i x hi hx)
  refine ⟨_, ht1, fun D a' hD => ?_⟩
  have hlen := p.len
  rw [hlen] at hD ⊢
  generalize hM : (S n).mem.length = M at hD hlen ⊢
  have hpos1 : (S (i + 1)).mem.length = (S i).mem.length + len := by rw [hS, bind_mem]; simp [hmk.size]
  have hpM : (S i).mem.length + len ≤ M := by rw [← hpos1, ← hM]; exact mono (i + 1) n (by omega) (Nat.le_refl _)
  generalize hl : swapIn M (S i).mem.length len = l
  have hlget : ∀ id, id < M → l[id]? = some (if (S i).mem.length ≤ id ∧ id < (S i).mem.length + len then M + (id - (S i).mem.length) else id) := fun id h => by rw [← hl]; exact swapIn_get h
  have hllen : l.length = M := by rw [← hl]; simp [swapIn]
  have hlnd : l.Nodup := by rw [← hl]; exact swapIn_nodup ..
  generalize hf : place l = f
  have hf1 : ∀ j, j < len → f (M + j) = some ((S i).mem.length + j) := fun j hj => by rw [← hf, ← hl]; exact swapIn_back hj hpM
  have hf2 : ∀ id, id < M → ¬ ((S i).mem.length ≤ id ∧ id < (S i).mem.length + len) → f id = some id := fun id h1 h2 => by rw [← hf, ← hl]; exact swapIn_stay h1 h2
  have hnr : ∀ id, Live S n listed id → ¬ ((S i).mem.length ≤ id ∧ id < (S i).mem.length + len) := fun id h ⟨h1, h2⟩ => by
    have := h i hi h1 (by omega)
    rw [hun] at this; cases this
  have hf3 : ∀ id, Live S n listed id → id < M → f id = some id := fun id h1 h2 => hf2 id h2 (hnr id h1)
  have hiM : (S i).mem.length ≤ M := by omega
  obtain ⟨hv, hn⟩ := hmk.ren M (S i).mem.length f hf1 fun id hk => hf3 id hk.2 (by have := hk.1; omega)
  have h0i : (S 0).mem.length ≤ (S i).mem.length := mono 0 i (by omega) (by omega)
  have hk0 := p.k0
  have hkt := p.k
  have ht1k : (({ t with mem := t.mem ++ new M } : St).bind x.dst (val M)).k = (S 0).k := by rw [bind_k]; exact hkt
  have hlat := pick_later hD hlnd (fun j hj => by
    rw [ht1k] at hj
    rw [hlget j (by omega), if_neg (by omega)]) (by rw [ht1k, hllen]; omega)
  rw [hf] at hlat
  refine ⟨_, D.pick l, rfl, hlat, ?_⟩
  have hset : ∀ j, j ≠ i → (listed.setIfInBounds i true).getD j true = listed.getD j true := fun j hj => getD_set_ne true (Ne.symm hj)
  have hseti : (listed.setIfInBounds i true).getD i true = true := by
    rw [Array.getD_eq_getD_getElem?, Array.getElem?_setIfInBounds]
    split <;> (try split) <;> simp_all
  have up1 : ∀ id, Live S n listed id → Live S n (listed.setIfInBounds i true) id := fun id h j hj h1 h2 => by
    by_cases hji : j = i
    · subst hji; exact hseti
    · rw [hset j hji]; exact h j hj h1 h2
  have up2 : ∀ id, (S i).mem.length ≤ id → id < (S i).mem.length + len → Live S n (listed.setIfInBounds i true) id := fun id h1 h2 j hj h3 h4 => by
    by_cases hji : j = i
    · subst hji; exact hseti
    · exfalso
      rcases Nat.lt_or_ge j i with h | h
      · have := mono (j + 1) i (by omega) (by omega); omega
      · have := mono (i + 1) j (by omega) (by omega); omega
  have down : ∀ id, Live S n (listed.setIfInBounds i true) id → ¬ ((S i).mem.length ≤ id ∧ id < (S i).mem.length + len) → Live S n listed id := fun id h hno j hj h1 h2 => by
    by_cases hji : j = i
    · subst hji; exact absurd ⟨h1, by omega⟩ hno
    · rw [← hset j hji]; exact h j hj h1 h2
  have hnewM : (new M).length = len := hmk.size M
  have get1 : ∀ id, id < M → ¬ ((S i).mem.length ≤ id ∧ id < (S i).mem.length + len) → (Mem.pickAll (({ t with mem := t.mem ++ new M } : St).bind x.dst (val M)).mem l)[id]? = t.mem[id]? := by
    intro id hid hno
    rw [bind_mem, Mem.pickAll, List.getElem?_map, hlget id hid, if_neg hno]
    simp only [Option.map_some]
    rw [List.getElem?_append_left (by omega)]
    have hq : t.mem[id]? = some t.mem[id] := List.getElem?_eq_getElem (by omega)
    rw [hq]
    simp only [Option.getD_some, Option.some.injEq]
    rw [hf]
    refine obj_ren_id fun j hj => ?_
    obtain ⟨h1, h2⟩ := p.mem id _ hq j hj
    exact hf3 j h1 (by have := h2 n (Nat.le_refl _) (by omega); omega)
  have get2 : ∀ j, j < len → (Mem.pickAll (({ t with mem := t.mem ++ new M } : St).bind x.dst (val M)).mem l)[(S i).mem.length + j]? = (new (S i).mem.length)[j]? := by
    intro j hj
    rw [bind_mem, Mem.pickAll, List.getElem?_map, hlget _ (by omega), if_pos ⟨by omega, by omega⟩]
    simp only [Option.map_some]
    rw [show M + ((S i).mem.length + j - (S i).mem.length) = M + j by omega, List.getElem?_append_right (by omega), show M + j - t.mem.length = j by omega]
    rw [← hn, List.getElem?_map, hf]
    have hq : (new M)[j]? = some (new M)[j] := List.getElem?_eq_getElem (by omega)
    rw [hq]; rfl
  have new_get : ∀ j, j < len → (new (S i).mem.length)[j]? = (S n).mem[(S i).mem.length + j]? := by
    intro j hj
    rw [(pre (i + 1) n (by omega) (Nat.le_refl _)).2.1 _ (by omega), hS, bind_mem, List.getElem?_append_right (by omega), show (S i).mem.length + j - (S i).mem.length = j by omega]
  have envKeep : ∀ u, (∀ id ∈ (t.env.get u).refs, Live S n listed id ∧ id < M) → (t.env.get u).ren f = t.env.get u := fun u h => ren_id fun id hid => hf3 id (h id hid).1 (h id hid).2
  refine ⟨?_, ht1k, hk0, fun id hid hlv => ?_, fun id hid hno => ?_, fun j y u hj hy hd hlj => ?_, fun u hu => ?_, fun id o' ho' j hj => ?_⟩
  · show (Mem.pickAll _ l).length = _
    rw [Mem.pickAll, List.length_map, hllen, hM]
  · rw [hM] at hid
    by_cases hin : (S i).mem.length ≤ id ∧ id < (S i).mem.length + len
    · show (Mem.pickAll _ l)[id]? = _
      have h1 := get2 (id - (S i).mem.length) (by omega)
      have h2 := new_get (id - (S i).mem.length) (by omega)
      rw [show (S i).mem.length + (id - (S i).mem.length) = id by omega] at h1 h2
      exact h1.trans h2
    · exact (get1 id hid hin).trans (p.live id (by omega) (down id hlv hin))
  · rw [hM] at hid
    have hin : ¬ ((S i).mem.length ≤ id ∧ id < (S i).mem.length + len) := fun h => hno (up2 id h.1 h.2)
    exact (get1 id hid hin).trans (p.dead id (by omega) fun h => hno (up1 id h))
  · have heq : ∀ v, (Env.ren f (({ t with mem := t.mem ++ new M } : St).bind x.dst (val M)).env).get u = v ↔ (if x.dst = some u then val M else t.env.get u).ren f = v := fun v => by rw [env_ren_get, bind_get]
    show (Env.ren f _).get u = _ ∧ _
    by_cases hji : j = i
    · subst hji
      have : y = x := Option.some.inj (hy.symm.trans hx)
      subst this
      have h1 : (Env.ren f (({ t with mem := t.mem ++ new M } : St).bind y.dst (val M)).env).get u = val (S j).mem.length := by
        rw [heq, if_pos hd]; exact hv
      refine ⟨h1.trans (by rw [hS, bind_get, if_pos hd]), fun id hid => ?_⟩
      have hid' : id ∈ (val (S j).mem.length).refs := by rw [← h1]; exact hid
      rcases hmk.inV _ id hid' with h | h
      · exact ⟨up1 id h.2, by have := h.1; omega⟩
      · exact ⟨up2 id h.1 h.2, by omega⟩
    · have hne : x.dst ≠ some u := by
        rcases (d.one i j x y u hi hj hx hy hd).1 with h | h
        · exact absurd h.symm hji
        · exact h
      obtain ⟨h2, h3⟩ := p.done j y u hj hy hd (by rw [← hset j hji]; exact hlj)
      have h1 : (Env.ren f (({ t with mem := t.mem ++ new M } : St).bind x.dst (val M)).env).get u = t.env.get u := by
        rw [heq, if_neg hne]
        exact envKeep u fun id hid => ⟨(h3 id hid).1, by have := (h3 id hid).2; have := mono (j + 1) n (by omega) (Nat.le_refl _); omega⟩
      refine ⟨h1.trans h2, fun id hid => ?_⟩
      have hid' : id ∈ (t.env.get u).refs := by rw [← h1]; exact hid
      exact ⟨up1 id (h3 id hid').1, (h3 id hid').2⟩
  · have hne : x.dst ≠ some u := fun h => by
      have := hu i x hi hx h
      rw [hseti] at this; cases this
    obtain ⟨h2, h3⟩ := p.not u fun j y h3 h4 h5 => by
      have hji : j ≠ i := fun h => by
        subst h
        have : y = x := Option.some.inj (h4.symm.trans hx)
        subst this
        exact hne h5
      rw [← hset j hji]
      exact hu j y h3 h4 h5
    have h1 : (Env.ren f (({ t with mem := t.mem ++ new M } : St).bind x.dst (val M)).env).get u = t.env.get u := by
      rw [env_ren_get, bind_get, if_neg hne]
      exact envKeep u fun id hid => ⟨live0 id (h3 id hid), by have := h3 id hid; omega⟩
    exact ⟨h1.trans h2, fun id hid => h3 id (by rw [← h1]; exact hid)⟩
  · have hid : id < M := by
      have h1 : id < (Mem.pickAll (({ t with mem := t.mem ++ new M } : St).bind x.dst (val M)).mem l).length := (List.getElem?_eq_some_iff.1 ho').1
      have h2 : (Mem.pickAll (({ t with mem := t.mem ++ new M } : St).bind x.dst (val M)).mem l).length = M := by rw [Mem.pickAll, List.length_map, hllen]
      omega
    by_cases hin : (S i).mem.length ≤ id ∧ id < (S i).mem.length + len
    · have h1 := get2 (id - (S i).mem.length) (by omega)
      rw [show (S i).mem.length + (id - (S i).mem.length) = id by omega] at h1
      have hmem : o' ∈ new (S i).mem.length := List.mem_of_getElem? (h1.symm.trans ho')
      rcases hmk.inN _ o' hmem j hj with h | h
      · exact ⟨up1 j h.2, fun i' _ h2 => by have := h.1; omega⟩
      · refine ⟨up2 j h.1 h.2, fun i' hi' h2 => ?_⟩
        rcases Nat.lt_or_ge i i' with h3 | h3
        · have := mono (i + 1) i' (by omega) hi'; omega
        · have := mono i' i h3 (by omega); omega
    · obtain ⟨h1, h2⟩ := p.mem id o' ((get1 id hid hin).symm.trans ho') j hj
      exact ⟨up1 j h1, h2⟩
theorem Drawn.ready_some (d : Drawn call P num N ops xs n s0 sF S) {listed : Array Bool} (hsz : listed.size = ops.size) (hl : left n listed ≠ 0) : Region.ready .any ops listed ≠ [] := by
  have hex : ∃ i, i < n ∧ listed.getD i true = false := by
    obtain ⟨i, hi, h⟩ := List.countP_pos_iff.1 (Nat.pos_of_ne_zero hl)
    exact ⟨i, List.mem_range.1 hi, by simpa using h⟩
  have : ∃ i, (i < n ∧ listed.getD i true = false) ∧ ∀ j, j < i → ¬ (j < n ∧ listed.getD j true = false) := by
    obtain ⟨i, hi⟩ := hex
    induction i using Nat.strongRecOn with
    | _ i ih =>
      by_cases h : ∃ j, j < i ∧ (j < n ∧ listed.getD j true = false)
      · obtain ⟨j, h1, h2⟩ := h; exact ih j h1 h2
      · exact ⟨i, hi, fun j hj h' => h ⟨j, hj, h'⟩⟩
  obtain ⟨i, ⟨hi, hl⟩, hmin⟩ := this
  have hlt : i < ops.size := by have := d.hn; omega
  have ho : ops[i]? = some ops[i] := Array.getElem?_eq_getElem hlt
  have : i ∈ Region.ready .any ops listed := by
    refine mem_ready.2 ⟨hl, _, ho, fun e he hb => ?_⟩
    have h1 := d.low i _ hi ho e he hb
    have h2 : listed.getD e.on true = true := by
      cases h3 : listed.getD e.on true with
      | true => rfl
      | false => exact absurd ⟨by omega, h3⟩ (hmin e.on h1)
    have h4 : e.on < listed.size := by omega
    simp [h4] at h2 ⊢; exact h2
  intro h
  rw [h] at this; cases this
theorem Drawn.all (d : Drawn call P num N ops xs n s0 sF S) {listed : Array Bool} {t : St} (p : Part xs n S listed t) (hall : ∀ i, i < n → listed.getD i true = true) : t.mem = (S n).mem ∧ (∀ u, t.env.get u = (S n).env.get u) ∧ t.k = (S n).k := by
  refine ⟨List.ext_getElem? fun id => ?_, fun u => ?_, p.k.trans (d.pre 0 n (Nat.zero_le _) (Nat.le_refl _)).2.2.symm⟩
  · rcases Nat.lt_or_ge id (S n).mem.length with h | h
    · exact p.live id h fun j hj _ _ => hall j hj
    · rw [List.getElem?_eq_none h, List.getElem?_eq_none (by rw [p.len]; exact h)]
  · by_cases hw : ∃ (j : Nat) (y : XO), j < n ∧ xs[j]? = some y ∧ y.dst = some u
    · obtain ⟨j, y, hj, hy, hd⟩ := hw
      rw [(p.done j y u hj hy hd (hall j hj)).1]
      exact (d.get u (j + 1) n (by omega) (Nat.le_refl _) fun k z h5 h6 h7 => by
        rcases (d.one k j z y u h6 hj h7 hy hd).1 with h | h
        · omega
        · exact h).symm
    · rw [(p.not u fun j y h1 h2 h3 => absurd ⟨j, y, h1, h2, h3⟩ hw).1]
      exact (d.get u 0 n (Nat.zero_le _) (Nat.le_refl _) fun k z _ h6 h7 h8 => hw ⟨k, z, h6, h7, h8⟩).symm
theorem Drawn.any {ro : Option Nat} (d : Drawn call P num N ops xs n s0 sF S) (htail : n = ops.size ∨ (n < ops.size ∧ Region.sinkB .any ops n = true ∧ Region.chainB .any ops n = true)) (hseq : Region.seqB .any ops (ops.size - n) n (headArr ops.size n) = true) (hcall : CallOK num P call) {Q : Exit → Act → World → Prop} {k : Nat} {C : Cx} {m : Mem} {a0 : Act} (hN : N ≤ a0.tmps.size) (hQ : ∀ D a', Later num k C m a0 D sF a' → Q .normal a' D.w) :
    ∀ (c : Nat) (listed : Array Bool) (a : Act) (D : Cx) (t : St), left n listed = c → HeadInv .any ops n listed → Part xs n S listed t → Later num k C m a0 D t a → wpAnyIn (fz ro) 0 P .any ops Q (c + (ops.size - n)) listed a D.w := by
  intro c
  induction c with
  | zero =>
    intro listed a D t hl inv p hlat
    rw [Nat.zero_add]
    have hall : ∀ i, i < n → listed.getD i true = true := by
      intro i hi
      cases h : listed.getD i true with
      | true => rfl
      | false =>
        have := List.countP_eq_zero.1 hl i (List.mem_range.2 hi)
        simp [h] at this
    have hhead := headArr_of inv.size d.hn hall inv.tail
    have hdl : (ops.toList.drop n).length = ops.size - n := by simp
    obtain ⟨h1, h2, h3⟩ := d.all p hall
    have hSn : Later num k C m a0 D (S n) a :=
      ⟨⟨by rw [← h1]; exact hlat.rep.mem, fun u => by rw [← h2]; exact hlat.rep.env u, by rw [← h1, ← h3]; exact hlat.rep.k⟩, by rw [← h1]; exact hlat.step, by rw [← h3]; exact hlat.k, hlat.size, hlat.marks⟩
    have htr : trOps P num N ops (ops.toList.drop n) = (xs.drop n).map XO.wipe := by
      refine trOps_of _ _ (by simp [d.len]) fun i o hi => ?_
      rw [List.getElem?_drop] at hi
      obtain ⟨x, hx, h⟩ := d.tr (n + i) o (by simpa using hi)
      exact ⟨x, by rw [List.getElem?_drop]; exact hx, h⟩
    have hw := list_wp (ro := ro) hcall (Q := Q) (ops.toList.drop n) (xs.drop n) htr hSn.rep (by rw [hSn.size]; exact hN) d.rest fun E a'' hl' => hQ E a'' (hSn.trans (by rw [hSn.k] at hl'; exact hl'))
    have := wpAnyIn_of_seq (md := .any) (Q' := Q) (ops.toList.drop n) n listed a D.w (fun j => by simp [List.getElem?_drop]) (by rw [hdl, hhead]; exact hseq) hw
    rwa [hdl] at this
  | succ c ih =>
    intro listed a D t hl inv p hlat
    rw [show c + 1 + (ops.size - n) = (c + (ops.size - n)) + 1 by omega]
    refine ⟨fun h => absurd h (d.ready_some inv.size (by omega)), fun i hi => ?_⟩
    obtain ⟨hun, oi, hoi, _⟩ := mem_ready.1 hi
    have hisz : i < ops.size := (Array.getElem?_eq_some_iff.1 hoi).1
    have hin : i < n := by
      rcases htail with h | ⟨h1, h2, h3⟩
      · omega
      · rcases Nat.lt_or_ge i n with h | h
        · exact h
        · obtain ⟨j, hj, h4⟩ := List.countP_pos_iff.1 (show 0 < left n listed by omega)
          exact absurd hi (tail_waits h2 h3 h1 inv _ j rfl (List.mem_range.1 hj) (by simpa using h4) i h)
    obtain ⟨x, hx, htr⟩ := d.tr i oi hoi
    obtain ⟨t1, h1, hnext⟩ := d.part_step hcall p hin hi hx (trOper_spec htr).1 hlat.rep
    unfold wpOpIn
    simp only [hoi]
    refine one_wp hcall htr hlat.rep (by rw [hlat.size]; exact hN) h1 fun E a' hl' => ?_
    obtain ⟨t2, F, hw, hl2, p2⟩ := hnext E a' hl'.rep
    rw [← hw]
    refine ih _ a' F t2 (by have := left_set hin hun; omega) (inv.set hi hin) p2 ?_
    rw [hlat.k] at hl'
    rw [hl'.k] at hl2
    exact (hlat.trans hl').trans hl2
theorem Drawn.owner (d : Drawn call P num N ops xs n s0 sF S) {id : Nat} (h0 : (S 0).mem.length ≤ id) : ∀ m, m ≤ n → id < (S m).mem.length → ∃ j, j < m ∧ (S j).mem.length ≤ id ∧ id < (S (j + 1)).mem.length := by
  intro m
  induction m with
  | zero => intro _ h; omega
  | succ m ih =>
    intro hm h
    rcases Nat.lt_or_ge id (S m).mem.length with h1 | h1
    · obtain ⟨j, h2, h3⟩ := ih (by omega) h1
      exact ⟨j, by omega, h3⟩
    · exact ⟨m, by omega, h1, h⟩
theorem Drawn.start (d : Drawn call P num N ops xs n s0 sF S) {C : Cx} {a : Act} (hs : SRep num C s0 a) : Part xs n S (Array.replicate ops.size false) { s0 with mem := s0.mem ++ List.replicate ((S n).mem.length - s0.mem.length) AObj.dead } := by
  have hpre := d.pre 0 n (Nat.zero_le _) (Nat.le_refl _)
  have hS0 := d.S0
  have hn := hs.mem.len
  have hfalse : ∀ j, j < n → (Array.replicate ops.size false).getD j true = false := fun j hj => by
    have hlt : j < ops.size := by have := d.hn; omega
    simp [hlt]
  have live0 : ∀ id, id < (S 0).mem.length → Live S n (Array.replicate ops.size false) id := fun id h j hj h1 _ => by have := (d.pre 0 j (by omega) (by omega)).1; omega
  have hb : (S 0).mem.length = s0.mem.length := by rw [hS0]
  refine ⟨by simp; omega, by rw [hS0], by rw [hS0]; exact hs.k, fun id hid hlv => ?_, fun id hid hno => ?_, fun i x u hi hx hd hl => ?_, fun u _ => ?_, fun id o ho j hj => ?_⟩
  · rcases Nat.lt_or_ge id (S 0).mem.length with h | h
    · rw [hpre.2.1 id h, hS0]
      exact List.getElem?_append_left (by omega)
    · obtain ⟨j, hj, h1, h2⟩ := d.owner h n (Nat.le_refl _) hid
      have := hlv j hj h1 h2
      rw [hfalse j hj] at this; cases this
  · have h : (S 0).mem.length ≤ id := Nat.le_of_not_lt fun h => hno (live0 id h)
    show (s0.mem ++ _)[id]? = _
    rw [List.getElem?_append_right (by omega), List.getElem?_replicate, if_pos (by omega)]
  · rw [hfalse i hi] at hl; cases hl
  · rw [hS0]
    exact ⟨rfl, fun id hid => by have := arep_lt (hs.env u) id hid; omega⟩
  · have hsp : s0.mem[id]? = some o ∨ o = .dead := by
      rcases Nat.lt_or_ge id s0.mem.length with h | h
      · left; rw [← ho]; exact (List.getElem?_append_left h).symm
      · right
        have ho' : (s0.mem ++ List.replicate ((S n).mem.length - s0.mem.length) AObj.dead)[id]? = some o := ho
        rw [List.getElem?_append_right h] at ho'
        exact List.eq_of_mem_replicate (List.mem_of_getElem? ho')
    rcases hsp with h | rfl
    · have hjl := orep_lt (hs.mem.obj id o h) j hj
      exact ⟨live0 j (by omega), fun i hi _ => by have := (d.pre 0 i (by omega) hi).1; omega⟩
    · simp [AObj.refs] at hj
end
theorem drawn_of {call : Calls'} {N : Nat} {ops : Array Oper} {xs : List XO} {n : Nat} {s0 sF : St} (htr : trOps P num N ops ops.toList = xs.map XO.wipe) (hlen : xs.length = ops.size) (h1 : (xs.take n).all (fun x => calmOp x.op || makeOp x.op) = true)
    (h2 : ((List.range n).all fun i => (List.range n).all fun j => match xs[i]?, xs[j]? with
    | some x, some y => match y.dst with
      | none => true
      | some d => (i == j || x.dst != some d) && (!x.reads.contains d || (decide (j < i) && Region.waitsFor .any ops i j))
    | _, _ => false) = true)
    (h3 : ((List.range n).all fun i => match ops[i]? with
    | some o => o.after.all fun e => !Region.binds .any e || decide (e.on < i)
    | none => false) = true) (hn : n ≤ ops.size) (h : exOps call s0 xs = some sF) : ∃ S, Drawn call P num N ops xs n s0 sF S := by
  have hS : ∀ i, ∃ t, exOps call s0 (xs.take i) = some t ∧ exOps call t (xs.drop i) = some sF := exOps_split xs s0 sF h
  obtain ⟨S, hS⟩ : ∃ S : Nat → St, ∀ i, exOps call s0 (xs.take i) = some (S i) ∧ exOps call (S i) (xs.drop i) = some sF := ⟨fun i => Classical.choose (hS i), fun i => Classical.choose_spec (hS i)⟩
  have go : ∀ (i : Nat) x, xs[i]? = some x → exOne call (S i) x = some (S (i + 1)) := by
    intro i x hx
    have e1 := (hS i).1
    have e2 := (hS (i + 1)).1
    have : xs.take (i + 1) = xs.take i ++ [x] := by
      rw [List.take_add_one, hx]; rfl
    rw [this] at e2
    exact exOps_snoc _ x s0 _ _ e1 e2
  refine ⟨S, hlen, hn, fun i o ho => trOps_all ops.toList xs htr h i o (by simpa using ho), ?_, ?_, ?_, ?_, go, ?_, fun i x _ hx => go i x hx, ?_⟩
  · intro i x hi hx
    refine List.all_eq_true.1 h1 x (List.mem_of_getElem? (i := i) ?_)
    rw [List.getElem?_take, if_pos hi]; exact hx
  · intro i j x y d hi hj hx hy hyd
    have := List.all_eq_true.1 (List.all_eq_true.1 h2 i (List.mem_range.2 hi)) j (List.mem_range.2 hj)
    simp only [hx, hy, hyd, Bool.and_eq_true, Bool.or_eq_true, beq_iff_eq, bne_iff_ne, Bool.not_eq_true', List.contains_eq_mem, decide_eq_false_iff_not, decide_eq_true_eq] at this
    refine ⟨this.1, fun hr => ?_⟩
    rcases this.2 with h | h
    · exact absurd hr h
    · exact h
  · intro i o hi ho e he hb
    have := List.all_eq_true.1 h3 i (List.mem_range.2 hi)
    simp only [ho] at this
    have := Array.all_eq_true_iff_forall_mem.1 this e he
    simpa [hb] using this
  · have := (hS 0).1
    simp [exOps] at this
    exact this.symm
  · have := (hS xs.length).2
    simp [exOps] at this
    exact this
  · exact (hS n).2
def Cx.draw (C : Cx) : Cx := { C with w := { C.w with drawn := C.w.drawn + 1 } }
theorem draw_tr (C : Cx) : Tr some C C.draw := ⟨fun _ h => h, fun _ _ => rfl, fun id j hid hj => by cases hj; exact ⟨hid, rfl, fun _ _ h => h⟩⟩
theorem draw_rep {C : Cx} {m : Mem} (h : MRep num C m) : MRep num C.draw m :=
  ⟨h.len, fun id o ho => orep_mono (draw_tr C) rfl (fun _ hx => hx) (h.obj id o ho), h.inj, h.imm, h.bd, num.up h.glo (draw_tr C).imm (draw_tr C).keep⟩
theorem draw_later {C : Cx} {s : St} {a : Act} (hs : SRep num C s a) : Later num s.k C s.mem a C.draw s a := by
  refine ⟨⟨draw_rep hs.mem, hs.env.mono (draw_tr C), hs.k⟩, ⟨draw_rep hs.mem, rfl, rfl, rfl, Nat.le_refl _, fun _ _ _ => rfl, fun _ _ _ h => h, fun _ h => h, fun _ h => .inl h, fun _ h => .inr h, fun i _ o' ho hm => ⟨o', ho, hm, rfl⟩, hs.k⟩, rfl, rfl, fun _ _ h => h⟩
theorem replicate_left (n m : Nat) (h : n ≤ m) : left n (Array.replicate m false) = n := by
  unfold left
  rw [List.countP_eq_length.2]
  · simp
  · intro i hi
    have := List.mem_range.1 hi
    have h' : i < m := by omega
    simp [h']
end
end Go.EX


set_option linter.unusedVariables false
set_option linter.unusedSimpArgs false
namespace Go.EX
theorem append_env {s : St} {sz bytes : Nat} {a x r : AV} {s' : St} (h : exAppend s sz bytes a x = some (r, s')) :
    ∃ f : Nat → Option Nat, s'.env = s.env.ren f ∧ s'.k = s.k ∧ ∀ e : Env, exAppend { s with env := e } sz bytes a x = some (r, { s' with env := e.ren f }) := by
  unfold exAppend at h
  cases hel : elems s.mem sz x with
  | none => simp [hel] at h
  | some nn =>
    obtain ⟨n, news⟩ := nn
    simp only [hel] at h
    split at h
    · split at h
      · cases h
        refine ⟨some, (env_ren_some _).symm, rfl, fun e => ?_⟩
        simp [exAppend, hel, env_ren_some, *]
      · split at h
        · simp only [fresh, Option.some.injEq, Prod.mk.injEq] at h
          obtain ⟨rfl, rfl⟩ := h
          refine ⟨some, (env_ren_some _).symm, rfl, fun e => ?_⟩
          simp [exAppend, hel, env_ren_some, fresh, *]
        · cases h
    · split at h
      · cases h
        refine ⟨some, (env_ren_some _).symm, rfl, fun e => ?_⟩
        simp [exAppend, hel, env_ren_some, *]
      · split at h
        · cases h
        · split at h
          · split at h
            · simp only [fresh, Option.some.injEq, Prod.mk.injEq] at h
              obtain ⟨rfl, rfl⟩ := h
              refine ⟨some, (env_ren_some _).symm, rfl, fun e => ?_⟩
              simp [exAppend, hel, env_ren_some, fresh, *]
            · cases h
          · cases h
    · split at h
      · split at h
        · split at h
          · split at h
            · simp only [Option.some.injEq, Prod.mk.injEq] at h
              obtain ⟨rfl, rfl⟩ := h
              refine ⟨some, (env_ren_some _).symm, rfl, fun e => ?_⟩
              simp [exAppend, hel, env_ren_some, fresh, *]
            · cases h
          · split at h
            · split at h
              · simp only [fresh, Option.some.injEq, Prod.mk.injEq] at h
                obtain ⟨rfl, rfl⟩ := h
                refine ⟨some, (env_ren_some _).symm, rfl, fun e => ?_⟩
                simp [exAppend, hel, env_ren_some, fresh, *]
              · cases h
            · cases h
        · cases h
      · cases h
    · split at h
      · split at h
        · split at h
          · split at h
            · simp only [Option.some.injEq, Prod.mk.injEq] at h
              obtain ⟨rfl, rfl⟩ := h
              rw [scrub_eq]
              refine ⟨hide _, rfl, rfl, fun e => ?_⟩
              simp [exAppend, hel, scrub_eq, *]
            · cases h
          · cases h
        · cases h
      · cases h
    · cases h
theorem appendR_env {s : St} {sz bytes : Nat} {a x r : AV} {s' : St} (h : exAppendR s sz bytes a x = some (r, s')) :
    ∃ f : Nat → Option Nat, s'.env = s.env.ren f ∧ s'.k = s.k ∧ ∀ e : Env, exAppendR { s with env := e } sz bytes a x = some (r, { s' with env := e.ren f }) := by
  refine ⟨some, ?_⟩
  unfold exAppendR at h
  cases hel : elemsR s.mem sz x with
  | none => simp [hel] at h
  | some nn =>
    obtain ⟨n, news⟩ := nn
    simp only [hel] at h
    split at h
    · cases h
    · split at h
      · split at h
        · simp only [fresh, Option.some.injEq, Prod.mk.injEq] at h
          obtain ⟨rfl, rfl⟩ := h
          exact ⟨(env_ren_some _).symm, rfl, fun e => by simp [exAppendR, hel, env_ren_some, fresh, *]⟩
        · cases h
      · split at h
        · rename_i hsz
          subst hsz
          split at h
          · split at h
            · simp only [Option.some.injEq, Prod.mk.injEq] at h
              obtain ⟨rfl, rfl⟩ := h
              exact ⟨(env_ren_some _).symm, rfl, fun e => by simp [exAppendR, hel, env_ren_some, *]⟩
            · cases h
          · cases h
        · cases h
      · split at h
        · rename_i hsz
          obtain ⟨rfl, hroom⟩ := hsz
          split at h
          · split at h
            · simp only [Option.some.injEq, Prod.mk.injEq] at h
              obtain ⟨rfl, rfl⟩ := h
              exact ⟨(env_ren_some _).symm, rfl, fun e => by simp [exAppendR, hel, env_ren_some, *]⟩
            · cases h
          · cases h
        · cases h
      · cases h
theorem appendX_env {s : St} {sz bytes : Nat} {a x r : AV} {s' : St} (h : exAppendX s sz bytes a x = some (r, s')) :
    ∃ f : Nat → Option Nat, s'.env = s.env.ren f ∧ s'.k = s.k ∧ ∀ e : Env, exAppendX { s with env := e } sz bytes a x = some (r, { s' with env := e.ren f }) := by
  unfold exAppendX at h
  split at h
  · rename_i q hq
    cases h
    obtain ⟨f, h1, h2, h3⟩ := append_env hq
    exact ⟨f, h1, h2, fun e => by simp only [exAppendX, h3 e]⟩
  · rename_i hq
    obtain ⟨f, h1, h2, h3⟩ := appendR_env h
    refine ⟨f, h1, h2, fun e => ?_⟩
    have hn : exAppend { s with env := e } sz bytes a x = none := by
      cases hc : exAppend { s with env := e } sz bytes a x with
      | none => rfl
      | some q =>
        obtain ⟨q1, q2⟩ := q
        obtain ⟨_, _, _, h4⟩ := append_env hc
        have := h4 s.env
        rw [show ({ ({ s with env := e } : St) with env := s.env } : St) = s from rfl, hq] at this
        cases this
    simp only [exAppendX, hn, h3 e]
theorem appendK_env {s : St} {sz bytes : Nat} {a x r : AV} {s' : St} (h : exAppendK s sz bytes a x = some (r, s')) :
    ∃ f : Nat → Option Nat, s'.env = s.env.ren f ∧ s'.k = s.k ∧ ∀ e : Env, exAppendK { s with env := e } sz bytes a x = some (r, { s' with env := e.ren f }) := by
  unfold exAppendK at h
  split at h
  · refine ⟨some, ?_⟩
    split at h
    · split at h
      · cases h
      · split at h
        · split at h
          · simp only [Option.some.injEq, Prod.mk.injEq] at h
            obtain ⟨rfl, rfl⟩ := h
            exact ⟨(env_ren_some _).symm, rfl, fun e => by simp [exAppendK, env_ren_some, *]⟩
          · cases h
        · split at h
          · simp only [Option.some.injEq, Prod.mk.injEq] at h
            obtain ⟨rfl, rfl⟩ := h
            exact ⟨(env_ren_some _).symm, rfl, fun e => by simp [exAppendK, env_ren_some, *]⟩
          · cases h
        · cases h
    · cases h
  · rename_i hno
    obtain ⟨f, h1, h2, h3⟩ := append_env h
    refine ⟨f, h1, h2, fun e => ?_⟩
    unfold exAppendK
    split
    · exact absurd rfl (hno _ _ _)
    · exact h3 e
theorem share_env {call : Calls'} {s : St} {fn : Nat} {args : List AV} {r : AV} {s' : St} (h : exShare call s fn args = some (r, s')) :
    ∃ f : Nat → Option Nat, s'.env = s.env.ren f ∧ s'.k = s.k ∧ ∀ e : Env, exShare call { s with env := e } fn args = some (r, { s' with env := e.ren f }) := by
  unfold exShare at h
  dsimp only at h
  split at h
  · cases h
  · rename_i hok
    split at h
    · cases h
    · rename_i rv mc hc
      simp only [Option.some.injEq, Prod.mk.injEq] at h
      obtain ⟨rfl, rfl⟩ := h
      refine ⟨_, rfl, rfl, fun e => ?_⟩
      unfold exShare
      dsimp only
      rw [if_neg hok]
      simp only [hc]
      rfl
theorem st_eq {s t : St} (hm : t.mem = s.mem) (hk : t.k = s.k) : t = { s with env := t.env } := by cases t; cases s; cases hm; cases hk; rfl
theorem tail_congr {call : Calls'} {x : XOp} (hc : tailOp x = true) {s t : St} (hm : t.mem = s.mem) (hk : t.k = s.k) (he : ∀ n ∈ x.takes, t.env.get n = s.env.get n) {r : AV} {s' : St} (h : exOp call s x = some (r, s')) :
    ∃ f : Nat → Option Nat, s'.env = s.env.ren f ∧ s'.k = s.k ∧ exOp call t x = some (r, { s' with env := t.env.ren f }) := by
  have calm : calmOp x = true → (∀ n ∈ x.reads, t.env.get n = s.env.get n) → ∃ f : Nat → Option Nat, s'.env = s.env.ren f ∧ s'.k = s.k ∧ exOp call t x = some (r, { s' with env := t.env.ren f }) := by
    intro hcalm hr
    obtain ⟨rfl, h2, _⟩ := calm_congr (K := fun _ => True) hcalm (t := t) ⟨fun _ _ => by rw [hm], fun _ _ _ _ _ _ => trivial⟩ hr (fun _ _ _ _ => trivial) h
    refine ⟨some, (env_ren_some _).symm, rfl, ?_⟩
    rw [h2, env_ren_some, ← st_eq hm hk]
  have e1 : ∀ y, (∀ n ∈ srcTmp y, n ∈ x.takes) → t.env.ev y = s.env.ev y := fun y hy => ev_congr fun n hn => he n (hy n hn)
  unfold tailOp at hc
  split at hc
  · rename_i n a y
    have ha := e1 a (by simp [XOp.takes]; intros; simp [*])
    have hy := e1 y (by simp [XOp.takes]; intros; simp [*])
    refine ⟨some, ?_⟩
    simp only [exOp, ha, hy, hm] at h ⊢
    clear calm e1
    split at h
    · split at h
      · simp only [Option.map_eq_some_iff, Prod.mk.injEq] at h
        obtain ⟨m, hm', rfl, rfl⟩ := h
        refine ⟨(env_ren_some _).symm, rfl, ?_⟩
        simp only [*, if_true, Option.map_some, env_ren_some]
      · cases h
    · cases h
  · rename_i n b a y
    have ha := e1 a (by simp [XOp.takes]; intros; simp [*])
    have hy := e1 y (by simp [XOp.takes]; intros; simp [*])
    simp only [exOp, ha, hy] at h ⊢
    obtain ⟨f, h1, h2, h3⟩ := appendX_env h
    exact ⟨f, h1, h2, by rw [st_eq hm hk]; exact h3 t.env⟩
  · rename_i n b a y
    have ha := e1 a (by simp [XOp.takes]; intros; simp [*])
    have hy := e1 y (by simp [XOp.takes]; intros; simp [*])
    simp only [exOp, ha, hy] at h ⊢
    obtain ⟨f, h1, h2, h3⟩ := appendK_env h
    exact ⟨f, h1, h2, by rw [st_eq hm hk]; exact h3 t.env⟩
  · rename_i g l
    have hg := e1 g (by simp [XOp.takes]; intros; simp [*])
    have hl : l.map t.env.ev = l.map s.env.ev := evL_congr fun n hn => he n (by simp only [XOp.takes]; exact List.mem_append.2 (.inr hn))
    simp only [exOp, hg, hl] at h ⊢
    clear calm e1
    split at h
    · obtain ⟨f, h1, h2, h3⟩ := share_env h
      refine ⟨f, h1, h2, ?_⟩
      have h4 := h3 t.env
      rw [← st_eq hm hk] at h4
      simp only [*]
    · obtain ⟨f, h1, h2, h3⟩ := share_env h
      refine ⟨f, h1, h2, ?_⟩
      have h4 := h3 t.env
      rw [← st_eq hm hk] at h4
      simp only [*]
    · cases h
  · rename_i kd m k v
    have h1 := e1 m (by simp [XOp.takes]; intros; simp [*])
    have h2 := e1 k (by simp [XOp.takes]; intros; simp [*])
    have h3 := e1 v (by simp [XOp.takes]; intros; simp [*])
    refine ⟨some, ?_⟩
    simp only [exOp, h1, h2, h3, hm] at h ⊢
    clear calm e1
    split at h
    · split at h
      · split at h
        · split at h
          · cases h
            refine ⟨(env_ren_some _).symm, rfl, ?_⟩
            simp only [*, if_true, env_ren_some]
          · cases h
            refine ⟨(env_ren_some _).symm, rfl, ?_⟩
            simp only [*, if_true, env_ren_some]
          · cases h
        · cases h
      · cases h
    · cases h
  · rename_i fn l
    have hl : l.map t.env.ev = l.map s.env.ev := evL_congr fun n hn => he n (by simp only [XOp.takes, XOp.reads]; exact hn)
    simp only [exOp, hl] at h ⊢
    obtain ⟨f, h1, h2, h3⟩ := share_env h
    exact ⟨f, h1, h2, by rw [st_eq hm hk]; exact h3 t.env⟩
  · refine calm hc fun n hn => he n ?_
    unfold XOp.takes
    split <;> first | exact hn | (cases hc; done) | (rename_i hx _; simp [XOp.reads] at hn)
theorem ren_id1 (v : AV) : v.ren some = v := ren_some v
theorem tail_one {call : Calls'} {x : XO} (hc : tailOp x.op = true) {s t : St} (hm : t.mem = s.mem) (hk : t.k = s.k) (he : ∀ n ∈ x.takes, t.env.get n = s.env.get n) {s' : St} (h : exOne call s x = some s') :
    ∃ (f : Nat → Option Nat) (v : AV) (t' : St), exOne call t x = some t' ∧ t'.mem = s'.mem ∧ t'.k = s'.k ∧ s'.k = s.k ∧ (∀ u, s'.env.get u = if x.dst = some u then v else (s.env.get u).ren f) ∧ ∀ u, t'.env.get u = if x.dst = some u then v else (t.env.get u).ren f := by
  have r1 : ∀ n ∈ x.op.takes, n ∈ x.takes := fun n hn => List.mem_append.2 (.inl hn)
  have r3 : ∀ u b, x.guard = some (u, b) → u ∈ x.takes := fun u b hg => List.mem_append.2 (.inr (by simp [hg]))
  rcases exOne_bind h with ⟨v, s1, hx, rfl, hg⟩ | ⟨rfl, u, b, hg, hcc⟩
  · obtain ⟨f, h1, h2, h3⟩ := tail_congr hc hm hk (fun n hn => he n (r1 n hn)) hx
    have hbm : ∀ (u : St), (u.bind x.dst v).mem = u.mem := fun u => by cases x.dst <;> rfl
    have hbk : ∀ (u : St), (u.bind x.dst v).k = u.k := fun u => by cases x.dst <;> rfl
    refine ⟨f, v, ({ s1 with env := t.env.ren f } : St).bind x.dst v, ?_, by rw [hbm, hbm], by rw [hbk, hbk], by rw [hbk, h2], fun u => by rw [bind_get, h1, env_ren_get], fun u => by rw [bind_get, env_ren_get]⟩
    unfold exOne
    rcases hg with hg | ⟨u, b, hg, hcc⟩
    · simp only [hg, h3, Option.map_some]; cases x.dst <;> rfl
    · have : t.env.get u = .imm (.val (.bool b)) := by rw [he u (r3 u b hg)]; exact hcc
      simp only [hg, this, h3, Option.map_some, if_true]; cases x.dst <;> rfl
  · have hbm : ∀ (u : St), (u.bind x.dst (.tup [])).mem = u.mem := fun u => by cases x.dst <;> rfl
    have hbk : ∀ (u : St), (u.bind x.dst (.tup [])).k = u.k := fun u => by cases x.dst <;> rfl
    refine ⟨some, .tup [], t.bind x.dst (.tup []), ?_, by rw [hbm, hbm, hm], by rw [hbk, hbk, hk], by rw [hbk], fun u => by rw [bind_get, ren_id1], fun u => by rw [bind_get, ren_id1]⟩
    unfold exOne
    rcases hcc with ⟨c, hcc, hne⟩ | hcc
    · have : t.env.get u = .imm (.val (.bool c)) := by rw [he u (r3 u b hg)]; exact hcc
      simp only [hg, this, hne, if_false]
      cases x.dst <;> rfl
    · have : t.env.get u = .tup [] := by rw [he u (r3 u b hg)]; exact hcc
      simp only [hg, this]
      cases x.dst <;> rfl
section
variable {num : Names} {P : Program}
variable {call : Calls'} {N : Nat} {ops : Array Oper} {xs : List XO} {n : Nat} {s0 sF : St} {S : Nat → St}
theorem late_spec {i : Nat} (h : lateB ops xs n i = true) : ∃ (x : XO) (y d : Nat), xs[i]? = some x ∧ x.op = .mv (.t y) ∧ x.dst = some d ∧ x.guard = none ∧ y ≠ d ∧
    ∀ (j : Nat) z, n ≤ j → xs[j]? = some z → z.dst ≠ some d ∧ z.dst ≠ some y ∧ (d ∈ z.takes → Region.waitsFor .any ops j i = true) := by
  unfold lateB at h
  split at h
  · rename_i x hx
    split at h
    · rename_i y d hop hd hg
      simp only [Bool.and_eq_true, bne_iff_ne, ne_eq, List.all_eq_true, List.mem_range, Bool.or_eq_true, decide_eq_true_eq] at h
      obtain ⟨hyd, hall⟩ := h
      refine ⟨x, y, d, hx, hop, hd, hg, hyd, fun j z hj hz => ?_⟩
      have hjl : j < xs.length := (List.getElem?_eq_some_iff.1 hz).1
      rcases hall j hjl with h | h
      · omega
      · rw [hz] at h
        simp only [Bool.and_eq_true, bne_iff_ne, ne_eq, Bool.or_eq_true, Bool.not_eq_true', List.contains_eq_mem, decide_eq_false_iff_not] at h
        obtain ⟨h1, h2, h3⟩ := h
        refine ⟨h1, h2, fun hd => ?_⟩
        rcases h3 with h3 | h3
        · exact absurd hd h3
        · exact h3
    · cases h
  · cases h
structure Floats (ops : Array Oper) (xs : List XO) (n : Nat) : Prop where
  strong : ∀ (j : Nat) z, n ≤ j → xs[j]? = some z → tailOp z.op = true
  sink : ∀ i, i < n → lateB ops xs n i = false → ∃ j, j ≤ n ∧ i < j ∧ Region.waitsFor .any ops j i = true ∧ (j = n ∨ lateB ops xs n j = false)
  lt : n < ops.size
  chain : Region.chainB .any ops n = true
  low : ∀ (i : Nat) o, ops[i]? = some o → ∀ e ∈ o.after, Region.binds .any e = true → e.on < i
theorem chain_spec (h : Region.chainB .any ops n = true) {t : Nat} (hn : n < t) (ht : t < ops.size) : Region.waitsFor .any ops t (t - 1) = true := by
  have := List.all_eq_true.1 h t (List.mem_range.2 ht)
  simp only [Bool.or_eq_true, decide_eq_true_eq] at this
  rcases this with h | h
  · omega
  · exact h
theorem Floats.waits (fl : Floats ops xs n) {listed : Array Bool} (inv : HeadInv .any ops n listed) : ∀ (d i : Nat), n - i = d → i < n → lateB ops xs n i = false → listed.getD i true = false → ∀ t, n ≤ t → t ∉ Region.ready .any ops listed := by
  intro d
  induction d using Nat.strongRecOn with
  | _ d ih =>
    intro i hd hi hlate hun t ht hr
    have htlt : t < ops.size := by
      obtain ⟨_, ot, hot, _⟩ := mem_ready.1 hr
      exact (Array.getElem?_eq_some_iff.1 hot).1
    by_cases htn : t = n
    · subst htn
      obtain ⟨j, hj1, hj2, hw, hj3⟩ := fl.sink i hi hlate
      by_cases hjt : j = t
      · subst hjt
        have := ready_waits hr hw
        rw [getD_both hun] at this; cases this
      · have hjl : lateB ops xs t j = false := by rcases hj3 with h | h; exact absurd h hjt; exact h
        cases hl : listed.getD j false with
        | true =>
          obtain ⟨oj, hoj, e, he, hb, hon⟩ := Region.waitsFor_spec hw
          have h2 := inv.closed j oj hoj hl e he hb
          rw [hon, getD_both hun] at h2
          cases h2
        | false =>
          have hjs : j < listed.size := by rw [inv.size]; omega
          exact ih (t - j) (by omega) j rfl (by omega) hjl (getD_in hjs hl) t (Nat.le_refl _) hr
    · have := ready_waits hr (chain_spec fl.chain (by omega) htlt)
      rw [getD_both (inv.tail (t - 1) (by omega) (by omega))] at this
      cases this
theorem Floats.ready_some (fl : Floats ops xs n) {listed : Array Bool} (hsz : listed.size = ops.size) (hl : left ops.size listed ≠ 0) : Region.ready .any ops listed ≠ [] := by
  have hex : ∃ i, i < ops.size ∧ listed.getD i true = false := by
    obtain ⟨i, hi, h⟩ := List.countP_pos_iff.1 (Nat.pos_of_ne_zero hl)
    exact ⟨i, List.mem_range.1 hi, by simpa using h⟩
  have : ∃ i, (i < ops.size ∧ listed.getD i true = false) ∧ ∀ j, j < i → ¬ (j < ops.size ∧ listed.getD j true = false) := by
    obtain ⟨i, hi⟩ := hex
    induction i using Nat.strongRecOn with
    | _ i ih =>
      by_cases h : ∃ j, j < i ∧ (j < ops.size ∧ listed.getD j true = false)
      · obtain ⟨j, h1, h2⟩ := h; exact ih j h1 h2
      · exact ⟨i, hi, fun j hj h' => h ⟨j, hj, h'⟩⟩
  obtain ⟨i, ⟨hi, hl⟩, hmin⟩ := this
  have ho : ops[i]? = some ops[i] := Array.getElem?_eq_getElem hi
  have : i ∈ Region.ready .any ops listed := by
    refine mem_ready.2 ⟨hl, _, ho, fun e he hb => ?_⟩
    have h1 := fl.low i _ ho e he hb
    have h2 : listed.getD e.on true = true := by
      cases h3 : listed.getD e.on true with
      | true => rfl
      | false => exact absurd ⟨by omega, h3⟩ (hmin e.on h1)
    have h4 : e.on < listed.size := by omega
    simp [h4] at h2 ⊢; exact h2
  intro h
  rw [h] at this; cases this
structure Behind (ops : Array Oper) (xs : List XO) (n : Nat) (S : Nat → St) (listed : Array Bool) (t : St) (k : Nat) : Prop where
  lo : n ≤ k
  hi : k ≤ ops.size
  size : listed.size = ops.size
  head : ∀ i, i < n → lateB ops xs n i = false → listed.getD i true = true
  done : ∀ i, n ≤ i → i < k → listed.getD i true = true
  todo : ∀ i, k ≤ i → i < ops.size → listed.getD i true = false
  mem : t.mem = (S k).mem
  kk : t.k = (S k).k
  env : ∀ u, (∀ (i : Nat) x, i < n → lateB ops xs n i = true → xs[i]? = some x → x.dst = some u → listed.getD i true = true) → t.env.get u = (S k).env.get u
theorem Drawn.moved (d : Drawn call P num N ops xs n s0 sF S) (fl : Floats ops xs n) {i : Nat} (hi : i < n) {x : XO} {y dd : Nat} (hx : xs[i]? = some x) (hop : x.op = .mv (.t y)) (hd : x.dst = some dd) (hg : x.guard = none) (hyd : y ≠ dd)
    (hno : ∀ (j : Nat) z, n ≤ j → xs[j]? = some z → z.dst ≠ some dd ∧ z.dst ≠ some y) : ∀ k, n ≤ k → k ≤ ops.size → (S k).env.get dd = (S k).env.get y := by
  intro k
  induction k with
  | zero => intro h1 _; omega
  | succ k ih =>
    intro h1 h2
    rcases Nat.lt_or_ge k n with hk | hk
    · have hkn : k + 1 = n := by omega
      rw [hkn]
      have h3 : (S (i + 1)).env.get dd = (S i).env.get y ∧ (S (i + 1)).env.get y = (S i).env.get y := by
        have := d.step i x hi hx
        simp only [exOne, hg, hop, exOp, Option.map_some, hd, Option.some.injEq] at this
        rw [← this]
        simp [Env.get, Env.ev, hyd, Ne.symm hyd]
      have h4 : (S n).env.get dd = (S (i + 1)).env.get dd := d.get dd (i + 1) n (by omega) (Nat.le_refl _) fun j z h5 h6 h7 => by
        rcases (d.one j i z x dd h6 hi h7 hx hd).1 with h | h
        · omega
        · exact h
      have h5 : (S n).env.get y = (S (i + 1)).env.get y := d.get y (i + 1) n (by omega) (Nat.le_refl _) fun j z h5 h6 h7 hz => by
        have := (d.one i j x z y hi h6 hx h7 hz).2 (by simp [XO.reads, hop, XOp.reads, srcTmp])
        omega
      rw [h4, h5, h3.1, h3.2]
    · have ih' := ih hk (by omega)
      have hkl : k < xs.length := by rw [d.len]; omega
      have hz : xs[k]? = some xs[k] := List.getElem?_eq_getElem hkl
      obtain ⟨f, v, t', _, _, _, _, h6, _⟩ := tail_one (fl.strong k _ hk hz) rfl rfl (fun _ _ => rfl) (d.go k _ hz)
      obtain ⟨h7, h8⟩ := hno k _ hk hz
      rw [h6, h6, if_neg h7, if_neg h8, ih']
theorem Drawn.behind {ro : Option Nat} (d : Drawn call P num N ops xs n s0 sF S) (fl : Floats ops xs n) (hcall : CallOK num P call) {Q : Exit → Act → World → Prop} {k0 : Nat} {C : Cx} {m : Mem} {a0 : Act} (hN : N ≤ a0.tmps.size) (hQ : ∀ D a', Later num k0 C m a0 D sF a' → Q .normal a' D.w) :
    ∀ (c : Nat) (listed : Array Bool) (a : Act) (D : Cx) (t : St) (k : Nat), left ops.size listed = c → Behind ops xs n S listed t k → Later num k0 C m a0 D t a → wpAnyIn (fz ro) 0 P .any ops Q c listed a D.w := by
  intro c
  induction c with
  | zero =>
    intro listed a D t k hl b hlat
    have hall : ∀ i, i < ops.size → listed.getD i true = true := by
      intro i hi
      cases h : listed.getD i true with
      | true => rfl
      | false =>
        have := List.countP_eq_zero.1 hl i (List.mem_range.2 hi)
        simp [h] at this
    have hk : k = ops.size := by
      rcases Nat.lt_or_ge k ops.size with h | h
      · have := b.todo k (Nat.le_refl _) h
        rw [hall k h] at this; cases this
      · have := b.hi; omega
    subst hk
    refine ⟨?_, ?_⟩
    · rw [List.eq_nil_iff_forall_not_mem]
      intro i hi
      obtain ⟨h1, o, ho, _⟩ := mem_ready.1 hi
      rw [hall i (Array.getElem?_eq_some_iff.1 ho).1] at h1; cases h1
    · have hfin : S ops.size = sF := by rw [← d.len]; exact d.fin
      have henv : ∀ u, t.env.get u = sF.env.get u := fun u => by rw [← hfin]; exact b.env u fun i x hi _ _ _ => hall i (by have := d.hn; omega)
      have hmem := b.mem
      have hkk := b.kk
      rw [hfin] at hmem hkk
      exact hQ D a ⟨⟨by rw [← hmem]; exact hlat.rep.mem, fun u => by rw [← henv]; exact hlat.rep.env u, by rw [← hmem, ← hkk]; exact hlat.rep.k⟩, by rw [← hmem]; exact hlat.step, by rw [← hkk]; exact hlat.k, hlat.size, hlat.marks⟩
  | succ c ih =>
    intro listed a D t k hl b hlat
    refine ⟨fun h => absurd h (fl.ready_some b.size (by omega)), fun i hi => ?_⟩
    obtain ⟨hun, oi, hoi, _⟩ := mem_ready.1 hi
    have hisz : i < ops.size := (Array.getElem?_eq_some_iff.1 hoi).1
    obtain ⟨x, hx, htr⟩ := d.tr i oi hoi
    have hleft : left ops.size (listed.setIfInBounds i true) = c := by have := left_set hisz hun; omega
    rcases Nat.lt_or_ge i n with hin | hin
    ·
      have hlate : lateB ops xs n i = true := by
        cases h : lateB ops xs n i with
        | true => rfl
        | false => rw [b.head i hin h] at hun; cases hun
      obtain ⟨x', y, dd, hx', hop, hd, hg, hyd, hno⟩ := late_spec hlate
      rw [hx] at hx'
      cases hx'
      have hy : t.env.get y = (S k).env.get y := b.env y fun j z hj hlj hz hzd => by
        have := (d.one i j x z y hin hj hx hz hzd).2 (by simp [XO.reads, hop, XOp.reads, srcTmp])
        have h2 := ready_waits hi this.2
        exact getD_up h2
      have h1 : exOne call t x = some (t.bind (some dd) (t.env.get y)) := by
        simp only [exOne, hg, hop, exOp, Option.map_some, hd]
        rfl
      unfold wpOpIn
      simp only [hoi]
      refine one_wp hcall htr hlat.rep (by rw [hlat.size]; exact hN) h1 fun E a' hl' => ?_
      rw [hlat.k] at hl'
      refine ih _ a' E _ k hleft ?_ (hlat.trans hl')
      refine ⟨b.lo, b.hi, by simp [b.size], fun j hj hjl => ?_, fun j h2 h3 => ?_, fun j h2 h3 => ?_, b.mem, b.kk, fun u hu => ?_⟩
      · have h4 := b.head j hj hjl
        by_cases hij : i = j
        · subst hij; rw [hlate] at hjl; cases hjl
        · rw [getD_set_ne true hij]; exact h4
      · rw [getD_set_ne true (by omega)]; exact b.done j h2 h3
      · rw [getD_set_ne true (by have := b.lo; omega)]; exact b.todo j h2 h3
      · rw [bind_get]
        by_cases hud : u = dd
        · subst hud
          rw [if_pos rfl, hy]
          exact (d.moved fl hin hx hop hd hg hyd (fun j z hj hz => ⟨(hno j z hj hz).1, (hno j z hj hz).2.1⟩) k b.lo b.hi).symm
        · rw [if_neg (by intro h; cases h; exact hud rfl)]
          refine b.env u fun j z hj hlj hz hzd => ?_
          have h5 := hu j z hj hlj hz hzd
          by_cases hij : i = j
          · subst hij
            rw [hx] at hz; cases hz
            rw [hd] at hzd; cases hzd
            exact absurd rfl hud
          · rw [getD_set_ne true hij] at h5; exact h5
    ·
      have hik : i = k := by
        rcases Nat.lt_trichotomy i k with h | h | h
        · rw [b.done i hin h] at hun; cases hun
        · exact h
        · have := ready_waits hi (chain_spec fl.chain (by have := b.lo; omega) hisz)
          rw [getD_both (b.todo (i - 1) (by omega) (by omega))] at this
          cases this
      subst hik
      have hst := d.go i x hx
      have htail := fl.strong i x hin hx
      obtain ⟨f, v, t', h1, h2, h3, h4, h5, h6⟩ := tail_one htail b.mem b.kk (fun u hu => b.env u fun j z hj hlj hz hzd => by
        obtain ⟨z', y, dd, hz', hop, hd, hg, hyd, hno⟩ := late_spec hlj
        rw [hz] at hz'
        cases hz'
        rw [hzd] at hd
        cases hd
        exact getD_up (ready_waits hi ((hno i x hin hx).2.2 hu))) hst
      unfold wpOpIn
      simp only [hoi]
      refine one_wp hcall htr hlat.rep (by rw [hlat.size]; exact hN) h1 fun E a' hl' => ?_
      rw [hlat.k] at hl'
      refine ih _ a' E _ (i + 1) hleft ?_ (hlat.trans hl')
      refine ⟨by omega, by omega, by simp [b.size], fun j hj hjl => ?_, fun j h7 h8 => ?_, fun j h7 h8 => ?_, h2, h3, fun u hu => ?_⟩
      · rw [getD_set_ne true (by omega)]; exact b.head j hj hjl
      · by_cases hij : i = j
        · subst hij; simp [b.size, hisz]
        · rw [getD_set_ne true hij]; exact b.done j h7 (by omega)
      · rw [getD_set_ne true (by omega)]; exact b.todo j (by omega) h8
      · rw [h5, h6]
        by_cases hud : x.dst = some u
        · rw [if_pos hud, if_pos hud]
        · rw [if_neg hud, if_neg hud, b.env u fun j z hj hlj hz hzd => ?_]
          have h9 := hu j z hj hlj hz hzd
          rwa [getD_set_ne true (by omega)] at h9
theorem Drawn.late {ro : Option Nat} (d : Drawn call P num N ops xs n s0 sF S) (fl : Floats ops xs n) (hcall : CallOK num P call) {Q : Exit → Act → World → Prop} {k0 : Nat} {C : Cx} {m : Mem} {a0 : Act} (hN : N ≤ a0.tmps.size) (hQ : ∀ D a', Later num k0 C m a0 D sF a' → Q .normal a' D.w) :
    ∀ (c : Nat) (listed : Array Bool) (a : Act) (D : Cx) (t : St), left ops.size listed = c → HeadInv .any ops n listed → Part xs n S listed t → Later num k0 C m a0 D t a → wpAnyIn (fz ro) 0 P .any ops Q c listed a D.w := by
  intro c
  induction c with
  | zero =>
    intro listed a D t hl inv p hlat
    have := List.countP_eq_zero.1 hl n (List.mem_range.2 fl.lt)
    rw [inv.tail n (Nat.le_refl _) fl.lt] at this
    simp at this
  | succ c ih =>
    intro listed a D t hl inv p hlat
    by_cases hall : ∀ i, i < n → lateB ops xs n i = false → listed.getD i true = true
    ·
      refine d.behind fl hcall hN hQ (c + 1) listed a D t n hl ⟨Nat.le_refl _, d.hn, inv.size, hall, fun i h1 h2 => by omega, inv.tail, ?_, p.k.trans (d.pre 0 n (Nat.zero_le _) (Nat.le_refl _)).2.2.symm, fun u hu => ?_⟩ hlat
      · refine List.ext_getElem? fun id => ?_
        rcases Nat.lt_or_ge id (S n).mem.length with h | h
        · refine p.live id h fun j hj h1 h2 => ?_
          cases hlj : lateB ops xs n j with
          | false => exact hall j hj hlj
          | true =>
            obtain ⟨x, y, dd, hx, hop, hd, hg, _⟩ := late_spec hlj
            have := d.step j x hj hx
            simp only [exOne, hg, hop, exOp, Option.map_some, hd, Option.some.injEq] at this
            rw [← this] at h2
            exact absurd h2 (by show ¬ id < (S j).mem.length; omega)
        · rw [List.getElem?_eq_none h, List.getElem?_eq_none (by rw [p.len]; exact h)]
      · by_cases hw : ∃ (j : Nat) (y : XO), j < n ∧ xs[j]? = some y ∧ y.dst = some u
        · obtain ⟨j, y, hj, hy, hd⟩ := hw
          have hlj : listed.getD j true = true := by
            cases hl : lateB ops xs n j with
            | false => exact hall j hj hl
            | true => exact hu j y hj hl hy hd
          rw [(p.done j y u hj hy hd hlj).1]
          exact (d.get u (j + 1) n (by omega) (Nat.le_refl _) fun k z h5 h6 h7 => by
            rcases (d.one k j z y u h6 hj h7 hy hd).1 with h | h
            · omega
            · exact h).symm
        · rw [(p.not u fun j y h1 h2 h3 => absurd ⟨j, y, h1, h2, h3⟩ hw).1]
          exact (d.get u 0 n (Nat.zero_le _) (Nat.le_refl _) fun k z _ h6 h7 h8 => hw ⟨k, z, h6, h7, h8⟩).symm
    · have hex : ∃ j, j < n ∧ lateB ops xs n j = false ∧ listed.getD j true = false := by
        apply Classical.byContradiction
        intro hne
        apply hall
        intro i hi hli
        cases h : listed.getD i true with
        | true => rfl
        | false => exact absurd ⟨i, hi, hli, h⟩ hne
      obtain ⟨j, hj, hlj, hjun⟩ := hex
      refine ⟨fun h => absurd h (fl.ready_some inv.size (by omega)), fun i hi => ?_⟩
      obtain ⟨hun, oi, hoi, _⟩ := mem_ready.1 hi
      have hisz : i < ops.size := (Array.getElem?_eq_some_iff.1 hoi).1
      have hin : i < n := by
        rcases Nat.lt_or_ge i n with h | h
        · exact h
        · exact absurd hi (fl.waits inv _ j rfl hj hlj hjun i h)
      obtain ⟨x, hx, htr⟩ := d.tr i oi hoi
      obtain ⟨t1, h1, hnext⟩ := d.part_step hcall p hin hi hx (trOper_spec htr).1 hlat.rep
      unfold wpOpIn
      simp only [hoi]
      refine one_wp hcall htr hlat.rep (by rw [hlat.size]; exact hN) h1 fun E a' hl' => ?_
      obtain ⟨t2, F, hw, hl2, p2⟩ := hnext E a' hl'.rep
      rw [← hw]
      refine ih _ a' F t2 (by have := left_set hisz hun; omega) (inv.set hi hin) p2 ?_
      rw [hlat.k] at hl'
      rw [hl'.k] at hl2
      exact (hlat.trans hl').trans hl2
end
section
variable {num : Names} {P : Program}
theorem region_wp {ro : Option Nat} {call : Calls'} (hcall : CallOK num P call) (hmix : P.follows .mixedOrders = true) {N id : Nat} {ops : Array Oper} {draw : Bool} {keep : List Nat} {xs : List XO} (htr : trOps P num N ops ops.toList = xs.map XO.wipe) (hd : drawsOk (.region id ops draw) (.region keep xs) = true) {C : Cx} {s s' : St} {a : Act} (hs : SRep num C s a) (hN : N ≤ a.tmps.size) (h : exOps call s xs = some s')
    {Q : Exit → Act → World → Prop} (hQ : ∀ D a', Later num s.k C s.mem a D s' a' → Q .normal a' D.w) : (Code.region id ops draw).wpIn (fz ro) 0 P Q a C.w := by
  cases draw with
  | false => exact wpIn_region_list (list_wp hcall ops.toList xs htr hs hN h hQ)
  | true =>
    simp only [drawsOk, Bool.and_eq_true, beq_iff_eq, List.any_eq_true] at hd
    obtain ⟨⟨n, hn, hok⟩, hlen⟩ := hd
    rw [Bool.or_eq_true] at hok
    rcases hok with hok | hok
    case inr =>
      simp only [drawOkL, Bool.and_eq_true] at hok
      obtain ⟨⟨⟨⟨⟨⟨k1, k2⟩, k3⟩, k4⟩, k5⟩, k6⟩, k7⟩ := hok
      simp only [decide_eq_true_eq] at k6
      obtain ⟨S, d⟩ := drawn_of (call := call) (s0 := s) htr hlen k1 k2 k3 (by omega) h
      have fl : Floats ops xs n := by
        refine ⟨fun j z hj hz => ?_, fun i hi hli => ?_, k6.1, k6.2, fun i o ho e he hb => ?_⟩
        · refine List.all_eq_true.1 k4 z (List.mem_of_getElem? (i := j - n) ?_)
          rw [List.getElem?_drop, ← hz]
          congr 1; omega
        · have := List.all_eq_true.1 k5 i (List.mem_range.2 hi)
          rw [hli, Bool.false_or] at this
          obtain ⟨j, hj, h2⟩ := List.any_eq_true.1 this
          simp only [Bool.and_eq_true, decide_eq_true_eq, Bool.or_eq_true, beq_iff_eq, Bool.not_eq_true'] at h2
          exact ⟨j, by have := List.mem_range.1 hj; omega, h2.1, h2.2.1, h2.2.2⟩
        · have := List.all_eq_true.1 k7 i (List.mem_range.2 (Array.getElem?_eq_some_iff.1 ho).1)
          simp only [ho] at this
          have := Array.all_eq_true_iff_forall_mem.1 this e he
          simpa [hb] using this
      refine wpIn_region_any hmix ?_
      have h0 := draw_later hs
      have h1 := room_later h0.rep ((S n).mem.length - s.mem.length)
      exact d.late fl hcall (Q := Q) (k0 := s.k) (C := C) (m := s.mem) (a0 := a) hN hQ ops.size (Array.replicate ops.size false) a _ _ (replicate_left ops.size ops.size (Nat.le_refl _))
        ⟨by simp, fun j oj _ hl => (by rw [getD_replicate_false] at hl; cases hl), fun t ht h2 => getD_in (by simpa using h2) (getD_replicate_false _ _)⟩
        (d.start h0.rep) (h0.trans h1)
    simp only [drawOk, Bool.and_eq_true] at hok
    obtain ⟨⟨⟨⟨k1, k2⟩, k3⟩, k4⟩, k5⟩ := hok
    have htail : n = ops.size ∨ (n < ops.size ∧ Region.sinkB .any ops n = true ∧ Region.chainB .any ops n = true) := by
      simp only [Bool.or_eq_true, beq_iff_eq, Bool.and_eq_true, decide_eq_true_eq] at k4
      rcases k4 with h | ⟨⟨h, h'⟩, h''⟩
      · exact .inl h
      · exact .inr ⟨h, h', h''⟩
    have hn' : n ≤ ops.size := by rcases htail with h | h <;> omega
    obtain ⟨S, d⟩ := drawn_of (call := call) (s0 := s) htr hlen k1 k2 k3 hn' h
    refine wpIn_region_any hmix ?_
    have h0 := draw_later hs
    have h1 := room_later h0.rep ((S n).mem.length - s.mem.length)
    have := d.any (ro := ro) htail k5 hcall (Q := Q) (k := s.k) (C := C) (m := s.mem) (a0 := a) hN hQ n (Array.replicate ops.size false) a _ _ (replicate_left n ops.size hn')
      ⟨by simp, fun j oj _ hl => (by rw [getD_replicate_false] at hl; cases hl), fun t ht h2 => getD_in (by simpa using h2) (getD_replicate_false _ _)⟩
      (d.start h0.rep) (h0.trans h1)
    rw [show n + (ops.size - n) = ops.size by omega] at this
    exact this
end
end Go.EX


set_option linter.unusedVariables false
set_option linter.unusedSimpArgs false
namespace Go.EX
section
variable {num : Names} {P : Program}
theorem wpIn_scope_straight {F : Fence} {n : Nat} {c : Code} {Q : Exit → Act → World → Prop} {a : Act} {w : World} (h : c.wpIn F n P (Exit.noGoto Q) a w) : (Code.scope c).wpIn F n P Q a w := by
  intro b k cs hro hb hr
  obtain ⟨e, a₁, w₁, hq, harr⟩ := h b (.inScope c :: k) cs hro hb hr
  have h0 : (lone (b.atR a (.code (.scope c) :: k)) cs w).fenced P F := fenced_calm hb hr rfl
  have s0 : step P (lone (b.atR a (.code (.scope c) :: k)) cs w) = .next (lone (b.atR a (.code c :: .inScope c :: k)) cs w) := step_lone_go (by simp [stepG, stepG.exec, Frame.atR])
  have s1 : ∀ a w, step P (lone (b.atR a (.inScope c :: k)) cs w) = .next (lone (b.atR a k) cs w) := fun a w => step_lone_go (by simp [stepG, stepG.exec, Frame.atR])
  cases e with
  | normal => exact ⟨.normal, a₁, w₁, hq, .head h0 s0 (StepsIn.trans harr (.one (fenced_calm hb hr rfl) (s1 _ _)))⟩
  | goto l => exact hq.elim
  | exit id => exact ⟨_, a₁, w₁, hq, .of_steps (.one h0 s0) ⟨fun k' hk => harr.1 k' (by simp [exitTo, hk]), fun hr hk => by
      obtain ⟨k₁, h1, h2⟩ := harr.2 hr (by simp [exitTo, hk])
      exact ⟨k₁, h1, h2⟩⟩⟩
  | ret => exact ⟨_, a₁, w₁, hq, .of_steps (.one h0 s0) harr⟩
  | panic ch => exact ⟨_, a₁, w₁, hq, .of_steps (.one h0 s0) harr⟩
  | outgrown => exact ⟨_, a₁, w₁, hq, .of_steps (.one h0 s0) harr⟩
theorem putObj_tr {C : Cx} {b : Nat} {o : Obj} (hI : ¬ C.I b) (hb : ∀ arr e fz, C.w.heap[b]? ≠ some (.cells arr e fz)) : Tr some C { C with w := C.w.putObj b o } := by
  refine ⟨fun _ h => h, fun c hc => ?_, fun i j hi hj => ?_⟩
  · exact World.putObj_heap_other (fun h => hI (by rw [← h]; exact hc))
  · cases hj
    refine ⟨hi, rfl, fun n e h => h.same ?_⟩
    refine World.putObj_heap_other fun heq => ?_
    obtain ⟨arr, fz, h1, _⟩ := h
    rw [heq] at h1
    exact hb _ _ _ h1
theorem loop_step {C : Cx} {m : Mem} (hm : MRep num C m) {id : Nat} {env : Env} {ps : List Nat} {as b : XCode} {y : Bool} (ho : m[id]? = some (.loop env ps as b y)) {ob : Obj} {o' : AObj}
    (ho' : ORep num { C with w := C.w.putObj (C.σ id) ob } id o') (hf : o'.isFix = false) {k : Nat} (hk : k ≤ m.length) : Step num k C m { C with w := C.w.putObj (C.σ id) ob } (m.set id o') := by
  obtain ⟨R, N, hR, _⟩ := hm.obj id _ ho
  have hI : ¬ C.I (C.σ id) := hm.imm _ ⟨id, _, ho, rfl, rfl⟩
  have hc : ∀ arr e fz, C.w.heap[C.σ id]? ≠ some (.cells arr e fz) := fun arr e fz h => by rw [hR] at h; cases h
  have ht := putObj_tr (o := ob) hI hc
  have hlt : id < m.length := (List.getElem?_eq_some_iff.1 ho).1
  have split : ∀ (i : Nat) (p : AObj), (m.set id o')[i]? = some p → (i = id ∧ p = o') ∨ (i ≠ id ∧ m[i]? = some p) := by
    intro i p hp
    rw [set_get] at hp
    split at hp
    · rename_i h; cases hp; exact .inl ⟨h.1.symm, rfl⟩
    · rename_i h
      refine .inr ⟨fun he => h ⟨he.symm, by rw [he]; exact hlt⟩, hp⟩
  have hne : ∀ (i : Nat) (p : AObj), i ≠ id → m[i]? = some p → p.live = true → C.σ i ≠ C.σ id := by
    intro i p hi hp hl he
    exact hi (hm.inj2 num i id p _ hp ho hl rfl rfl he)
  have hown : ∀ c, Own { C with w := C.w.putObj (C.σ id) ob } (m.set id o') c → Own C m c := by
    rintro c ⟨i, p, hp, hl, hb⟩
    rcases split i p hp with ⟨rfl, rfl⟩ | ⟨hi, hp'⟩
    · exact ⟨i, _, ho, rfl, hb⟩
    · exact ⟨i, p, hp', hl, hb⟩
  refine ⟨⟨by simp; exact hm.len, ?_, ?_, fun c hc' => hm.imm c (hown c hc'), fun c hc' => by simp; exact hm.bd c hc', num.up hm.glo ht.imm ht.keep⟩, rfl, rfl, rfl, by simp, ?_, ?_, fun _ h => h, fun _ h => .inl h, fun c hc' => .inr (hown c hc'), ?_, by simp; exact hk⟩
  · intro i p hp
    rcases split i p hp with ⟨rfl, rfl⟩ | ⟨hi, hp'⟩
    · exact ho'
    · by_cases hl : p.live = true
      · exact orep_mono ht rfl (fun x hx => by rw [← hx]; exact World.putObj_heap_other (hne i p hi hp' hl)) (hm.obj i p hp')
      · cases p with
        | dead => trivial
        | _ => exact absurd rfl hl
  · intro i j p q hp hq hlp hlq he
    rcases split i p hp with ⟨rfl, rfl⟩ | ⟨hi, hp'⟩ <;> rcases split j q hq with ⟨rfl, rfl⟩ | ⟨hj, hq'⟩
    · exact .inl rfl
    · exact absurd he.symm (hne j q hj hq' hlq)
    · exact absurd he (hne i p hi hp' hlp)
    · exact hm.inj i j p q hp' hq' hlp hlq he
  · intro c hc' hno
    exact World.putObj_heap_other fun he => hno ⟨id, _, ho, rfl, he.symm⟩
  · intro c n e h
    refine h.same (World.putObj_heap_other fun heq => ?_)
    obtain ⟨arr, fz, h1, _⟩ := h
    rw [heq] at h1
    exact hc _ _ _ h1
  · intro i hi p hp hmv
    rcases split i p hp with ⟨rfl, rfl⟩ | ⟨hi', hp'⟩
    · exact ⟨_, ho, rfl, rfl⟩
    · exact ⟨p, hp', hmv, rfl⟩
theorem putObj_step {C D : Cx} {m m' : Mem} {k : Nat} (hst : Step num k C m D m') {b : Nat} {o : Obj} (hlo : C.w.heap.size ≤ b) (hI : ¬ D.I b) (hb : ∀ arr e fz, D.w.heap[b]? ≠ some (.cells arr e fz)) (hown : ¬ Own D m' b) :
    Step num k C m { D with w := D.w.putObj b o } m' := by
  have ht := putObj_tr (o := o) hI hb
  refine ⟨⟨hst.rep.len, fun i p hp => ?_, hst.rep.inj, hst.rep.imm, fun c hc => by simp; exact hst.rep.bd c hc, num.up hst.rep.glo ht.imm ht.keep⟩, hst.os, hst.tape, hst.out, by simp; exact hst.size, fun c hc hno => ?_, fun c n e h => ?_, hst.imm, hst.imm', hst.own, hst.same, hst.len⟩
  · by_cases hl : p.live = true
    · exact orep_mono ht rfl (fun x hx => by rw [← hx]; exact World.putObj_heap_other fun he => hown ⟨i, p, hp, hl, he⟩) (hst.rep.obj i p hp)
    · cases p with
      | dead => trivial
      | _ => exact absurd rfl hl
  · rw [← hst.keep c hc hno]
    exact World.putObj_heap_other (by omega)
  · have h1 := hst.sz c n e h
    refine h1.same (World.putObj_heap_other fun heq => ?_)
    obtain ⟨arr, fz, h2, _⟩ := h1
    rw [heq] at h2
    exact hb _ _ _ h2
theorem get_mem (e : Env) (t : Nat) : e.get t = .junk ∨ (t, e.get t) ∈ e := by
  induction e with
  | nil => exact .inl rfl
  | cons p r ih =>
    obtain ⟨k, v⟩ := p
    simp only [Env.get]
    by_cases h : t = k
    · subst h; rw [if_pos rfl]; exact .inr (List.mem_cons_self ..)
    · rw [if_neg h]
      rcases ih with ih | ih
      · exact .inl ih
      · exact .inr (List.mem_cons_of_mem _ ih)
theorem erep_of {C : Cx} {e : Env} {tmps : Array Value} (h : ∀ p ∈ e, ARep num C p.2 (tmps.getD p.1 undef)) : ERep num C e tmps := by
  intro t
  rcases get_mem e t with h1 | h1
  · rw [h1]; exact .junk _
  · exact h _ h1
theorem enterAt_rep {C : Cx} : ∀ (ps : List Nat) (xs : List AV) (vs : List Value) {e : Env} {tmps : Array Value}, ERep num C e tmps → (∀ p ∈ ps, p < tmps.size) → xs.length = vs.length →
    (∀ (j : Nat) (x : AV) (u : Value), xs[j]? = some x → vs[j]? = some u → ARep num C x u) → ERep num C (e.enterAt ps xs) ((ps.zip vs).foldl (fun t p => t.setIfInBounds p.1 p.2) tmps)
  | [], xs, vs, e, tmps, he, _, _, _ => by simpa [Env.enterAt] using he
  | p :: ps, [], vs, e, tmps, he, _, hl, _ => by
    obtain rfl : vs = [] := by simpa using hl.symm
    simpa [Env.enterAt] using he
  | p :: ps, x :: xs, [], e, tmps, he, _, hl, _ => by simp at hl
  | p :: ps, x :: xs, v :: vs, e, tmps, he, hp, hl, hr => by
    simp only [Env.enterAt, List.zip_cons_cons, List.foldl_cons]
    refine enterAt_rep ps xs vs (ERep.put (a := { tmps := tmps, defers := [] }) he (hp p (List.mem_cons_self ..)) (hr 0 x v rfl rfl)) (fun q hq => by simpa [Act.put] using hp q (List.mem_cons_of_mem _ hq)) (by simpa using hl) fun j y u hy hu => hr (j + 1) y u (by simpa using hy) (by simpa using hu)
theorem foldl_set_size (l : List (Nat × Value)) : ∀ (tmps : Array Value), (l.foldl (fun t p => t.setIfInBounds p.1 p.2) tmps).size = tmps.size := by
  induction l with
  | nil => intro t; rfl
  | cons p l ih => intro t; rw [List.foldl_cons, ih]; simp
end
end Go.EX


set_option linter.unusedVariables false
set_option linter.unusedSimpArgs false
namespace Go.EX
def Le (c d : Calls') : Prop := ∀ f a m r, c f a m = some r → d f a m = some r
theorem exView_mono {c d : Calls'} (h : Le c d) {s : St} {fn : Nat} {as : List AV} {r : AV × St} (hr : exView c s fn as = some r) : exView d s fn as = some r := by
  unfold exView at *
  cases ha : as.mapM (frz s.mem) with
  | none => simp [ha] at hr
  | some l =>
    simp only [ha] at hr ⊢
    cases hc : c fn l [] with
    | none => simp [hc] at hr
    | some p => simp only [hc] at hr; simp only [h _ _ _ _ hc]; exact hr
theorem exOwn_mono {c d : Calls'} (h : Le c d) {s : St} {fn : Nat} {as : List AV} {r : AV × St} (hr : exOwn c s fn as = some r) : exOwn d s fn as = some r := by
  unfold exOwn at *
  cases ha : as.mapM (frz s.mem) with
  | none => simp [ha] at hr
  | some l =>
    simp only [ha] at hr ⊢
    cases hc : c fn l [] with
    | none => simp [hc] at hr
    | some p => simp only [hc] at hr; simp only [h _ _ _ _ hc]; exact hr
theorem exShare_mono {c d : Calls'} (h : Le c d) {s : St} {fn : Nat} {as : List AV} {r : AV × St} (hr : exShare c s fn as = some r) : exShare d s fn as = some r := by
  unfold exShare at *
  dsimp only at *
  generalize hm : AV.ren.renL (place (order 0 (AV.refs.refsL as) s.mem)) as = l at *
  generalize hq : s.mem.pickAll (order 0 (AV.refs.refsL as) s.mem) = q at *
  cases hc : c fn l q with
  | none => simp [hc] at hr
  | some p => simp only [hc] at hr; simp only [h _ _ _ _ hc]; exact hr
theorem exPeek_mono {c d : Calls'} (h : Le c d) {s : St} {fn : Nat} {as : List AV} {r : AV × St} (hr : exPeek c s fn as = some r) : exPeek d s fn as = some r := by
  unfold exPeek at *
  dsimp only at *
  generalize hm : AV.ren.renL (place (order 0 (AV.refs.refsL as) s.mem)) as = l at *
  cases hc : c fn l (s.mem.pickAll (order 0 (AV.refs.refsL as) s.mem)) with
  | none => simp [hc] at hr
  | some p => simp only [hc] at hr; simp only [h _ _ _ _ hc]; exact hr
theorem exOp_mono {c d : Calls'} (h : Le c d) {s : St} {op : XOp} {r : AV × St} (hr : exOp c s op = some r) : exOp d s op = some r := by
  cases op with
  | call mode fn args =>
    cases mode with
    | view => exact exView_mono h hr
    | own => exact exOwn_mono h hr
    | share => exact exShare_mono h hr
    | peek => exact exPeek_mono h hr
  | callV f args =>
    simp only [exOp] at hr ⊢
    split at hr
    · rename_i heq; exact exShare_mono h hr
    · rename_i heq; exact exShare_mono h hr
    · cases hr
  | _ => exact hr
theorem exOne_mono {c d : Calls'} (h : Le c d) {s : St} {o : XO} {r : St} (hr : exOne c s o = some r) : exOne d s o = some r := by
  unfold exOne at *
  have hop : ∀ x, exOp c s o.op = some x → exOp d s o.op = some x := fun x hx => exOp_mono h hx
  have hgo : ∀ (g : AV × St → St), (exOp c s o.op).map g = some r → (exOp d s o.op).map g = some r := by
    intro g hg
    cases hx : exOp c s o.op with
    | none => simp [hx] at hg
    | some x => rw [hop x hx]; rwa [hx] at hg
  dsimp only at *
  split at hr
  · exact hgo _ hr
  · split at hr
    · rename_i heq
      split at hr
      · rename_i hcb; simp only [hcb, if_true] at *; exact hgo _ hr
      · rename_i hcb; simp only [hcb, if_false] at *; exact hr
    · exact hr
    · cases hr
theorem exOps_mono {c d : Calls'} (h : Le c d) (l : List XO) : ∀ {s : St} {r : St}, exOps c s l = some r → exOps d s l = some r := by
  induction l with
  | nil => intro s r hr; exact hr
  | cons o l ih =>
    intro s r hr
    simp only [exOps] at *
    cases hx : exOne c s o with
    | none => simp [hx] at hr
    | some s' => rw [hx] at hr; rw [exOne_mono h hx]; exact ih hr
theorem rounds_mono {f g : St → Option (XExit × St)} (h : ∀ s r, f s = some r → g s = some r) : ∀ (n m : Nat), n ≤ m → ∀ {s r}, rounds f n s = some r → rounds g m s = some r := by
  intro n
  induction n with
  | zero => intro m _ s r hr; simp [rounds] at hr
  | succ n ih =>
    intro m hm s r hr
    obtain ⟨m, rfl⟩ : ∃ k, m = k + 1 := ⟨m - 1, by omega⟩
    simp only [rounds] at *
    cases hx : f s with
    | none => simp [hx] at hr
    | some p =>
      rw [h _ _ hx]
      rw [hx] at hr
      obtain ⟨e, s'⟩ := p
      cases e with
      | normal => exact ih m (by omega) hr
      | exit id => exact hr
      | ret => exact hr
theorem exRange_mono {c d : Calls'} (h : Le c d) {s : St} {f : Src} {ps keep : List Nat} {as b : XCode} {r} (hr : exRange c s f ps keep as b = some r) : exRange d s f ps keep as b = some r := by
  unfold exRange at *
  split at hr
  · rename_i heq
    split at hr
    · rename_i hst
      rw [if_pos hst]
      split at hr
      · rename_i hx
        rw [exShare_mono h hx]
        exact hr
      · cases hr
    · cases hr
  · cases hr
theorem exRound_mono {f g : XCode → St → Option (XExit × St)} (h : ∀ x s r, f x s = some r → g x s = some r) {args : List AV} {m : Mem} {r} (hr : exRound f args m = some r) : exRound g args m = some r := by
  unfold exRound at *
  split at hr
  · split at hr
    · rename_i heq
      split at hr
      · rename_i hl
        split at hr
        · rename_i hx
          split at hr
          · rename_i heq2
            split at hr
            · rename_i hx2
              simp only [heq, hl, if_true, h _ _ _ hx, heq2, h _ _ _ hx2]
              exact hr
            · cases hr
          · cases hr
        · cases hr
      · cases hr
    · cases hr
  · cases hr
theorem exCode_mono {c d : Calls'} (h : Le c d) {n m : Nat} (hnm : n ≤ m) (x : XCode) : ∀ {s r}, exCode c n x s = some r → exCode d m x s = some r := by
  induction x with
  | skip => intro s r hr; exact hr
  | region keep ops =>
    intro s r hr
    simp only [exCode] at *
    cases hx : exOps c s ops with
    | none => simp [hx] at hr
    | some s' => rw [hx] at hr; rw [exOps_mono h ops hx]; exact hr
  | seq a b iha ihb =>
    intro s r hr
    simp only [exCode] at *
    cases hx : exCode c n a s with
    | none => simp [hx] at hr
    | some p =>
      rw [iha hx]
      rw [hx] at hr
      obtain ⟨e, s'⟩ := p
      cases e with
      | normal => exact ihb hr
      | exit id => exact hr
      | ret => exact hr
  | cond k a b iha ihb =>
    intro s r hr
    simp only [exCode] at *
    split at hr
    · split at hr
      · rename_i ht; simp only [ht, if_true]; exact iha hr
      · rename_i ht; simp only [ht, if_false]; exact ihb hr
    · cases hr
  | block id b ih =>
    intro s r hr
    simp only [exCode] at *
    cases hx : exCode c n b s with
    | none => simp [hx] at hr
    | some p => rw [ih hx]; rw [hx] at hr; exact hr
  | loop keep b ih =>
    intro s r hr
    simp only [exCode] at *
    exact rounds_mono (fun s r hs => ih hs) n m hnm hr
  | exit id => intro s r hr; exact hr
  | ret => intro s r hr; exact hr
  | rangeF f ps keep as b => intro s r hr; simp only [exCode] at *; exact exRange_mono h hr
theorem exFun_mono {c d : Calls'} (h : Le c d) {n m : Nat} (hnm : n ≤ m) {f : XFun} {as : List AV} {q : Mem} {r} (hr : exFun c n f as q = some r) : exFun d m f as q = some r := by
  unfold exFun at *
  cases hx : exCode c n f.body { k := q.length, env := enter 0 as, mem := q } with
  | none => simp [hx] at hr
  | some p => rw [exCode_mono h hnm f.body hx]; rw [hx] at hr; exact hr
section
variable (code : Nat → Option XFun) (ext : Calls')
theorem callN_succ (n : Nat) : Le (callN code ext n) (callN code ext (n + 1)) := by
  induction n with
  | zero => intro f a m r h; simp [callN] at h
  | succ n ih =>
    intro f a m r h
    unfold callN at h ⊢
    cases hc : code f with
    | none =>
      simp only [hc] at h ⊢
      split at h
      · rename_i hy; rw [if_pos hy]; exact exRound_mono (fun x s r hx => exCode_mono ih (Nat.le_succ n) x hx) h
      · rename_i hy; rw [if_neg hy]; exact h
    | some x => simp only [hc] at h ⊢; exact exFun_mono ih (Nat.le_succ n) h
theorem callN_mono {n m : Nat} (h : n ≤ m) : Le (callN code ext n) (callN code ext m) := by
  induction m with
  | zero => obtain rfl : n = 0 := by omega
            exact fun _ _ _ _ h => h
  | succ m ih =>
    rcases Nat.lt_or_ge n (m + 1) with h' | h'
    · exact fun f a q r hr => callN_succ code ext m f a q r (ih (by omega) f a q r hr)
    · obtain rfl : n = m + 1 := by omega
      exact fun _ _ _ _ h => h
open Classical in
noncomputable def callW : Calls' := fun f a m => if h : ∃ r, ∃ n, callN code ext n f a m = some r then some (Classical.choose h) else none
theorem callW_some {f : Nat} {a : List AV} {m : Mem} {r : AV × Mem} : callW code ext f a m = some r ↔ ∃ n, callN code ext n f a m = some r := by
  unfold callW
  constructor
  · intro h
    split at h
    · rename_i hx
      obtain ⟨n, hn⟩ := Classical.choose_spec hx
      have : Classical.choose hx = r := by simpa using h
      exact ⟨n, this ▸ hn⟩
    · cases h
  · rintro ⟨n, hn⟩
    have hx : ∃ r, ∃ n, callN code ext n f a m = some r := ⟨r, n, hn⟩
    rw [dif_pos hx]
    obtain ⟨k, hk⟩ := Classical.choose_spec hx
    have h1 := callN_mono code ext (Nat.le_max_left n k) f a m r hn
    have h2 := callN_mono code ext (Nat.le_max_right n k) f a m _ hk
    rw [h1] at h2
    exact h2.symm
theorem Le_callW (n : Nat) : Le (callN code ext n) (callW code ext) := fun _ _ _ _ h => (callW_some code ext).2 ⟨n, h⟩
open Classical in
noncomputable def den (x : XCode) (s : St) : Option (XExit × St) := if h : ∃ r, ∃ n, exCode (callW code ext) n x s = some r then some (Classical.choose h) else none
theorem den_some {x : XCode} {s : St} {r} : den code ext x s = some r ↔ ∃ n, exCode (callW code ext) n x s = some r := by
  unfold den
  constructor
  · intro h
    split at h
    · rename_i hx
      obtain ⟨n, hn⟩ := Classical.choose_spec hx
      have : Classical.choose hx = r := by simpa using h
      exact ⟨n, this ▸ hn⟩
    · cases h
  · rintro ⟨n, hn⟩
    have hx : ∃ r, ∃ n, exCode (callW code ext) n x s = some r := ⟨r, n, hn⟩
    rw [dif_pos hx]
    obtain ⟨k, hk⟩ := Classical.choose_spec hx
    have h1 := exCode_mono (c := callW code ext) (d := callW code ext) (fun _ _ _ _ h => h) (Nat.le_max_left n k) x hn
    have h2 := exCode_mono (c := callW code ext) (d := callW code ext) (fun _ _ _ _ h => h) (Nat.le_max_right n k) x hk
    rw [h1] at h2
    exact h2.symm
theorem exShare_fin {s : St} {fn : Nat} {as : List AV} {r} (h : exShare (callW code ext) s fn as = some r) : ∃ n, exShare (callN code ext n) s fn as = some r := by
  unfold exShare at *
  dsimp only at *
  generalize AV.ren.renL (place (order 0 (AV.refs.refsL as) s.mem)) as = l at *
  generalize s.mem.pickAll (order 0 (AV.refs.refsL as) s.mem) = q at *
  cases hc : callW code ext fn l q with
  | none => simp [hc] at h
  | some p => obtain ⟨n, hn⟩ := (callW_some code ext).1 hc; simp only [hc] at h; exact ⟨n, by simp only [hn]; exact h⟩
theorem exOp_fin {s : St} {op : XOp} {r} (h : exOp (callW code ext) s op = some r) : ∃ n, exOp (callN code ext n) s op = some r := by
  have view : ∀ fn as, exView (callW code ext) s fn as = some r → ∃ n, exView (callN code ext n) s fn as = some r := by
    intro fn as h
    unfold exView at *
    cases ha : as.mapM (frz s.mem) with
    | none => simp [ha] at h
    | some l =>
      simp only [ha] at h ⊢
      cases hc : callW code ext fn l [] with
      | none => simp [hc] at h
      | some p => obtain ⟨n, hn⟩ := (callW_some code ext).1 hc; simp only [hc] at h; exact ⟨n, by simp only [hn]; exact h⟩
  have own : ∀ fn as, exOwn (callW code ext) s fn as = some r → ∃ n, exOwn (callN code ext n) s fn as = some r := by
    intro fn as h
    unfold exOwn at *
    cases ha : as.mapM (frz s.mem) with
    | none => simp [ha] at h
    | some l =>
      simp only [ha] at h ⊢
      cases hc : callW code ext fn l [] with
      | none => simp [hc] at h
      | some p => obtain ⟨n, hn⟩ := (callW_some code ext).1 hc; simp only [hc] at h; exact ⟨n, by simp only [hn]; exact h⟩
  have share : ∀ fn as, exShare (callW code ext) s fn as = some r → ∃ n, exShare (callN code ext n) s fn as = some r := fun fn as h => exShare_fin code ext h
  have peek : ∀ fn as, exPeek (callW code ext) s fn as = some r → ∃ n, exPeek (callN code ext n) s fn as = some r := by
    intro fn as h
    unfold exPeek at *
    dsimp only at *
    generalize AV.ren.renL (place (order 0 (AV.refs.refsL as) s.mem)) as = l at *
    cases hc : callW code ext fn l (s.mem.pickAll (order 0 (AV.refs.refsL as) s.mem)) with
    | none => simp [hc] at h
    | some p => obtain ⟨n, hn⟩ := (callW_some code ext).1 hc; simp only [hc] at h; exact ⟨n, by simp only [hn]; exact h⟩
  cases op with
  | call mode fn args =>
    cases mode with
    | view => exact view _ _ h
    | own => exact own _ _ h
    | share => exact share _ _ h
    | peek => exact peek _ _ h
  | callV f args =>
    simp only [exOp] at h ⊢
    split at h
    · rename_i heq; exact share _ _ h
    · rename_i heq; exact share _ _ h
    · cases h
  | _ => exact ⟨0, h⟩
theorem exOne_fin {s : St} {o : XO} {r} (h : exOne (callW code ext) s o = some r) : ∃ n, exOne (callN code ext n) s o = some r := by
  unfold exOne at *
  have hgo : ∀ (g : AV × St → St), (exOp (callW code ext) s o.op).map g = some r → ∃ n, (exOp (callN code ext n) s o.op).map g = some r := by
    intro g hg
    cases hx : exOp (callW code ext) s o.op with
    | none => simp [hx] at hg
    | some x => obtain ⟨n, hn⟩ := exOp_fin code ext hx; exact ⟨n, by rw [hn]; rwa [hx] at hg⟩
  dsimp only at *
  split at h
  · exact hgo _ h
  · split at h
    · rename_i heq
      split at h
      · rename_i hcb; simp only [hcb, if_true]; exact hgo _ h
      · rename_i hcb; simp only [hcb, if_false]; exact ⟨0, h⟩
    · exact ⟨0, h⟩
    · cases h
theorem exOps_fin (l : List XO) : ∀ {s r}, exOps (callW code ext) s l = some r → ∃ n, exOps (callN code ext n) s l = some r := by
  induction l with
  | nil => intro s r h; exact ⟨0, h⟩
  | cons o l ih =>
    intro s r h
    simp only [exOps] at *
    cases hx : exOne (callW code ext) s o with
    | none => simp [hx] at h
    | some s' =>
      rw [hx] at h
      obtain ⟨n, hn⟩ := exOne_fin code ext hx
      obtain ⟨k, hk⟩ := ih h
      exact ⟨max n k, by rw [exOne_mono (callN_mono code ext (Nat.le_max_left n k)) hn]; exact exOps_mono (callN_mono code ext (Nat.le_max_right n k)) l hk⟩
theorem rounds_fin {f : St → Option (XExit × St)} {g : Nat → St → Option (XExit × St)} (hg : ∀ n m, n ≤ m → ∀ s r, g n s = some r → g m s = some r) (h : ∀ s r, f s = some r → ∃ n, g n s = some r) :
    ∀ (k : Nat) {s r}, rounds f k s = some r → ∃ n, rounds (g n) k s = some r := by
  intro k
  induction k with
  | zero => intro s r hr; simp [rounds] at hr
  | succ k ih =>
    intro s r hr
    simp only [rounds] at *
    cases hx : f s with
    | none => simp [hx] at hr
    | some p =>
      rw [hx] at hr
      obtain ⟨n, hn⟩ := h _ _ hx
      obtain ⟨e, s'⟩ := p
      cases e with
      | normal =>
        obtain ⟨j, hj⟩ := ih hr
        exact ⟨max n j, by rw [hg n _ (Nat.le_max_left n j) _ _ hn]; exact rounds_mono (hg j _ (Nat.le_max_right n j)) k k (Nat.le_refl k) hj⟩
      | exit id => exact ⟨n, by rw [hn]; exact hr⟩
      | ret => exact ⟨n, by rw [hn]; exact hr⟩
theorem exRange_fin {s : St} {f : Src} {ps keep : List Nat} {as b : XCode} {r} (h : exRange (callW code ext) s f ps keep as b = some r) : ∃ n, exRange (callN code ext n) s f ps keep as b = some r := by
  unfold exRange at *
  split at h
  · rename_i heq
    split at h
    · rename_i hst
      split at h
      · rename_i hx
        obtain ⟨n, hn⟩ := exShare_fin code ext hx
        exact ⟨n, by rw [if_pos hst, hn]; exact h⟩
      · cases h
    · cases h
  · cases h
theorem exCode_fin (k : Nat) (x : XCode) : ∀ {s r}, exCode (callW code ext) k x s = some r → ∃ n, exCode (callN code ext n) k x s = some r := by
  induction x with
  | skip => intro s r h; exact ⟨0, h⟩
  | region keep ops =>
    intro s r h
    simp only [exCode] at *
    cases hx : exOps (callW code ext) s ops with
    | none => simp [hx] at h
    | some s' => rw [hx] at h; obtain ⟨n, hn⟩ := exOps_fin code ext ops hx; exact ⟨n, by rw [hn]; exact h⟩
  | seq a b iha ihb =>
    intro s r h
    simp only [exCode] at *
    cases hx : exCode (callW code ext) k a s with
    | none => simp [hx] at h
    | some p =>
      rw [hx] at h
      obtain ⟨n, hn⟩ := iha hx
      obtain ⟨e, s'⟩ := p
      cases e with
      | normal =>
        obtain ⟨j, hj⟩ := ihb h
        exact ⟨max n j, by rw [exCode_mono (callN_mono code ext (Nat.le_max_left n j)) (Nat.le_refl k) a hn]; exact exCode_mono (callN_mono code ext (Nat.le_max_right n j)) (Nat.le_refl k) b hj⟩
      | exit id => exact ⟨n, by rw [hn]; exact h⟩
      | ret => exact ⟨n, by rw [hn]; exact h⟩
  | cond c a b iha ihb =>
    intro s r h
    simp only [exCode] at *
    split at h
    · split at h
      · rename_i ht; simp only [ht, if_true]; exact iha h
      · rename_i ht; simp only [ht, if_false]; exact ihb h
    · cases h
  | block id b ih =>
    intro s r h
    simp only [exCode] at *
    cases hx : exCode (callW code ext) k b s with
    | none => simp [hx] at h
    | some p => rw [hx] at h; obtain ⟨n, hn⟩ := ih hx; exact ⟨n, by rw [hn]; exact h⟩
  | loop keep b ih =>
    intro s r h
    simp only [exCode] at *
    exact rounds_fin (f := fun s => exCode (callW code ext) k b (s.tidy keep)) (g := fun n s => exCode (callN code ext n) k b (s.tidy keep)) (fun n m hnm s r hs => exCode_mono (callN_mono code ext hnm) (Nat.le_refl k) b hs) (fun s r hs => ih hs) k h
  | exit id => intro s r h; exact ⟨0, h⟩
  | ret => intro s r h; exact ⟨0, h⟩
  | rangeF f ps keep as b => intro s r h; simp only [exCode] at *; exact exRange_fin code ext h
theorem den_skip (s : St) : den code ext .skip s = some (.normal, s) := (den_some code ext).2 ⟨0, rfl⟩
theorem den_exit (id : Nat) (s : St) : den code ext (.exit id) s = some (.exit id, s) := (den_some code ext).2 ⟨0, rfl⟩
theorem den_ret (s : St) : den code ext .ret s = some (.ret, s) := (den_some code ext).2 ⟨0, rfl⟩
theorem opt_ext {α : Type} {a b : Option α} (h : ∀ r, a = some r ↔ b = some r) : a = b := by
  cases a with
  | none => cases b with
    | none => rfl
    | some y => exact absurd ((h y).2 rfl) (by simp)
  | some x => exact ((h x).1 rfl).symm
theorem den_region (keep : List Nat) (ops : List XO) (s : St) :
    den code ext (.region keep ops) s = (exOps (callW code ext) s ops).map fun s' => (.normal, { s' with env := s'.env.keep keep }) := by
  refine opt_ext fun r => ⟨fun h => ?_, fun h => (den_some code ext).2 ⟨0, h⟩⟩
  obtain ⟨n, hn⟩ := (den_some code ext).1 h
  exact hn
def andThen (p : Option (XExit × St)) (f : St → Option (XExit × St)) : Option (XExit × St) :=
  match p with
  | some (.normal, s) => f s
  | r => r
theorem den_seq (a b : XCode) (s : St) : den code ext (.seq a b) s = andThen (den code ext a s) (den code ext b) := by
  refine opt_ext fun r => ⟨fun h => ?_, fun h => ?_⟩
  · obtain ⟨n, hn⟩ := (den_some code ext).1 h
    simp only [exCode] at hn
    cases hx : exCode (callW code ext) n a s with
    | none => simp [hx] at hn
    | some p =>
      rw [hx] at hn
      rw [(den_some code ext).2 ⟨n, hx⟩]
      obtain ⟨e, s'⟩ := p
      cases e with
      | normal => exact (den_some code ext).2 ⟨n, hn⟩
      | exit id => exact hn
      | ret => exact hn
  · cases hx : den code ext a s with
    | none => simp [hx, andThen] at h
    | some p =>
      rw [hx] at h
      obtain ⟨n, hn⟩ := (den_some code ext).1 hx
      obtain ⟨e, s'⟩ := p
      cases e with
      | normal =>
        obtain ⟨k, hk⟩ := (den_some code ext).1 h
        refine (den_some code ext).2 ⟨max n k, ?_⟩
        simp only [exCode]
        rw [exCode_mono (c := callW code ext) (fun _ _ _ _ h => h) (Nat.le_max_left n k) a hn]
        exact exCode_mono (c := callW code ext) (fun _ _ _ _ h => h) (Nat.le_max_right n k) b hk
      | exit id => exact (den_some code ext).2 ⟨n, by simp only [exCode]; rw [hn]; exact h⟩
      | ret => exact (den_some code ext).2 ⟨n, by simp only [exCode]; rw [hn]; exact h⟩
theorem den_cond (c : Src) (a b : XCode) (s : St) (t : Bool) (h : s.env.ev c = .imm (.val (.bool t))) : den code ext (.cond c a b) s = if t then den code ext a s else den code ext b s := by
  refine opt_ext fun r => ⟨fun hr => ?_, fun hr => ?_⟩
  · obtain ⟨n, hn⟩ := (den_some code ext).1 hr
    simp only [exCode, h] at hn
    cases t
    · exact (den_some code ext).2 ⟨n, hn⟩
    · exact (den_some code ext).2 ⟨n, hn⟩
  · cases t
    · obtain ⟨n, hn⟩ := (den_some code ext).1 hr
      exact (den_some code ext).2 ⟨n, by simp only [exCode, h]; exact hn⟩
    · obtain ⟨n, hn⟩ := (den_some code ext).1 hr
      exact (den_some code ext).2 ⟨n, by simp only [exCode, h]; exact hn⟩
def blockOut (id : Nat) (p : Option (XExit × St)) : Option (XExit × St) :=
  match p with
  | some (.exit j, s) => if j = id then some (.normal, s) else some (.exit j, s)
  | r => r
theorem den_block (id : Nat) (b : XCode) (s : St) : den code ext (.block id b) s = blockOut id (den code ext b s) := by
  refine opt_ext fun r => ⟨fun h => ?_, fun h => ?_⟩
  · obtain ⟨n, hn⟩ := (den_some code ext).1 h
    simp only [exCode] at hn
    cases hx : exCode (callW code ext) n b s with
    | none => simp [hx] at hn
    | some p => rw [(den_some code ext).2 ⟨n, hx⟩]; rw [hx] at hn; exact hn
  · cases hx : den code ext b s with
    | none => simp [hx, blockOut] at h
    | some p =>
      obtain ⟨n, hn⟩ := (den_some code ext).1 hx
      rw [hx] at h
      exact (den_some code ext).2 ⟨n, by simp only [exCode]; rw [hn]; exact h⟩
theorem den_loop (keep : List Nat) (b : XCode) (s : St) : den code ext (.loop keep b) s = andThen (den code ext b (s.tidy keep)) (den code ext (.loop keep b)) := by
  refine opt_ext fun r => ⟨fun h => ?_, fun h => ?_⟩
  · obtain ⟨n, hn⟩ := (den_some code ext).1 h
    simp only [exCode] at hn
    cases n with
    | zero => simp [rounds] at hn
    | succ n =>
      simp only [rounds] at hn
      cases hx : exCode (callW code ext) (n + 1) b (s.tidy keep) with
      | none => simp [hx] at hn
      | some p =>
        rw [(den_some code ext).2 ⟨n + 1, hx⟩]
        rw [hx] at hn
        obtain ⟨e, s'⟩ := p
        cases e with
        | normal => exact (den_some code ext).2 ⟨n + 1, by simp only [exCode]; exact rounds_mono (fun _ _ h => h) n (n + 1) (Nat.le_succ n) hn⟩
        | exit id => exact hn
        | ret => exact hn
  · cases hx : den code ext b (s.tidy keep) with
    | none => simp [hx, andThen] at h
    | some p =>
      rw [hx] at h
      obtain ⟨n, hn⟩ := (den_some code ext).1 hx
      obtain ⟨e, s'⟩ := p
      cases e with
      | normal =>
        obtain ⟨k, hk⟩ := (den_some code ext).1 h
        refine (den_some code ext).2 ⟨max n k + 1, ?_⟩
        simp only [exCode, rounds] at hk ⊢
        rw [exCode_mono (c := callW code ext) (d := callW code ext) (fun _ _ _ _ h => h) (m := max n k + 1) (by omega) b hn]
        exact rounds_mono (fun s r hs => exCode_mono (c := callW code ext) (d := callW code ext) (fun _ _ _ _ h => h) (by omega) b hs) k (max n k) (by omega) hk
      | exit id =>
        refine (den_some code ext).2 ⟨n + 1, ?_⟩
        simp only [exCode, rounds]
        rw [exCode_mono (c := callW code ext) (d := callW code ext) (fun _ _ _ _ h => h) (m := n + 1) (by omega) b hn]
        exact h
      | ret =>
        refine (den_some code ext).2 ⟨n + 1, ?_⟩
        simp only [exCode, rounds]
        rw [exCode_mono (c := callW code ext) (d := callW code ext) (fun _ _ _ _ h => h) (m := n + 1) (by omega) b hn]
        exact h
def funOut (f : XFun) (p : Option (XExit × St)) : Option (AV × Mem) :=
  match p with
  | some (.normal, s) | some (.ret, s) => leave s f
  | _ => none
theorem callW_fun {fn : Nat} {f : XFun} (hf : code fn = some f) (as : List AV) (m : Mem) :
    callW code ext fn as m = funOut f (den code ext f.body { k := m.length, env := enter 0 as, mem := m }) := by
  refine opt_ext fun r => ⟨fun h => ?_, fun h => ?_⟩
  · obtain ⟨n, hn⟩ := (callW_some code ext).1 h
    cases n with
    | zero => simp [callN] at hn
    | succ n =>
      simp only [callN, hf, exFun] at hn
      cases hx : exCode (callN code ext n) n f.body { k := m.length, env := enter 0 as, mem := m } with
      | none => simp [hx] at hn
      | some p =>
        rw [(den_some code ext).2 ⟨n, exCode_mono (Le_callW code ext n) (Nat.le_refl n) f.body hx⟩]
        rw [hx] at hn
        exact hn
  · cases hx : den code ext f.body { k := m.length, env := enter 0 as, mem := m } with
    | none => simp [hx, funOut] at h
    | some p =>
      rw [hx] at h
      obtain ⟨n, hn⟩ := (den_some code ext).1 hx
      obtain ⟨k, hk⟩ := exCode_fin code ext n f.body hn
      refine (callW_some code ext).2 ⟨max n k + 1, ?_⟩
      simp only [callN, hf, exFun]
      rw [exCode_mono (callN_mono code ext (Nat.le_max_right n k)) (Nat.le_max_left n k) f.body hk]
      exact h
theorem callW_ext {fn : Nat} (hf : code fn = none) (hy : fn ≠ yieldNo) (as : List AV) (m : Mem) : callW code ext fn as m = ext fn as m := by
  refine opt_ext fun r => ⟨fun h => ?_, fun h => (callW_some code ext).2 ⟨1, by simpa [callN, hf, hy] using h⟩⟩
  obtain ⟨n, hn⟩ := (callW_some code ext).1 h
  cases n with
  | zero => simp [callN] at hn
  | succ n => simpa [callN, hf, hy] using hn
theorem den_range (f : Src) (ps keep : List Nat) (as b : XCode) (s : St) : den code ext (.rangeF f ps keep as b) s = exRange (callW code ext) s f ps keep as b := by
  refine opt_ext fun r => ⟨fun h => ?_, fun h => (den_some code ext).2 ⟨0, h⟩⟩
  obtain ⟨n, hn⟩ := (den_some code ext).1 h
  exact hn
theorem exRound_fin {args : List AV} {m : Mem} {r} (h : exRound (den code ext) args m = some r) : ∃ n k, exRound (exCode (callN code ext n) k) args m = some r := by
  have one : ∀ {x s r}, den code ext x s = some r → ∃ n, ∀ j, n ≤ j → exCode (callN code ext j) j x s = some r := by
    intro x s r hx
    obtain ⟨k, hk⟩ := (den_some code ext).1 hx
    obtain ⟨n, hn⟩ := exCode_fin code ext k _ hk
    exact ⟨max n k, fun j hj => exCode_mono (callN_mono code ext (by omega)) (by omega) x hn⟩
  unfold exRound at *
  split at h
  · split at h
    · rename_i heq
      split at h
      · rename_i hl
        split at h
        · rename_i hx
          obtain ⟨n, hn⟩ := one hx
          split at h
          · rename_i heq2
            split at h
            · rename_i hx2
              obtain ⟨k, hk⟩ := one hx2
              refine ⟨max n k, max n k, ?_⟩
              simp only [heq, hl, if_true, hn _ (Nat.le_max_left n k), heq2, hk _ (Nat.le_max_right n k)]
              exact h
            · cases h
          · cases h
        · cases h
      · cases h
    · cases h
  · cases h
theorem callW_yield (hf : code yieldNo = none) (as : List AV) (m : Mem) : callW code ext yieldNo as m = exRound (den code ext) as m := by
  refine opt_ext fun r => ⟨fun h => ?_, fun h => ?_⟩
  · obtain ⟨n, hn⟩ := (callW_some code ext).1 h
    cases n with
    | zero => simp [callN] at hn
    | succ n =>
      simp only [callN, hf, if_true] at hn
      exact exRound_mono (fun x s r hx => (den_some code ext).2 ⟨n, exCode_mono (Le_callW code ext n) (Nat.le_refl n) x hx⟩) hn
  · obtain ⟨n, k, hn⟩ := exRound_fin code ext h
    refine (callW_some code ext).2 ⟨max n k + 1, ?_⟩
    simp only [callN, hf, if_true]
    exact exRound_mono (fun x s r hx => exCode_mono (callN_mono code ext (Nat.le_max_left n k)) (Nat.le_max_right n k) x hx) hn
end
end Go.EX


set_option linter.unusedVariables false
set_option linter.unusedSimpArgs false
namespace Go.EX
section
variable {num : Names} {P : Program}
def exitOf : XExit → Exit
  | .normal => .normal
  | .exit id => .exit id
  | .ret => .ret
theorem tidy_later {C : Cx} {s : St} {a : Act} (hs : SRep num C s a) (keep : List Nat) : ∃ D, D.w = C.w ∧ Later num s.k C s.mem a D (s.tidy keep) a := by
  obtain ⟨D, hw, h1, h2, h3⟩ := tidy_rep hs keep
  exact ⟨D, hw, h1, h2, h3, rfl, fun lo _ h => h.step hs.mem h2⟩
theorem keep_later {C D : Cx} {m : Mem} {k : Nat} {s : St} {a a' : Act} (h : Later num k C m a D s a') (keep : List Nat) : Later num k C m a D { s with env := s.env.keep keep } a' :=
  ⟨⟨h.rep.mem, h.rep.env.keep keep, h.rep.k⟩, h.step, h.k, h.size, h.marks⟩
theorem bad_none {call : Calls'} {n : Nat} {xc : XCode} {s : St} (h : (.cond (.c .nilFunc) .skip .skip : XCode) = xc.wipe) : exCode call n xc s = none := by
  cases xc <;> simp only [XCode.wipe, reduceCtorEq, XCode.cond.injEq] at h
  obtain ⟨rfl, _, _⟩ := h
  rfl
theorem range_wp {call : Calls'} (hcall : CallOK num P call) (hL : ∀ a b ps N as bs, LoopOK P num a b ps N as bs → num.L a b ps N as bs) {f : Operand} {f' : Src} (hf : trSrc num f = some f') {ps : Array Tmp} {keep : List Nat} {as b : Code} {xa xb : XCode} {N : Nat}
    (hok : xa.still = true → xb.still = true → LoopOK P num as b ps.toList N xa xb) {s s' : St} {e : XExit} {a : Act} {C : Cx} {Q : Exit → Act → World → Prop} (h : exRange call s f' ps.toList keep xa xb = some (e, s')) (hs : SRep num C s a) (hN : N ≤ a.tmps.size)
    (hQ : ∀ D a', Later num s.k C s.mem a D s' a' → Q (exitOf e) a' D.w) : (Code.rangeFunc f ps as b).wpIn (fz none) 0 P Q a C.w := by
  unfold exRange at h
  split at h
  case h_2 => cases h
  rename_i it caps heq
  split at h
  case isFalse => cases h
  rename_i hst
  rw [Bool.and_eq_true] at hst
  split at h
  case h_2 => cases h
  rename_i rr s2 hx
  split at h
  case h_2 => cases h
  rename_i e2 p2 a2 b2 ho2
  cases h
  have hm := hs.mem
  have hlen := hm.len
  refine wpIn_rangeFunc fun fn _ => ?_
  have hfv := src_rep hs hf
  rw [heq] at hfv
  generalize hu : a.eval f = u at hfv
  cases hfv with
  | clo g _ vs hcl hcr =>
    generalize hR : ({ state := .ready, pending := none, fn := fn, tmps := a.tmps, params := ps, assign := as, body := b, defers := C.w.heap.size } : Loop) = R
    generalize hCa : ({ σ := C.σ, I := C.I, n := C.n, w := C.w.alloc (.deferred (some [])) } : Cx) = Ca
    have hsa : Step num s.k C s.mem Ca s.mem := by
      rw [← hCa]
      exact ext_step (w' := C.w.alloc (.deferred (some []))) (J := C.I) hm rfl rfl rfl (by simp) (fun c hc => by rw [alloc_get, if_neg (by omega)]) (fun _ h => h) (fun _ h => .inl h) (fun c hc => by have := hm.bd c hc; simp; omega) hs.k
    have hta : Tr some C Ca := by
      rw [← hCa]
      exact ext_tr (w' := C.w.alloc (.deferred (some []))) (J := C.I) hm (fun c hc => by rw [alloc_get, if_neg (by omega)]) fun _ h => h
    have hwa : Ca.w = C.w.alloc (.deferred (some [])) := by rw [← hCa]
    have hna : Ca.n = C.n := by rw [← hCa]
    have hsza : Ca.w.heap.size = C.w.heap.size + 1 := by rw [hwa]; simp
    have htr := more_tr hsa.rep rfl (.loop R)
    have hor : ORep num (Ca.more Ca.w (.loop R)) Ca.n (.loop (s.env.keep keep) ps.toList xa xb false) := by
      refine ⟨R, N, ?_, by rw [← hR]; rfl, by rw [← hR], by rw [← hR], by rw [← hR]; exact hN, by rw [← hR]; exact hL _ _ _ _ _ _ (hok hst.1 hst.2), fun p hp => ?_⟩
      · simp only [Cx.more, if_true]
        rw [alloc_get, if_pos rfl]
      · obtain ⟨t, _, rfl⟩ := List.mem_map.1 hp
        have hRt : R.tmps = a.tmps := by rw [← hR]
        rw [hRt]
        exact ((hs.env t).mono hta).mono htr
    have hs2 := more_step hsa.rep (k := s.k) rfl rfl rfl rfl (.loop R) _ hor hs.k
    generalize hC2 : Ca.more Ca.w (.loop R) = C2 at hs2 htr hor
    have hw2 : C2.w = (C.w.alloc (.deferred (some []))).alloc (.loop R) := by rw [← hC2, ← hwa]; rfl
    have hσ2 : C2.σ s.mem.length = C.w.heap.size + 1 := by
      rw [← hC2, hlen, ← hna]; simp only [Cx.more, if_true]; exact hsza
    have hn2 : C2.n = C.n + 1 := by rw [← hC2, ← hna]; rfl
    have hI2 : C2.I = C.I := by rw [← hC2, ← hCa]; rfl
    have hstep2 : Step num s.k C s.mem C2 (s.mem ++ [.loop (s.env.keep keep) ps.toList xa xb false]) := hsa.trans hs2
    have hs1 : SRep num C2 { k := s.mem.length + 1, env := s.env, mem := s.mem ++ [.loop (s.env.keep keep) ps.toList xa xb false] } a :=
      ⟨hs2.rep, (hs.env.mono hta).mono htr, by simp⟩
    have hl2 : (AV.yld s.mem.length :: caps).length = (#[Value.func (.yield (C2.σ s.mem.length)) #[] #[]] ++ vs).size := by
      rw [List.length_cons, Array.size_append, hcl]; simp; omega
    have hr2 : ∀ (j : Nat) (x : AV) (u : Value), (AV.yld s.mem.length :: caps)[j]? = some x → (#[Value.func (.yield (C2.σ s.mem.length)) #[] #[]] ++ vs)[j]? = some u → ARep num C2 x u := by
      intro j x u hx hu'
      cases j with
      | zero =>
        rw [Array.getElem?_append_left (by simp)] at hu'
        simp at hx hu'; subst hx hu'; exact .yld _ (by omega)
      | succ j =>
        rw [List.getElem?_cons_succ] at hx
        rw [Array.getElem?_append_right (by simp)] at hu'
        exact ((hcr j x u hx (by simpa using hu')).mono hta).mono htr
    obtain ⟨l, rv, mc, hc, hmc, hl1, hr1, hback⟩ := share_back hs1 hl2 hr2 hx
    obtain ⟨hcb, hcs⟩ := hcall.fn g _ _ rv mc _ _ hc hmc hl1 hr1
    obtain ⟨fn', e1, e3, e4⟩ := hcb
    obtain ⟨body, hb⟩ := Option.isSome_iff_exists.1 e4
    rw [hσ2] at hcs
    refine ⟨C.w.heap.size + 1, [{ target := .collected C.w.heap.size, args := #[] }], C2.w, { target := .fn (.func g) vs, args := #[] ++ #[Value.func (.yield (C.w.heap.size + 1)) #[] #[]] }, C2.w, g, #[Value.func (.yield (C.w.heap.size + 1)) #[] #[]] ++ vs, C2.w,
      by rw [hw2, ← hR]; exact run_enterLoop_outer _ _ _ _ _, by simp [resolve, Deferred.ofValue, hu, show ∀ v, a.eval (.const v) = v from fun _ => rfl], fun _ _ => trivial, by simp [invoke, callFunc, e1, e3, hb], fun h => (by cases h), ?_⟩
    refine CallsIn.mono (F := fz none) (n := 0 - 1) ((callsIn_wide (n := 0 - 1)).2 hcs) ?_
    rintro e' w' ⟨v, D, rfl, rfl, hstD, hrv⟩
    obtain ⟨E, hEw, hstE, henvE, _, hkE⟩ := hback v D hstD hrv
    rw [← hEw]
    obtain ⟨o0, ho0, _, hσE⟩ := hstE.same s.mem.length (Nat.lt_succ_self _) _ ho2 rfl
    rw [hσ2] at hσE
    obtain ⟨R2, N2, hR2, hst2, hpd2, _⟩ := hstE.rep.obj _ _ ho2
    rw [hσE] at hR2
    refine ⟨_, _, run_endLoop hR2 (by rw [hst2]; simp), ?_⟩
    split
    case h_2 c hc2 => rw [hpd2] at hc2; cases hc2
    have hdead := loop_step hstE.rep ho2 (ob := .loop { R2 with state := .exhausted }) (o' := .dead) trivial rfl (k := s.mem.length + 1) hstE.len
    rw [hσE] at hdead
    have hTr : Tr some E { E with w := E.w.putObj (C.w.heap.size + 1) (.loop { R2 with state := .exhausted }) } := by
      refine putObj_tr ?_ fun arr e fz h => by rw [hR2] at h; cases h
      rw [← hσE]
      exact hstE.rep.imm _ ⟨_, _, ho2, rfl, rfl⟩
    show Q .normal { a with defers := [{ target := .collected C.w.heap.size, args := #[] }] ++ a.defers } (E.w.putObj (C.w.heap.size + 1) (.loop { R2 with state := .exhausted }))
    refine hQ { E with w := E.w.putObj (C.w.heap.size + 1) (.loop { R2 with state := .exhausted }) } { a with defers := [{ target := .collected C.w.heap.size, args := #[] }] ++ a.defers } ⟨⟨hdead.rep, henvE.mono hTr, ?_⟩, hstep2.trans ((hstE.le ?_).trans (hdead.le ?_)), rfl, rfl, fun lo hlo hmk => ?_⟩
    · have h5 : s.mem.length + 1 ≤ s2.mem.length := hstE.len
      have := hs.k; simp; omega
    · have := hs.k; simp; omega
    · have := hs.k; omega
    · obtain ⟨rs, g1, g2, g3⟩ := hmk
      have hmk2 : Marked lo C2 ([{ target := .collected C.w.heap.size, args := #[] }] ++ a.defers) := by
        refine ⟨C.w.heap.size :: rs, by rw [g1]; rfl, List.nodup_cons.2 ⟨fun h => ?_, g2⟩, fun r hr => ?_⟩
        · have := (Array.getElem?_eq_some_iff.1 (g3 _ h).2.1).1; omega
        · rcases List.mem_cons.1 hr with rfl | hr
          · refine ⟨hlo, ?_, fun h => ?_⟩
            · rw [hw2, alloc_get, if_neg (by simp), alloc_get, if_pos rfl]
            · rw [hI2] at h; have := hm.bd _ h; omega
          · obtain ⟨q1, q2, q3⟩ := g3 r hr
            have := (Array.getElem?_eq_some_iff.1 q2).1
            refine ⟨q1, ?_, by rw [hI2]; exact q3⟩
            rw [hw2, alloc_get, if_neg (by simp; omega), alloc_get, if_neg (by omega)]
            exact q2
      exact (hmk2.step hs2.rep hstE).step hstE.rep hdead
theorem code_wp {ro : Option Nat} {call : Calls'} (hcall : CallOK num P call) (hmix : P.follows .mixedOrders = true) (hL : ∀ a b ps N as bs, LoopOK P num a b ps N as bs → num.L a b ps N as bs) {N n : Nat} : ∀ (c : Code) (xc : XCode) {s s' : St} {e : XExit} {a : Act} {C : Cx} {Q : Exit → Act → World → Prop}, tr P num N c = xc.wipe → drawsOk c xc = true → (ro = none ∨ xc.still = true) →
    exCode call n xc s = some (e, s') → SRep num C s a → N ≤ a.tmps.size → (∀ D a', Later num s.k C s.mem a D s' a' → Q (exitOf e) a' D.w) → c.wpIn (fz ro) 0 P Q a C.w := by
  intro c
  induction c with
  | skip =>
    intro xc s s' e a C Q htr _ _ h hs _ hQ
    cases xc <;> simp only [tr, XCode.wipe, reduceCtorEq] at htr
    cases h
    exact wpIn_skip (hQ C a (.refl hs))
  | exit id =>
    intro xc s s' e a C Q htr _ _ h hs _ hQ
    cases xc <;> simp only [tr, XCode.wipe, reduceCtorEq, XCode.exit.injEq] at htr
    subst htr
    cases h
    exact wpIn_exit (hQ C a (.refl hs))
  | ret =>
    intro xc s s' e a C Q htr _ _ h hs _ hQ
    cases xc <;> simp only [tr, XCode.wipe, reduceCtorEq] at htr
    cases h
    exact wpIn_ret (hQ C a (.refl hs))
  | region id ops draw =>
    intro xc s s' e a C Q htr hd hro h hs hN hQ
    cases xc <;> simp only [tr, XCode.wipe, reduceCtorEq, XCode.region.injEq, true_and] at htr
    rename_i keep xs
    simp only [exCode] at h
    cases hx : exOps call s xs with
    | none => rw [hx] at h; cases h
    | some s1 =>
      rw [hx] at h
      cases h
      exact region_wp hcall hmix htr hd hs hN hx fun D a' hl => hQ D a' (keep_later hl keep)
  | seq x y ihx ihy =>
    intro xc s s' e a C Q htr hd hro h hs hN hQ
    cases xc <;> simp only [tr, XCode.wipe, reduceCtorEq, XCode.seq.injEq] at htr
    rename_i x' y'
    simp only [drawsOk, Bool.and_eq_true] at hd
    simp only [exCode] at h
    cases hx : exCode call n x' s with
    | none => rw [hx] at h; cases h
    | some p =>
      obtain ⟨e1, s1⟩ := p
      rw [hx] at h
      refine wpIn_seq (ihx x' htr.1 hd.1 (hro.imp id fun h => (Bool.and_eq_true_iff.1 h).1) hx hs hN fun D a' hl => ?_)
      cases e1 with
      | normal =>
        simp only [exitOf, Exit.then]
        exact ihy y' htr.2 hd.2 (hro.imp id fun h => (Bool.and_eq_true_iff.1 h).2) h hl.rep (by rw [hl.size]; exact hN) fun E a'' hl' => hQ E a'' (hl.trans (by rw [hl.k] at hl'; exact hl'))
      | exit id => cases h; exact hQ D a' hl
      | ret => cases h; exact hQ D a' hl
  | cond o x y ihx ihy =>
    intro xc s s' e a C Q htr hd hro h hs hN hQ
    simp only [tr] at htr
    split at htr
    · rename_i o' ho
      cases xc <;> simp only [XCode.wipe, reduceCtorEq, XCode.cond.injEq] at htr
      rename_i o'' x' y'
      obtain ⟨rfl, h1, h2⟩ := htr
      simp only [drawsOk, Bool.and_eq_true] at hd
      simp only [exCode] at h
      split at h
      · rename_i t ht
        have hv := src_val hs ho ht
        refine wpIn_cond hv ?_
        cases t with
        | true => simp only [if_true] at h ⊢; exact ihx x' h1 hd.1 (hro.imp id fun h => (Bool.and_eq_true_iff.1 h).1) h hs hN hQ
        | false => simp only [Bool.false_eq_true, if_false] at h ⊢; exact ihy y' h2 hd.2 (hro.imp id fun h => (Bool.and_eq_true_iff.1 h).2) h hs hN hQ
      · cases h
    · rw [bad_none htr] at h; cases h
  | block id b ih =>
    intro xc s s' e a C Q htr hd hro h hs hN hQ
    cases xc <;> simp only [tr, XCode.wipe, reduceCtorEq, XCode.block.injEq] at htr
    rename_i id' b'
    obtain ⟨rfl, htr⟩ := htr
    simp only [drawsOk] at hd
    simp only [exCode] at h
    cases hx : exCode call n b' s with
    | none => rw [hx] at h; cases h
    | some p =>
      obtain ⟨e1, s1⟩ := p
      rw [hx] at h
      refine wpIn_block (ih b' htr hd hro hx hs hN fun D a' hl => ?_)
      cases e1 with
      | normal => cases h; exact hQ D a' hl
      | exit j =>
        simp only at h
        split at h
        · rename_i hj; cases h; simp only [exitOf, Exit.inBlock, hj, if_true]; exact hQ D a' hl
        · rename_i hj; cases h; simp only [exitOf, Exit.inBlock, hj, if_false]; exact hQ D a' hl
      | ret => cases h; exact hQ D a' hl
  | loop b ih =>
    intro xc s s' e a C Q htr hd hro h hs hN hQ
    cases xc <;> simp only [tr, XCode.wipe, reduceCtorEq, XCode.loop.injEq, true_and] at htr
    rename_i keep b'
    simp only [drawsOk] at hd
    simp only [exCode] at h
    have key : ∀ (m : Nat) (s : St) (a : Act) (C : Cx), rounds (fun s => exCode call n b' (s.tidy keep)) m s = some (e, s') → SRep num C s a → N ≤ a.tmps.size → (∀ D a', Later num s.k C s.mem a D s' a' → Q (exitOf e) a' D.w) → Code.roundsIn (fz ro) 0 P b Q m a C.w := by
      intro m
      induction m with
      | zero => intro s a C h; cases h
      | succ m ihm =>
        intro s a C h hs hN hQ
        simp only [rounds] at h
        obtain ⟨D0, hw, h0⟩ := tidy_later hs keep
        rw [roundsIn_succ, ← hw]
        cases hx : exCode call n b' (s.tidy keep) with
        | none => rw [hx] at h; cases h
        | some p =>
          obtain ⟨e1, s1⟩ := p
          rw [hx] at h
          refine ih b' htr hd hro hx h0.rep hN fun D a' hl => ?_
          rw [h0.k] at hl
          have hl := h0.trans hl
          cases e1 with
          | normal =>
            simp only [exitOf, Exit.then]
            exact ihm s1 a' D h hl.rep (by rw [hl.size]; exact hN) fun E a'' hl' => hQ E a'' (hl.trans (by rw [hl.k] at hl'; exact hl'))
          | exit id => cases h; exact hQ D a' hl
          | ret => cases h; exact hQ D a' hl
    exact wpIn_loop_rounds n (key n s a C h hs hN hQ)
  | scope b ih =>
    intro xc s s' e a C Q htr hd hro h hs hN hQ
    simp only [tr] at htr
    simp only [drawsOk] at hd
    refine wpIn_scope_straight (ih xc htr hd hro h hs hN fun D a' hl => ?_)
    have := hQ D a' hl
    cases e <;> exact this
  | label l =>
    intro xc s s' e a C Q htr _ _ h hs _ hQ
    cases xc <;> simp only [tr, XCode.wipe, reduceCtorEq] at htr
    cases h
    exact wpIn_label (hQ C a (.refl hs))
  | rangeFunc f ps x y =>
    intro xc s s' e a C Q htr hd hro h hs hN hQ
    simp only [tr] at htr
    split at htr
    · rename_i f' hf
      split at htr
      · rename_i hps
        cases xc <;> simp only [XCode.wipe, reduceCtorEq, XCode.rangeF.injEq, true_and] at htr
        rename_i f'' ps'' keep xa xb
        obtain ⟨rfl, rfl, ha, hb⟩ := htr
        simp only [drawsOk, Bool.and_eq_true] at hd
        rcases hro with rfl | hro
        · exact range_wp hcall hL hf (fun h1 h2 => ⟨ha, hb, hd.1, hd.2, h1, h2, hps⟩) h hs hN hQ
        · cases hro
      · rw [bad_none htr] at h; cases h
    · rw [bad_none htr] at h; cases h
  | _ =>
    intro xc s s' e a C Q htr _ _ h
    simp only [tr] at htr
    rw [bad_none htr] at h; cases h
structure FunOK (P : Program) (num : FuncId → Nat) (f : FuncId) (xf : XFun) : Prop where
  fn : ∃ fn c, P.funcs[f]? = some fn ∧ fn.name ≠ "runtime.NumGoroutine" ∧ fn.body = some c ∧ tr P num fn.ntmps c = xf.body.wipe ∧ drawsOk c xf.body = true ∧ fn.results.toList.map (trRes P) = xf.res ∧ (∀ t ty, ResultVar.cell t ty ∈ fn.results → known P ty = true)
def resKnown (P : Program) : ResultVar → Bool
  | .tmp _ => true
  | .cell _ ty => known P ty
theorem FunOK.of {num : FuncId → Nat} {f : FuncId} {xf : XFun} {fn : Func} (h : P.funcs[f]? = some fn) (hn : (fn.name == "runtime.NumGoroutine") = false) (ht : fn.body.map (tr P num fn.ntmps) = some xf.body.wipe) (hd : fn.body.map (drawsOk · xf.body) = some true)
    (hr : fn.results.toList.map (trRes P) = xf.res) (hk : fn.results.toList.all (resKnown P) = true) : FunOK P num f xf := by
  cases hb : fn.body with
  | none => rw [hb] at ht; cases ht
  | some c =>
    rw [hb] at ht hd
    refine ⟨fn, c, h, by simpa using hn, hb, Option.some.inj ht, Option.some.inj hd, hr, fun t ty hm => ?_⟩
    exact List.all_eq_true.1 hk _ (Array.mem_toList_iff.2 hm)
def resSem (tmps : Array Value) : ResultVar → Sem Value
  | .tmp t => pure (tmps.getD t undef)
  | .cell a t => do loadVar t (← asAddr (tmps.getD a undef))
theorem results_eq (fn : Func) (tmps : Array Value) : results fn tmps = (do let vs ← fn.results.mapM (resSem tmps); pure (if h : vs.size = 1 then vs[0] else .tuple vs)) := by
  rfl
theorem run_results {fn : Func} {tmps : Array Value} {C : Cx} {s : St} {vs : List AV} (hm : MRep num C s.mem) (he : ERep num C s.env tmps) (hk : ∀ t ty, ResultVar.cell t ty ∈ fn.results → known P ty = true) (h : (fn.results.toList.map (trRes P)).mapM (resOf s) = some vs) :
    ∃ v, (results fn tmps).run P C.w = .ok v C.w ∧ ARep num C (wrapRes vs) v := by
  have key : ∀ (l : List ResultVar) (vs : List AV), (∀ t ty, ResultVar.cell t ty ∈ l → known P ty = true) → (l.map (trRes P)).mapM (resOf s) = some vs →
      ∃ us : List Value, (l.mapM (resSem tmps)).run P C.w = .ok us C.w ∧ vs.length = us.length ∧ ∀ (j : Nat) (x : AV) (u : Value), vs[j]? = some x → us[j]? = some u → ARep num C x u := by
    intro l
    induction l with
    | nil => intro vs _ h; simp at h; subst h; exact ⟨[], by simp, rfl, fun j x u hx _ => by simp at hx⟩
    | cons r l ih =>
      intro vs hk h
      simp only [List.map_cons, List.mapM_cons, Option.bind_eq_bind, Option.pure_def] at h
      cases hr : resOf s (trRes P r) with
      | none => rw [hr] at h; simp at h
      | some x =>
        rw [hr] at h
        cases hrest : (l.map (trRes P)).mapM (resOf s) with
        | none => rw [hrest] at h; simp at h
        | some xs =>
          rw [hrest] at h
          simp at h
          subst h
          obtain ⟨us, h1, h2, h3⟩ := ih xs (fun t ty hm => hk t ty (List.mem_cons_of_mem _ hm)) hrest
          have hone : ∃ u, (resSem tmps r).run P C.w = .ok u C.w ∧ ARep num C x u := by
            cases r with
            | tmp t => simp only [trRes, resOf, Option.some.injEq] at hr; subst hr; exact ⟨tmps.getD t undef, by simp only [resSem, Sem.run_pure], he t⟩
            | cell t ty =>
              simp only [trRes, resOf] at hr
              obtain ⟨b, o, u, hv, h4, h5⟩ := run_loadVar (hk t ty (List.mem_cons_self ..)) hm (he t) hr
              refine ⟨u, ?_, h5⟩
              simp only [resSem, hv, asAddr, Sem.run_bind, Sem.run_pure, Result.andThen_ok, h4]
          obtain ⟨u, h4, h5⟩ := hone
          refine ⟨u :: us, ?_, by simp [h2], fun j y z hy hz => ?_⟩
          · rw [List.mapM_cons]
            simp [h4, h1]
          · cases j with
            | zero => simp at hy hz; subst hy; subst hz; exact h5
            | succ j => exact h3 j y z (by simpa using hy) (by simpa using hz)
  obtain ⟨us, h1, h2, h3⟩ := key fn.results.toList vs (fun t ty hm => hk t ty (Array.mem_toList_iff.1 hm)) h
  have hrun : (results fn tmps).run P C.w = .ok (if h : us.toArray.size = 1 then us.toArray[0] else .tuple us.toArray) C.w := by
    rw [results_eq, Array.mapM_eq_mapM_toList]
    simp [h1]
  refine ⟨_, hrun, ?_⟩
  cases vs with
  | nil =>
    have : us = [] := by simpa using h2.symm
    subst this
    exact .tup [] #[] rfl fun j x u hx _ => by simp at hx
  | cons x r =>
    cases us with
    | nil => simp at h2
    | cons u us =>
      cases r with
      | nil =>
        have : us = [] := by simpa using h2.symm
        subst this
        exact h3 0 x u rfl rfl
      | cons y r =>
        cases us with
        | nil => simp at h2
        | cons u' us =>
          simp only [wrapRes]
          rw [dif_neg (by simp)]
          exact .tup _ _ (by simpa using h2) fun j x u hx hu => h3 j x u hx (by simpa using hu)
theorem enter_get : ∀ (l : List AV) (i t : Nat), (enter i l).get t = if i ≤ t then (l[t - i]?).getD .junk else .junk
  | [], i, t => by simp [enter, Env.get]
  | x :: r, i, t => by
    simp only [enter, Env.get]
    by_cases h : t = i
    · subst h; simp
    · rw [if_neg h, enter_get r (i + 1) t]
      by_cases h' : i ≤ t
      · have h1 : i + 1 ≤ t := by omega
        have h2 : t - i = (t - (i + 1)) + 1 := by omega
        rw [if_pos h', if_pos h1, h2]; simp
      · rw [if_neg h', if_neg (by omega)]
theorem wpIn_conseq {F : Fence} {n : Nat} {c : Code} {Q Q' : Exit → Act → World → Prop} {a : Act} {w : World} (h : c.wpIn F n P Q a w) (hq : ∀ e a w, Q e a w → Q' e a w) : c.wpIn F n P Q' a w := Code.wpIn_mono hq h
theorem leaves_marks {fn : Func} {k : Nat} {C : Cx} {m m1 : Mem} {e : Env} {tmps : Array Value} {R : Ending → World → Prop} : ∀ {ds : List Deferred} {D : Cx}, Step num k C m D m1 → ERep num D e tmps → Marked C.w.heap.size D ds →
    (∀ D, Step num k C m D m1 → ERep num D e tmps → ∃ v, (results fn tmps).run P D.w = .ok v D.w ∧ R (.returned v) D.w) → LeavesInM Fence.wide 0 P fn tmps R ds .returning D.w := by
  intro ds
  induction ds with
  | nil => intro D hst hen _ h; exact h D hst hen
  | cons d ds ih =>
    intro D hst hen hmk h
    obtain ⟨rs, h1, h2, h3⟩ := hmk
    cases rs with
    | nil => cases h1
    | cons r rs =>
      simp only [List.map_cons, List.cons.injEq] at h1
      obtain ⟨rfl, rfl⟩ := h1
      obtain ⟨hr, hrs⟩ := List.nodup_cons.1 h2
      obtain ⟨g1, g2, g3⟩ := h3 r (List.mem_cons_self ..)
      have hc : ∀ arr e fz, D.w.heap[r]? ≠ some (.cells arr e fz) := fun arr e fz h => by rw [g2] at h; cases h
      have hown : ¬ Own D m1 r := fun ho => by
        rcases own_obj hst.rep ho with ⟨_, _, _, h⟩ | ⟨_, _, h⟩ | ⟨_, h⟩ <;> rw [g2] at h <;> cases h
      refine ⟨by simp, .inl ⟨r, D.w.putObj r (.deferred none), rfl, run_takeDeferred g2, ?_⟩⟩
      refine ih (D := { D with w := D.w.putObj r (.deferred none) }) (putObj_step hst g1 g3 hc hown) (hen.mono (putObj_tr g3 hc)) ⟨rs, rfl, hrs, fun q hq => ?_⟩ h
      obtain ⟨q1, q2, q3⟩ := h3 q (List.mem_cons_of_mem _ hq)
      exact ⟨q1, (World.putObj_heap_other fun h => hr (by rw [← h]; exact hq)).trans q2, q3⟩
theorem round_ok {call : Calls'} (hcall : CallOK num P call) (hmix : P.follows .mixedOrders = true) (hL : ∀ a b ps N as bs, LoopOK P num a b ps N as bs ↔ num.L a b ps N as bs) {n : Nat} {args : List AV} {m m' : Mem} {r : AV} {C : Cx} {l : Nat} {vals : Array Value}
    (h : exRound (exCode call n) args m = some (r, m')) (hm : MRep num C m) (hlen : args.length = vals.size + 1) (h0 : ∀ x, args[0]? = some x → ARep num C x (.func (.yield l) #[] #[]))
    (hr : ∀ (j : Nat) (x : AV) (u : Value), args[j + 1]? = some x → vals[j]? = some u → ARep num C x u) :
    ∃ fn tmps assign body, (Instr.yield l vals).run P C.w = .ok (.round l fn tmps assign body) C.w ∧
      RoundIn Fence.wide 0 P l fn tmps assign body C.w (fun e w' => ∃ v D, e = .returned v ∧ D.w = w' ∧ Step num m.length C m D m' ∧ ARep num D r v) := by
  unfold exRound at h
  split at h
  case h_2 => cases h
  rename_i id xs
  split at h
  case h_2 => cases h
  rename_i env ps as b ho
  split at h
  case isFalse => cases h
  rename_i hxs
  split at h
  case h_2 => cases h
  rename_i s1 hx1
  split at h
  case h_2 => cases h
  rename_i e1 p1 a1 b1 ho1
  split at h
  case h_2 => cases h
  rename_i s2 hx2
  split at h
  case h_2 => cases h
  rename_i e2 p2 a2 b2 ho2
  cases h
  have hy := h0 _ rfl
  cases hy with
  | yld _ hid =>
    have hidm : id < m.length := (List.getElem?_eq_some_iff.1 ho).1
    obtain ⟨R, N, hR, hst, hpd, hps, hN, hLo, hen⟩ := hm.obj id _ ho
    obtain ⟨t1, t2, d1, d2, l1, l2, hpN⟩ := (hL _ _ _ _ _ _).2 hLo
    have hxv : xs.length = vals.size := by simpa using hlen
    have hsz : vals.size = R.params.size := by rw [← hxv, hxs, ← hps]; simp
    refine ⟨R.fn, _, R.assign, R.body, run_yield hR hsz, ?_⟩
    have htm : (R.params.zip vals).foldl (fun tmps (x : Tmp × Value) => tmps.setIfInBounds x.1 x.2) R.tmps = (ps.zip vals.toList).foldl (fun t p => t.setIfInBounds p.1 p.2) R.tmps := by
      rw [← hps, ← Array.toList_zip, ← Array.foldl_toList]
    have hpl : ∀ p ∈ ps, p < N := fun p hp => by simpa using List.all_eq_true.1 hpN p hp
    have hen0 : ERep num C (env.enterAt ps xs) ((ps.zip vals.toList).foldl (fun t p => t.setIfInBounds p.1 p.2) R.tmps) :=
      enterAt_rep ps xs vals.toList (erep_of hen) (fun p hp => Nat.lt_of_lt_of_le (hpl p hp) hN) (by simp [hxv]) fun j x u hx hu => hr j x u (by simpa using hx) (by simpa using hu)
    generalize hq : (ps.zip vals.toList).foldl (fun t p => t.setIfInBounds p.1 p.2) R.tmps = tm at htm hen0
    have htsz : tm.size = R.tmps.size := by rw [← hq]; exact foldl_set_size _ _
    refine roundIn_of_wpIn (F := Fence.wide) (n := 0) trivial ?_
    rw [show ((R.params.zip vals).foldl (fun tmps (x : Tmp × Value) => match x with | (t, a) => tmps.setIfInBounds t a) R.tmps) = tm from htm]
    have hs0 : SRep num C { k := m.length, env := env.enterAt ps xs, mem := m } { tmps := tm, defers := [] } := ⟨hm, hen0, Nat.le_refl _⟩
    refine code_wp (ro := some (C.σ id)) hcall hmix (fun a b ps N as bs => (hL a b ps N as bs).1) R.assign as t1 d1 (.inr l1) hx1 hs0 (by rw [htsz]; exact hN) fun D1 c1 hl1 => ?_
    obtain ⟨_, _, _, hσ1⟩ := hl1.step.same id hidm _ ho1 rfl
    obtain ⟨R1, N1, hR1, hst1, hpd1, hps1, hN1, hLo1, hen1⟩ := hl1.rep.mem.obj id _ ho1
    have hbusy : ORep num { D1 with w := D1.w.putObj (D1.σ id) (.loop { R1 with state := .busy }) } id (.loop e1 p1 a1 b1 true) := by
      refine ⟨{ R1 with state := .busy }, N1, World.putObj_heap_same (Array.getElem?_eq_some_iff.1 hR1).1, rfl, hpd1, hps1, hN1, hLo1, fun p hp => (hen1 p hp).mono (putObj_tr (hl1.rep.mem.imm _ ⟨_, _, ho1, rfl, rfl⟩) fun arr e fz h => by rw [hR1] at h; cases h)⟩
    have hs1 := loop_step hl1.rep.mem ho1 hbusy rfl (k := m.length) (by have := hl1.rep.k; rw [hl1.k] at this; exact this)
    have hD1 : D1.w.heap[C.σ id]? = some (.loop R1) := by rw [← hσ1]; exact hR1
    rw [hσ1] at hs1
    refine ⟨_, run_beginRound hD1 hst1, ?_⟩
    have hk1 := hl1.rep.k
    rw [hl1.k] at hk1
    have hs2 : SRep num { D1 with w := D1.w.putObj (C.σ id) (.loop { R1 with state := .busy }) } { k := s1.k, env := s1.env, mem := s1.mem.set id (.loop e1 p1 a1 b1 true) } c1 :=
      ⟨hs1.rep, hl1.rep.env.mono (putObj_tr (by rw [← hσ1]; exact hl1.rep.mem.imm _ ⟨_, _, ho1, rfl, rfl⟩) fun arr e fz h => by rw [hD1] at h; cases h), by simp [hl1.k]; exact hk1⟩
    refine code_wp (ro := some (C.σ id)) hcall hmix (fun a b ps N as bs => (hL a b ps N as bs).1) R.body b t2 d2 (.inr l2) hx2 hs2 (by rw [hl1.size, htsz]; exact hN) fun D2 c2 hl2 => ?_
    have hl2k : s2.k = m.length := hl2.k.trans hl1.k
    obtain ⟨_, _, _, hσ2⟩ := hl2.step.same id (by show id < s1.k; rw [hl1.k]; exact hidm) _ ho2 rfl
    have hσ2' : D2.σ id = C.σ id := hσ2.trans hσ1
    obtain ⟨R2, N2, hR2, hst2, hpd2, hps2, hN2, hLo2, hen2⟩ := hl2.rep.mem.obj id _ ho2
    have hfree : ORep num { D2 with w := D2.w.putObj (D2.σ id) (.loop { R2 with state := .ready, pending := none }) } id (.loop e2 p2 a2 b2 false) := by
      refine ⟨{ R2 with state := .ready, pending := none }, N2, World.putObj_heap_same (Array.getElem?_eq_some_iff.1 hR2).1, rfl, rfl, hps2, hN2, hLo2, fun p hp => (hen2 p hp).mono (putObj_tr (hl2.rep.mem.imm _ ⟨_, _, ho2, rfl, rfl⟩) fun arr e fz h => by rw [hR2] at h; cases h)⟩
    have hk2 := hl2.rep.k
    rw [hl2k] at hk2
    have hs3 := loop_step hl2.rep.mem ho2 hfree rfl (k := m.length) hk2
    have hD2 : D2.w.heap[C.σ id]? = some (.loop R2) := by rw [← hσ2']; exact hR2
    rw [hσ2'] at hs3
    have hall : Step num m.length C m { D2 with w := D2.w.putObj (C.σ id) (.loop { R2 with state := .ready, pending := none }) } (s2.mem.set id (.loop e2 p2 a2 b2 false)) :=
      hl1.step.trans (hs1.trans ((hl2.step.le (by show m.length ≤ s1.k; rw [hl1.k]; exact Nat.le_refl _)).trans hs3))
    refine ⟨_, _, run_endRound none hD2, ?_⟩
    show ∃ (v : Value) (D : Cx), Ending.returned (.bool true) = .returned v ∧ D.w = D2.w.putObj (C.σ id) (.loop { R2 with state := .ready, pending := none }) ∧ _
    unfold Mem.trim
    split
    · exact ⟨.bool true, _, rfl, rfl, hall, .imm _ _ (.val _ rfl)⟩
    · have hp := pick_step hall.rep (k := m.length) (by simp; exact hk2) []
      exact ⟨.bool true, _, rfl, rfl, hall.trans hp, .imm _ _ (.val _ rfl)⟩
theorem fun_ok {call : Calls'} (hcall : CallOK num P call) (hmix : P.follows .mixedOrders = true) (hL : ∀ a b ps N as bs, LoopOK P num a b ps N as bs → num.L a b ps N as bs) {n : Nat} {f : FuncId} {xf : XFun} (hf : FunOK P num f xf) {args : List AV} {m m' : Mem} {r : AV} {C : Cx} {vals : Array Value} (h : exFun call n xf args m = some (r, m')) (hm : MRep num C m) (hl : args.length = vals.size)
    (hr : ∀ (j : Nat) (x : AV) (u : Value), args[j]? = some x → vals[j]? = some u → ARep num C x u) :
    Callable P f ∧ Calls P f vals C.w (fun e w' => ∃ v D, e = .returned v ∧ D.w = w' ∧ Step num m.length C m D m' ∧ ARep num D r v) := by
  obtain ⟨fn, c, h1, h2, h3, h4, h5, h6, h7⟩ := hf.fn
  refine ⟨⟨fn, h1, h2, by rw [h3]; rfl⟩, (callsIn_wide (n := 0)).1 (callsIn_of_wp_marks h1 h3 trivial ?_)⟩
  generalize ha : ({ tmps := vals ++ Array.replicate (fn.ntmps - vals.size) undef, defers := [] } : Act) = a
  have hN : fn.ntmps ≤ a.tmps.size := by rw [← ha]; simp; omega
  have hs : SRep num C { k := m.length, env := enter 0 args, mem := m } a := by
    refine ⟨hm, fun t => ?_, Nat.le_refl _⟩
    rw [enter_get]
    simp only [Nat.zero_le, if_true, Nat.sub_zero]
    cases hx : args[t]? with
    | none => exact .junk _
    | some x =>
      have ht : t < vals.size := by rw [← hl]; exact (List.getElem?_eq_some_iff.1 hx).1
      have : a.tmps.getD t undef = vals[t] := by
        rw [← ha]
        simp only [Array.getD_eq_getD_getElem?, Array.getElem?_append, if_pos ht]
        simp [ht]
      rw [this]
      exact hr t x vals[t] hx (by simp [ht])
  have hmk0 : Marked C.w.heap.size C a.defers := ⟨[], by rw [← ha]; rfl, List.nodup_nil, fun r hr => by cases hr⟩
  have hdone : ∀ {s : St}, leave s xf = some (r, m') → ∀ D a', Later num m.length C m a D s a' → LeavesInM Fence.wide 0 P fn a'.tmps (fun e w' => ∃ v D, e = .returned v ∧ D.w = w' ∧ Step num m.length C m D m' ∧ ARep num D r v) a'.defers .returning D.w := by
    intro s hlv D a' hlat
    refine leaves_marks hlat.step hlat.rep.env (hlat.marks _ (Nat.le_refl _) hmk0) fun D hst hen => ?_
    unfold leave at hlv
    cases hv : xf.res.mapM (resOf s) with
    | none => rw [hv] at hlv; cases hlv
    | some vs =>
      rw [hv] at hlv
      rw [← h6] at hv
      obtain ⟨v, hrun, hx⟩ := run_results hst.rep hen h7 hv
      refine ⟨v, hrun, v, ?_⟩
      simp only [Option.map_some] at hlv
      split at hlv
      · cases hlv
        exact ⟨D, rfl, rfl, hst, hx⟩
      · cases hlv
        have hst1 := pick_step hst.rep (k := s.k) hlat.rep.k (wrapRes vs).refs
        have hst' : Step num m.length D s.mem (D.pick (order s.k (wrapRes vs).refs s.mem)) (s.mem.pickAll (order s.k (wrapRes vs).refs s.mem)) := hst1.le (by rw [hlat.k]; exact Nat.le_refl _)
        exact ⟨D.pick (order s.k (wrapRes vs).refs s.mem), rfl, rfl, hst.trans hst', hx.tr (pick_tr _)⟩
  unfold exFun at h
  split at h
  · rename_i s hx
    exact wpIn_conseq (code_wp (ro := none) hcall hmix hL c xf.body h4 h5 (.inl rfl) hx hs hN (Q := fun e a' w => ∃ D, e = .normal ∧ D.w = w ∧ Later num m.length C m a D s a') fun D a' hlat => ⟨D, rfl, rfl, hlat⟩) fun e a' w ⟨D, h1, h2, h3⟩ => by
      subst h1 h2; exact hdone h D a' h3
  · rename_i s hx
    exact wpIn_conseq (code_wp (ro := none) hcall hmix hL c xf.body h4 h5 (.inl rfl) hx hs hN (Q := fun e a' w => ∃ D, e = .ret ∧ D.w = w ∧ Later num m.length C m a D s a') fun D a' hlat => ⟨D, rfl, rfl, hlat⟩) fun e a' w ⟨D, h1, h2, h3⟩ => by
      subst h1 h2; exact hdone h D a' h3
  · cases h
structure Runs (P : Program) (num : Names) (code : Nat → Option XFun) (ext : Calls') : Prop where
  mix : P.follows .mixedOrders = true
  fns : ∀ f xf, code (num f) = some xf → FunOK P num f xf
  ext : ExtOK num P ext
  nz : ∀ f, num f ≠ yieldNo
  yld : code yieldNo = none
  loops : ∀ a b ps N as bs, LoopOK P num a b ps N as bs ↔ num.L a b ps N as bs
theorem runs_callN {code : Nat → Option XFun} {ext : Calls'} (h : Runs P num code ext) : ∀ n, CallOK num P (callN code ext n)
  | 0 => ⟨fun f args m r m' C vals hc => (by cases hc), fun args m r m' C l vals hc => (by cases hc)⟩
  | n + 1 => by
    refine ⟨fun f args m r m' C vals hc hm hl hr => ?_, fun args m r m' C l vals hc hm hl h0 hr => ?_⟩
    · simp only [callN] at hc
      cases hf : code (num f) with
      | none => rw [hf] at hc; simp only [h.nz f, if_false] at hc; exact h.ext f args m r m' C vals hc hm hl hr
      | some xf => rw [hf] at hc; exact fun_ok (runs_callN h n) h.mix (fun a b ps N as bs => (h.loops a b ps N as bs).1) (h.fns f xf hf) hc hm hl hr
    · simp only [callN, h.yld, if_true] at hc
      exact round_ok (runs_callN h n) h.mix h.loops hc hm hl h0 hr
theorem runs_callW {code : Nat → Option XFun} {ext : Calls'} (h : Runs P num code ext) : CallOK num P (callW code ext) := by
  refine ⟨fun f args m r m' C vals hc hm hl hr => ?_, fun args m r m' C l vals hc hm hl h0 hr => ?_⟩
  · obtain ⟨n, hn⟩ := (callW_some code ext).1 hc
    exact (runs_callN h n).fn f args m r m' C vals hn hm hl hr
  · obtain ⟨n, hn⟩ := (callW_some code ext).1 hc
    exact (runs_callN h n).yld args m r m' C l vals hn hm hl h0 hr
end
end Go.EX


set_option linter.unusedVariables false
set_option linter.unusedSimpArgs false
namespace Go.EX
open Go.RowKit
section
variable {num : Names} {P : Program} {code : Nat → Option XFun} {ext : Calls'}
def Cx.whole (w : World) : Cx := { σ := fun _ => 0, I := fun b => b < w.heap.size, n := 0, w := w }
theorem whole_rep (w : World) (hG : num.G (fun b => b < w.heap.size) w) : MRep num (Cx.whole w) [] :=
  ⟨rfl, fun id o h => by simp at h, fun i j o p h => by simp at h, fun b ⟨id, o, h, _⟩ => by simp at h, fun b h => h, hG⟩
end
end Go.EX


set_option linter.unusedVariables false
set_option linter.unusedSimpArgs false
namespace Go.EX
open Go.RowKit
structure Ty (α : Type) where
  sz : Nat
  agg : Bool
  enc : α → List IV
  wf : α → Prop
  len : ∀ x, (enc x).length = sz
def tInt (k : IntKind) : Ty Int := ⟨1, false, fun n => [.val (.int k n)], fun n => (Lit.int k n).wf = true, fun _ => rfl⟩
def tBool : Ty Bool := ⟨1, false, fun b => [.val (.bool b)], fun _ => True, fun _ => rfl⟩
def Reads {α : Type} (t : Ty α) (iv : IV) (xs : List α) : Prop :=
  (∀ x ∈ xs, t.wf x) ∧ xs.length ≤ 140737488355328 ∧ ((iv = .val (.slice none 0 0) ∧ xs = []) ∨
    ∃ row off cap, iv = .slice row off xs.length cap ∧ (∀ c, cap = some c → xs.length ≤ c) ∧ cut row off (xs.length * t.sz) = some (xs.flatMap t.enc))
structure Sl {α : Type} (t : Ty α) where
  iv : IV
  xs : List α
  ok : Reads t iv xs
def tSl {α : Type} (t : Ty α) : Ty (Sl t) := ⟨1, false, fun s => [s.iv], fun _ => True, fun _ => rfl⟩
def Ty.av {α : Type} (t : Ty α) (x : α) : AV := if t.agg then .agg ((t.enc x).map .imm) else match t.enc x with
  | [y] => .imm y
  | _ => .junk
def ReadsAs {α : Type} (P : Program) (t : TypeId) (τ : Ty α) : Prop :=
  ∀ {H : Type} (enc : TypeId × Value → H) (w : World) (spare : Nat → Bool) (_ : ∀ b, spare b = true) (fuel : Nat) (cs : List Value) (x : DataW H × List MemPlace), DataW.trod enc P w 0 spare true fuel t cs = some x → (DataW.weights P t x.1).all (· ≤ reachBytes) = true →
    ∃ d : α, τ.wf d ∧ cs.length = τ.sz ∧ ∀ (j : Nat) (y : IV) (u : Value), (τ.enc d)[j]? = some y → cs[j]? = some u → IRep (fun b => b < w.heap.size) w y u
section
variable {P : Program} {t : TypeId}
theorem readsInt {k : IntKind} (ht : P.underlying t = some (.int k)) : ReadsAs P t (tInt k) := by
  intro H enc w spare hsp fuel cs x h hwt
  obtain ⟨n, rfl, _, hw⟩ := DataW.trod_int ht h
  refine ⟨n, hw, rfl, fun j y u hy hu => ?_⟩
  cases j with
  | zero => simp [tInt] at hy hu; subst hy; subst hu; exact .val _ rfl
  | succ j => simp [tInt] at hy
theorem readsBool (ht : P.underlying t = some .bool) : ReadsAs P t tBool := by
  intro H enc w spare hsp fuel cs x h hwt
  obtain ⟨n, rfl, _⟩ := DataW.trod_bool ht h
  refine ⟨n, trivial, rfl, fun j y u hy hu => ?_⟩
  cases j with
  | zero => simp [tBool] at hy hu; subst hy; subst hu; exact .val _ rfl
  | succ j => simp [tBool] at hy
theorem cells?_get {w : World} {base : Nat} {a : Addr} {n : Nat} {cs : List Value} (h : w.cells? base a n = some cs) : cs.length = n ∧ ∀ j, j < n → w.cell? (a.add j) = cs[j]? := by
  unfold World.cells? at h
  split at h
  · refine ⟨by simpa using mapM_some_length h, fun j hj => ?_⟩
    exact mapM_some_get h j j (by simp [hj])
  · cases h
theorem flatMap_get {α β : Type} (f : α → List β) (n : Nat) (hn : 0 < n) (hf : ∀ x, (f x).length = n) : ∀ (l : List α) (j : Nat), (l.flatMap f)[j]? = (l[j / n]?).bind fun x => (f x)[j % n]?
  | [], j => by simp
  | x :: r, j => by
    rw [List.flatMap_cons, List.getElem?_append, hf x]
    by_cases h : j < n
    · rw [if_pos h, Nat.div_eq_of_lt h, Nat.mod_eq_of_lt h]; rfl
    · rw [if_neg h, flatMap_get f n hn hf r (j - n)]
      have h1 : j / n = (j - n) / n + 1 := by
        rw [← Nat.div_eq_sub_div hn (by omega)]
      have h2 : j % n = (j - n) % n := Nat.mod_eq_sub_mod (by omega)
      rw [h1, h2]; rfl
theorem flatMap_len {α β : Type} (f : α → List β) (n : Nat) (hf : ∀ x, (f x).length = n) : ∀ (l : List α), (l.flatMap f).length = l.length * n
  | [] => by simp
  | x :: r => by rw [List.flatMap_cons, List.length_append, hf x, flatMap_len f n hf r, List.length_cons, Nat.add_mul, Nat.one_mul, Nat.add_comm]
theorem cut_all {α : Type} (l : List α) {n : Nat} (h : l.length = n) : cut l 0 n = some l := by
  subst h
  simp [cut]
theorem choose_list {α : Type} (n : Nat) (p : Nat → α → Prop) (h : ∀ i, i < n → ∃ x, p i x) : ∃ l : List α, l.length = n ∧ ∀ i x, l[i]? = some x → p i x := by
  induction n with
  | zero => exact ⟨[], rfl, fun i x hx => by simp at hx⟩
  | succ n ih =>
    obtain ⟨l, h1, h2⟩ := ih fun i hi => h i (by omega)
    obtain ⟨x, hx⟩ := h n (by omega)
    refine ⟨l ++ [x], by simp [h1], fun i y hy => ?_⟩
    rw [List.getElem?_append] at hy
    split at hy
    · exact h2 i y hy
    · have : i = n := by
        have := (List.getElem?_eq_some_iff.1 hy).1
        simp at this; omega
      subst this
      simp [h1] at hy
      subst hy; exact hx
theorem weightsAll_get {H : Type} {e : TypeId} : ∀ (l : List (DataW H)), (DataW.weightsAll P e l).all (· ≤ reachBytes) = true → ∀ (i : Nat) (d : DataW H), l[i]? = some d → (DataW.weights P e d).all (· ≤ reachBytes) = true
  | [], _, i, d, h => by simp at h
  | x :: l, hw, i, d, h => by
    simp only [DataW.weightsAll, List.all_append, Bool.and_eq_true] at hw
    cases i with
    | zero => simp at h; subst h; exact hw.1
    | succ i => exact weightsAll_get l hw.2 i d (by simpa using h)
theorem readsSl {α : Type} {e : TypeId} {τ : Ty α} (ht : P.underlying t = some (.slice e)) (he : ReadsAs P e τ) (hc : P.cellsOf e = τ.sz) (h0 : 0 < τ.sz) (hby : 0 < P.bytesOf e) : ReadsAs P t (tSl τ) := by
  intro H enc w spare hsp fuel cs x h hwt
  have hlt := DataW.trod_lt _ _ _ _ h
  rcases DataW.trod_slice ht h with ⟨rfl, _⟩ | ⟨a, len, cap, elems, rest, n, _, rfl, rfl, hb, hl, hm, hel, h1, h2, _⟩
  · refine ⟨⟨.val (.slice none 0 0), [], fun x hx => (by cases hx), by simp, .inl ⟨rfl, rfl⟩⟩, trivial, rfl, fun j y u hy hu => ?_⟩
    cases j with
    | zero => simp [tSl] at hy hu; subst hy; subst hu; exact .val _ rfl
    | succ j => simp [tSl] at hy
  · obtain ⟨hr, h3⟩ := h2 (hsp _)
    simp only [DataW.weights, ht, List.all_cons, List.all_append, Bool.and_eq_true, decide_eq_true_eq, List.length_map] at hwt
    have hlong : elems.length + rest.length ≤ reachBytes := Nat.le_trans (Nat.le_mul_of_pos_right _ hby) hwt.1
    have hwe := hwt.2.1
    have hone : ∀ i, i < len → ∃ d : α, τ.wf d ∧ ∀ j y, (τ.enc d)[j]? = some y → ∃ u, w.cell? ((a.add (i * τ.sz)).add j) = some u ∧ IRep (fun b => b < w.heap.size) w y u := by
      intro i hi
      have h4 := h1 i hi
      have hei : ∃ z, elems[i]? = some z := by
        have hie : i < elems.length := by omega
        exact ⟨_, List.getElem?_eq_getElem hie⟩
      obtain ⟨z, hz⟩ := hei
      rw [hz] at h4
      rw [Option.bind_eq_some_iff] at h4
      obtain ⟨cs, h5, h6⟩ := h4
      obtain ⟨d, hd, hlen, hrep⟩ := he enc w spare hsp n cs z h6 (weightsAll_get _ hwe i z.1 (by rw [List.getElem?_map, hz]; rfl))
      obtain ⟨h7, h8⟩ := cells?_get h5
      refine ⟨d, hd, fun j y hy => ?_⟩
      have hj : j < cs.length := by
        rw [hlen]
        have := (List.getElem?_eq_some_iff.1 hy).1
        rw [τ.len] at this; exact this
      refine ⟨cs[j], ?_, hrep j y _ hy (List.getElem?_eq_getElem hj)⟩
      have := h8 j (by rw [← h7]; exact hj)
      rw [hc] at this
      rw [this]; exact List.getElem?_eq_getElem hj
    obtain ⟨xs, hxl, hxs⟩ := choose_list len _ hone
    have hmax : xs.length ≤ 140737488355328 := by have e : reachBytes = 140737488351232 := rfl; omega
    refine ⟨⟨.slice (xs.flatMap τ.enc) 0 xs.length (some cap), xs, fun x hx => ?_, by omega, .inr ⟨_, 0, some cap, rfl, fun c hc => by cases hc; omega, cut_all _ (flatMap_len _ _ τ.len xs)⟩⟩, trivial, rfl, fun j y u hy hu => ?_⟩
    · obtain ⟨i, hi, rfl⟩ := List.mem_iff_getElem.1 hx
      exact (hxs i _ (List.getElem?_eq_getElem hi)).1
    cases j with
    | succ j => simp [tSl] at hy
    | zero =>
      simp [tSl] at hy hu; subst hy; subst hu
      by_cases hcap : cap = 0
      · subst hcap
        have : len = 0 := by omega
        subst this
        rw [hxl]
        exact .vac _ 0 a
      · have hblk : a.block < w.heap.size := by
          have hin : MemPlace.cell a.block a.off ∈ MemPlace.row a ((elems.length + rest.length) * P.cellsOf e) := by
            simp only [MemPlace.row, List.mem_map, List.mem_range]
            refine ⟨0, ?_, by simp⟩
            exact Nat.mul_pos (by omega) (by omega)
          exact hlt _ (List.mem_append_left _ hin)
        have hspot : a.spot = none := by
          have : ∃ z cs, w.cells? 0 a (P.cellsOf e) = some cs ∧ z = cs := by
            by_cases hl0 : 0 < len
            · have h4 := h1 0 hl0
              have hie : 0 < elems.length := by omega
              rw [List.getElem?_eq_getElem hie, Option.bind_eq_some_iff] at h4
              obtain ⟨cs, h5, _⟩ := h4
              simp [Addr.add] at h5
              exact ⟨cs, cs, h5, rfl⟩
            · have h4 := h3 0 (by omega)
              have hie : 0 < rest.length := by omega
              rw [List.getElem?_eq_getElem hie, Option.bind_eq_some_iff] at h4
              obtain ⟨cs, h5, _⟩ := h4
              have : len = 0 := by omega
              subst this
              simp [Addr.add] at h5
              exact ⟨cs, cs, h5, rfl⟩
          obtain ⟨_, cs, h5, _⟩ := this
          obtain ⟨h7, h8⟩ := cells?_get h5
          have h9 := h8 0 (by omega)
          have hj : 0 < cs.length := by omega
          rw [List.getElem?_eq_getElem hj] at h9
          have := World.cell?_spot h9
          simpa [Addr.add] using this
        obtain ⟨b, o, sp⟩ := a
        simp only at hspot
        subst hspot
        have hcell : ∀ j y, (xs.flatMap τ.enc)[j]? = some y → ∃ u, w.cell? ⟨b, o + j, none⟩ = some u ∧ IRep (fun b => b < w.heap.size) w y u := by
          intro j y hy
          rw [flatMap_get _ _ h0 τ.len, Option.bind_eq_some_iff] at hy
          obtain ⟨d, hd, hy⟩ := hy
          obtain ⟨u, hu, hr⟩ := (hxs _ _ hd).2 _ _ hy
          refine ⟨u, ?_, hr⟩
          rw [addr_add, addr_add] at hu
          rw [← hu]
          congr 2
          have := Nat.div_add_mod j τ.sz
          rw [Nat.mul_comm] at this
          omega
        rw [← hxl]
        refine IRep.slice (I := fun b => b < w.heap.size) (xs.flatMap τ.enc) 0 xs.length (some cap) b o cap o (fun j => (w.cell? ⟨b, o + j, none⟩).getD undef) hblk (fun j y hy => ?_) (fun j y hy => ?_) (by omega) (fun k hk => by cases hk; rfl) (.inl rfl)
        · obtain ⟨u, hu, _⟩ := hcell j y hy
          simp only [hu]; rfl
        · obtain ⟨u, hu, hr⟩ := hcell j y hy
          simp only [hu]; exact hr
end
end Go.EX


set_option linter.unusedVariables false
set_option linter.unusedSimpArgs false
namespace Go.EX
attribute [simp] List.range_succ funOut den_seq den_region den_ret den_cond den_exit den_skip den_block blockOut andThen exOps exOne exOp Env.ev Env.get Env.keep enter AV.cells fresh loadAt getCells getCellsI valBin boolBin intBin shiftBin strBin valUn intOf bndOf bounds
  storeAt imms leave resOf wrapRes order reach Mem.refs AObj.refs AV.refs AV.refs.refsL Mem.pickAll AObj.ren AV.ren AV.ren.renL place fillAll mkObj imZ sameCells St.tidy Env.roots Env.ren AV.plain1 AV.plain2 AV.plain AV.own1 AV.own2 AV.own IV.plain AObj.own AObj.live AV.isImm exView exOwn exShare shareOk AObj.isFix exPeek frz frz.frz1 frzV AObj.moved AObj.orMoved shareAt St.scrub isKeyAV zeroAV
@[simp] theorem lenOf_nil : lenOf (.imm (.val (.slice none 0 0))) = some 0 := rfl
@[simp] theorem lenOf_slice (row : List IV) (off len : Nat) (cap : Option Nat) : lenOf (.imm (.slice row off len cap)) = some len := rfl
@[simp] theorem lenOf_osl (id off sz len : Nat) (cap : Option Nat) : lenOf (.osl id off sz len cap) = some len := rfl
@[simp] theorem capOf_slice (row : List IV) (off len : Nat) (cap : Option Nat) : capOf (.imm (.slice row off len cap)) = cap := rfl
@[simp] theorem capOf_osl (id off sz len : Nat) (cap : Option Nat) : capOf (.osl id off sz len cap) = cap := rfl
@[simp] theorem isNil_slice (row : List IV) (off len : Nat) (cap : Option Nat) : isNil (.imm (.slice row off len cap)) = some false := rfl
@[simp] theorem isNil_ptr (row : List IV) (off : Nat) : isNil (.imm (.ptr row off)) = some false := rfl
@[simp] theorem isNil_osl (id off sz len : Nat) (cap : Option Nat) : isNil (.osl id off sz len cap) = some false := rfl
@[simp] theorem isNil_optr (id off : Nat) : isNil (.optr id off) = some false := rfl
@[simp] theorem isNil_omap (id : Nat) : isNil (.omap id) = some false := rfl
@[simp] theorem isNil_pnone : isNil (.imm (.val (.pointer none))) = some true := rfl
@[simp] theorem isNilK_snone : isNilK 0 (.imm (.val (.slice none 0 0))) = some true := rfl
@[simp] theorem isNilK_slice (row : List IV) (off len : Nat) (cap : Option Nat) : isNilK 0 (.imm (.slice row off len cap)) = some false := rfl
@[simp] theorem isNilK_osl (id off sz len : Nat) (cap : Option Nat) : isNilK 0 (.osl id off sz len cap) = some false := rfl
@[simp] theorem isNilK_pnone : isNilK 1 (.imm (.val (.pointer none))) = some true := rfl
@[simp] theorem isNilK_ptr (row : List IV) (off : Nat) : isNilK 1 (.imm (.ptr row off)) = some false := rfl
@[simp] theorem isNilK_optr (id off : Nat) : isNilK 1 (.optr id off) = some false := rfl
@[simp] theorem int_beq (a b : Int) : (a == b) = decide (a = b) := by by_cases h : a = b <;> simp [h]
theorem bytes_toList {a b : ByteArray} (h : a.toList = b.toList) : a = b := by
  have e : ∀ c : ByteArray, c.toList = c.data.toList := ByteArray.toList_eq
  rw [e, e] at h
  cases a; cases b
  simp at h
  exact congrArg ByteArray.mk h
@[simp] theorem bytes_beq (a b : ByteArray) : (a.toList == b.toList) = decide (a = b) := by
  by_cases h : a = b
  · subst h; simp
  · have : a.toList ≠ b.toList := fun e => h (bytes_toList e)
    simp [h, this]
@[simp] theorem cut_zero {β : Type} (l : List β) : cut l 0 0 = some [] := by simp [cut]
@[simp] theorem cut_cons_zero {β : Type} (x : β) (l : List β) (n : Nat) : cut (x :: l) 0 (n + 1) = (cut l 0 n).map (x :: ·) := by
  simp only [cut, List.drop_zero, List.take_succ_cons, List.length_cons]
  by_cases h : (l.take n).length = n
  · rw [if_pos h, if_pos (by omega)]; rfl
  · rw [if_neg h, if_neg (by omega)]; rfl
@[simp] theorem cut_cons_succ {β : Type} (x : β) (l : List β) (o n : Nat) : cut (x :: l) (o + 1) n = cut l o n := by simp [cut]
@[simp] theorem setAll_nil {β : Type} (l : List β) (o : Nat) : setAll l o [] = l := rfl
@[simp] theorem setAll_cons_succ {β : Type} (x : β) : ∀ (ys l : List β) (o : Nat), setAll (x :: l) (o + 1) ys = x :: setAll l o ys
  | [], l, o => rfl
  | y :: ys, l, o => by rw [setAll, List.set_cons_succ, setAll_cons_succ x ys]; rfl
@[simp] theorem setAll_cons_zero {β : Type} (x y : β) (l ys : List β) : setAll (x :: l) 0 (y :: ys) = y :: setAll l 0 ys := by
  rw [setAll, List.set_cons_zero, setAll_cons_succ]
@[simp] theorem imms_imm : ∀ (l : List IV), imms (l.map .imm) = some l
  | [] => rfl
  | x :: l => by simp [imms, imms_imm l]
@[simp] theorem copies_0 {β : Type} (l : List β) : copies 0 l = [] := rfl
@[simp] theorem copies_1 {β : Type} (l : List β) : copies 1 l = l := by simp [copies]
@[simp] theorem copies_2 {β : Type} (l : List β) : copies 2 l = l ++ l := by simp [copies]
@[simp] theorem copies_3 {β : Type} (l : List β) : copies 3 l = l ++ (l ++ l) := by simp [copies]
@[simp] theorem copies_4 {β : Type} (l : List β) : copies 4 l = l ++ (l ++ (l ++ l)) := by simp [copies]
def Ty.row {α : Type} (t : Ty α) (xs : List α) : List IV := xs.flatMap t.enc
abbrev nilS : AV := .imm (.val (.slice none 0 0))
abbrev int64 (n : Int) : AV := .imm (.val (.int .i64 n))
abbrev avb (b : Bool) : AV := .imm (.val (.bool b))
theorem loop_rule {code : Nat → Option XFun} {ext : Calls'} {keep : List Nat} {b : XCode} (I : Nat → St → Prop) (Q : XExit → St → Prop)
    (h : ∀ n s, I n s → ∃ e s', den code ext b (s.tidy keep) = some (e, s') ∧ ((e = .normal ∧ ∃ m, m < n ∧ I m s') ∨ (e ≠ .normal ∧ Q e s'))) : ∀ n s, I n s → ∃ e s', den code ext (.loop keep b) s = some (e, s') ∧ e ≠ .normal ∧ Q e s' := by
  intro n
  induction n using Nat.strongRecOn with
  | ind n ih =>
    intro s hs
    obtain ⟨e, s', h1, h2⟩ := h n s hs
    rw [den_loop, h1]
    rcases h2 with ⟨rfl, m, hm, hI⟩ | ⟨hne, hq⟩
    · exact ih m hm s' hI
    · refine ⟨e, s', ?_, hne, hq⟩
      cases e with
      | normal => exact absurd rfl hne
      | exit id => rfl
      | ret => rfl
theorem wrapI64 {x : Int} (h1 : -9223372036854775808 ≤ x) (h2 : x ≤ 9223372036854775807) : IntKind.wrap .i64 x = x := by
  simp only [IntKind.wrap, IntKind.signed, IntKind.bits]
  simp
  omega
theorem wrapU64 {x : Int} (h1 : 0 ≤ x) (h2 : x ≤ 18446744073709551615) : IntKind.wrap .u64 x = x := by
  simp only [IntKind.wrap, IntKind.signed, IntKind.bits]
  simp
  omega
theorem wfU8 {n : Int} : (tInt .u8).wf n ↔ 0 ≤ n ∧ n ≤ 255 := by
  simp [tInt, Lit.wf, IntKind.min, IntKind.max, IntKind.signed, IntKind.bits]
section
variable {α : Type} {t : Ty α} {iv : IV} {xs : List α}
theorem reads_len (h : Reads t iv xs) : lenOf (.imm iv) = some xs.length := by
  obtain ⟨_, _, ⟨rfl, rfl⟩ | ⟨row, off, cap, rfl, _⟩⟩ := h
  · rfl
  · rfl
theorem cut_some {β : Type} {l : List β} {o n : Nat} {r : List β} (h : cut l o n = some r) : r = (l.drop o).take n ∧ r.length = n := by
  unfold cut at h
  dsimp only at h
  split at h
  · rename_i h1; cases h; exact ⟨rfl, h1⟩
  · cases h
theorem cut_mk {β : Type} {l : List β} {o n : Nat} {r : List β} (h : (l.drop o).take n = r) (hl : r.length = n) : cut l o n = some r := by
  unfold cut
  dsimp only
  rw [h, if_pos hl]
theorem cut_cut {β : Type} {l : List β} {o n : Nat} {r : List β} (h : cut l o n = some r) {a b : Nat} (hab : a + b ≤ n) : cut l (o + a) b = cut r a b := by
  obtain ⟨rfl, hl⟩ := cut_some h
  unfold cut
  dsimp only
  rw [List.drop_take, List.drop_drop, List.take_take]
  have : min b (n - a) = b := by omega
  rw [this]
theorem flatMap_cut (h0 : ∀ x, (t.enc x).length = t.sz) : ∀ (xs : List α) (i k : Nat), i + k ≤ xs.length → cut (xs.flatMap t.enc) (i * t.sz) (k * t.sz) = some (((xs.drop i).take k).flatMap t.enc) := by
  intro xs i k hk
  refine cut_mk ?_ ?_
  · have hdrop : ∀ (i : Nat) (l : List α), (l.flatMap t.enc).drop (i * t.sz) = (l.drop i).flatMap t.enc := by
      intro i
      induction i with
      | zero => intro l; simp
      | succ i ih =>
        intro l
        cases l with
        | nil => simp
        | cons x l =>
          rw [List.flatMap_cons, Nat.add_mul, Nat.one_mul, Nat.add_comm, List.drop_append]
          have hx := h0 x
          rw [List.drop_eq_nil_of_le (by omega)]
          have : t.sz + i * t.sz - (t.enc x).length = i * t.sz := by omega
          rw [this, ih]; simp
    have htake : ∀ (k : Nat) (l : List α), (l.flatMap t.enc).take (k * t.sz) = (l.take k).flatMap t.enc := by
      intro k
      induction k with
      | zero => intro l; simp
      | succ i ih =>
        intro l
        cases l with
        | nil => simp
        | cons x l =>
          rw [List.flatMap_cons, Nat.add_mul, Nat.one_mul, Nat.add_comm, List.take_append]
          have hx := h0 x
          rw [List.take_of_length_le (by omega)]
          have : t.sz + i * t.sz - (t.enc x).length = i * t.sz := by omega
          rw [this, ih]; simp
    rw [hdrop, htake]
  · rw [flatMap_len _ _ h0]
    simp only [List.length_take, List.length_drop]
    congr 1
    omega
theorem reads_pos (h : Reads t iv xs) {i : Nat} {x : α} (hx : xs[i]? = some x) : ∃ row off cap, iv = .slice row off xs.length cap ∧ (∀ c, cap = some c → xs.length ≤ c) ∧ cut row off (xs.length * t.sz) = some (xs.flatMap t.enc) ∧
    cut row (off + i * t.sz) t.sz = some (t.enc x) := by
  obtain ⟨_, _, ⟨rfl, rfl⟩ | ⟨row, off, cap, rfl, hc, hcut⟩⟩ := h
  · simp at hx
  · refine ⟨row, off, cap, rfl, hc, hcut, ?_⟩
    have hi := (List.getElem?_eq_some_iff.1 hx)
    obtain ⟨hi, hxi⟩ := hi
    have : i * t.sz + t.sz ≤ xs.length * t.sz := by
      rw [← Nat.succ_mul]; exact Nat.mul_le_mul_right _ hi
    rw [cut_cut hcut this]
    have := flatMap_cut t.len xs i 1 hi
    rw [Nat.one_mul] at this
    rw [this]
    congr 1
    rw [List.drop_eq_getElem_cons hi, hxi]
    simp
theorem cut_one {β : Type} {l : List β} {o : Nat} {y : β} (h : cut l o 1 = some [y]) : l[o]? = some y := by
  obtain ⟨h1, _⟩ := cut_some h
  have : ((l.drop o).take 1)[0]? = some y := by rw [← h1]; rfl
  rw [List.getElem?_take, if_pos (by omega), List.getElem?_drop] at this
  simpa using this
theorem setAll_len {β : Type} : ∀ (ys l : List β) (o : Nat), (setAll l o ys).length = l.length
  | [], l, o => rfl
  | y :: ys, l, o => by rw [setAll, setAll_len ys, List.length_set]
theorem setAll_at {β : Type} : ∀ (ys l : List β) (o j : Nat), o + ys.length ≤ l.length → (setAll l o ys)[j]? = if o ≤ j ∧ j < o + ys.length then ys[j - o]? else l[j]?
  | [], l, o, j, h => by simp [setAll]; omega
  | y :: ys, l, o, j, h => by
    simp only [List.length_cons] at h ⊢
    rw [setAll, setAll_at ys (l.set o y) (o + 1) j (by rw [List.length_set]; omega), List.getElem?_set]
    by_cases h1 : o = j
    · subst h1
      have e1 : ¬ (o + 1 ≤ o ∧ o < o + 1 + ys.length) := by omega
      rw [if_neg e1, if_pos rfl, if_pos (by omega), if_pos (by omega)]
      simp
    · by_cases h2 : o + 1 ≤ j ∧ j < o + 1 + ys.length
      · have e3 : j - o = (j - (o + 1)) + 1 := by omega
        rw [if_pos h2, if_pos (by omega), e3]
        simp
      · rw [if_neg h2, if_neg h1, if_neg (by omega)]
end
end Go.EX


set_option linter.unusedVariables false
set_option linter.unusedSimpArgs false
namespace Go.EX
structure Val where
  k : Int
  n : Int
  deriving DecidableEq
def tVal : Ty Val := ⟨2, true, fun v => [.val (.int .u8 v.k), .val (.int .i64 v.n)], fun v => (tInt .u8).wf v.k ∧ (tInt .i64).wf v.n, fun _ => rfl⟩
structure Obj where
  k : Int
  s : ByteArray
  l : Sl tVal
  room : Int
  fn : Int
end Go.EX


set_option linter.unusedVariables false
set_option linter.unusedSimpArgs false
namespace Go.EX
open Go.RowKit Go.ChangeShapes Go.WideShapes Go.ChangeAt
def isAggT (P : Program) (t : TypeId) : Bool :=
  match P.underlying t with
  | some (.struct _) | some (.array ..) => true
  | _ => false
inductive ArgsOf (P : Program) : List TypeId → (List AV → Prop) → Prop
  | nil : ArgsOf P [] (fun as => as = [])
  | cons {α : Type} {t : TypeId} {τ : Ty α} {ts : List TypeId} {Q : List AV → Prop} (h : ReadsAs P t τ) (ha : isAggT P t = τ.agg) (r : ArgsOf P ts Q) : ArgsOf P (t :: ts) (fun as => ∃ x r, τ.wf x ∧ as = τ.av x :: r ∧ Q r)
section
variable {P : Program} {num : Names}
theorem arg_rep {α : Type} {t : TypeId} {τ : Ty α} (h : ReadsAs P t τ) (ha : isAggT P t = τ.agg) {H : Type} {enc : TypeId × Value → H} {W : World} {b : Nat} {v : Value} {d : DataW H} {ps : List MemPlace}
    (hok : Value.okWide P W .any b t v) (ht : DataW.Trod enc P W 0 (fun _ => true) true t v d ps) (hwt : (DataW.weights P t d).all (· ≤ reachBytes) = true) : ∃ x : α, τ.wf x ∧ ARep num (Cx.whole W) (τ.av x) v := by
  obtain ⟨fuel, ht⟩ := ht
  obtain ⟨x, hx, hl, hr⟩ := h enc W _ (fun _ => rfl) fuel _ _ ht hwt
  refine ⟨x, hx, ?_⟩
  unfold Ty.av
  have hlen := τ.len x
  cases hag : τ.agg with
  | true =>
    rw [hag] at ha
    have : ∃ cs, v = .agg cs := by
      unfold isAggT at ha
      unfold Value.okWide at hok
      split at ha
      · rename_i fs hu; rw [hu] at hok; obtain ⟨cs, h1, _⟩ := hok; exact ⟨cs, h1⟩
      · rename_i n e hu; rw [hu] at hok; obtain ⟨cs, h1, _⟩ := hok; exact ⟨cs, h1⟩
      · cases ha
    obtain ⟨cs, rfl⟩ := this
    have hcs : (Value.agg cs).cells = cs := rfl
    rw [hcs] at hl hr
    rw [if_pos rfl]
    have hget : ∀ (j : Nat) (u : Value), cs[j]? = some u → ∃ y, (τ.enc x)[j]? = some y ∧ IRep (fun b => b < W.heap.size) W y u := by
      intro j u hu
      have hj : j < (τ.enc x).length := by
        rw [hlen, ← hl]
        have := (Array.getElem?_eq_some_iff.1 hu).1
        simpa using this
      exact ⟨_, List.getElem?_eq_getElem hj, hr j _ u (List.getElem?_eq_getElem hj) (by simpa using hu)⟩
    refine .agg _ cs (by rw [List.length_map, hlen, ← hl]; simp) (fun j u hu => ?_) fun j y u hy hu => ?_
    · obtain ⟨y, _, h2⟩ := hget j u hu
      exact h2.one
    · rw [List.getElem?_map] at hy
      obtain ⟨z, h1, h2⟩ := hget j u hu
      rw [h1] at hy
      simp at hy; subst hy
      exact .imm _ _ h2
  | false =>
    rw [hag] at ha
    have hcell : Cell.okWide P W .any b t v := by
      unfold isAggT at ha
      unfold Value.okWide at hok
      split at hok
      · rename_i fs hu; rw [hu] at ha; cases ha
      · rename_i n e hu; rw [hu] at ha; cases ha
      · exact hok
    have hone : v.cells.toList = [v] := by
      cases v <;> first | rfl | (exfalso; unfold Cell.okWide at hcell; split at hcell <;> first | cases ‹Value.agg _ = _› | cases ‹Value.tuple _ = _› | (unfold Cell.ok at hcell; split at hcell <;> first | exact hcell | cases ‹Value.agg _ = _› | cases ‹Value.tuple _ = _›))
    rw [hone] at hl hr
    simp only [Bool.false_eq_true, if_false]
    split
    · rename_i y hy
      exact .imm _ _ (hr 0 y v (by rw [hy]; rfl) rfl)
    · exact .junk _
theorem lawArgs_rep {H : Type} {enc : TypeId × Value → H} {W : World} {b : Nat} : ∀ {ts : List TypeId} {Q : List AV → Prop} (_ : ArgsOf P ts Q) (vs : List Value) (ds : List (DataW H)) (ps : List MemPlace),
    (∀ (j : Nat) t v, ts[j]? = some t → vs[j]? = some v → Value.okWide P W .any b t v) → DataW.TrodAll enc P W 0 (fun _ => true) true ts vs ds ps → (DataW.weightsEach P ts ds).all (· ≤ reachBytes) = true →
    ∃ as, Q as ∧ as.length = vs.length ∧ ds.length = ts.length ∧ ∀ (j : Nat) (x : AV) (u : Value), as[j]? = some x → vs[j]? = some u → ARep num (Cx.whole W) x u := by
  intro ts Q h
  induction h with
  | nil =>
    intro vs ds ps _ ht _
    obtain ⟨rfl, rfl, _⟩ := trodAll_nil ht
    exact ⟨[], rfl, rfl, rfl, fun j x u hx => by simp at hx⟩
  | cons h ha r ih =>
    intro vs ds ps hok ht hwt
    obtain ⟨v0, vs0, d0, ds0, p0, q0, rfl, rfl, rfl, h0, r0⟩ := trodAll_cons ht
    obtain ⟨as, h1, h2, h3, h4⟩ := ih vs0 ds0 q0 (fun j t v hj hv => hok (j + 1) t v (by simpa using hj) (by simpa using hv)) r0 (by simp only [DataW.weightsEach, List.all_append, Bool.and_eq_true] at hwt; exact hwt.2)
    obtain ⟨x, hx, hr⟩ := arg_rep (num := num) h ha (hok 0 _ v0 rfl rfl) h0 (by simp only [DataW.weightsEach, List.all_append, Bool.and_eq_true] at hwt; exact hwt.1)
    refine ⟨_ :: as, ⟨x, as, hx, rfl, h1⟩, by simp [h2], by simp [h3], fun j y u hy hu => ?_⟩
    cases j with
    | zero => simp at hy hu; subst hy; subst hu; exact hr
    | succ j => exact h4 j y u (by simpa using hy) (by simpa using hu)
theorem trodAll_stays {H : Type} {enc : TypeId × Value → H} (hl : laidOutB P = true) {W W' : World} (hb : Below W.heap.size W W') : ∀ {ts : List TypeId} {vs : List Value} {ds : List (DataW H)} {ps : List MemPlace},
    (ts.all fun t => P.readableRec t && decide (t < P.types.size)) = true → DataW.TrodAll enc P W 0 (fun _ => true) true ts vs ds ps → DataW.TrodAll enc P W' 0 (fun b => decide (b < W.heap.size)) true ts vs ds ps
  | [], vs, ds, ps, _, h => by
    obtain ⟨rfl, rfl, rfl⟩ := trodAll_nil h
    exact trodAll_mk0
  | t :: ts, vs, ds, ps, hts, h => by
    obtain ⟨v0, vs0, d0, ds0, p0, q0, rfl, rfl, rfl, h0, r0⟩ := trodAll_cons h
    simp only [List.all_cons, Bool.and_eq_true, decide_eq_true_eq] at hts
    have lt0 : ∀ x ∈ p0, x.block < W.heap.size := by obtain ⟨m, hm⟩ := h0; exact DataW.trod_lt m _ _ _ hm
    exact trodAll_cons_mk (Below.trod hl hts.1.1 hts.1.2 h0 hb lt0) (trodAll_stays hl hb hts.2 r0)
theorem law_calls {code : Nat → Option XFun} {ext : Calls'} (h : Runs P num code ext) {f : FuncId} {as : List AV} {vals : Array Value} {w : World} (hG : num.G (fun b => b < w.heap.size) w) {m : Mem} (hr : callW code ext (num f) as [] = some (.imm (.val (.bool true)), m)) (hl : as.length = vals.size)
    (ha : ∀ (j : Nat) (x : AV) (u : Value), as[j]? = some x → vals[j]? = some u → ARep num (Cx.whole w) x u) :
    Calls P f vals w fun e w' => e = .returned (.bool true) ∧ Below w.heap.size w w' := by
  obtain ⟨_, hc⟩ := (runs_callW h).fn f _ _ _ _ (Cx.whole w) vals hr (whole_rep w hG) hl ha
  refine hc.mono fun e w' ⟨v, D, he, hw, hst, hv⟩ => ?_
  have := rep_val hv
  subst this
  subst hw
  exact ⟨he, hst.os, hst.tape, hst.out, hst.size, fun k hk => hst.keep k hk fun ⟨i, o, h, _⟩ => by simp at h⟩
def LawSpec (s : ChangeSpec) (n : Nat) : Prop := s.vars = [] ∧ ∀ (H : Type) (ds : List (DataW H)), ds.length = n → s.fn H ds = { results := [.lit (.bool true)], args := ds }
theorem law_contractG {code : Nat → Option XFun} {ext : Calls'} (hrun : Runs P num code ext) {f : FuncId} {fn : Func} {s : ChangeSpec} (hs : LawSpec s fn.params.toList.length) (hl : laidOutB P = true)
    (hts : (fn.params.toList.all fun t => P.readableRec t && decide (t < P.types.size)) = true) {tb : TypeId} (hres : fn.resultTypes = #[tb]) (htb : P.underlying tb = some .bool)
    {Q : List AV → Prop} (hQ : ArgsOf P fn.params.toList Q) (hcall : ∀ as, Q as → ∃ m, callW code ext (num f) as [] = some (.imm (.val (.bool true)), m)) {H : Type} {enc : TypeId × Value → H}
    (W : World) (base : Nat) (args : Array Value) (ds gs : List (DataW H)) (before : List MemPlace)
    (hval : ∀ (j : Nat) t v, fn.params[j]? = some t → args[j]? = some v → Value.okWide P W .any base t v)
    (hW : DataW.Whole enc P fn.params.toList s.vars false W args.toList ds gs before)
    (hwt : (DataW.weightsEach P (fn.params.toList ++ s.plain.varTypes P) (ds ++ gs)).all (· ≤ reachBytes) = true) (hG : num.G (fun b => b < W.heap.size) W) :
    Calls P f args W fun e W' => ∃ v, e = .returned v ∧ s.post enc P fn false true false false W args v W' := by
  have hW' := hW
  obtain ⟨p, q, hA, hV, rfl, hfz, hnd⟩ := hW
  rw [hs.1] at hV
  obtain ⟨rfl, rfl⟩ := trodVars_none hV
  obtain ⟨as, h1, h2, h3, h4⟩ := lawArgs_rep (num := num) hQ args.toList ds p (fun j t v ht hv => hval j t v (by simpa using ht) (by simpa using hv)) hA (by
    have e : s.plain.varTypes P = [] := by simp [ChangeSpec.plain, DataSpec.varTypes, hs.1]
    rw [e, List.append_nil, List.append_nil] at hwt
    exact hwt)
  obtain ⟨m, hm⟩ := hcall as h1
  refine (law_calls hrun hG hm (by simpa using h2) fun j x u hx hu => h4 j x u hx (by simpa using hu)).mono fun e W' ⟨he, bel⟩ => ?_
  subst he
  have hfn : s.fn H (ds ++ []) = { results := [.lit (.bool true)], args := ds } := by rw [List.append_nil]; exact hs.2 H ds h3
  refine ⟨_, rfl, ds, [], p ++ [], [], p, [], hW', ?_, ?_, ?_, bel.frame _, fun h => by cases h⟩
  · rw [hfn, hres]; exact trodAll_mk1 (shut_bool htb _)
  · rw [hfn]; exact trodAll_stays hl bel hts hA
  · rw [hfn, hs.1]; rfl
end
end Go.EX

