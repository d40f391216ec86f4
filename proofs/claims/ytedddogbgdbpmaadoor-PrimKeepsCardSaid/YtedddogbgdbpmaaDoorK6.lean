import Derived.Test.YtedddogbgdbpmaaDoorK5
import Derived.RangeFuncRecord
import Derived.LoopNIn
import Derived.Scope
set_option linter.unusedVariables false
set_option linter.unusedSimpArgs false
namespace Go.EX
section
variable {num : Names} {P : Program}
theorem zda {p q : Nat → Bool} {i : Nat} (hp : p i = true) (hq : q i = false) (h : ∀ j, j ≠ i → q j = p j) : ∀ (l : List Nat), l.Nodup → (i ∈ l → l.countP q + 1 = l.countP p) ∧ (i ∉ l → l.countP q = l.countP p)
 | [], _ => ⟨fun h => absurd h (by simp), fun _ => rfl⟩
 | j :: l, hn => by
  obtain ⟨hj, hn⟩ := List.nodup_cons.1 hn
  obtain ⟨h1, h2⟩ := zda hp hq h l hn
  by_cases hji : j = i
  ·subst hji
   refine ⟨fun _ => ?_, fun hh => absurd (List.mem_cons_self ..) hh⟩
   rw [List.countP_cons, List.countP_cons, hp, hq, h2 hj]; simp
  ·refine ⟨fun hh => ?_, fun hh => ?_⟩
   ·have : i ∈ l := by rcases List.mem_cons.1 hh with h | h; exact absurd h.symm hji; exact h
    rw [List.countP_cons, List.countP_cons, h j hji, ← h1 this]; omega
   ·have : i ∉ l := fun hh' => hh (List.mem_cons_of_mem _ hh')
    rw [List.countP_cons, List.countP_cons, h j hji, h2 this]
def left (n : Nat) (listed : Array Bool) : Nat := (List.range n).countP fun i => !listed.getD i true
theorem zi7 {n i : Nat} {listed : Array Bool} (hi : i < n) (hl : listed.getD i true = false) : left n (listed.setIfInBounds i true) + 1 = left n listed := by
 refine (zda (p := fun i => !listed.getD i true) (q := fun j => !(listed.setIfInBounds i true).getD j true) (i := i) (by simp [hl]) ?_ ?_ (List.range n) List.nodup_range).1 (List.mem_range.2 hi)
 ·show (!(listed.setIfInBounds i true).getD i true) = false
  rw [Array.getD_eq_getD_getElem?, Array.getElem?_setIfInBounds]
  split <;> (try split) <;> simp_all
 ·intro j hj
  show (!(listed.setIfInBounds i true).getD j true) = _
  rw [getD_set_ne true (Ne.symm hj)]
theorem zfb {call : Calls'} : ∀ (xs : List XO) (s s' : St), exOps call s xs = some s' → ∀ i, ∃ t, exOps call s (xs.take i) = some t ∧ exOps call t (xs.drop i) = some s'
 | [], s, s', h, i => ⟨s, by simp [exOps], by simpa using h⟩
 | x :: xs, s, s', h, 0 => ⟨s, rfl, h⟩
 | x :: xs, s, s', h, i + 1 => by
  simp only [exOps] at h
  cases hx : exOne call s x with
  | none => rw [hx] at h; cases h
  | some s1 =>
   rw [hx] at h
   obtain ⟨t, h1, h2⟩ := zfb xs s1 s' h i
   exact ⟨t, by simp only [List.take_succ_cons, exOps, hx, Option.bind_some, h1], by simpa using h2⟩
theorem zfa {call : Calls'} : ∀ (xs : List XO) (x : XO) (s t u : St), exOps call s xs = some t → exOps call s (xs ++ [x]) = some u → exOne call t x = some u
 | [], x, s, t, u, h, g => by
  cases h
  simp only [List.nil_append, exOps] at g
  cases hx : exOne call s x with
  | none => rw [hx] at g; cases g
  | some s1 => rw [hx] at g; cases g; rfl
 | y :: xs, x, s, t, u, h, g => by
  simp only [List.cons_append, exOps] at h g
  cases hx : exOne call s y with
  | none => rw [hx] at h; cases h
  | some s1 => rw [hx] at h g; exact zfa xs x s1 t u h g
theorem zbg (s : St) (d : Option Nat) (v : AV) (t : Nat) : (s.bind d v).env.get t = if d = some t then v else s.env.get t := by
 cases d with
 | none => simp [St.bind]
 | some d =>
  simp only [St.bind, Env.get, Option.some.injEq]
  by_cases h : t = d
  ·subst h; simp
  ·rw [if_neg h, if_neg (fun h' => h h'.symm)]
theorem zml {call : Calls'} {K : Nat → Prop} {x : XO} (hc : (calmOp x.op || makeOp x.op) = true) {s t : St} (hm : Agree K s.mem t.mem) (he : ∀ n ∈ x.reads, t.env.get n = s.env.get n) (hk : ∀ n ∈ x.reads, In K (s.env.get n))
  (hb : ∀ fn l as r mc, x.op = .call .own fn l → (l.map s.env.ev).mapM (frz s.mem) = some as → call fn as [] = some (r, mc) → (∀ id ∈ r.refs, id < mc.length) ∧ ∀ o ∈ mc, ∀ id ∈ o.refs, id < mc.length) {s' : St} (h : exOne call s x = some s') :
  ∃ (len : Nat) (val : Nat → AV) (new : Nat → List AObj), Makes K len val new ∧ s' = ({ s with mem := s.mem ++ new s.mem.length } : St).bind x.dst (val s.mem.length) ∧ exOne call t x = some (({ t with mem := t.mem ++ new t.mem.length } : St).bind x.dst (val t.mem.length)) := by
 have r1 : ∀ n ∈ x.op.reads, n ∈ x.reads := fun n hn => List.mem_append.2 (.inl hn)
 have r2 : ∀ n ∈ x.op.needs, n ∈ x.reads := fun n hn => List.mem_append.2 (.inr (List.mem_append.2 (.inl hn)))
 have r3 : ∀ u b, x.guard = some (u, b) → u ∈ x.reads := fun u b hg => List.mem_append.2 (.inr (List.mem_append.2 (.inr (by simp [hg]))))
 have calm : ∀ v, In K v → Makes K 0 (fun _ => v) (fun _ => []) := fun v hv => ⟨fun _ => rfl, fun p id hid => .inl (hv id hid), fun p o ho => absurd ho (by simp), fun p q f _ h2 => ⟨ren_id fun id hid => h2 id (hv id hid), rfl⟩⟩
 have nil : ∀ (u : St), ({ u with mem := u.mem ++ [] } : St) = u := fun u => by cases u; simp
 rcases ze2 h with ⟨v, s1, hx, rfl, hg⟩ | ⟨rfl, u, b, hg, hcc⟩
 ·have hop : ∃ (len : Nat) (val : Nat → AV) (new : Nat → List AObj), Makes K len val new ∧ v = val s.mem.length ∧ s1 = { s with mem := s.mem ++ new s.mem.length } ∧ exOp call t x.op = some (val t.mem.length, { t with mem := t.mem ++ new t.mem.length }) := by
   by_cases hcalm : calmOp x.op = true
   ·obtain ⟨rfl, h2, h3⟩ := zbu hcalm hm (fun n hn => he n (r1 n hn)) (fun n hn => hk n (r1 n hn)) hx
    exact ⟨0, fun _ => v, fun _ => [], calm v h3, rfl, (nil _).symm, by rw [nil]; exact h2⟩
   ·have hmake : makeOp x.op = true := by simpa [hcalm] using hc
    exact zjx hmake hm (fun n hn => he n (r2 n hn)) (fun n hn => hk n (r2 n hn)) hb hx
  obtain ⟨len, val, new, h1, rfl, rfl, h4⟩ := hop
  refine ⟨len, val, new, h1, rfl, ?_⟩
  unfold exOne
  rcases hg with hg | ⟨u, b, hg, hcc⟩
  ·simp only [hg, h4, Option.map_some]; cases x.dst <;> rfl
  ·have : t.env.get u = .imm (.val (.bool b)) := by rw [he u (r3 u b hg)]; exact hcc
   simp only [hg, this, h4, Option.map_some, if_true]; cases x.dst <;> rfl
 ·refine ⟨0, fun _ => .tup [], fun _ => [], calm (.tup []) (in_tup.2 fun y hy => by cases hy), by rw [nil], ?_⟩
  unfold exOne
  rcases hcc with ⟨c, hcc, hne⟩ | hcc
  ·have : t.env.get u = .imm (.val (.bool c)) := by rw [he u (r3 u b hg)]; exact hcc
   simp only [hg, this, hne, if_false, nil]
   cases x.dst <;> rfl
  ·have : t.env.get u = .tup [] := by rw [he u (r3 u b hg)]; exact hcc
   simp only [hg, this, nil]
   cases x.dst <;> rfl
theorem zaw {C : Cx} {x : AV} {v : Value} (h : ARep num C x v) : ∀ id ∈ x.refs, id < C.n := by
 induction h with
 | imm x v h => intro id hid; simp [AV.refs] at hid
 | osl id off sz len cap c a arr e hid _ _ _ _ _ => intro j hj; simp [AV.refs] at hj; rw [hj]; exact hid
 | optr id off hid => intro j hj; simp [AV.refs] at hj; rw [hj]; exact hid
 | omap id hid => intro j hj; simp [AV.refs] at hj; rw [hj]; exact hid
 | clo f caps vs hl h ih =>
  intro j hj
  simp only [AV.refs] at hj
  obtain ⟨x, hx, hj⟩ := refsL_mem.1 hj
  obtain ⟨i, hi⟩ := List.getElem?_of_mem hx
  have : i < vs.size := by rw [← hl]; exact (List.getElem?_eq_some_iff.1 hi).1
  exact ih i x vs[i] hi (by simp [this]) j hj
 | agg caps vs hl _ h ih =>
  intro j hj
  simp only [AV.refs] at hj
  obtain ⟨x, hx, hj⟩ := refsL_mem.1 hj
  obtain ⟨i, hi⟩ := List.getElem?_of_mem hx
  have : i < vs.size := by rw [← hl]; exact (List.getElem?_eq_some_iff.1 hi).1
  exact ih i x vs[i] hi (by simp [this]) j hj
 | tup caps vs hl h ih =>
  intro j hj
  simp only [AV.refs] at hj
  obtain ⟨x, hx, hj⟩ := refsL_mem.1 hj
  obtain ⟨i, hi⟩ := List.getElem?_of_mem hx
  have : i < vs.size := by rw [← hl]; exact (List.getElem?_eq_some_iff.1 hi).1
  exact ih i x vs[i] hi (by simp [this]) j hj
 | yld id hid => intro j hj; simp [AV.refs] at hj; subst hj; exact hid
 | seat id off n e hid hw hb => intro j hj; simp [AV.refs] at hj; subst hj; exact hid
 | tag => intro id hid; simp [AV.refs] at hid
 | err => intro id hid; simp [AV.refs] at hid
 | junk v => intro id hid; simp [AV.refs] at hid
theorem zmv {C : Cx} {id : Nat} {o : AObj} (h : ORep num C id o) : ∀ j ∈ o.refs, j < C.n := by
 intro j hj
 cases o with
 | flat => simp [AObj.refs] at hj
 | rich cs =>
  obtain ⟨arr, e, _, h2⟩ := h
  simp only [AObj.refs] at hj
  obtain ⟨x, hx, hj⟩ := refsL_mem.1 hj
  obtain ⟨i, hi⟩ := List.getElem?_of_mem hx
  obtain ⟨u, _, _, hr⟩ := h2 i x hi
  exact zaw hr j hj
 | map es =>
  obtain ⟨es', clock, _, hl, h3⟩ := h
  simp only [AObj.refs, List.mem_append] at hj
  have one : ∀ (p : AV × AV), p ∈ es → (j ∈ p.1.refs ∨ j ∈ p.2.refs) → j < C.n := by
   intro p hp hj
   obtain ⟨i, hi⟩ := List.getElem?_of_mem hp
   have : i < es'.size := by rw [hl]; exact (List.getElem?_eq_some_iff.1 hi).1
   obtain ⟨g1, g2⟩ := h3 i p es'[i] hi (by simp [this])
   rcases hj with hj | hj
   ·exact zaw g1 j hj
   ·exact zaw g2 j hj
  rcases hj with hj | hj
  ·obtain ⟨x, hx, hj⟩ := refsL_mem.1 hj
   obtain ⟨p, hp, rfl⟩ := List.mem_map.1 hx
   exact one p hp (.inl hj)
  ·obtain ⟨x, hx, hj⟩ := refsL_mem.1 hj
   obtain ⟨p, hp, rfl⟩ := List.mem_map.1 hx
   exact one p hp (.inr hj)
 | dead => simp [AObj.refs] at hj
 | fix => simp [AObj.refs] at hj
 | loop env ps as b y =>
  obtain ⟨R, N, _, _, _, _, _, _, h7⟩ := h
  simp only [AObj.refs] at hj
  obtain ⟨p, hp, hj⟩ := env_roots_mem.1 hj
  exact zaw (h7 p hp) j hj
 | text => simp [AObj.refs] at hj
 | iter => simp [AObj.refs] at hj
theorem zm5 {call : Calls'} (hcall : CallOK num P call) {C : Cx} {s : St} {a : Act} (hs : SRep num C s a) {op : Op} {fn : Nat} {l : List Src} {as : List AV} {r : AV} {mc : Mem} (htr : trOp P num op = some (XOp.call .view fn l)) (has : (l.map s.env.ev).mapM (frz s.mem) = some as) (hc : call fn as [] = some (r, mc)) :
  (∀ id ∈ r.refs, id < mc.length) ∧ ∀ o ∈ mc, ∀ id ∈ o.refs, id < mc.length := by
 have : ∃ f args ats, op = .call ⟨.value (.func f), args, ats⟩ ∧ num f = fn ∧ args.toList.mapM (trSrc num) = some l := by
  have hm1 : ∀ {o : Operand} {g : Src → XOp}, (∀ y, g y ≠ .call .view fn l) → (trSrc num o).map g ≠ some (.call .view fn l) := by
   intro o g hg h
   cases ho : trSrc num o with
   | none => rw [ho] at h; cases h
   | some y => rw [ho] at h; exact hg y (Option.some.inj h)
  cases op with
  | call c =>
   obtain ⟨callee, args, ats⟩ := c
   simp only [trOp] at htr
   cases callee with
   | invoke => simp [trCall] at htr
   | builtin b =>
    simp only [trCall] at htr
    repeat' (first | (cases htr; done) | exact absurd htr (hm1 fun y hy => by cases hy) | split at htr)
   | value fo =>
    cases fo with
    | func f =>
     simp only [trCall, Option.map_eq_some_iff] at htr
     obtain ⟨ys, hy, hx⟩ := htr
     cases hx
     exact ⟨f, args, ats, rfl, rfl, hy⟩
    | _ =>
     simp only [trCall] at htr
     repeat' (first | (cases htr; done) | split at htr)
  | makeFunc f fi cs =>
   cases f <;> simp only [trOp] at htr <;> repeat' (first | (cases htr; done) | split at htr)
   simp only [Option.map_eq_some_iff] at htr
   obtain ⟨_, _, h⟩ := htr
   cases h
  | build t ps =>
   simp only [trOp] at htr
   repeat' (first | (cases htr; done) | (simp only [Option.map_eq_some_iff] at htr; obtain ⟨_, _, h⟩ := htr; cases h; done) | split at htr)
  | buildSlice t n ps =>
   simp only [trOp] at htr
   repeat' (first | (cases htr; done) | (simp only [Option.map_eq_some_iff] at htr; obtain ⟨_, _, h⟩ := htr; cases h; done) | split at htr)
  | next o is =>
   cases is <;> simp only [trOp, reduceCtorEq] at htr
   exact absurd htr (hm1 fun y hy => by cases hy)
  | slice t o lo hi mx =>
   cases mx <;> cases lo <;> cases hi <;> simp only [trOp] at htr <;> repeat' (first | (cases htr; done) | split at htr)
  | _ =>
   simp only [trOp] at htr
   repeat' (first | (cases htr; done) | exact absurd htr (hm1 fun y hy => by cases hy) | split at htr)
 obtain ⟨f, args, ats, rfl, rfl, hy⟩ := this
 obtain ⟨hl, hr⟩ := za0 hs args.toList l hy
 obtain ⟨h1, h2⟩ := zay hs.mem has hl hr (C.view s.mem num) (fun _ h => h) rfl
 obtain ⟨_, hcs⟩ := hcall.fn f as [] r mc _ _ hc (zus hs.mem) h1 h2
 obtain ⟨e, w', fr, ⟨v, D, _, _, hst, hrv⟩, _⟩ := hcs []
 have hn := hst.rep.len
 refine ⟨fun id hid => by have := zaw hrv id hid; omega, fun o ho id hid => ?_⟩
 obtain ⟨i, hi⟩ := List.getElem?_of_mem ho
 have := zmv (hst.rep.obj i o hi) id hid
 omega
theorem ztt {call : Calls'} {N : Nat} {ops : Array Oper} : ∀ (l : List Oper) (xs : List XO) {s s' : St}, trOps P num N ops l = xs.map XO.wipe → exOps call s xs = some s' → ∀ (i : Nat) (o : Oper), l[i]? = some o → ∃ x : XO, xs[i]? = some x ∧ trOper P num N ops o = some x.wipe
 | [], _, _, _, _, _, i, o, ho => by simp at ho
 | o :: l, xs, s, s', htr, h, i, o', hi => by
  simp only [trOps] at htr
  cases ho : trOper P num N ops o with
  | none =>
   rw [ho] at htr
   cases xs with
   | nil => simp at htr
   | cons x r =>
    simp only [List.map_cons, List.cons.injEq] at htr
    have hb : x.wipe = badOp := htr.1.symm
    have h1 : (x.op = .callV (.c (.bool true)) [] ∨ x.op = .callP (.c (.bool true)) [] ∨ ∃ w, x.op = .callT (.c (.bool true)) [] w) ∧ x.guard = none := by
     obtain ⟨d, op, g⟩ := x
     simp only [XO.wipe, badOp, XO.mk.injEq] at hb
     obtain ⟨_, h2, h3⟩ := hb
     refine ⟨?_, h3⟩
     cases op <;> simp only [XOp.wipe, reduceCtorEq] at h2
     ·exact .inl h2
     ·cases h2; exact .inr (.inl rfl)
     ·cases h2; exact .inr (.inr ⟨_, rfl⟩)
    simp only [exOps] at h
    unfold exOne at h
    rcases h1.1 with h4 | h4 | ⟨_, h4⟩ <;> simp only [h4, h1.2, exOp, Env.ev, Option.map_none, Option.bind_none] at h <;> cases h
  | some y =>
   rw [ho] at htr
   cases xs with
   | nil => simp at htr
   | cons x r =>
    simp only [List.map_cons, List.cons.injEq] at htr
    simp only [exOps] at h
    cases hx : exOne call s x with
    | none => rw [hx] at h; cases h
    | some s1 =>
     rw [hx] at h
     cases i with
     | zero => simp at hi; subst hi; exact ⟨x, rfl, by rw [ho, htr.1]⟩
     | succ i => exact ztt l r htr.2 h i o' (by simpa using hi)
theorem ztv {N : Nat} {ops : Array Oper} : ∀ (l : List Oper) (xs : List XO), l.length = xs.length → (∀ (i : Nat) (o : Oper), l[i]? = some o → ∃ x : XO, xs[i]? = some x ∧ trOper P num N ops o = some x.wipe) → trOps P num N ops l = xs.map XO.wipe
 | [], xs, hl, _ => by cases xs with | nil => rfl | cons => cases hl
 | o :: l, xs, hl, h => by
  cases xs with
  | nil => cases hl
  | cons x r =>
   obtain ⟨y, hy, ho⟩ := h 0 o rfl
   simp at hy; subst hy
   simp only [trOps, ho, List.map_cons]
   rw [ztv l r (by simpa using hl) fun i o hi => h (i + 1) o (by simpa using hi)]
theorem zg9 {m n : Nat} {listed : Array Bool} (hs : listed.size = m) (hn : n ≤ m) (h1 : ∀ i, i < n → listed.getD i true = true) (h2 : ∀ t, n ≤ t → t < m → listed.getD t true = false) : listed = headArr m n := by
 apply Array.ext
 ·simp [headArr, hs]
 ·intro i hi _
  have hi' : i < m := by omega
  have : listed[i] = listed.getD i true := by simp [hi]
  rw [this]
  by_cases hin : i < n
  ·rw [h1 i hin]; simp [headArr, hin]
  ·rw [h2 i (by omega) hi']; simp [headArr, hin]
theorem znm {C : Cx} {m : Mem} (hm : MRep num C m) {k : Nat} {l : List Nat} (hn : l.Nodup) (hk : ∀ i, i < k → l[i]? = some i) (hkl : k ≤ l.length) : Step num k C m (C.pick l) (m.pickAll l) := by
 have hown : ∀ b, Own (C.pick l) (m.pickAll l) b → Own C m b := by
  intro b hb
  obtain ⟨id, o, _, ho, hl, hb⟩ := znj hb
  exact ⟨id, o, ho, hl, hb⟩
 refine ⟨znk hm hn, rfl, rfl, rfl, Nat.le_refl _, fun _ _ _ => rfl, fun _ _ _ h => h, fun _ h => h, fun _ h => .inl h, fun b hb => .inr (hown b hb), fun i hi p hp hmv => ?_, by rw [Mem.pickAll, List.length_map]; exact hkl⟩
 obtain ⟨id, h3, rfl⟩ := znh hp
 rw [hk i hi] at h3
 cases h3
 rw [zpr] at hmv
 obtain ⟨o, ho, he⟩ := zgs hmv
 rw [he] at hmv
 exact ⟨o, ho, hmv, pick_σ (hk i hi)⟩
theorem zni {C : Cx} {s : St} {a : Act} (hs : SRep num C s a) {l : List Nat} (hn : l.Nodup) (hk : ∀ i, i < s.k → l[i]? = some i) (hkl : s.k ≤ l.length) : Later num s.k C s.mem a (C.pick l) { k := s.k, env := s.env.ren (place l), mem := s.mem.pickAll l } a := by
 have hst := znm hs.mem hn hk hkl
 exact ⟨⟨hst.rep, hs.env.tr (znn _), hst.len⟩, hst, rfl, rfl, fun _ _ h => h⟩
theorem zqg {C : Cx} {s : St} {a : Act} (hs : SRep num C s a) (d : Nat) : Later num s.k C s.mem a { C with n := C.n + d } { s with mem := s.mem ++ List.replicate d AObj.dead } a := by
 have hm := hs.mem
 have ht : Tr some C { C with n := C.n + d } := ⟨fun _ h => h, fun _ _ => rfl, fun id j hid hj => by cases hj; exact ⟨by show _ < C.n + d; omega, rfl, fun _ _ h => h⟩⟩
 have split : ∀ (i : Nat) (p : AObj), (s.mem ++ List.replicate d AObj.dead)[i]? = some p → s.mem[i]? = some p ∨ p = .dead := by
  intro i p hp
  rcases Nat.lt_or_ge i s.mem.length with h | h
  ·rw [List.getElem?_append_left h] at hp; exact .inl hp
  ·rw [List.getElem?_append_right h] at hp
   exact .inr (List.eq_of_mem_replicate (List.mem_of_getElem? hp))
 have hown : ∀ b, Own { C with n := C.n + d } (s.mem ++ List.replicate d AObj.dead) b → Own C s.mem b := by
  rintro b ⟨i, p, hp, hl, hb⟩
  rcases split i p hp with h | rfl
  ·exact ⟨i, p, h, hl, hb⟩
  ·cases hl
 have hk : s.k ≤ (s.mem ++ List.replicate d AObj.dead).length := by have := hs.k; simp; omega
 have hrep : MRep num { C with n := C.n + d } (s.mem ++ List.replicate d AObj.dead) := by
  refine ⟨by simp [hm.len], fun i p hp => ?_, fun i j p q hp hq hlp hlq he => ?_, fun b hb => hm.imm b (hown b hb), hm.bd, hm.glo⟩
  ·rcases split i p hp with h | rfl
   ·exact zmw ht rfl (fun _ h => h) (hm.obj i p h)
   ·trivial
  ·rcases split i p hp with h | rfl
   ·rcases split j q hq with h' | rfl
    ·exact hm.inj i j p q h h' hlp hlq he
    ·cases hlq
   ·cases hlp
 refine ⟨⟨hrep, hs.env.mono ht, hk⟩, ⟨hrep, rfl, rfl, rfl, Nat.le_refl _, fun _ _ _ => rfl, fun _ _ _ h => h, fun _ h => h, fun _ h => .inl h, fun b hb => .inr (hown b hb), fun i _ p hp hmv => ?_, hk⟩, rfl, rfl, fun _ _ h => h⟩
 rcases split i p hp with h | rfl
 ·exact ⟨p, h, hmv, rfl⟩
 ·cases hmv
structure Drawn (call : Calls') (P : Program) (num : Names) (N : Nat) (ops : Array Oper) (xs : List XO) (n : Nat) (s0 sF : St) (S : Nat → St) (sp : Nat → Bool) : Prop where
 len : xs.length = ops.size
 hn : n ≤ ops.size
 tr : ∀ (i : Nat) o, sp i = false → ops[i]? = some o → ∃ x : XO, xs[i]? = some x ∧ trOper P num N ops o = some x.wipe
 quiet : ∀ (i : Nat) x, i < n → xs[i]? = some x → (calmOp x.op || makeOp x.op) = true
 one : ∀ (i j : Nat) x y d, i < n → j < n → xs[i]? = some x → xs[j]? = some y → y.dst = some d → (i = j ∨ x.dst ≠ some d) ∧ (d ∈ x.reads → j < i ∧ Region.waitsFor .any ops i j = true)
 low : ∀ (i : Nat) o, i < n → ops[i]? = some o → ∀ e ∈ o.after, Region.binds .any e = true → e.on < i
 S0 : S 0 = s0
 go : ∀ (i : Nat) x, xs[i]? = some x → exOne call (S i) x = some (S (i + 1))
 fin : S xs.length = sF
 step : ∀ (i : Nat) x, i < n → xs[i]? = some x → exOne call (S i) x = some (S (i + 1))
 rest : exOps call (S n) (xs.drop n) = some sF
section
variable {call : Calls'} {N : Nat} {ops : Array Oper} {xs : List XO} {n : Nat} {s0 sF : St} {S : Nat → St} {sp : Nat → Bool}
def Live (S : Nat → St) (n : Nat) (listed : Array Bool) (id : Nat) : Prop := ∀ j, j < n → (S j).mem.length ≤ id → id < (S (j + 1)).mem.length → listed.getD j true = true
structure Part (xs : List XO) (n : Nat) (S : Nat → St) (listed : Array Bool) (t : St) : Prop where
 len : t.mem.length = (S n).mem.length
 k : t.k = (S 0).k
 k0 : (S 0).k ≤ (S 0).mem.length
 live : ∀ id, id < (S n).mem.length → Live S n listed id → t.mem[id]? = (S n).mem[id]?
 dead : ∀ id, id < (S n).mem.length → ¬ Live S n listed id → t.mem[id]? = some .dead
 done : ∀ (i : Nat) x u, i < n → xs[i]? = some x → x.dst = some u → listed.getD i true = true → t.env.get u = (S (i + 1)).env.get u ∧ ∀ id ∈ (t.env.get u).refs, Live S n listed id ∧ id < (S (i + 1)).mem.length
 not : ∀ u, (∀ (i : Nat) x, i < n → xs[i]? = some x → x.dst = some u → listed.getD i true = false) → t.env.get u = (S 0).env.get u ∧ ∀ id ∈ (t.env.get u).refs, id < (S 0).mem.length
 mem : ∀ (id : Nat) o, t.mem[id]? = some o → ∀ j ∈ o.refs, Live S n listed j ∧ ∀ i, i ≤ n → id < (S i).mem.length → j < (S i).mem.length
end
section
variable {call : Calls'} {N : Nat} {ops : Array Oper} {xs : List XO} {n : Nat} {s0 sF : St} {S : Nat → St} {sp : Nat → Bool}
theorem zjw {x : XOp} (hc : makeOp x = true) {s s' : St} {r : AV} (h : exOp call s x = some (r, s')) : ∃ new, s' = { s with mem := s.mem ++ new } := by
 cases x with
 | alloc zs => cases h; exact ⟨_, rfl⟩
 | allocB off zs => cases h; exact ⟨_, rfl⟩
 | boxB off n y =>
  simp only [exOp] at h
  split at h
  ·split at h
   ·split at h
    ·cases h; exact ⟨_, rfl⟩
    ·cases h
   ·cases h
  ·cases h
 | box n y =>
  simp only [exOp, Option.map_eq_some_iff] at h
  obtain ⟨cs, _, h⟩ := h
  cases h; exact ⟨_, rfl⟩
 | buildSlice sz zs len ps =>
  simp only [exOp, Option.map_eq_some_iff] at h
  obtain ⟨cs, _, h⟩ := h
  cases h; exact ⟨_, rfl⟩
 | makeSlice sz bytes zs l c => cases h
 | appendT sz bytes y z w =>
  simp only [exOp, exAppendM] at h
  split at h
  ·split at h
   ·split at h
    ·cases h; exact ⟨_, rfl⟩
    ·cases h
   ·cases h
  ·cases h
 | makeMap hint =>
  simp only [exOp] at h
  split at h
  ·cases h; exact ⟨_, rfl⟩
  ·split at h
   ·cases h; exact ⟨_, rfl⟩
   ·cases h
 | call mode fn l =>
  cases mode with
  | own =>
   simp only [exOp, exOwn] at h
   split at h
   ·cases h
   ·split at h
    ·cases h
    ·split at h
     ·cases h; exact ⟨_, rfl⟩
     ·cases h
  | look =>
   simp only [exOp, exLook] at h
   split at h
   ·cases h
   ·split at h
    ·cases h; exact ⟨_, rfl⟩
    ·cases h
  | view => cases hc
  | share => cases hc
  | peek => cases hc
  | touch => cases hc
 | _ => cases hc
theorem zop {x : XO} (hc : (calmOp x.op || makeOp x.op) = true) {s s' : St} (h : exOne call s x = some s') : ∃ new v, s' = ({ s with mem := s.mem ++ new } : St).bind x.dst v := by
 have nil : ∀ (u : St), ({ u with mem := u.mem ++ [] } : St) = u := fun u => by cases u; simp
 rcases ze2 h with ⟨v, s1, hx, rfl, hg⟩ | ⟨rfl, u, b, hg, hcc⟩
 ·by_cases hcalm : calmOp x.op = true
  ·obtain ⟨rfl, _, _⟩ := zbu (K := fun _ => True) hcalm (t := s) ⟨fun _ _ => rfl, fun _ _ _ _ _ _ => trivial⟩ (fun _ _ => rfl) (fun _ _ _ _ => trivial) hx
   exact ⟨[], v, by rw [nil]⟩
  ·have hmake : makeOp x.op = true := by simpa [hcalm] using hc
   obtain ⟨new, rfl⟩ := zjw hmake hx
   exact ⟨new, v, rfl⟩
 ·exact ⟨[], .tup [], by rw [nil]⟩
theorem Drawn.add (d : Drawn call P num N ops xs n s0 sF S sp) {i : Nat} (hi : i < n) {x : XO} (hx : xs[i]? = some x) : ∃ new v, S (i + 1) = ({ S i with mem := (S i).mem ++ new } : St).bind x.dst v := zop (d.quiet i x hi hx) (d.step i x hi hx)
theorem Drawn.at (d : Drawn call P num N ops xs n s0 sF S sp) {i : Nat} (hi : i < n) : ∃ x, xs[i]? = some x := by
 have : i < xs.length := by have := d.hn; have := d.len; omega
 exact ⟨_, List.getElem?_eq_getElem this⟩
theorem Drawn.pre (d : Drawn call P num N ops xs n s0 sF S sp) (i : Nat) : ∀ j, i ≤ j → j ≤ n → (S i).mem.length ≤ (S j).mem.length ∧ (∀ id, id < (S i).mem.length → (S j).mem[id]? = (S i).mem[id]?) ∧ (S j).k = (S i).k := by
  intro j
  induction j with
  | zero => intro h _; have : i = 0 := by omega
            subst this; exact ⟨Nat.le_refl _, fun _ _ => rfl, rfl⟩
  | succ j ih =>
    intro hij hj
    by_cases hi : i = j + 1
    · subst hi; exact ⟨Nat.le_refl _, fun _ _ => rfl, rfl⟩
    · obtain ⟨h1, h2, h3⟩ := ih (by omega) (by omega)
      obtain ⟨x, hx⟩ := d.at (show j < n by omega)
      obtain ⟨new, v, he⟩ := d.add (show j < n by omega) hx
      rw [he, zbi, bind_k]
      refine ⟨by simp; omega, fun id hid => ?_, h3⟩
      rw [List.getElem?_append_left (by omega)]
      exact h2 id hid
theorem Drawn.get (d : Drawn call P num N ops xs n s0 sF S sp) (t : Nat) (i : Nat) : ∀ j, i ≤ j → j ≤ n → (∀ (k : Nat) x, i ≤ k → k < j → xs[k]? = some x → x.dst ≠ some t) → (S j).env.get t = (S i).env.get t := by
  intro j
  induction j with
  | zero => intro hij _ _; have : i = 0 := by omega
            subst this; rfl
  | succ j ih =>
    intro hij hj h
    by_cases hi : i = j + 1
    · subst hi; rfl
    · obtain ⟨x, hx⟩ := d.at (show j < n by omega)
      obtain ⟨new, v, he⟩ := d.add (show j < n by omega) hx
      rw [he, zbg, if_neg (h j _ (by omega) (by omega) hx)]
      exact ih (by omega) (by omega) fun k x h1 h2 h3 => h k x h1 (by omega) h3
theorem zo9 {listed : Array Bool} {i j : Nat} (h : i ∈ Region.ready .any ops listed) (hw : Region.waitsFor .any ops i j = true) : listed.getD j false = true := by
 obtain ⟨_, o, ho, hall⟩ := mem_ready.1 h
 obtain ⟨o', ho', e, he, hb, hon⟩ := Region.waitsFor_spec hw
 have : o' = o := Option.some.inj (ho'.symm.trans ho)
 subst this
 rw [← hon]
 exact hall e he hb
theorem zgt {listed : Array Bool} {i : Nat} (h : listed.getD i false = true) : listed.getD i true = true := by
 rcases Nat.lt_or_ge i listed.size with h' | h'
 ·simp [h'] at h ⊢; exact h
 ·simp [Array.getElem?_eq_none h'] at h
def swapIn (M p len : Nat) : List Nat := (List.range M).map fun id => if p ≤ id ∧ id < p + len then M + (id - p) else id
theorem zs9 {M p len id : Nat} (h : id < M) : (swapIn M p len)[id]? = some (if p ≤ id ∧ id < p + len then M + (id - p) else id) := by
 simp [swapIn, h]
theorem zta (M p len : Nat) : (swapIn M p len).Nodup := by
 unfold swapIn
 refine List.pairwise_map.2 (List.Pairwise.imp_of_mem ?_ List.nodup_range)
 intro a b ha hb hab h
 have := List.mem_range.1 ha
 have := List.mem_range.1 hb
 split at h <;> split at h <;> omega
theorem zs8 {M p len j : Nat} (hj : j < len) (hp : p + len ≤ M) : place (swapIn M p len) (M + j) = some (p + j) := by
 refine zns _ _ _ (zta ..) ?_
 rw [zs9 (by omega), if_pos ⟨by omega, by omega⟩]
 exact congrArg some (by omega)
theorem ztb {M p len id : Nat} (h : id < M) (hn : ¬ (p ≤ id ∧ id < p + len)) : place (swapIn M p len) id = some id := by
 refine zns _ _ _ (zta ..) ?_
 rw [zs9 h, if_neg hn]
theorem Drawn.part_step (d : Drawn call P num N ops xs n s0 sF S sp) (hcall : CallOK num P call) {listed : Array Bool} {t : St} (p : Part xs n S listed t) {i : Nat} (hi : i < n) (hr : i ∈ Region.ready .any ops listed) {x : XO} (hx : xs[i]? = some x) {o : Oper} (htr : ∀ fn l, x.op = .call .own fn l → trOp P num o.op = some (XOp.call .view fn l)) {C : Cx} {a : Act} (hs : SRep num C t a) :
  ∃ t1, exOne call t x = some t1 ∧ ∀ D a', SRep num D t1 a' → ∃ t2 E, E.w = D.w ∧ Later num t1.k D t1.mem a' E t2 a' ∧ Part xs n S (listed.setIfInBounds i true) t2 := by
 have hun : listed.getD i true = false := (mem_ready.1 hr).1
 have pre := fun (i j : Nat) (h1 : i ≤ j) (h2 : j ≤ n) => d.pre i j h1 h2
 have mono : ∀ i j, i ≤ j → j ≤ n → (S i).mem.length ≤ (S j).mem.length := fun i j h1 h2 => (pre i j h1 h2).1
 let K : Nat → Prop := fun id => id < (S i).mem.length ∧ Live S n listed id
 have live0 : ∀ id, id < (S 0).mem.length → Live S n listed id := fun id h j hj h1 _ => by have := mono 0 j (by omega) (by omega); omega
 have hAgree : Agree K (S i).mem t.mem := by
  have same : ∀ id, K id → t.mem[id]? = (S i).mem[id]? := fun id ⟨h1, h2⟩ => by
   have := mono i n (by omega) (Nat.le_refl _)
   rw [p.live id (by omega) h2]
   exact (pre i n (by omega) (Nat.le_refl _)).2.1 id h1
  refine ⟨same, fun id o' hk ho' j hj => ?_⟩
  obtain ⟨h1, h2⟩ := p.mem id o' (by rw [same id hk]; exact ho') j hj
  exact ⟨h2 i (by omega) hk.1, h1⟩
 have hreads : ∀ u ∈ x.reads, t.env.get u = (S i).env.get u ∧ In K ((S i).env.get u) := by
  intro u hu
  by_cases hw : ∃ (j : Nat) (y : XO), j < n ∧ xs[j]? = some y ∧ y.dst = some u
  ·obtain ⟨j, y, hj, hy, hd⟩ := hw
   obtain ⟨h3, h4⟩ := (d.one i j x y u hi hj hx hy hd).2 hu
   obtain ⟨h5, h6⟩ := p.done j y u hj hy hd (zgt (zo9 hr h4))
   have h7 := d.get u (j + 1) i (by omega) (by omega) fun k z h5 h6 h7 => by
    rcases (d.one k j z y u (by omega) hj h7 hy hd).1 with h | h
    ·omega
    ·exact h
   have h8 : t.env.get u = (S i).env.get u := h5.trans h7.symm
   refine ⟨h8, fun id hid => ?_⟩
   rw [← h8] at hid
   obtain ⟨h9, h10⟩ := h6 id hid
   have := mono (j + 1) i (by omega) (by omega)
   exact ⟨by omega, h9⟩
  ·have hno : ∀ (j : Nat) (y : XO), j < n → xs[j]? = some y → y.dst ≠ some u := fun j y h1 h2 h3 => hw ⟨j, y, h1, h2, h3⟩
   obtain ⟨h5, h6⟩ := p.not u fun j y h1 h2 h3 => absurd h3 (hno j y h1 h2)
   have h7 := d.get u 0 i (Nat.zero_le _) (by omega) fun k z _ h6 h7 => hno k z (by omega) h7
   have h8 : t.env.get u = (S i).env.get u := h5.trans h7.symm
   refine ⟨h8, fun id hid => ?_⟩
   rw [← h8] at hid
   have h9 := h6 id hid
   have := mono 0 i (by omega) (by omega)
   exact ⟨by omega, live0 id h9⟩
 have hb : ∀ fn l as r mc, x.op = .call .own fn l → (l.map (S i).env.ev).mapM (frz (S i).mem) = some as → call fn as [] = some (r, mc) → (∀ id ∈ r.refs, id < mc.length) ∧ ∀ o ∈ mc, ∀ id ∈ o.refs, id < mc.length := by
  intro fn l as r mc hop has hc
  have hsub : ∀ u ∈ l.flatMap srcTmp, u ∈ x.reads := fun u hu => List.mem_append.2 (.inr (List.mem_append.2 (.inl (by rw [hop]; exact hu))))
  have hin : InL K (l.map (S i).env.ev) := fun y hy => by
   obtain ⟨q, hq, rfl⟩ := List.mem_map.1 hy
   exact in_ev fun u hu => (hreads u (hsub u (List.mem_flatMap.2 ⟨q, hq, hu⟩))).2
  refine zm5 hcall hs (op := o.op) (l := l) (fn := fn) (htr fn l hop) (as := as) ?_ hc
  rw [zet (s := (S i).env) (t := t.env) fun u hu => (hreads u (hsub u hu)).1, zj0 _ fun y hy => zgj hAgree y (hin y hy)]
  exact has
 obtain ⟨len, val, new, hmk, hS, ht1⟩ := zml (d.quiet i x hi hx) hAgree (fun u hu => (hreads u hu).1) (fun u hu => (hreads u hu).2) hb (d.step i x hi hx)
 refine ⟨_, ht1, fun D a' hD => ?_⟩
 have hlen := p.len
 rw [hlen] at hD ⊢
 generalize hM : (S n).mem.length = M at hD hlen ⊢
 have hpos1 : (S (i + 1)).mem.length = (S i).mem.length + len := by rw [hS, zbi]; simp [hmk.size]
 have hpM : (S i).mem.length + len ≤ M := by rw [← hpos1, ← hM]; exact mono (i + 1) n (by omega) (Nat.le_refl _)
 generalize hl : swapIn M (S i).mem.length len = l
 have hlget : ∀ id, id < M → l[id]? = some (if (S i).mem.length ≤ id ∧ id < (S i).mem.length + len then M + (id - (S i).mem.length) else id) := fun id h => by rw [← hl]; exact zs9 h
 have hllen : l.length = M := by rw [← hl]; simp [swapIn]
 have hlnd : l.Nodup := by rw [← hl]; exact zta ..
 generalize hf : place l = f
 have hf1 : ∀ j, j < len → f (M + j) = some ((S i).mem.length + j) := fun j hj => by rw [← hf, ← hl]; exact zs8 hj hpM
 have hf2 : ∀ id, id < M → ¬ ((S i).mem.length ≤ id ∧ id < (S i).mem.length + len) → f id = some id := fun id h1 h2 => by rw [← hf, ← hl]; exact ztb h1 h2
 have hnr : ∀ id, Live S n listed id → ¬ ((S i).mem.length ≤ id ∧ id < (S i).mem.length + len) := fun id h ⟨h1, h2⟩ => by
  have := h i hi h1 (by omega)
  rw [hun] at this; cases this
 have hf3 : ∀ id, Live S n listed id → id < M → f id = some id := fun id h1 h2 => hf2 id h2 (hnr id h1)
 have hiM : (S i).mem.length ≤ M := by omega
 obtain ⟨hv, hn⟩ := hmk.ren M (S i).mem.length f hf1 fun id hk => hf3 id hk.2 (by have := hk.1; omega)
 have h0i : (S 0).mem.length ≤ (S i).mem.length := mono 0 i (by omega) (by omega)
 have hk0 := p.k0
 have hkt := p.k
 have ht1k : (({ t with mem := t.mem ++ new M } : St).bind x.dst (val M)).k = (S 0).k := by rw [bind_k]; exact hkt
 have hlat := zni hD hlnd (fun j hj => by
  rw [ht1k] at hj
  rw [hlget j (by omega), if_neg (by omega)]) (by rw [ht1k, hllen]; omega)
 rw [hf] at hlat
 refine ⟨_, D.pick l, rfl, hlat, ?_⟩
 have hset : ∀ j, j ≠ i → (listed.setIfInBounds i true).getD j true = listed.getD j true := fun j hj => getD_set_ne true (Ne.symm hj)
 have hseti : (listed.setIfInBounds i true).getD i true = true := by
  rw [Array.getD_eq_getD_getElem?, Array.getElem?_setIfInBounds]
  split <;> (try split) <;> simp_all
 have up1 : ∀ id, Live S n listed id → Live S n (listed.setIfInBounds i true) id := fun id h j hj h1 h2 => by
  by_cases hji : j = i
  ·subst hji; exact hseti
  ·rw [hset j hji]; exact h j hj h1 h2
 have up2 : ∀ id, (S i).mem.length ≤ id → id < (S i).mem.length + len → Live S n (listed.setIfInBounds i true) id := fun id h1 h2 j hj h3 h4 => by
  by_cases hji : j = i
  ·subst hji; exact hseti
  ·exfalso
   rcases Nat.lt_or_ge j i with h | h
   ·have := mono (j + 1) i (by omega) (by omega); omega
   ·have := mono (i + 1) j (by omega) (by omega); omega
 have down : ∀ id, Live S n (listed.setIfInBounds i true) id → ¬ ((S i).mem.length ≤ id ∧ id < (S i).mem.length + len) → Live S n listed id := fun id h hno j hj h1 h2 => by
  by_cases hji : j = i
  ·subst hji; exact absurd ⟨h1, by omega⟩ hno
  ·rw [← hset j hji]; exact h j hj h1 h2
 have hnewM : (new M).length = len := hmk.size M
 have get1 : ∀ id, id < M → ¬ ((S i).mem.length ≤ id ∧ id < (S i).mem.length + len) → (Mem.pickAll (({ t with mem := t.mem ++ new M } : St).bind x.dst (val M)).mem l)[id]? = t.mem[id]? := by
  intro id hid hno
  rw [zbi, Mem.pickAll, List.getElem?_map, hlget id hid, if_neg hno]
  simp only [Option.map_some]
  rw [List.getElem?_append_left (by omega)]
  have hq : t.mem[id]? = some t.mem[id] := List.getElem?_eq_getElem (by omega)
  rw [hq]
  simp only [Option.getD_some, Option.some.injEq]
  rw [hf]
  refine zmc fun j hj => ?_
  obtain ⟨h1, h2⟩ := p.mem id _ hq j hj
  exact hf3 j h1 (by have := h2 n (Nat.le_refl _) (by omega); omega)
 have get2 : ∀ j, j < len → (Mem.pickAll (({ t with mem := t.mem ++ new M } : St).bind x.dst (val M)).mem l)[(S i).mem.length + j]? = (new (S i).mem.length)[j]? := by
  intro j hj
  rw [zbi, Mem.pickAll, List.getElem?_map, hlget _ (by omega), if_pos ⟨by omega, by omega⟩]
  simp only [Option.map_some]
  rw [show M + ((S i).mem.length + j - (S i).mem.length) = M + j by omega, List.getElem?_append_right (by omega), show M + j - t.mem.length = j by omega]
  rw [← hn, List.getElem?_map, hf]
  have hq : (new M)[j]? = some (new M)[j] := List.getElem?_eq_getElem (by omega)
  rw [hq]; rfl
 have new_get : ∀ j, j < len → (new (S i).mem.length)[j]? = (S n).mem[(S i).mem.length + j]? := by
  intro j hj
  rw [(pre (i + 1) n (by omega) (Nat.le_refl _)).2.1 _ (by omega), hS, zbi, List.getElem?_append_right (by omega), show (S i).mem.length + j - (S i).mem.length = j by omega]
 have envKeep : ∀ u, (∀ id ∈ (t.env.get u).refs, Live S n listed id ∧ id < M) → (t.env.get u).ren f = t.env.get u := fun u h => ren_id fun id hid => hf3 id (h id hid).1 (h id hid).2
 refine ⟨?_, ht1k, hk0, fun id hid hlv => ?_, fun id hid hno => ?_, fun j y u hj hy hd hlj => ?_, fun u hu => ?_, fun id o' ho' j hj => ?_⟩
 ·show (Mem.pickAll _ l).length = _
  rw [Mem.pickAll, List.length_map, hllen, hM]
 ·rw [hM] at hid
  by_cases hin : (S i).mem.length ≤ id ∧ id < (S i).mem.length + len
  ·show (Mem.pickAll _ l)[id]? = _
   have h1 := get2 (id - (S i).mem.length) (by omega)
   have h2 := new_get (id - (S i).mem.length) (by omega)
   rw [show (S i).mem.length + (id - (S i).mem.length) = id by omega] at h1 h2
   exact h1.trans h2
  ·exact (get1 id hid hin).trans (p.live id (by omega) (down id hlv hin))
 ·rw [hM] at hid
  have hin : ¬ ((S i).mem.length ≤ id ∧ id < (S i).mem.length + len) := fun h => hno (up2 id h.1 h.2)
  exact (get1 id hid hin).trans (p.dead id (by omega) fun h => hno (up1 id h))
 ·have heq : ∀ v, (Env.ren f (({ t with mem := t.mem ++ new M } : St).bind x.dst (val M)).env).get u = v ↔ (if x.dst = some u then val M else t.env.get u).ren f = v := fun v => by rw [zem, zbg]
  show (Env.ren f _).get u = _ ∧ _
  by_cases hji : j = i
  ·subst hji
   have : y = x := Option.some.inj (hy.symm.trans hx)
   subst this
   have h1 : (Env.ren f (({ t with mem := t.mem ++ new M } : St).bind y.dst (val M)).env).get u = val (S j).mem.length := by
    rw [heq, if_pos hd]; exact hv
   refine ⟨h1.trans (by rw [hS, zbg, if_pos hd]), fun id hid => ?_⟩
   have hid' : id ∈ (val (S j).mem.length).refs := by rw [← h1]; exact hid
   rcases hmk.inV _ id hid' with h | h
   ·exact ⟨up1 id h.2, by have := h.1; omega⟩
   ·exact ⟨up2 id h.1 h.2, by omega⟩
  ·have hne : x.dst ≠ some u := by
    rcases (d.one i j x y u hi hj hx hy hd).1 with h | h
    ·exact absurd h.symm hji
    ·exact h
   obtain ⟨h2, h3⟩ := p.done j y u hj hy hd (by rw [← hset j hji]; exact hlj)
   have h1 : (Env.ren f (({ t with mem := t.mem ++ new M } : St).bind x.dst (val M)).env).get u = t.env.get u := by
    rw [heq, if_neg hne]
    exact envKeep u fun id hid => ⟨(h3 id hid).1, by have := (h3 id hid).2; have := mono (j + 1) n (by omega) (Nat.le_refl _); omega⟩
   refine ⟨h1.trans h2, fun id hid => ?_⟩
   have hid' : id ∈ (t.env.get u).refs := by rw [← h1]; exact hid
   exact ⟨up1 id (h3 id hid').1, (h3 id hid').2⟩
 ·have hne : x.dst ≠ some u := fun h => by
   have := hu i x hi hx h
   rw [hseti] at this; cases this
  obtain ⟨h2, h3⟩ := p.not u fun j y h3 h4 h5 => by
   have hji : j ≠ i := fun h => by
    subst h
    have : y = x := Option.some.inj (h4.symm.trans hx)
    subst this
    exact hne h5
   rw [← hset j hji]
   exact hu j y h3 h4 h5
  have h1 : (Env.ren f (({ t with mem := t.mem ++ new M } : St).bind x.dst (val M)).env).get u = t.env.get u := by
   rw [zem, zbg, if_neg hne]
   exact envKeep u fun id hid => ⟨live0 id (h3 id hid), by have := h3 id hid; omega⟩
  exact ⟨h1.trans h2, fun id hid => h3 id (by rw [← h1]; exact hid)⟩
 ·have hid : id < M := by
   have h1 : id < (Mem.pickAll (({ t with mem := t.mem ++ new M } : St).bind x.dst (val M)).mem l).length := (List.getElem?_eq_some_iff.1 ho').1
   have h2 : (Mem.pickAll (({ t with mem := t.mem ++ new M } : St).bind x.dst (val M)).mem l).length = M := by rw [Mem.pickAll, List.length_map, hllen]
   omega
  by_cases hin : (S i).mem.length ≤ id ∧ id < (S i).mem.length + len
  ·have h1 := get2 (id - (S i).mem.length) (by omega)
   rw [show (S i).mem.length + (id - (S i).mem.length) = id by omega] at h1
   have hmem : o' ∈ new (S i).mem.length := List.mem_of_getElem? (h1.symm.trans ho')
   rcases hmk.inN _ o' hmem j hj with h | h
   ·exact ⟨up1 j h.2, fun i' _ h2 => by have := h.1; omega⟩
   ·refine ⟨up2 j h.1 h.2, fun i' hi' h2 => ?_⟩
    rcases Nat.lt_or_ge i i' with h3 | h3
    ·have := mono (i + 1) i' (by omega) hi'; omega
    ·have := mono i' i h3 (by omega); omega
  ·obtain ⟨h1, h2⟩ := p.mem id o' ((get1 id hid hin).symm.trans ho') j hj
   exact ⟨up1 j h1, h2⟩
theorem Drawn.ready_some (d : Drawn call P num N ops xs n s0 sF S sp) {listed : Array Bool} (hsz : listed.size = ops.size) (hl : left n listed ≠ 0) : Region.ready .any ops listed ≠ [] := by
 have hex : ∃ i, i < n ∧ listed.getD i true = false := by
  obtain ⟨i, hi, h⟩ := List.countP_pos_iff.1 (Nat.pos_of_ne_zero hl)
  exact ⟨i, List.mem_range.1 hi, by simpa using h⟩
 have : ∃ i, (i < n ∧ listed.getD i true = false) ∧ ∀ j, j < i → ¬ (j < n ∧ listed.getD j true = false) := by
  obtain ⟨i, hi⟩ := hex
  induction i using Nat.strongRecOn with
  | _ i ih =>
   by_cases h : ∃ j, j < i ∧ (j < n ∧ listed.getD j true = false)
   ·obtain ⟨j, h1, h2⟩ := h; exact ih j h1 h2
   ·exact ⟨i, hi, fun j hj h' => h ⟨j, hj, h'⟩⟩
 obtain ⟨i, ⟨hi, hl⟩, hmin⟩ := this
 have hlt : i < ops.size := by have := d.hn; omega
 have ho : ops[i]? = some ops[i] := Array.getElem?_eq_getElem hlt
 have : i ∈ Region.ready .any ops listed := by
  refine mem_ready.2 ⟨hl, _, ho, fun e he hb => ?_⟩
  have h1 := d.low i _ hi ho e he hb
  have h2 : listed.getD e.on true = true := by
   cases h3 : listed.getD e.on true with
   | true => rfl
   | false => exact absurd ⟨by omega, h3⟩ (hmin e.on h1)
  have h4 : e.on < listed.size := by omega
  simp [h4] at h2 ⊢; exact h2
 intro h
 rw [h] at this; cases this
theorem Drawn.all (d : Drawn call P num N ops xs n s0 sF S sp) {listed : Array Bool} {t : St} (p : Part xs n S listed t) (hall : ∀ i, i < n → listed.getD i true = true) : t.mem = (S n).mem ∧ (∀ u, t.env.get u = (S n).env.get u) ∧ t.k = (S n).k := by
 refine ⟨List.ext_getElem? fun id => ?_, fun u => ?_, p.k.trans (d.pre 0 n (Nat.zero_le _) (Nat.le_refl _)).2.2.symm⟩
 ·rcases Nat.lt_or_ge id (S n).mem.length with h | h
  ·exact p.live id h fun j hj _ _ => hall j hj
  ·rw [List.getElem?_eq_none h, List.getElem?_eq_none (by rw [p.len]; exact h)]
 ·by_cases hw : ∃ (j : Nat) (y : XO), j < n ∧ xs[j]? = some y ∧ y.dst = some u
  ·obtain ⟨j, y, hj, hy, hd⟩ := hw
   rw [(p.done j y u hj hy hd (hall j hj)).1]
   exact (d.get u (j + 1) n (by omega) (Nat.le_refl _) fun k z h5 h6 h7 => by
    rcases (d.one k j z y u h6 hj h7 hy hd).1 with h | h
    ·omega
    ·exact h).symm
  ·rw [(p.not u fun j y h1 h2 h3 => absurd ⟨j, y, h1, h2, h3⟩ hw).1]
   exact (d.get u 0 n (Nat.zero_le _) (Nat.le_refl _) fun k z _ h6 h7 h8 => hw ⟨k, z, h6, h7, h8⟩).symm
theorem Drawn.any {ro : Option Nat} (d : Drawn call P num N ops xs n s0 sF S fun _ => false) (htail : n = ops.size ∨ (n < ops.size ∧ Region.sinkB .any ops n = true ∧ Region.chainB .any ops n = true)) (hseq : Region.seqB .any ops (ops.size - n) n (headArr ops.size n) = true) (hcall : CallOK num P call) {Q : Exit → Act → World → Prop} {k : Nat} {C : Cx} {m : Mem} {a0 : Act} (hN : N ≤ a0.tmps.size) (hQ : ∀ D a', Later num k C m a0 D sF a' → Q .normal a' D.w) :
  ∀ (c : Nat) (listed : Array Bool) (a : Act) (D : Cx) (t : St), left n listed = c → HeadInv .any ops n listed → Part xs n S listed t → Later num k C m a0 D t a → wpAnyIn (fz ro) 0 P .any ops Q (c + (ops.size - n)) listed a D.w := by
 intro c
 induction c with
 | zero =>
  intro listed a D t hl inv p hlat
  rw [Nat.zero_add]
  have hall : ∀ i, i < n → listed.getD i true = true := by
   intro i hi
   cases h : listed.getD i true with
   | true => rfl
   | false =>
    have := List.countP_eq_zero.1 hl i (List.mem_range.2 hi)
    simp [h] at this
  have hhead := zg9 inv.size d.hn hall inv.tail
  have hdl : (ops.toList.drop n).length = ops.size - n := by simp
  obtain ⟨h1, h2, h3⟩ := d.all p hall
  have hSn : Later num k C m a0 D (S n) a :=
   ⟨⟨by rw [← h1]; exact hlat.rep.mem, fun u => by rw [← h2]; exact hlat.rep.env u, by rw [← h1, ← h3]; exact hlat.rep.k⟩, by rw [← h1]; exact hlat.step, by rw [← h3]; exact hlat.k, hlat.size, hlat.marks⟩
  have htr : trOps P num N ops (ops.toList.drop n) = (xs.drop n).map XO.wipe := by
   refine ztv _ _ (by simp [d.len]) fun i o hi => ?_
   rw [List.getElem?_drop] at hi
   obtain ⟨x, hx, h⟩ := d.tr (n + i) o rfl (by simpa using hi)
   exact ⟨x, by rw [List.getElem?_drop]; exact hx, h⟩
  have hw := zjj (ro := ro) hcall (Q := Q) (ops.toList.drop n) (xs.drop n) htr hSn.rep (by rw [hSn.size]; exact hN) d.rest fun E a'' hl' => hQ E a'' (hSn.trans (by rw [hSn.k] at hl'; exact hl'))
  have := zvi (md := .any) (Q' := Q) (ops.toList.drop n) n listed a D.w (fun j => by simp [List.getElem?_drop]) (by rw [hdl, hhead]; exact hseq) hw
  rwa [hdl] at this
 | succ c ih =>
  intro listed a D t hl inv p hlat
  rw [show c + 1 + (ops.size - n) = (c + (ops.size - n)) + 1 by omega]
  refine ⟨fun h => absurd h (d.ready_some inv.size (by omega)), fun i hi => ?_⟩
  obtain ⟨hun, oi, hoi, _⟩ := mem_ready.1 hi
  have hisz : i < ops.size := (Array.getElem?_eq_some_iff.1 hoi).1
  have hin : i < n := by
   rcases htail with h | ⟨h1, h2, h3⟩
   ·omega
   ·rcases Nat.lt_or_ge i n with h | h
    ·exact h
    ·obtain ⟨j, hj, h4⟩ := List.countP_pos_iff.1 (show 0 < left n listed by omega)
     exact absurd hi (tail_waits h2 h3 h1 inv _ j rfl (List.mem_range.1 hj) (by simpa using h4) i h)
  obtain ⟨x, hx, htr⟩ := d.tr i oi rfl hoi
  obtain ⟨t1, h1, hnext⟩ := d.part_step hcall p hin hi hx (fun fn l hop => by rw [(zts htr).1]; simp only [XO.wipe, hop, XOp.wipe]) hlat.rep
  unfold wpOpIn
  simp only [hoi]
  refine one_wp hcall htr hlat.rep (by rw [hlat.size]; exact hN) h1 fun E a' hl' _ => ?_
  obtain ⟨t2, F, hw, hl2, p2⟩ := hnext E a' hl'.rep
  rw [← hw]
  refine ih _ a' F t2 (by have := zi7 hin hun; omega) (inv.set hi hin) p2 ?_
  rw [hlat.k] at hl'
  rw [hl'.k] at hl2
  exact (hlat.trans hl').trans hl2
theorem Drawn.owner (d : Drawn call P num N ops xs n s0 sF S sp) {id : Nat} (h0 : (S 0).mem.length ≤ id) : ∀ m, m ≤ n → id < (S m).mem.length → ∃ j, j < m ∧ (S j).mem.length ≤ id ∧ id < (S (j + 1)).mem.length := by
 intro m
 induction m with
 | zero => intro _ h; omega
 | succ m ih =>
  intro hm h
  rcases Nat.lt_or_ge id (S m).mem.length with h1 | h1
  ·obtain ⟨j, h2, h3⟩ := ih (by omega) h1
   exact ⟨j, by omega, h3⟩
  ·exact ⟨m, by omega, h1, h⟩
theorem Drawn.start (d : Drawn call P num N ops xs n s0 sF S sp) {C : Cx} {a : Act} (hs : SRep num C s0 a) : Part xs n S (Array.replicate ops.size false) { s0 with mem := s0.mem ++ List.replicate ((S n).mem.length - s0.mem.length) AObj.dead } := by
 have hpre := d.pre 0 n (Nat.zero_le _) (Nat.le_refl _)
 have hS0 := d.S0
 have hn := hs.mem.len
 have hfalse : ∀ j, j < n → (Array.replicate ops.size false).getD j true = false := fun j hj => by
  have hlt : j < ops.size := by have := d.hn; omega
  simp [hlt]
 have live0 : ∀ id, id < (S 0).mem.length → Live S n (Array.replicate ops.size false) id := fun id h j hj h1 _ => by have := (d.pre 0 j (by omega) (by omega)).1; omega
 have hb : (S 0).mem.length = s0.mem.length := by rw [hS0]
 refine ⟨by simp; omega, by rw [hS0], by rw [hS0]; exact hs.k, fun id hid hlv => ?_, fun id hid hno => ?_, fun i x u hi hx hd hl => ?_, fun u _ => ?_, fun id o ho j hj => ?_⟩
 ·rcases Nat.lt_or_ge id (S 0).mem.length with h | h
  ·rw [hpre.2.1 id h, hS0]
   exact List.getElem?_append_left (by omega)
  ·obtain ⟨j, hj, h1, h2⟩ := d.owner h n (Nat.le_refl _) hid
   have := hlv j hj h1 h2
   rw [hfalse j hj] at this; cases this
 ·have h : (S 0).mem.length ≤ id := Nat.le_of_not_lt fun h => hno (live0 id h)
  show (s0.mem ++ _)[id]? = _
  rw [List.getElem?_append_right (by omega), List.getElem?_replicate, if_pos (by omega)]
 ·rw [hfalse i hi] at hl; cases hl
 ·rw [hS0]
  exact ⟨rfl, fun id hid => by have := zaw (hs.env u) id hid; omega⟩
 ·have hsp : s0.mem[id]? = some o ∨ o = .dead := by
   rcases Nat.lt_or_ge id s0.mem.length with h | h
   ·left; rw [← ho]; exact (List.getElem?_append_left h).symm
   ·right
    have ho' : (s0.mem ++ List.replicate ((S n).mem.length - s0.mem.length) AObj.dead)[id]? = some o := ho
    rw [List.getElem?_append_right h] at ho'
    exact List.eq_of_mem_replicate (List.mem_of_getElem? ho')
  rcases hsp with h | rfl
  ·have hjl := zmv (hs.mem.obj id o h) j hj
   exact ⟨live0 j (by omega), fun i hi _ => by have := (d.pre 0 i (by omega) hi).1; omega⟩
  ·simp [AObj.refs] at hj
end
theorem zed {call : Calls'} {N : Nat} {ops : Array Oper} {xs : List XO} {n : Nat} {s0 sF : St} (htr : trOps P num N ops ops.toList = xs.map XO.wipe) (hlen : xs.length = ops.size) (h1 : (xs.take n).all (fun x => calmOp x.op || makeOp x.op) = true)
  (h2 : ((List.range n).all fun i => (List.range n).all fun j => match xs[i]?, xs[j]? with
  | some x, some y => match y.dst with
   | none => true
   | some d => (i == j || x.dst != some d) && (!x.reads.contains d || (decide (j < i) && Region.waitsFor .any ops i j))
  | _, _ => false) = true)
  (h3 : ((List.range n).all fun i => match ops[i]? with
  | some o => o.after.all fun e => !Region.binds .any e || decide (e.on < i)
  | none => false) = true) (hn : n ≤ ops.size) (h : exOps call s0 xs = some sF) : ∃ S, Drawn call P num N ops xs n s0 sF S fun _ => false := by
 have hS : ∀ i, ∃ t, exOps call s0 (xs.take i) = some t ∧ exOps call t (xs.drop i) = some sF := zfb xs s0 sF h
 obtain ⟨S, hS⟩ : ∃ S : Nat → St, ∀ i, exOps call s0 (xs.take i) = some (S i) ∧ exOps call (S i) (xs.drop i) = some sF := ⟨fun i => Classical.choose (hS i), fun i => Classical.choose_spec (hS i)⟩
 have go : ∀ (i : Nat) x, xs[i]? = some x → exOne call (S i) x = some (S (i + 1)) := by
  intro i x hx
  have e1 := (hS i).1
  have e2 := (hS (i + 1)).1
  have : xs.take (i + 1) = xs.take i ++ [x] := by
   rw [List.take_add_one, hx]; rfl
  rw [this] at e2
  exact zfa _ x s0 _ _ e1 e2
 refine ⟨S, hlen, hn, fun i o _ ho => ztt ops.toList xs htr h i o (by simpa using ho), ?_, ?_, ?_, ?_, go, ?_, fun i x _ hx => go i x hx, ?_⟩
 ·intro i x hi hx
  refine List.all_eq_true.1 h1 x (List.mem_of_getElem? (i := i) ?_)
  rw [List.getElem?_take, if_pos hi]; exact hx
 ·intro i j x y d hi hj hx hy hyd
  have := List.all_eq_true.1 (List.all_eq_true.1 h2 i (List.mem_range.2 hi)) j (List.mem_range.2 hj)
  simp only [hx, hy, hyd, Bool.and_eq_true, Bool.or_eq_true, beq_iff_eq, bne_iff_ne, Bool.not_eq_true', List.contains_eq_mem, decide_eq_false_iff_not, decide_eq_true_eq] at this
  refine ⟨this.1, fun hr => ?_⟩
  rcases this.2 with h | h
  ·exact absurd hr h
  ·exact h
 ·intro i o hi ho e he hb
  have := List.all_eq_true.1 h3 i (List.mem_range.2 hi)
  simp only [ho] at this
  have := Array.all_eq_true_iff_forall_mem.1 this e he
  simpa [hb] using this
 ·have := (hS 0).1
  simp [exOps] at this
  exact this.symm
 ·have := (hS xs.length).2
  simp [exOps] at this
  exact this
 ·exact (hS n).2
def Cx.draw (C : Cx) : Cx := { C with w := { C.w with drawn := C.w.drawn + 1 } }
theorem zec (C : Cx) : Tr some C C.draw := ⟨fun _ h => h, fun _ _ => rfl, fun id j hid hj => by cases hj; exact ⟨hid, rfl, fun _ _ h => h⟩⟩
theorem zeb {C : Cx} {m : Mem} (h : MRep num C m) : MRep num C.draw m :=
 ⟨h.len, fun id o ho => zmw (zec C) rfl (fun _ hx => hx) (h.obj id o ho), h.inj, h.imm, h.bd, num.up h.glo (zec C).imm (zec C).keep⟩
theorem zea {C : Cx} {s : St} {a : Act} (hs : SRep num C s a) : Later num s.k C s.mem a C.draw s a := by
 refine ⟨⟨zeb hs.mem, hs.env.mono (zec C), hs.k⟩, ⟨zeb hs.mem, rfl, rfl, rfl, Nat.le_refl _, fun _ _ _ => rfl, fun _ _ _ h => h, fun _ h => h, fun _ h => .inl h, fun _ h => .inr h, fun i _ o' ho hm => ⟨o', ho, hm, rfl⟩, hs.k⟩, rfl, rfl, fun _ _ h => h⟩
theorem zpz (n m : Nat) (h : n ≤ m) : left n (Array.replicate m false) = n := by
 unfold left
 rw [List.countP_eq_length.2]
 ·simp
 ·intro i hi
  have := List.mem_range.1 hi
  have h' : i < m := by omega
  simp [h']
end
end Go.EX


namespace Go.EX
theorem zav {s : St} {sz bytes : Nat} {a x r : AV} {s' : St} (h : exAppend s sz bytes a x = some (r, s')) :
  ∃ f : Nat → Option Nat, s'.env = s.env.ren f ∧ s'.k = s.k ∧ ∀ e : Env, exAppend { s with env := e } sz bytes a x = some (r, { s' with env := e.ren f }) := by
 unfold exAppend at h
 cases hel : elems s.mem sz x with
 | none => simp [hel] at h
 | some nn =>
  obtain ⟨n, news⟩ := nn
  simp only [hel] at h
  split at h
  ·split at h
   ·cases h
    refine ⟨some, (zer _).symm, rfl, fun e => ?_⟩
    simp [exAppend, hel, zer, *]
   ·split at h
    ·simp only [fresh, Option.some.injEq, Prod.mk.injEq] at h
     obtain ⟨rfl, rfl⟩ := h
     refine ⟨some, (zer _).symm, rfl, fun e => ?_⟩
     simp [exAppend, hel, zer, fresh, *]
    ·cases h
  ·split at h
   ·cases h
    refine ⟨some, (zer _).symm, rfl, fun e => ?_⟩
    simp [exAppend, hel, zer, *]
   ·split at h
    ·cases h
    ·split at h
     ·split at h
      ·simp only [fresh, Option.some.injEq, Prod.mk.injEq] at h
       obtain ⟨rfl, rfl⟩ := h
       refine ⟨some, (zer _).symm, rfl, fun e => ?_⟩
       simp [exAppend, hel, zer, fresh, *]
      ·cases h
     ·cases h
  ·split at h
   ·split at h
    ·split at h
     ·split at h
      ·simp only [Option.some.injEq, Prod.mk.injEq] at h
       obtain ⟨rfl, rfl⟩ := h
       refine ⟨some, (zer _).symm, rfl, fun e => ?_⟩
       simp [exAppend, hel, zer, fresh, *]
      ·cases h
     ·split at h
      ·split at h
       ·simp only [fresh, Option.some.injEq, Prod.mk.injEq] at h
        obtain ⟨rfl, rfl⟩ := h
        refine ⟨some, (zer _).symm, rfl, fun e => ?_⟩
        simp [exAppend, hel, zer, fresh, *]
       ·cases h
      ·cases h
    ·cases h
   ·cases h
  ·split at h
   ·split at h
    ·split at h
     ·split at h
      ·simp only [Option.some.injEq, Prod.mk.injEq] at h
       obtain ⟨rfl, rfl⟩ := h
       rw [zru]
       refine ⟨hide _, rfl, rfl, fun e => ?_⟩
       simp [exAppend, hel, zru, *]
      ·cases h
     ·cases h
    ·cases h
   ·cases h
  ·cases h
theorem zas {s : St} {sz bytes : Nat} {a x r : AV} {s' : St} (h : exAppendR s sz bytes a x = some (r, s')) :
  ∃ f : Nat → Option Nat, s'.env = s.env.ren f ∧ s'.k = s.k ∧ ∀ e : Env, exAppendR { s with env := e } sz bytes a x = some (r, { s' with env := e.ren f }) := by
 refine ⟨some, ?_⟩
 unfold exAppendR at h
 cases hel : elemsR s.mem sz x with
 | none => simp [hel] at h
 | some nn =>
  obtain ⟨n, news⟩ := nn
  simp only [hel] at h
  split at h
  ·cases h
  ·split at h
   ·split at h
    ·simp only [fresh, Option.some.injEq, Prod.mk.injEq] at h
     obtain ⟨rfl, rfl⟩ := h
     exact ⟨(zer _).symm, rfl, fun e => by simp [exAppendR, hel, zer, fresh, *]⟩
    ·cases h
   ·split at h
    ·rename_i hsz
     subst hsz
     split at h
     ·split at h
      ·simp only [Option.some.injEq, Prod.mk.injEq] at h
       obtain ⟨rfl, rfl⟩ := h
       exact ⟨(zer _).symm, rfl, fun e => by simp [exAppendR, hel, zer, *]⟩
      ·cases h
     ·cases h
    ·cases h
   ·split at h
    ·rename_i hsz
     obtain ⟨rfl, hroom⟩ := hsz
     split at h
     ·split at h
      ·simp only [Option.some.injEq, Prod.mk.injEq] at h
       obtain ⟨rfl, rfl⟩ := h
       exact ⟨(zer _).symm, rfl, fun e => by simp [exAppendR, hel, zer, *]⟩
      ·cases h
     ·cases h
    ·rename_i hno
     split at h
     ·rename_i hsz
      subst hsz
      have hno2 : ¬ _ := fun q => hno ⟨rfl, q⟩
      split at h
      ·split at h
       ·simp only [fresh, Option.some.injEq, Prod.mk.injEq] at h
        obtain ⟨rfl, rfl⟩ := h
        exact ⟨(zer _).symm, rfl, fun e => by simp [exAppendR, hel, zer, fresh, *]⟩
       ·cases h
      ·cases h
     ·cases h
   ·cases h
theorem zau {s : St} {sz bytes : Nat} {a x r : AV} {s' : St} (h : exAppendX s sz bytes a x = some (r, s')) :
  ∃ f : Nat → Option Nat, s'.env = s.env.ren f ∧ s'.k = s.k ∧ ∀ e : Env, exAppendX { s with env := e } sz bytes a x = some (r, { s' with env := e.ren f }) := by
 unfold exAppendX at h
 split at h
 ·rename_i q hq
  cases h
  obtain ⟨f, h1, h2, h3⟩ := zav hq
  exact ⟨f, h1, h2, fun e => by simp only [exAppendX, h3 e]⟩
 ·rename_i hq
  obtain ⟨f, h1, h2, h3⟩ := zas h
  refine ⟨f, h1, h2, fun e => ?_⟩
  have hn : exAppend { s with env := e } sz bytes a x = none := by
   cases hc : exAppend { s with env := e } sz bytes a x with
   | none => rfl
   | some q =>
    obtain ⟨q1, q2⟩ := q
    obtain ⟨_, _, _, h4⟩ := zav hc
    have := h4 s.env
    rw [show ({ ({ s with env := e } : St) with env := s.env } : St) = s from rfl, hq] at this
    cases this
  simp only [exAppendX, hn, h3 e]
theorem zat {s : St} {a x r : AV} {s' : St} (h : exAppendS s a x = some (r, s')) :
  ∃ f : Nat → Option Nat, s'.env = s.env.ren f ∧ s'.k = s.k ∧ ∀ e : Env, exAppendS { s with env := e } a x = some (r, { s' with env := e.ren f }) := by
 refine ⟨some, ?_⟩
 unfold exAppendS at h
 split at h
 ·cases h
 ·split at h
  ·split at h
   ·cases h
    exact ⟨(zer _).symm, rfl, fun e => by simp [exAppendS, zer, *]⟩
   ·split at h
    ·simp only [fresh, Option.some.injEq, Prod.mk.injEq] at h
     obtain ⟨rfl, rfl⟩ := h
     exact ⟨(zer _).symm, rfl, fun e => by simp [exAppendS, zer, fresh, *]⟩
    ·cases h
  ·split at h
   ·split at h
    ·simp only [Option.some.injEq, Prod.mk.injEq] at h
     obtain ⟨rfl, rfl⟩ := h
     exact ⟨(zer _).symm, rfl, fun e => by simp [exAppendS, zer, *]⟩
    ·cases h
   ·cases h
  ·cases h
theorem zr6 {call : Calls'} {s : St} {fn : Nat} {args : List AV} {r : AV} {s' : St} (h : exShare call s fn args = some (r, s')) :
  ∃ f : Nat → Option Nat, s'.env = s.env.ren f ∧ s'.k = s.k ∧ ∀ e : Env, exShare call { s with env := e } fn args = some (r, { s' with env := e.ren f }) := by
 unfold exShare at h
 dsimp only at h
 split at h
 ·cases h
 ·rename_i hok
  split at h
  ·cases h
  ·rename_i rv mc hc
   simp only [Option.some.injEq, Prod.mk.injEq] at h
   obtain ⟨rfl, rfl⟩ := h
   refine ⟨_, rfl, rfl, fun e => ?_⟩
   unfold exShare
   dsimp only
   rw [if_neg hok]
   simp only [hc]
   rfl
theorem zsw {s : St} {c n : Nat} {a x r : AV} {s' : St} (h : exStoreF s c n a x = some (r, s')) :
  ∃ f : Nat → Option Nat, s'.env = s.env.ren f ∧ s'.k = s.k ∧ ∀ e : Env, exStoreF { s with env := e } c n a x = some (r, { s' with env := e.ren f }) := by
 have one : ∀ {o : Option Mem} {r : AV} {s' : St}, (o.map fun m => (AV.junk, { s with mem := m })) = some (r, s') → s'.env = s.env.ren some ∧ s'.k = s.k ∧ ∀ e : Env, (o.map fun m => (AV.junk, { ({ s with env := e } : St) with mem := m })) = some (r, { s' with env := e.ren some }) := by
  intro o r s' h
  cases o with
  | none => cases h
  | some m =>
   cases h
   exact ⟨(zer _).symm, rfl, fun e => by simp [zer]⟩
 refine ⟨some, ?_⟩
 unfold exStoreF at h
 split at h
 ·split at h
  ·split at h
   ·obtain ⟨h1, h2, h3⟩ := one h
    exact ⟨h1, h2, fun e => by simpa [exStoreF, *] using h3 e⟩
   ·cases h
  ·split at h
   ·split at h
    ·obtain ⟨h1, h2, h3⟩ := one h
     exact ⟨h1, h2, fun e => by simpa [exStoreF, *] using h3 e⟩
    ·cases h
   ·cases h
 ·split at h
  ·obtain ⟨h1, h2, h3⟩ := one h
   exact ⟨h1, h2, fun e => by simpa [exStoreF, *] using h3 e⟩
  ·cases h
 ·cases h
theorem st_eq {s t : St} (hm : t.mem = s.mem) (hk : t.k = s.k) : t = { s with env := t.env } := by cases t; cases s; cases hm; cases hk; rfl
theorem ztc {call : Calls'} {x : XOp} (hc : tailOp x = true) {s t : St} (hm : t.mem = s.mem) (hk : t.k = s.k) (he : ∀ n ∈ x.takes, t.env.get n = s.env.get n) {r : AV} {s' : St} (h : exOp call s x = some (r, s')) :
  ∃ f : Nat → Option Nat, s'.env = s.env.ren f ∧ s'.k = s.k ∧ exOp call t x = some (r, { s' with env := t.env.ren f }) := by
 have calm : calmOp x = true → (∀ n ∈ x.reads, t.env.get n = s.env.get n) → ∃ f : Nat → Option Nat, s'.env = s.env.ren f ∧ s'.k = s.k ∧ exOp call t x = some (r, { s' with env := t.env.ren f }) := by
  intro hcalm hr
  obtain ⟨rfl, h2, _⟩ := zbu (K := fun _ => True) hcalm (t := t) ⟨fun _ _ => by rw [hm], fun _ _ _ _ _ _ => trivial⟩ hr (fun _ _ _ _ => trivial) h
  refine ⟨some, (zer _).symm, rfl, ?_⟩
  rw [h2, zer, ← st_eq hm hk]
 have e1 : ∀ y, (∀ n ∈ srcTmp y, n ∈ x.takes) → t.env.ev y = s.env.ev y := fun y hy => zew fun n hn => he n (hy n hn)
 unfold tailOp at hc
 split at hc
 ·rename_i n a y
  have ha := e1 a (by simp [XOp.takes]; intros; simp [*])
  have hy := e1 y (by simp [XOp.takes]; intros; simp [*])
  refine ⟨some, ?_⟩
  simp only [exOp, ha, hy, hm] at h ⊢
  clear calm e1
  split at h
  ·split at h
   ·simp only [Option.map_eq_some_iff, Prod.mk.injEq] at h
    obtain ⟨m, hm', rfl, rfl⟩ := h
    refine ⟨(zer _).symm, rfl, ?_⟩
    simp only [*, if_true, Option.map_some, zer]
   ·cases h
  ·cases h
 ·rename_i c n a y
  have ha := e1 a (by simp [XOp.takes]; intros; simp [*])
  have hy := e1 y (by simp [XOp.takes]; intros; simp [*])
  simp only [exOp, ha, hy] at h ⊢
  obtain ⟨f, h1, h2, h3⟩ := zsw h
  exact ⟨f, h1, h2, by rw [st_eq hm hk]; exact h3 t.env⟩
 ·rename_i n b a y
  have ha := e1 a (by simp [XOp.takes]; intros; simp [*])
  have hy := e1 y (by simp [XOp.takes]; intros; simp [*])
  simp only [exOp, ha, hy] at h ⊢
  obtain ⟨f, h1, h2, h3⟩ := zau h
  exact ⟨f, h1, h2, by rw [st_eq hm hk]; exact h3 t.env⟩
 ·cases h
 ·rename_i a y
  have ha := e1 a (by simp [XOp.takes]; intros; simp [*])
  have hy := e1 y (by simp [XOp.takes]; intros; simp [*])
  simp only [exOp, ha, hy] at h ⊢
  obtain ⟨f, h1, h2, h3⟩ := zat h
  exact ⟨f, h1, h2, by rw [st_eq hm hk]; exact h3 t.env⟩
 ·rename_i g l
  have hg := e1 g (by simp [XOp.takes]; intros; simp [*])
  have hl : l.map t.env.ev = l.map s.env.ev := zet fun n hn => he n (by simp only [XOp.takes]; exact List.mem_append.2 (.inr hn))
  simp only [exOp, hg, hl] at h ⊢
  clear calm e1
  split at h
  ·obtain ⟨f, h1, h2, h3⟩ := zr6 h
   refine ⟨f, h1, h2, ?_⟩
   have h4 := h3 t.env
   rw [← st_eq hm hk] at h4
   simp only [*]
  ·cases h
 ·rename_i kd m k v
  have h1 := e1 m (by simp [XOp.takes]; intros; simp [*])
  have h2 := e1 k (by simp [XOp.takes]; intros; simp [*])
  have h3 := e1 v (by simp [XOp.takes]; intros; simp [*])
  refine ⟨some, ?_⟩
  simp only [exOp, h1, h2, h3, hm] at h ⊢
  clear calm e1
  split at h
  ·split at h
   ·split at h
    ·split at h
     ·cases h
      refine ⟨(zer _).symm, rfl, ?_⟩
      simp only [*, if_true, zer]
     ·cases h
      refine ⟨(zer _).symm, rfl, ?_⟩
      simp only [*, if_true, zer]
     ·cases h
    ·cases h
   ·cases h
  ·cases h
 ·rename_i fn l
  have hl : l.map t.env.ev = l.map s.env.ev := zet fun n hn => he n (by simp only [XOp.takes, XOp.reads]; exact hn)
  simp only [exOp, hl] at h ⊢
  obtain ⟨f, h1, h2, h3⟩ := zr6 h
  exact ⟨f, h1, h2, by rw [st_eq hm hk]; exact h3 t.env⟩
 ·cases h
 ·refine calm hc fun n hn => he n ?_
  unfold XOp.takes
  split <;> first | exact hn | (cases hc; done) | (rename_i hx _; simp [XOp.reads] at hn)
theorem zpp (v : AV) : v.ren some = v := zpv v
theorem ztd {call : Calls'} {x : XO} (hc : tailOp x.op = true) {s t : St} (hm : t.mem = s.mem) (hk : t.k = s.k) (he : ∀ n ∈ x.takes, t.env.get n = s.env.get n) {s' : St} (h : exOne call s x = some s') :
  ∃ (f : Nat → Option Nat) (v : AV) (t' : St), exOne call t x = some t' ∧ t'.mem = s'.mem ∧ t'.k = s'.k ∧ s'.k = s.k ∧ (∀ u, s'.env.get u = if x.dst = some u then v else (s.env.get u).ren f) ∧ ∀ u, t'.env.get u = if x.dst = some u then v else (t.env.get u).ren f := by
 have r1 : ∀ n ∈ x.op.takes, n ∈ x.takes := fun n hn => List.mem_append.2 (.inl hn)
 have r3 : ∀ u b, x.guard = some (u, b) → u ∈ x.takes := fun u b hg => List.mem_append.2 (.inr (by simp [hg]))
 rcases ze2 h with ⟨v, s1, hx, rfl, hg⟩ | ⟨rfl, u, b, hg, hcc⟩
 ·obtain ⟨f, h1, h2, h3⟩ := ztc hc hm hk (fun n hn => he n (r1 n hn)) hx
  have hbm : ∀ (u : St), (u.bind x.dst v).mem = u.mem := fun u => by cases x.dst <;> rfl
  have hbk : ∀ (u : St), (u.bind x.dst v).k = u.k := fun u => by cases x.dst <;> rfl
  refine ⟨f, v, ({ s1 with env := t.env.ren f } : St).bind x.dst v, ?_, by rw [hbm, hbm], by rw [hbk, hbk], by rw [hbk, h2], fun u => by rw [zbg, h1, zem], fun u => by rw [zbg, zem]⟩
  unfold exOne
  rcases hg with hg | ⟨u, b, hg, hcc⟩
  ·simp only [hg, h3, Option.map_some]; cases x.dst <;> rfl
  ·have : t.env.get u = .imm (.val (.bool b)) := by rw [he u (r3 u b hg)]; exact hcc
   simp only [hg, this, h3, Option.map_some, if_true]; cases x.dst <;> rfl
 ·have hbm : ∀ (u : St), (u.bind x.dst (.tup [])).mem = u.mem := fun u => by cases x.dst <;> rfl
  have hbk : ∀ (u : St), (u.bind x.dst (.tup [])).k = u.k := fun u => by cases x.dst <;> rfl
  refine ⟨some, .tup [], t.bind x.dst (.tup []), ?_, by rw [hbm, hbm, hm], by rw [hbk, hbk, hk], by rw [hbk], fun u => by rw [zbg, zpp], fun u => by rw [zbg, zpp]⟩
  unfold exOne
  rcases hcc with ⟨c, hcc, hne⟩ | hcc
  ·have : t.env.get u = .imm (.val (.bool c)) := by rw [he u (r3 u b hg)]; exact hcc
   simp only [hg, this, hne, if_false]
   cases x.dst <;> rfl
  ·have : t.env.get u = .tup [] := by rw [he u (r3 u b hg)]; exact hcc
   simp only [hg, this]
   cases x.dst <;> rfl
section
variable {num : Names} {P : Program}
variable {call : Calls'} {N : Nat} {ops : Array Oper} {xs : List XO} {n : Nat} {s0 sF : St} {S : Nat → St}
theorem zio {i : Nat} (h : lateB ops xs n i = true) : ∃ (x : XO) (y d : Nat), xs[i]? = some x ∧ x.op = .mv (.t y) ∧ x.dst = some d ∧ x.guard = none ∧ y ≠ d ∧
  ∀ (j : Nat) z, n ≤ j → xs[j]? = some z → z.dst ≠ some d ∧ z.dst ≠ some y ∧ (d ∈ z.takes → Region.waitsFor .any ops j i = true) := by
 unfold lateB at h
 split at h
 ·rename_i x hx
  split at h
  ·rename_i y d hop hd hg
   simp only [Bool.and_eq_true, bne_iff_ne, ne_eq, List.all_eq_true, List.mem_range, Bool.or_eq_true, decide_eq_true_eq] at h
   obtain ⟨hyd, hall⟩ := h
   refine ⟨x, y, d, hx, hop, hd, hg, hyd, fun j z hj hz => ?_⟩
   have hjl : j < xs.length := (List.getElem?_eq_some_iff.1 hz).1
   rcases hall j hjl with h | h
   ·omega
   ·rw [hz] at h
    simp only [Bool.and_eq_true, bne_iff_ne, ne_eq, Bool.or_eq_true, Bool.not_eq_true', List.contains_eq_mem, decide_eq_false_iff_not] at h
    obtain ⟨h1, h2, h3⟩ := h
    refine ⟨h1, h2, fun hd => ?_⟩
    rcases h3 with h3 | h3
    ·exact absurd hd h3
    ·exact h3
  ·cases h
 ·cases h
structure Floats (ops : Array Oper) (xs : List XO) (n : Nat) : Prop where
 strong : ∀ (j : Nat) z, n ≤ j → xs[j]? = some z → tailOp z.op = true
 sink : ∀ i, i < n → lateB ops xs n i = false → ∃ j, j ≤ n ∧ i < j ∧ Region.waitsFor .any ops j i = true ∧ (j = n ∨ lateB ops xs n j = false)
 lt : n < ops.size
 chain : Region.chainB .any ops n = true
 low : ∀ (i : Nat) o, ops[i]? = some o → ∀ e ∈ o.after, Region.binds .any e = true → e.on < i
theorem zb4 (h : Region.chainB .any ops n = true) {t : Nat} (hn : n < t) (ht : t < ops.size) : Region.waitsFor .any ops t (t - 1) = true := by
 have := List.all_eq_true.1 h t (List.mem_range.2 ht)
 simp only [Bool.or_eq_true, decide_eq_true_eq] at this
 rcases this with h | h
 ·omega
 ·exact h
theorem Floats.waits (fl : Floats ops xs n) {listed : Array Bool} (inv : HeadInv .any ops n listed) : ∀ (d i : Nat), n - i = d → i < n → lateB ops xs n i = false → listed.getD i true = false → ∀ t, n ≤ t → t ∉ Region.ready .any ops listed := by
 intro d
 induction d using Nat.strongRecOn with
 | _ d ih =>
  intro i hd hi hlate hun t ht hr
  have htlt : t < ops.size := by
   obtain ⟨_, ot, hot, _⟩ := mem_ready.1 hr
   exact (Array.getElem?_eq_some_iff.1 hot).1
  by_cases htn : t = n
  ·subst htn
   obtain ⟨j, hj1, hj2, hw, hj3⟩ := fl.sink i hi hlate
   by_cases hjt : j = t
   ·subst hjt
    have := zo9 hr hw
    rw [getD_both hun] at this; cases this
   ·have hjl : lateB ops xs t j = false := by rcases hj3 with h | h; exact absurd h hjt; exact h
    cases hl : listed.getD j false with
    | true =>
     obtain ⟨oj, hoj, e, he, hb, hon⟩ := Region.waitsFor_spec hw
     have h2 := inv.closed j oj hoj hl e he hb
     rw [hon, getD_both hun] at h2
     cases h2
    | false =>
     have hjs : j < listed.size := by rw [inv.size]; omega
     exact ih (t - j) (by omega) j rfl (by omega) hjl (getD_in hjs hl) t (Nat.le_refl _) hr
  ·have := zo9 hr (zb4 fl.chain (by omega) htlt)
   rw [getD_both (inv.tail (t - 1) (by omega) (by omega))] at this
   cases this
theorem Floats.ready_some (fl : Floats ops xs n) {listed : Array Bool} (hsz : listed.size = ops.size) (hl : left ops.size listed ≠ 0) : Region.ready .any ops listed ≠ [] := by
 have hex : ∃ i, i < ops.size ∧ listed.getD i true = false := by
  obtain ⟨i, hi, h⟩ := List.countP_pos_iff.1 (Nat.pos_of_ne_zero hl)
  exact ⟨i, List.mem_range.1 hi, by simpa using h⟩
 have : ∃ i, (i < ops.size ∧ listed.getD i true = false) ∧ ∀ j, j < i → ¬ (j < ops.size ∧ listed.getD j true = false) := by
  obtain ⟨i, hi⟩ := hex
  induction i using Nat.strongRecOn with
  | _ i ih =>
   by_cases h : ∃ j, j < i ∧ (j < ops.size ∧ listed.getD j true = false)
   ·obtain ⟨j, h1, h2⟩ := h; exact ih j h1 h2
   ·exact ⟨i, hi, fun j hj h' => h ⟨j, hj, h'⟩⟩
 obtain ⟨i, ⟨hi, hl⟩, hmin⟩ := this
 have ho : ops[i]? = some ops[i] := Array.getElem?_eq_getElem hi
 have : i ∈ Region.ready .any ops listed := by
  refine mem_ready.2 ⟨hl, _, ho, fun e he hb => ?_⟩
  have h1 := fl.low i _ ho e he hb
  have h2 : listed.getD e.on true = true := by
   cases h3 : listed.getD e.on true with
   | true => rfl
   | false => exact absurd ⟨by omega, h3⟩ (hmin e.on h1)
  have h4 : e.on < listed.size := by omega
  simp [h4] at h2 ⊢; exact h2
 intro h
 rw [h] at this; cases this
structure Behind (ops : Array Oper) (xs : List XO) (n : Nat) (S : Nat → St) (listed : Array Bool) (t : St) (k : Nat) : Prop where
 lo : n ≤ k
 hi : k ≤ ops.size
 size : listed.size = ops.size
 head : ∀ i, i < n → lateB ops xs n i = false → listed.getD i true = true
 done : ∀ i, n ≤ i → i < k → listed.getD i true = true
 todo : ∀ i, k ≤ i → i < ops.size → listed.getD i true = false
 mem : t.mem = (S k).mem
 kk : t.k = (S k).k
 env : ∀ u, (∀ (i : Nat) x, i < n → lateB ops xs n i = true → xs[i]? = some x → x.dst = some u → listed.getD i true = true) → t.env.get u = (S k).env.get u
theorem Drawn.moved (d : Drawn call P num N ops xs n s0 sF S fun _ => false) (fl : Floats ops xs n) {i : Nat} (hi : i < n) {x : XO} {y dd : Nat} (hx : xs[i]? = some x) (hop : x.op = .mv (.t y)) (hd : x.dst = some dd) (hg : x.guard = none) (hyd : y ≠ dd)
  (hno : ∀ (j : Nat) z, n ≤ j → xs[j]? = some z → z.dst ≠ some dd ∧ z.dst ≠ some y) : ∀ k, n ≤ k → k ≤ ops.size → (S k).env.get dd = (S k).env.get y := by
 intro k
 induction k with
 | zero => intro h1 _; omega
 | succ k ih =>
  intro h1 h2
  rcases Nat.lt_or_ge k n with hk | hk
  ·have hkn : k + 1 = n := by omega
   rw [hkn]
   have h3 : (S (i + 1)).env.get dd = (S i).env.get y ∧ (S (i + 1)).env.get y = (S i).env.get y := by
    have := d.step i x hi hx
    simp only [exOne, hg, hop, exOp, Option.map_some, hd, Option.some.injEq] at this
    rw [← this]
    simp [Env.get, Env.ev, hyd, Ne.symm hyd]
   have h4 : (S n).env.get dd = (S (i + 1)).env.get dd := d.get dd (i + 1) n (by omega) (Nat.le_refl _) fun j z h5 h6 h7 => by
    rcases (d.one j i z x dd h6 hi h7 hx hd).1 with h | h
    ·omega
    ·exact h
   have h5 : (S n).env.get y = (S (i + 1)).env.get y := d.get y (i + 1) n (by omega) (Nat.le_refl _) fun j z h5 h6 h7 hz => by
    have := (d.one i j x z y hi h6 hx h7 hz).2 (by simp [XO.reads, hop, XOp.reads, srcTmp])
    omega
   rw [h4, h5, h3.1, h3.2]
  ·have ih' := ih hk (by omega)
   have hkl : k < xs.length := by rw [d.len]; omega
   have hz : xs[k]? = some xs[k] := List.getElem?_eq_getElem hkl
   obtain ⟨f, v, t', _, _, _, _, h6, _⟩ := ztd (fl.strong k _ hk hz) rfl rfl (fun _ _ => rfl) (d.go k _ hz)
   obtain ⟨h7, h8⟩ := hno k _ hk hz
   rw [h6, h6, if_neg h7, if_neg h8, ih']
theorem Drawn.behind {ro : Option Nat} (d : Drawn call P num N ops xs n s0 sF S fun _ => false) (fl : Floats ops xs n) (hcall : CallOK num P call) {Q : Exit → Act → World → Prop} {k0 : Nat} {C : Cx} {m : Mem} {a0 : Act} (hN : N ≤ a0.tmps.size) (hQ : ∀ D a', Later num k0 C m a0 D sF a' → Q .normal a' D.w) :
  ∀ (c : Nat) (listed : Array Bool) (a : Act) (D : Cx) (t : St) (k : Nat), left ops.size listed = c → Behind ops xs n S listed t k → Later num k0 C m a0 D t a → wpAnyIn (fz ro) 0 P .any ops Q c listed a D.w := by
 intro c
 induction c with
 | zero =>
  intro listed a D t k hl b hlat
  have hall : ∀ i, i < ops.size → listed.getD i true = true := by
   intro i hi
   cases h : listed.getD i true with
   | true => rfl
   | false =>
    have := List.countP_eq_zero.1 hl i (List.mem_range.2 hi)
    simp [h] at this
  have hk : k = ops.size := by
   rcases Nat.lt_or_ge k ops.size with h | h
   ·have := b.todo k (Nat.le_refl _) h
    rw [hall k h] at this; cases this
   ·have := b.hi; omega
  subst hk
  refine ⟨?_, ?_⟩
  ·rw [List.eq_nil_iff_forall_not_mem]
   intro i hi
   obtain ⟨h1, o, ho, _⟩ := mem_ready.1 hi
   rw [hall i (Array.getElem?_eq_some_iff.1 ho).1] at h1; cases h1
  ·have hfin : S ops.size = sF := by rw [← d.len]; exact d.fin
   have henv : ∀ u, t.env.get u = sF.env.get u := fun u => by rw [← hfin]; exact b.env u fun i x hi _ _ _ => hall i (by have := d.hn; omega)
   have hmem := b.mem
   have hkk := b.kk
   rw [hfin] at hmem hkk
   exact hQ D a ⟨⟨by rw [← hmem]; exact hlat.rep.mem, fun u => by rw [← henv]; exact hlat.rep.env u, by rw [← hmem, ← hkk]; exact hlat.rep.k⟩, by rw [← hmem]; exact hlat.step, by rw [← hkk]; exact hlat.k, hlat.size, hlat.marks⟩
 | succ c ih =>
  intro listed a D t k hl b hlat
  refine ⟨fun h => absurd h (fl.ready_some b.size (by omega)), fun i hi => ?_⟩
  obtain ⟨hun, oi, hoi, _⟩ := mem_ready.1 hi
  have hisz : i < ops.size := (Array.getElem?_eq_some_iff.1 hoi).1
  obtain ⟨x, hx, htr⟩ := d.tr i oi rfl hoi
  have hleft : left ops.size (listed.setIfInBounds i true) = c := by have := zi7 hisz hun; omega
  rcases Nat.lt_or_ge i n with hin | hin
  ·
   have hlate : lateB ops xs n i = true := by
    cases h : lateB ops xs n i with
    | true => rfl
    | false => rw [b.head i hin h] at hun; cases hun
   obtain ⟨x', y, dd, hx', hop, hd, hg, hyd, hno⟩ := zio hlate
   rw [hx] at hx'
   cases hx'
   have hy : t.env.get y = (S k).env.get y := b.env y fun j z hj hlj hz hzd => by
    have := (d.one i j x z y hin hj hx hz hzd).2 (by simp [XO.reads, hop, XOp.reads, srcTmp])
    have h2 := zo9 hi this.2
    exact zgt h2
   have h1 : exOne call t x = some (t.bind (some dd) (t.env.get y)) := by
    simp only [exOne, hg, hop, exOp, Option.map_some, hd]
    rfl
   unfold wpOpIn
   simp only [hoi]
   refine one_wp hcall htr hlat.rep (by rw [hlat.size]; exact hN) h1 fun E a' hl' _ => ?_
   rw [hlat.k] at hl'
   refine ih _ a' E _ k hleft ?_ (hlat.trans hl')
   refine ⟨b.lo, b.hi, by simp [b.size], fun j hj hjl => ?_, fun j h2 h3 => ?_, fun j h2 h3 => ?_, b.mem, b.kk, fun u hu => ?_⟩
   ·have h4 := b.head j hj hjl
    by_cases hij : i = j
    ·subst hij; rw [hlate] at hjl; cases hjl
    ·rw [getD_set_ne true hij]; exact h4
   ·rw [getD_set_ne true (by omega)]; exact b.done j h2 h3
   ·rw [getD_set_ne true (by have := b.lo; omega)]; exact b.todo j h2 h3
   ·rw [zbg]
    by_cases hud : u = dd
    ·subst hud
     rw [if_pos rfl, hy]
     exact (d.moved fl hin hx hop hd hg hyd (fun j z hj hz => ⟨(hno j z hj hz).1, (hno j z hj hz).2.1⟩) k b.lo b.hi).symm
    ·rw [if_neg (by intro h; cases h; exact hud rfl)]
     refine b.env u fun j z hj hlj hz hzd => ?_
     have h5 := hu j z hj hlj hz hzd
     by_cases hij : i = j
     ·subst hij
      rw [hx] at hz; cases hz
      rw [hd] at hzd; cases hzd
      exact absurd rfl hud
     ·rw [getD_set_ne true hij] at h5; exact h5
  ·
   have hik : i = k := by
    rcases Nat.lt_trichotomy i k with h | h | h
    ·rw [b.done i hin h] at hun; cases hun
    ·exact h
    ·have := zo9 hi (zb4 fl.chain (by have := b.lo; omega) hisz)
     rw [getD_both (b.todo (i - 1) (by omega) (by omega))] at this
     cases this
   subst hik
   have hst := d.go i x hx
   have htail := fl.strong i x hin hx
   obtain ⟨f, v, t', h1, h2, h3, h4, h5, h6⟩ := ztd htail b.mem b.kk (fun u hu => b.env u fun j z hj hlj hz hzd => by
    obtain ⟨z', y, dd, hz', hop, hd, hg, hyd, hno⟩ := zio hlj
    rw [hz] at hz'
    cases hz'
    rw [hzd] at hd
    cases hd
    exact zgt (zo9 hi ((hno i x hin hx).2.2 hu))) hst
   unfold wpOpIn
   simp only [hoi]
   refine one_wp hcall htr hlat.rep (by rw [hlat.size]; exact hN) h1 fun E a' hl' _ => ?_
   rw [hlat.k] at hl'
   refine ih _ a' E _ (i + 1) hleft ?_ (hlat.trans hl')
   refine ⟨by omega, by omega, by simp [b.size], fun j hj hjl => ?_, fun j h7 h8 => ?_, fun j h7 h8 => ?_, h2, h3, fun u hu => ?_⟩
   ·rw [getD_set_ne true (by omega)]; exact b.head j hj hjl
   ·by_cases hij : i = j
    ·subst hij; simp [b.size, hisz]
    ·rw [getD_set_ne true hij]; exact b.done j h7 (by omega)
   ·rw [getD_set_ne true (by omega)]; exact b.todo j (by omega) h8
   ·rw [h5, h6]
    by_cases hud : x.dst = some u
    ·rw [if_pos hud, if_pos hud]
    ·rw [if_neg hud, if_neg hud, b.env u fun j z hj hlj hz hzd => ?_]
     have h9 := hu j z hj hlj hz hzd
     rwa [getD_set_ne true (by omega)] at h9
theorem Drawn.late {ro : Option Nat} (d : Drawn call P num N ops xs n s0 sF S fun _ => false) (fl : Floats ops xs n) (hcall : CallOK num P call) {Q : Exit → Act → World → Prop} {k0 : Nat} {C : Cx} {m : Mem} {a0 : Act} (hN : N ≤ a0.tmps.size) (hQ : ∀ D a', Later num k0 C m a0 D sF a' → Q .normal a' D.w) :
  ∀ (c : Nat) (listed : Array Bool) (a : Act) (D : Cx) (t : St), left ops.size listed = c → HeadInv .any ops n listed → Part xs n S listed t → Later num k0 C m a0 D t a → wpAnyIn (fz ro) 0 P .any ops Q c listed a D.w := by
 intro c
 induction c with
 | zero =>
  intro listed a D t hl inv p hlat
  have := List.countP_eq_zero.1 hl n (List.mem_range.2 fl.lt)
  rw [inv.tail n (Nat.le_refl _) fl.lt] at this
  simp at this
 | succ c ih =>
  intro listed a D t hl inv p hlat
  by_cases hall : ∀ i, i < n → lateB ops xs n i = false → listed.getD i true = true
  ·
   refine d.behind fl hcall hN hQ (c + 1) listed a D t n hl ⟨Nat.le_refl _, d.hn, inv.size, hall, fun i h1 h2 => by omega, inv.tail, ?_, p.k.trans (d.pre 0 n (Nat.zero_le _) (Nat.le_refl _)).2.2.symm, fun u hu => ?_⟩ hlat
   ·refine List.ext_getElem? fun id => ?_
    rcases Nat.lt_or_ge id (S n).mem.length with h | h
    ·refine p.live id h fun j hj h1 h2 => ?_
     cases hlj : lateB ops xs n j with
     | false => exact hall j hj hlj
     | true =>
      obtain ⟨x, y, dd, hx, hop, hd, hg, _⟩ := zio hlj
      have := d.step j x hj hx
      simp only [exOne, hg, hop, exOp, Option.map_some, hd, Option.some.injEq] at this
      rw [← this] at h2
      exact absurd h2 (by show ¬ id < (S j).mem.length; omega)
    ·rw [List.getElem?_eq_none h, List.getElem?_eq_none (by rw [p.len]; exact h)]
   ·by_cases hw : ∃ (j : Nat) (y : XO), j < n ∧ xs[j]? = some y ∧ y.dst = some u
    ·obtain ⟨j, y, hj, hy, hd⟩ := hw
     have hlj : listed.getD j true = true := by
      cases hl : lateB ops xs n j with
      | false => exact hall j hj hl
      | true => exact hu j y hj hl hy hd
     rw [(p.done j y u hj hy hd hlj).1]
     exact (d.get u (j + 1) n (by omega) (Nat.le_refl _) fun k z h5 h6 h7 => by
      rcases (d.one k j z y u h6 hj h7 hy hd).1 with h | h
      ·omega
      ·exact h).symm
    ·rw [(p.not u fun j y h1 h2 h3 => absurd ⟨j, y, h1, h2, h3⟩ hw).1]
     exact (d.get u 0 n (Nat.zero_le _) (Nat.le_refl _) fun k z _ h6 h7 h8 => hw ⟨k, z, h6, h7, h8⟩).symm
  ·have hex : ∃ j, j < n ∧ lateB ops xs n j = false ∧ listed.getD j true = false := by
    apply Classical.byContradiction
    intro hne
    apply hall
    intro i hi hli
    cases h : listed.getD i true with
    | true => rfl
    | false => exact absurd ⟨i, hi, hli, h⟩ hne
   obtain ⟨j, hj, hlj, hjun⟩ := hex
   refine ⟨fun h => absurd h (fl.ready_some inv.size (by omega)), fun i hi => ?_⟩
   obtain ⟨hun, oi, hoi, _⟩ := mem_ready.1 hi
   have hisz : i < ops.size := (Array.getElem?_eq_some_iff.1 hoi).1
   have hin : i < n := by
    rcases Nat.lt_or_ge i n with h | h
    ·exact h
    ·exact absurd hi (fl.waits inv _ j rfl hj hlj hjun i h)
   obtain ⟨x, hx, htr⟩ := d.tr i oi rfl hoi
   obtain ⟨t1, h1, hnext⟩ := d.part_step hcall p hin hi hx (fun fn l hop => by rw [(zts htr).1]; simp only [XO.wipe, hop, XOp.wipe]) hlat.rep
   unfold wpOpIn
   simp only [hoi]
   refine one_wp hcall htr hlat.rep (by rw [hlat.size]; exact hN) h1 fun E a' hl' _ => ?_
   obtain ⟨t2, F, hw, hl2, p2⟩ := hnext E a' hl'.rep
   rw [← hw]
   refine ih _ a' F t2 (by have := zi7 hisz hun; omega) (inv.set hi hin) p2 ?_
   rw [hlat.k] at hl'
   rw [hl'.k] at hl2
   exact (hlat.trans hl').trans hl2
end
section
variable {num : Names} {P : Program}
theorem zpf {ro : Option Nat} {call : Calls'} (hcall : CallOK num P call) (hmix : P.follows .mixedOrders = true) {N id : Nat} {ops : Array Oper} {draw : Bool} {keep : List Nat} {xs : List XO} (htr : trOps P num N ops ops.toList = xs.map XO.wipe) (hd : drawsOk (.region id ops draw) (.region keep xs) = true) {C : Cx} {s s' : St} {a : Act} (hs : SRep num C s a) (hN : N ≤ a.tmps.size) (h : exOps call s xs = some s')
  {Q : Exit → Act → World → Prop} (hQ : ∀ D a', Later num s.k C s.mem a D s' a' → Q .normal a' D.w) : (Code.region id ops draw).wpIn (fz ro) 0 P Q a C.w := by
 cases draw with
 | false => exact wpIn_region_list (zjj hcall ops.toList xs htr hs hN h hQ)
 | true =>
  simp only [drawsOk, Bool.and_eq_true, beq_iff_eq] at hd
  obtain ⟨hd, hlen⟩ := hd
  obtain ⟨n, hn, hok⟩ := List.any_eq_true.1 hd
  rw [Bool.or_eq_true] at hok
  rcases hok with hok | hok
  case inr =>
   simp only [drawOkL, Bool.and_eq_true] at hok
   obtain ⟨⟨⟨⟨⟨⟨k1, k2⟩, k3⟩, k4⟩, k5⟩, k6⟩, k7⟩ := hok
   simp only [decide_eq_true_eq] at k6
   obtain ⟨S, d⟩ := zed (call := call) (s0 := s) htr hlen k1 k2 k3 (by omega) h
   have fl : Floats ops xs n := by
    refine ⟨fun j z hj hz => ?_, fun i hi hli => ?_, k6.1, k6.2, fun i o ho e he hb => ?_⟩
    ·refine List.all_eq_true.1 k4 z (List.mem_of_getElem? (i := j - n) ?_)
     rw [List.getElem?_drop, ← hz]
     congr 1; omega
    ·have := List.all_eq_true.1 k5 i (List.mem_range.2 hi)
     rw [hli, Bool.false_or] at this
     obtain ⟨j, hj, h2⟩ := List.any_eq_true.1 this
     simp only [Bool.and_eq_true, decide_eq_true_eq, Bool.or_eq_true, beq_iff_eq, Bool.not_eq_true'] at h2
     exact ⟨j, by have := List.mem_range.1 hj; omega, h2.1, h2.2.1, h2.2.2⟩
    ·have := List.all_eq_true.1 k7 i (List.mem_range.2 (Array.getElem?_eq_some_iff.1 ho).1)
     simp only [ho] at this
     have := Array.all_eq_true_iff_forall_mem.1 this e he
     simpa [hb] using this
   refine wpIn_region_any hmix ?_
   have h0 := zea hs
   have h1 := zqg h0.rep ((S n).mem.length - s.mem.length)
   exact d.late fl hcall (Q := Q) (k0 := s.k) (C := C) (m := s.mem) (a0 := a) hN hQ ops.size (Array.replicate ops.size false) a _ _ (zpz ops.size ops.size (Nat.le_refl _))
    ⟨by simp, fun j oj _ hl => (by rw [getD_replicate_false] at hl; cases hl), fun t ht h2 => getD_in (by simpa using h2) (getD_replicate_false _ _)⟩
    (d.start h0.rep) (h0.trans h1)
  simp only [drawOk, Bool.and_eq_true] at hok
  obtain ⟨⟨⟨⟨k1, k2⟩, k3⟩, k4⟩, k5⟩ := hok
  have htail : n = ops.size ∨ (n < ops.size ∧ Region.sinkB .any ops n = true ∧ Region.chainB .any ops n = true) := by
   simp only [Bool.or_eq_true, beq_iff_eq, Bool.and_eq_true, decide_eq_true_eq] at k4
   rcases k4 with h | ⟨⟨h, h'⟩, h''⟩
   ·exact .inl h
   ·exact .inr ⟨h, h', h''⟩
  have hn' : n ≤ ops.size := by rcases htail with h | h <;> omega
  obtain ⟨S, d⟩ := zed (call := call) (s0 := s) htr hlen k1 k2 k3 hn' h
  refine wpIn_region_any hmix ?_
  have h0 := zea hs
  have h1 := zqg h0.rep ((S n).mem.length - s.mem.length)
  have := d.any (ro := ro) htail k5 hcall (Q := Q) (k := s.k) (C := C) (m := s.mem) (a0 := a) hN hQ n (Array.replicate ops.size false) a _ _ (zpz n ops.size hn')
   ⟨by simp, fun j oj _ hl => (by rw [getD_replicate_false] at hl; cases hl), fun t ht h2 => getD_in (by simpa using h2) (getD_replicate_false _ _)⟩
   (d.start h0.rep) (h0.trans h1)
  rw [show n + (ops.size - n) = ops.size by omega] at this
  exact this
end
end Go.EX


namespace Go.EX
section
variable {num : Names} {P : Program}
theorem zvk {F : Fence} {n : Nat} {c : Code} {Q : Exit → Act → World → Prop} {a : Act} {w : World} (h : c.wpIn F n P (Exit.noGoto Q) a w) : (Code.scope c).wpIn F n P Q a w := by
 intro b k cs hro hb hr
 obtain ⟨e, a₁, w₁, hq, harr⟩ := h b (.inScope c :: k) cs hro hb hr
 have h0 : (lone (b.atR a (.code (.scope c) :: k)) cs w).fenced P F := fenced_calm hb hr rfl
 have s0 : step P (lone (b.atR a (.code (.scope c) :: k)) cs w) = .next (lone (b.atR a (.code c :: .inScope c :: k)) cs w) := step_lone_go (by simp [stepG, stepG.exec, Frame.atR])
 have s1 : ∀ a w, step P (lone (b.atR a (.inScope c :: k)) cs w) = .next (lone (b.atR a k) cs w) := fun a w => step_lone_go (by simp [stepG, stepG.exec, Frame.atR])
 cases e with
 | normal => exact ⟨.normal, a₁, w₁, hq, .head h0 s0 (StepsIn.trans harr (.one (fenced_calm hb hr rfl) (s1 _ _)))⟩
 | goto l => exact hq.elim
 | exit id => exact ⟨_, a₁, w₁, hq, .of_steps (.one h0 s0) ⟨fun k' hk => harr.1 k' (by simp [exitTo, hk]), fun hr hk => by
   obtain ⟨k₁, h1, h2⟩ := harr.2 hr (by simp [exitTo, hk])
   exact ⟨k₁, h1, h2⟩⟩⟩
 | ret => exact ⟨_, a₁, w₁, hq, .of_steps (.one h0 s0) harr⟩
 | panic ch => exact ⟨_, a₁, w₁, hq, .of_steps (.one h0 s0) harr⟩
 | outgrown => exact ⟨_, a₁, w₁, hq, .of_steps (.one h0 s0) harr⟩
theorem zn8 {C : Cx} {b : Nat} {o : Obj} (hI : ¬ C.I b) (hb : ∀ arr e fz, C.w.heap[b]? ≠ some (.cells arr e fz)) : Tr some C { C with w := C.w.putObj b o } := by
 refine ⟨fun _ h => h, fun c hc => ?_, fun i j hi hj => ?_⟩
 ·exact World.putObj_heap_other (fun h => hI (by rw [← h]; exact hc))
 ·cases hj
  refine ⟨hi, rfl, fun n e h => h.same ?_⟩
  refine World.putObj_heap_other fun heq => ?_
  obtain ⟨arr, fz, h1, _⟩ := h
  rw [heq] at h1
  exact hb _ _ _ h1
theorem zn7 {C D : Cx} {m m' : Mem} {k : Nat} (hst : Step num k C m D m') {b : Nat} {o : Obj} (hlo : C.w.heap.size ≤ b) (hI : ¬ D.I b) (hb : ∀ arr e fz, D.w.heap[b]? ≠ some (.cells arr e fz)) (hown : ¬ Own D m' b) :
  Step num k C m { D with w := D.w.putObj b o } m' := by
 have ht := zn8 (o := o) hI hb
 refine ⟨⟨hst.rep.len, fun i p hp => ?_, hst.rep.inj, hst.rep.imm, fun c hc => by simp; exact hst.rep.bd c hc, num.up hst.rep.glo ht.imm ht.keep⟩, hst.os, hst.tape, hst.out, by simp; exact hst.size, fun c hc hno => ?_, fun c n e h => ?_, hst.imm, hst.imm', hst.own, hst.same, hst.len⟩
 ·by_cases hl : p.live = true
  ·exact zmw ht rfl (fun x hx => by rw [← hx]; exact World.putObj_heap_other fun he => hown ⟨i, p, hp, hl, he⟩) (hst.rep.obj i p hp)
  ·cases p with
   | dead => trivial
   | _ => exact absurd rfl hl
 ·rw [← hst.keep c hc hno]
  exact World.putObj_heap_other (by omega)
 ·have h1 := hst.sz c n e h
  refine h1.same (World.putObj_heap_other fun heq => ?_)
  obtain ⟨arr, fz, h2, _⟩ := h1
  rw [heq] at h2
  exact hb _ _ _ h2
end
end Go.EX


namespace Go.EX
section
variable {num : Names} {P : Program}
variable {call : Calls'} {N : Nat} {ops : Array Oper} {xs : List XO} {n : Nat} {s0 sF : St} {S : Nat → St} {sp : Nat → Bool}
theorem Drawn.anyJ {ro : Option Nat} (d : Drawn call P num N ops xs n s0 sF S sp) (hspt : ∀ i, n ≤ i → sp i = false) (htail : n = ops.size ∨ (n < ops.size ∧ Region.sinkB .any ops n = true ∧ Region.chainB .any ops n = true)) (hseq : Region.seqB .any ops (ops.size - n) n (headArr ops.size n) = true) (hcall : CallOK num P call) {Q : Exit → Act → World → Prop} {k : Nat} {C : Cx} {m : Mem} {a0 : Act} (hN : N ≤ a0.tmps.size) (hQ : ∀ D a', Later num k C m a0 D sF a' → Q .normal a' D.w)
  (J : Array Bool → Cx → St → Act → Prop)
  (hJ : ∀ listed D t a i x E t1 a' F t2, i < n → sp i = false → listed.getD i true = false → xs[i]? = some x → J listed D t a → Later num t.k D t.mem a E t1 a' → (∃ v, a' = a.put x.dst v) → Later num t1.k E t1.mem a' F t2 a' → J (listed.setIfInBounds i true) F t2 a')
  (hS : ∀ listed D t a i o, i < n → sp i = true → HeadInv .any ops n listed → i ∈ Region.ready .any ops listed → ops[i]? = some o → Part xs n S listed t → Later num k C m a0 D t a → J listed D t a → ∀ K : Act → World → Prop,
   (∀ F t2 a', Later num k C m a0 F t2 a' → Part xs n S (listed.setIfInBounds i true) t2 → J (listed.setIfInBounds i true) F t2 a' → K a' F.w) →
   if Region.wanted o (yielded ops a.tmps) then o.wpIn (fz ro) 0 P a D.w K Q else (∀ f, o.about P D.w a.eval = some f → (fz ro).fn f) ∧ K (a.put o.dst undef) D.w) :
  ∀ (c : Nat) (listed : Array Bool) (a : Act) (D : Cx) (t : St), left n listed = c → HeadInv .any ops n listed → Part xs n S listed t → Later num k C m a0 D t a → J listed D t a → wpAnyIn (fz ro) 0 P .any ops Q (c + (ops.size - n)) listed a D.w := by
 intro c
 induction c with
 | zero =>
  intro listed a D t hl inv p hlat _
  rw [Nat.zero_add]
  have hall : ∀ i, i < n → listed.getD i true = true := by
   intro i hi
   cases h : listed.getD i true with
   | true => rfl
   | false =>
    have := List.countP_eq_zero.1 hl i (List.mem_range.2 hi)
    simp [h] at this
  have hhead := zg9 inv.size d.hn hall inv.tail
  have hdl : (ops.toList.drop n).length = ops.size - n := by simp
  obtain ⟨h1, h2, h3⟩ := d.all p hall
  have hSn : Later num k C m a0 D (S n) a :=
   ⟨⟨by rw [← h1]; exact hlat.rep.mem, fun u => by rw [← h2]; exact hlat.rep.env u, by rw [← h1, ← h3]; exact hlat.rep.k⟩, by rw [← h1]; exact hlat.step, by rw [← h3]; exact hlat.k, hlat.size, hlat.marks⟩
  have htr : trOps P num N ops (ops.toList.drop n) = (xs.drop n).map XO.wipe := by
   refine ztv _ _ (by simp [d.len]) fun i o hi => ?_
   rw [List.getElem?_drop] at hi
   obtain ⟨x, hx, h⟩ := d.tr (n + i) o (hspt _ (by omega)) (by simpa using hi)
   exact ⟨x, by rw [List.getElem?_drop]; exact hx, h⟩
  have hw := zjj (ro := ro) hcall (Q := Q) (ops.toList.drop n) (xs.drop n) htr hSn.rep (by rw [hSn.size]; exact hN) d.rest fun E a'' hl' => hQ E a'' (hSn.trans (by rw [hSn.k] at hl'; exact hl'))
  have := zvi (md := .any) (Q' := Q) (ops.toList.drop n) n listed a D.w (fun j => by simp [List.getElem?_drop]) (by rw [hdl, hhead]; exact hseq) hw
  rwa [hdl] at this
 | succ c ih =>
  intro listed a D t hl inv p hlat hj
  rw [show c + 1 + (ops.size - n) = (c + (ops.size - n)) + 1 by omega]
  refine ⟨fun h => absurd h (d.ready_some inv.size (by omega)), fun i hi => ?_⟩
  obtain ⟨hun, oi, hoi, _⟩ := mem_ready.1 hi
  have hisz : i < ops.size := (Array.getElem?_eq_some_iff.1 hoi).1
  have hin : i < n := by
   rcases htail with h | ⟨h1, h2, h3⟩
   ·omega
   ·rcases Nat.lt_or_ge i n with h | h
    ·exact h
    ·obtain ⟨j, hj, h4⟩ := List.countP_pos_iff.1 (show 0 < left n listed by omega)
     exact absurd hi (tail_waits h2 h3 h1 inv _ j rfl (List.mem_range.1 hj) (by simpa using h4) i h)
  have hleft := zi7 hin hun
  unfold wpOpIn
  simp only [hoi]
  cases hsp : sp i with
  | false =>
   obtain ⟨x, hx, htr⟩ := d.tr i oi hsp hoi
   obtain ⟨t1, h1, hnext⟩ := d.part_step hcall p hin hi hx (fun fn l hop => by rw [(zts htr).1]; simp only [XO.wipe, hop, XOp.wipe]) hlat.rep
   refine one_wp hcall htr hlat.rep (by rw [hlat.size]; exact hN) h1 fun E a' hl' hput => ?_
   obtain ⟨t2, F, hw, hl2, p2⟩ := hnext E a' hl'.rep
   rw [← hw]
   have hdst : x.dst = oi.dst := (zts htr).2.2.1
   refine ih _ a' F t2 (by omega) (inv.set hi hin) p2 ?_ (hJ listed D t a i x E t1 a' F t2 hin hsp hun hx hj hl' (by rw [hdst]; exact hput) hl2)
   rw [hlat.k] at hl'
   rw [hl'.k] at hl2
   exact (hlat.trans hl').trans hl2
  | true =>
   exact hS listed D t a i oi hin hsp inv hi hoi p hlat hj _ fun F t2 a' hl' p2 hj' => ih _ a' F t2 (by omega) (inv.set hi hin) p2 hl' hj'
def mapObj (es : List (Value × Value)) : AObj := .map (es.map fun p => (.imm (.val p.1), .imm (.val p.2)))
structure Box (C0 : Cx) (m0 : Mem) (D : Cx) (m : Mem) (b : Nat) (es : List (Value × Value)) : Prop where
 own0 : C0.w.heap.size ≤ b ∨ Own C0 m0 b
 lt : b < D.w.heap.size
 row : ∃ (es' : Array MapEntry) (clk : Nat), D.w.heap[b]? = some (.map es' clk) ∧ es'.size = es.length ∧ ∀ (j : Nat) p x, es[j]? = some p → es'[j]? = some x → x.key = p.1 ∧ x.val = p.2
 imm : ¬ D.I b
 no : ¬ Own D m b
 one : ∀ p ∈ es, p.1.oneCell' = true ∧ p.2.oneCell' = true
theorem Box.keep {C0 D E : Cx} {m0 m m' : Mem} {b k : Nat} {es : List (Value × Value)} (B : Box C0 m0 D m b es) (h : Step num k D m E m') : Box C0 m0 E m' b es := by
 refine ⟨B.own0, Nat.lt_of_lt_of_le B.lt h.size, ?_, fun hI => ?_, fun ho => ?_, B.one⟩
 ·obtain ⟨es', clk, h1, h2⟩ := B.row
  exact ⟨es', clk, by rw [h.keep b B.lt B.no]; exact h1, h2⟩
 ·rcases h.imm' b hI with h1 | h1 | h1
  ·exact B.imm h1
  ·have := B.lt; omega
  ·exact B.no h1
 ·rcases h.own b ho with h1 | h1
  ·have := B.lt; omega
  ·exact B.no h1
def ov (t : St) (q : Nat) (es : List (Value × Value)) : St := { k := t.k, env := (q, .omap t.mem.length) :: t.env, mem := t.mem ++ [mapObj es] }
theorem over {C0 D : Cx} {m0 : Mem} {k : Nat} {a0 a : Act} {t : St} {b q : Nat} {es : List (Value × Value)} (h : Later num k C0 m0 a0 D t a) (B : Box C0 m0 D t.mem b es) (hq : a.tmps.getD q undef = .map (some b)) :
  ∃ E, E.w = D.w ∧ Later num k C0 m0 a0 E (ov t q es) a := by
 have hm := h.rep.mem
 have hlen := hm.len
 let E : Cx := { σ := fun i => if i = D.n then b else D.σ i, I := D.I, n := D.n + 1, w := D.w }
 have hσ : ∀ i, i < t.mem.length → E.σ i = D.σ i := fun i hi => by show (if i = D.n then b else D.σ i) = _; rw [if_neg (by omega)]
 have hσn : E.σ D.n = b := by show (if D.n = D.n then b else _) = _; rw [if_pos rfl]
 have ht : Tr some D E := ⟨fun _ h => h, fun _ _ => rfl, fun i j hi hj => by cases hj; exact ⟨by show _ < D.n + 1; omega, hσ i (by omega), fun _ _ h => h⟩⟩
 have split : ∀ (i : Nat) p, (t.mem ++ [mapObj es])[i]? = some p → (i < t.mem.length ∧ t.mem[i]? = some p) ∨ (i = D.n ∧ p = mapObj es) := by
  intro i p hp
  rcases Nat.lt_or_ge i t.mem.length with h | h
  ·rw [List.getElem?_append_left h] at hp; exact .inl ⟨h, hp⟩
  ·rw [List.getElem?_append_right h] at hp
   have h0 : i - t.mem.length = 0 := by
    rcases Nat.eq_zero_or_pos (i - t.mem.length) with h0 | h0
    ·exact h0
    ·rw [List.getElem?_eq_none (by simp; omega)] at hp; cases hp
   rw [h0] at hp
   exact .inr ⟨by omega, by simpa using hp.symm⟩
 have hown : ∀ c, Own E (t.mem ++ [mapObj es]) c → c = b ∨ Own D t.mem c := by
  rintro c ⟨i, p, hp, hl, hc⟩
  rcases split i p hp with ⟨hi, hp'⟩ | ⟨rfl, rfl⟩
  ·rw [hσ i hi] at hc; exact .inr ⟨i, p, hp', hl, hc⟩
  ·rw [hσn] at hc; exact .inl hc.symm
 have hrep : MRep num E (t.mem ++ [mapObj es]) := by
  refine ⟨by show _ = D.n + 1; simp [hlen], fun i p hp => ?_, fun i j p p2 hp hp2 hl1 hl2 he => ?_, fun c hc hI => ?_, hm.bd, hm.glo⟩
  ·rcases split i p hp with ⟨hi, hp'⟩ | ⟨rfl, rfl⟩
   ·exact zmw ht (hσ i hi) (fun _ h => h) (hm.obj i p hp')
   ·obtain ⟨es', clk, h1, h2, h3⟩ := B.row
    refine ⟨es', clk, by rw [hσn]; exact h1, by simpa using h2, fun j p x hp hx => ?_⟩
    rw [List.getElem?_map, Option.map_eq_some_iff] at hp
    obtain ⟨pp, hpp, rfl⟩ := hp
    obtain ⟨h4, h5⟩ := h3 j pp x hpp hx
    obtain ⟨h6, h7⟩ := B.one pp (List.mem_of_getElem? hpp)
    exact ⟨by rw [h4]; exact .imm _ _ (.val _ h6), by rw [h5]; exact .imm _ _ (.val _ h7)⟩
  ·rcases split i p hp with ⟨hi, hp'⟩ | ⟨rfl, rfl⟩ <;> rcases split j p2 hp2 with ⟨hj, hp2'⟩ | ⟨rfl, rfl⟩
   ·rw [hσ i hi, hσ j hj] at he; exact hm.inj i j p p2 hp' hp2' hl1 hl2 he
   ·rw [hσ i hi, hσn] at he; exact absurd ⟨i, p, hp', hl1, he⟩ B.no
   ·rw [hσ j hj, hσn] at he; exact absurd ⟨j, p2, hp2', hl2, he.symm⟩ B.no
   ·exact .inl rfl
  ·rcases hown c hc with rfl | h'
   ·exact B.imm hI
   ·exact hm.imm c h' hI
 refine ⟨E, rfl, ⟨hrep, fun u => ?_, by show t.k ≤ (t.mem ++ [mapObj es]).length; have := h.rep.k; simp; omega⟩, ⟨hrep, h.step.os, h.step.tape, h.step.out, h.step.size, h.step.keep, h.step.sz, h.step.imm, h.step.imm', fun c hc => ?_, fun i hi p hp hmv => ?_, ?_⟩, h.k, h.size, h.marks⟩
 ·show ARep num E (Env.get ((q, .omap t.mem.length) :: t.env) u) _
  simp only [Env.get]
  split
  ·rename_i hu
   subst hu
   rw [hq, ← hσn, ← hlen]
   exact .omap _ (by show _ < D.n + 1; omega)
  ·exact (h.rep.env u).mono ht
 ·rcases hown c hc with rfl | h'
  ·exact B.own0
  ·exact h.step.own c h'
 ·have hk := h.rep.k
  rw [h.k] at hk
  rcases split i p hp with ⟨hi', hp'⟩ | ⟨rfl, rfl⟩
  ·obtain ⟨o, h1, h2, h3⟩ := h.step.same i hi p hp' hmv
   exact ⟨o, h1, h2, by rw [hσ i hi']; exact h3⟩
  ·omega
 ·show k ≤ (t.mem ++ [mapObj es]).length
  have := h.step.len
  simp; omega
theorem znt {n id : Nat} (h : id < n) : place (List.range n) id = some id := zns _ _ _ List.nodup_range (by simp [h])
theorem under {C0 E : Cx} {m0 : Mem} {k : Nat} {a0 a' : Act} {t t1 u : St} {es : List (Value × Value)} (h : Later num k C0 m0 a0 E u a') (hum : u.mem = t.mem ++ [mapObj es]) (hk : u.k = t.k) (htk : t.k ≤ t.mem.length) (h1 : t1.mem = t.mem) (h1k : t1.k = t.k)
  (henv : ∀ w, t1.env.get w = u.env.get w ∨ t1.env.get w = .junk) (hrefs : ∀ w, ∀ id ∈ (t1.env.get w).refs, id < t.mem.length) (hobj : ∀ (i : Nat) o, t.mem[i]? = some o → ∀ j ∈ o.refs, j < t.mem.length) (hone : ∀ p ∈ es, p.1.oneCell' = true ∧ p.2.oneCell' = true) :
  ∃ F, F.w = E.w ∧ Later num k C0 m0 a0 F t1 a' ∧ Box C0 m0 F t1.mem (E.σ t.mem.length) es := by
 have hm := h.rep.mem
 have hl : (List.range t.mem.length).length = t.mem.length := List.length_range
 have hmn : (u.mem)[t.mem.length]? = some (mapObj es) := by rw [hum, List.getElem?_append_right (Nat.le_refl _)]; simp
 have hpick : u.mem.pickAll (List.range t.mem.length) = t.mem := by
  refine List.ext_getElem? fun i => ?_
  rw [Mem.pickAll, List.getElem?_map]
  rcases Nat.lt_or_ge i t.mem.length with hi | hi
  ·rw [List.getElem?_range hi]
   simp only [Option.map_some]
   have hq : u.mem[i]? = some t.mem[i] := by rw [hum, List.getElem?_append_left hi]; exact List.getElem?_eq_getElem hi
   rw [hq, List.getElem?_eq_getElem hi]
   simp only [Option.getD_some, Option.some.injEq]
   exact zmc fun j hj => znt (hobj i _ (List.getElem?_eq_getElem hi) j hj)
  ·rw [List.getElem?_eq_none (by simpa using hi), List.getElem?_eq_none hi]; rfl
 have hpl := zni h.rep (l := List.range t.mem.length) List.nodup_range (fun i hi => by rw [List.getElem?_range (by omega)]) (by rw [hl]; omega)
 rw [hpick] at hpl
 have hst := hpl.step
 have hF : Later num k C0 m0 a0 (E.pick (List.range t.mem.length)) t1 a' := by
  have h2 := h.trans (by rw [h.k] at hpl; exact hpl)
  refine ⟨⟨by rw [h1]; exact h2.rep.mem, fun w => ?_, by rw [h1, h1k]; exact htk⟩, by rw [h1]; exact h2.step, by rw [h1k, ← hk]; exact h.k, h2.size, h2.marks⟩
  rcases henv w with hw | hw
  ·have h3 := (h.rep.env w).tr (znn (C := E) (List.range t.mem.length))
   rw [← hw, ren_id fun id hid => znt (hrefs w id hid)] at h3
   exact h3
  ·rw [hw]; exact .junk _
 obtain ⟨es', clk, h3, h4, h5⟩ := hm.obj _ _ hmn
 have hlive : (mapObj es).live = true := rfl
 have hownb : Own E u.mem (E.σ t.mem.length) := ⟨_, _, hmn, hlive, rfl⟩
 refine ⟨E.pick (List.range t.mem.length), rfl, hF, h.step.own _ hownb, (Array.getElem?_eq_some_iff.1 h3).1, ⟨es', clk, h3, by simpa using h4, fun j p x hp hx => ?_⟩, fun hI => hm.imm _ hownb hI, fun ho => ?_, hone⟩
 ·obtain ⟨h6, h7⟩ := h5 j (.imm (.val p.1), .imm (.val p.2)) x (by rw [List.getElem?_map, hp]; rfl) hx
  exact ⟨zpy h6, zpy h7⟩
 ·rw [h1] at ho
  have ho2 : Own (E.pick (List.range t.mem.length)) (u.mem.pickAll (List.range t.mem.length)) (E.σ t.mem.length) := by rw [hpick]; exact ho
  obtain ⟨id, o, hid, ho', hlv, hb⟩ := znj ho2
  have hid' := List.mem_range.1 hid
  rcases hm.inj id t.mem.length o _ ho' hmn hlv hlive hb with h6 | h6
  ·omega
  ·cases o <;> cases h6
end
end Go.EX

