/-
  EX: operations that only make things.
-/
import Derived.Test.YtbomedbbgfcncaaQuiet
set_option linter.unusedVariables false
set_option linter.unusedSimpArgs false
namespace Go.EX

mutual
theorem ren_congr {f g : Nat → Option Nat} : ∀ (x : AV), (∀ id ∈ x.refs, f id = g id) → x.ren f = x.ren g
  | .imm _, _ => rfl
  | .osl id .., h => by simp only [AV.ren, h id (by simp [AV.refs])]
  | .optr id _, h => by simp only [AV.ren, h id (by simp [AV.refs])]
  | .omap id, h => by simp only [AV.ren, h id (by simp [AV.refs])]
  | .clo fn caps, h => by simp only [AV.ren, renL_congr caps h]
  | .agg cells, h => by simp only [AV.ren, renL_congr cells h]
  | .tup vs, h => by simp only [AV.ren, renL_congr vs h]
  | .junk, _ => rfl
theorem renL_congr {f g : Nat → Option Nat} : ∀ (l : List AV), (∀ id ∈ AV.refs.refsL l, f id = g id) → AV.ren.renL f l = AV.ren.renL g l
  | [], _ => rfl
  | x :: r, h => by
    simp only [AV.ren.renL]
    rw [ren_congr x fun id hid => h id (by simp only [AV.refs.refsL, List.mem_append]; exact .inl hid), renL_congr r fun id hid => h id (by simp only [AV.refs.refsL, List.mem_append]; exact .inr hid)]
end

theorem ren_id {f : Nat → Option Nat} {x : AV} (h : ∀ id ∈ x.refs, f id = some id) : x.ren f = x := by
  rw [ren_congr x (g := some) h, ren_some]

mutual
theorem ren_ren {f g : Nat → Option Nat} : ∀ (x : AV), (x.ren g).ren f = x.ren fun i => (g i).bind f
  | .imm _ => rfl
  | .osl id .. => by simp only [AV.ren]; cases g id <;> rfl
  | .optr id _ => by simp only [AV.ren]; cases g id <;> rfl
  | .omap id => by simp only [AV.ren]; cases g id <;> rfl
  | .clo fn caps => by simp only [AV.ren, renL_renL caps]
  | .agg cells => by simp only [AV.ren, renL_renL cells]
  | .tup vs => by simp only [AV.ren, renL_renL vs]
  | .junk => rfl
theorem renL_renL {f g : Nat → Option Nat} : ∀ (l : List AV), AV.ren.renL f (AV.ren.renL g l) = AV.ren.renL (fun i => (g i).bind f) l
  | [] => rfl
  | x :: r => by simp only [AV.ren.renL, ren_ren x, renL_renL r]
end

mutual
theorem ren_refs {f : Nat → Option Nat} : ∀ (x : AV) (id : Nat), id ∈ (x.ren f).refs → ∃ i ∈ x.refs, f i = some id
  | .imm _, id, h => by simp [AV.ren, AV.refs] at h
  | .osl i .., id, h => by
    simp only [AV.ren] at h
    cases hf : f i with
    | none => simp [hf, AV.refs] at h
    | some j => simp [hf, AV.refs] at h; exact ⟨i, by simp [AV.refs], by rw [hf, h]⟩
  | .optr i _, id, h => by
    simp only [AV.ren] at h
    cases hf : f i with
    | none => simp [hf, AV.refs] at h
    | some j => simp [hf, AV.refs] at h; exact ⟨i, by simp [AV.refs], by rw [hf, h]⟩
  | .omap i, id, h => by
    simp only [AV.ren] at h
    cases hf : f i with
    | none => simp [hf, AV.refs] at h
    | some j => simp [hf, AV.refs] at h; exact ⟨i, by simp [AV.refs], by rw [hf, h]⟩
  | .clo fn caps, id, h => by simp only [AV.ren, AV.refs] at h ⊢; exact renL_refs caps id h
  | .agg cells, id, h => by simp only [AV.ren, AV.refs] at h ⊢; exact renL_refs cells id h
  | .tup vs, id, h => by simp only [AV.ren, AV.refs] at h ⊢; exact renL_refs vs id h
  | .junk, id, h => by simp [AV.ren, AV.refs] at h
theorem renL_refs {f : Nat → Option Nat} : ∀ (l : List AV) (id : Nat), id ∈ AV.refs.refsL (AV.ren.renL f l) → ∃ i ∈ AV.refs.refsL l, f i = some id
  | [], id, h => by simp [AV.ren.renL, AV.refs.refsL] at h
  | x :: r, id, h => by
    simp only [AV.ren.renL, AV.refs.refsL, List.mem_append] at h ⊢
    rcases h with h | h
    · obtain ⟨i, hi, e⟩ := ren_refs x id h; exact ⟨i, .inl hi, e⟩
    · obtain ⟨i, hi, e⟩ := renL_refs r id h; exact ⟨i, .inr hi, e⟩
end

theorem renL_map (f : Nat → Option Nat) (l : List AV) : AV.ren.renL f l = l.map (AV.ren f) := renL_eq f l

theorem obj_ren_congr {f g : Nat → Option Nat} (o : AObj) (h : ∀ id ∈ o.refs, f id = g id) : o.ren f = o.ren g := by
  cases o with
  | flat => rfl
  | rich cs => simp only [AObj.ren]; rw [renL_congr cs h]
  | map es =>
    simp only [AObj.ren, AObj.map.injEq]
    refine List.map_congr_left fun p hp => ?_
    rw [ren_congr p.1 fun id hid => h id (by simp only [AObj.refs, List.mem_append]; exact .inl (refsL_mem.2 ⟨p.1, List.mem_map.2 ⟨p, hp, rfl⟩, hid⟩)), ren_congr p.2 fun id hid => h id (by simp only [AObj.refs, List.mem_append]; exact .inr (refsL_mem.2 ⟨p.2, List.mem_map.2 ⟨p, hp, rfl⟩, hid⟩))]
  | dead => rfl

theorem obj_ren_id {f : Nat → Option Nat} {o : AObj} (h : ∀ id ∈ o.refs, f id = some id) : o.ren f = o := by
  rw [obj_ren_congr o (g := some) h, obj_ren_some]

theorem obj_ren_ren {f g : Nat → Option Nat} (o : AObj) : (o.ren g).ren f = o.ren fun i => (g i).bind f := by
  cases o with
  | flat => rfl
  | rich cs => simp only [AObj.ren, renL_renL]
  | map es => simp only [AObj.ren, List.map_map, AObj.map.injEq]; exact List.map_congr_left fun p _ => by simp only [Function.comp, ren_ren]
  | dead => rfl

theorem obj_ren_refs {f : Nat → Option Nat} (o : AObj) (id : Nat) (h : id ∈ (o.ren f).refs) : ∃ i ∈ o.refs, f i = some id := by
  cases o with
  | flat => simp [AObj.ren, AObj.refs] at h
  | rich cs => simp only [AObj.ren, AObj.refs] at h ⊢; exact renL_refs cs id h
  | map es =>
    simp only [AObj.ren, AObj.refs, List.mem_append] at h ⊢
    rcases h with h | h
    · obtain ⟨x, hx, hid⟩ := refsL_mem.1 h
      simp only [List.map_map, List.mem_map, Function.comp] at hx
      obtain ⟨p, hp, rfl⟩ := hx
      obtain ⟨i, hi, e⟩ := ren_refs p.1 id hid
      exact ⟨i, .inl (refsL_mem.2 ⟨p.1, List.mem_map.2 ⟨p, hp, rfl⟩, hi⟩), e⟩
    · obtain ⟨x, hx, hid⟩ := refsL_mem.1 h
      simp only [List.map_map, List.mem_map, Function.comp] at hx
      obtain ⟨p, hp, rfl⟩ := hx
      obtain ⟨i, hi, e⟩ := ren_refs p.2 id hid
      exact ⟨i, .inr (refsL_mem.2 ⟨p.2, List.mem_map.2 ⟨p, hp, rfl⟩, hi⟩), e⟩
  | dead => simp [AObj.ren, AObj.refs] at h

/-- What is made, at any place at which it may be made. -/
structure Makes (K : Nat → Prop) (len : Nat) (val : Nat → AV) (new : Nat → List AObj) : Prop where
  size : ∀ p, (new p).length = len
  inV : ∀ p, In (fun id => K id ∨ (p ≤ id ∧ id < p + len)) (val p)
  inN : ∀ p o, o ∈ new p → ∀ id ∈ o.refs, K id ∨ (p ≤ id ∧ id < p + len)
  ren : ∀ p q f, (∀ j, j < len → f (p + j) = some (q + j)) → (∀ id, K id → f id = some id) → (val p).ren f = val q ∧ (new p).map (AObj.ren f) = new q

theorem makes_one {K : Nat → Prop} (o : AObj) (ho : ∀ id ∈ o.refs, K id) (val : Nat → AV) (hv : ∀ p, (val p).refs = [p]) (hr : ∀ p q f, f p = some q → (val p).ren f = val q) : Makes K 1 val fun _ => [o] := by
  refine ⟨fun _ => rfl, fun p id hid => ?_, fun p o' ho' id hid => ?_, fun p q f h1 h2 => ⟨hr p q f (by simpa using h1 0 (by omega)), ?_⟩⟩
  · rw [hv] at hid; simp at hid; exact .inr (by omega)
  · rw [List.mem_singleton.1 ho'] at hid; exact .inl (ho id hid)
  · simp only [List.map_cons, List.map_nil]
    rw [obj_ren_id fun id hid => h2 id (ho id hid)]

theorem in_mkObj {K : Nat → Prop} {cs : List AV} (h : InL K cs) : ∀ id ∈ (mkObj cs).refs, K id := by
  unfold mkObj
  split
  · intro id hid; simp [AObj.refs] at hid
  · intro id hid; simp only [AObj.refs] at hid; obtain ⟨x, hx, hid⟩ := refsL_mem.1 hid; exact h x hx id hid

theorem make_congr {call : Calls'} {K : Nat → Prop} {x : XOp} (hc : makeOp x = true) {s t : St} (hm : Agree K s.mem t.mem) (he : ∀ n ∈ x.needs, t.env.get n = s.env.get n) (hk : ∀ n ∈ x.needs, In K (s.env.get n))
    (hb : ∀ fn l as r mc, x = .call .own fn l → (l.map s.env.ev).mapM (frz s.mem) = some as → call fn as [] = some (r, mc) → (∀ id ∈ r.refs, id < mc.length) ∧ ∀ o ∈ mc, ∀ id ∈ o.refs, id < mc.length) {r : AV} {s' : St} (h : exOp call s x = some (r, s')) :
    ∃ (len : Nat) (val : Nat → AV) (new : Nat → List AObj), Makes K len val new ∧ r = val s.mem.length ∧ s' = { s with mem := s.mem ++ new s.mem.length } ∧ exOp call t x = some (val t.mem.length, { t with mem := t.mem ++ new t.mem.length }) := by
  have e1 : ∀ y, (∀ n ∈ srcTmp y, n ∈ x.needs) → t.env.ev y = s.env.ev y := fun y hy => ev_congr fun n hn => he n (hy n hn)
  have k1 : ∀ y, (∀ n ∈ srcTmp y, n ∈ x.needs) → In K (s.env.ev y) := fun y hy => in_ev fun n hn => hk n (hy n hn)
  cases x with
  | alloc zs =>
    cases h
    refine ⟨1, fun id => .optr id 0, fun _ => [.rich (imZ zs)], makes_one _ (fun id hid => ?_) _ (fun _ => rfl) (fun p q f hf => by simp [AV.ren, hf]), rfl, rfl, rfl⟩
    simp only [AObj.refs] at hid; obtain ⟨x, hx, hid⟩ := refsL_mem.1 hid; exact in_imZ zs x hx id hid
  | box n y =>
    have ky := k1 y (by simp [XOp.needs])
    simp only [exOp] at h ⊢
    rw [e1 y (by simp [XOp.needs])]
    cases hcs : (s.env.ev y).cells with
    | none => rw [hcs] at h; cases h
    | some cs =>
      rw [hcs] at h
      cases h
      refine ⟨1, fun id => .optr id 0, fun _ => [.rich cs], makes_one _ (fun id hid => ?_) _ (fun _ => rfl) (fun p q f hf => by simp [AV.ren, hf]), rfl, rfl, rfl⟩
      simp only [AObj.refs] at hid; obtain ⟨x, hx, hid⟩ := refsL_mem.1 hid; exact in_cells ky hcs x hx id hid
  | buildSlice sz zs len ps =>
    simp only [exOp] at h ⊢
    rw [evP_congr (s := s.env) (t := t.env) (by simpa [XOp.needs] using he)]
    cases hf : fillAll (imZ (copies len zs)) (ps.map fun (o, n, x) => (o, n, s.env.ev x)) with
    | none => rw [hf] at h; cases h
    | some cs =>
      rw [hf] at h
      cases h
      refine ⟨1, fun id => .osl id 0 sz len (some len), fun _ => [mkObj cs], makes_one _ (in_mkObj (in_fill _ _ _ (in_imZ _) (fun p hp => ?_) hf)) _ (fun _ => rfl) (fun p q f hf => by simp [AV.ren, hf]), rfl, rfl, rfl⟩
      obtain ⟨q, hq, rfl⟩ := List.mem_map.1 hp
      exact k1 q.2.2 fun n hn => by simp only [XOp.needs]; exact List.mem_flatMap.2 ⟨q, hq, hn⟩
  | makeSlice sz bytes zs l c =>
    simp only [exOp] at h ⊢
    rw [e1 l (by simp [XOp.needs]; intros; simp [*]), e1 c (by simp [XOp.needs]; intros; simp [*])]
    split at h
    · rename_i i j hi hj
      split at h
      · rename_i hbd
        cases h
        refine ⟨1, fun id => .osl id 0 sz i.toNat (some j.toNat), fun _ => [.flat (copies j.toNat (zs.map .val)) false], makes_one _ (fun id hid => by simp [AObj.refs] at hid) _ (fun _ => rfl) (fun p q f hf => by simp [AV.ren, hf]), rfl, rfl, ?_⟩
        simp only [hi, hj, hbd, and_self, if_true]
        rfl
      · cases h
    · cases h
  | makeMap hint =>
    have mk : Makes K 1 (fun id => .omap id) (fun _ => [.map []]) := makes_one _ (fun id hid => by simp [AObj.refs, AV.refs.refsL] at hid) _ (fun _ => rfl) (fun p q f hf => by simp [AV.ren, hf])
    simp only [exOp] at h ⊢
    cases hint with
    | none => cases h; exact ⟨1, _, _, mk, rfl, rfl, rfl⟩
    | some y =>
      simp only at h ⊢
      rw [e1 y (by simp [XOp.needs, srcTmpO])]
      split at h
      · rename_i i hi; cases h; exact ⟨1, _, _, mk, rfl, rfl, by rfl⟩
      · cases h
  | call mode fn l =>
    cases mode with
    | own =>
      simp only [exOp, exOwn] at h ⊢
      have hin : InL K (l.map s.env.ev) := fun x hx => by
        obtain ⟨q, hq, rfl⟩ := List.mem_map.1 hx
        exact k1 q fun n hn => by simp only [XOp.needs]; exact List.mem_flatMap.2 ⟨q, hq, hn⟩
      rw [evL_congr (s := s.env) (t := t.env) (by simpa [XOp.needs] using he), mapM_congr _ fun x hx => frz_agree hm x (hin x hx)]
      split at h
      · cases h
      · rename_i as has
        split at h
        · cases h
        · rename_i r0 mc hcall
          obtain ⟨hb1, hb2⟩ := hb fn l as r0 mc rfl has hcall
          split at h
          · rename_i hcond
            cases h
            refine ⟨mc.length, fun p => r0.ren fun i => some (p + i), fun p => mc.map (AObj.ren fun i => some (p + i)), ⟨fun p => by simp, fun p id hid => ?_, fun p o ho id hid => ?_, fun p q f h1 h2 => ⟨?_, ?_⟩⟩, rfl, rfl, by simp only [hcall, hcond, if_true]⟩
            · obtain ⟨i, hi, e⟩ := ren_refs r0 id hid
              cases e
              exact .inr ⟨by omega, by have := hb1 i hi; omega⟩
            · obtain ⟨o', ho', rfl⟩ := List.mem_map.1 ho
              obtain ⟨i, hi, e⟩ := obj_ren_refs o' id hid
              cases e
              exact .inr ⟨by omega, by have := hb2 o' ho' i hi; omega⟩
            · rw [ren_ren]
              exact ren_congr r0 fun id hid => by simpa using h1 id (hb1 id hid)
            · rw [List.map_map]
              refine List.map_congr_left fun o ho => ?_
              simp only [Function.comp, obj_ren_ren]
              exact obj_ren_congr o fun id hid => by simpa using h1 id (hb2 o ho id hid)
          · cases h
    | view => cases hc
    | share => cases hc
  | _ => cases hc

end Go.EX
