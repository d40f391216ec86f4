import Derived.Test.YtedddogbgdbpmaaDoorK6
import Derived.Test.YtedddogbgdbpmaaDoorK1
import Derived.RangeFuncLeaves
import Derived.Scope
import Derived.Below
import Derived.ChangeOld
import Derived.WideShapes
import Derived.OpenShut
import Derived.WalkKit
import Derived.ProofKit
import Derived.ShutString
import Derived.Carry
set_option linter.unusedVariables false
set_option linter.unusedSimpArgs false
namespace Go.EX
section
variable {num : Names} {P : Program}
def Fills (y n : Value) : Bool → Bool → List (Value × Value) → Prop
 | false, false, es => es = []
 | true, false, es => es = [(.bool true, y)]
 | false, true, es => es = [(.bool false, n)]
 | true, true, es => es = [(.bool true, y), (.bool false, n)] ∨ es = [(.bool false, n), (.bool true, y)]
theorem zfs {y n : Value} {b : Bool} {es : List (Value × Value)} (h : Fills y n false b es) (m : Mem) : findK m 1 (.imm (.val (.bool true))) (es.map fun p => (AV.imm (.val p.1), AV.imm (.val p.2))) 0 = some none := by
 cases b <;> (simp only [Fills] at h; subst h; rfl)
theorem zft {y n : Value} {b : Bool} {es : List (Value × Value)} (h : Fills y n b false es) (m : Mem) : findK m 1 (.imm (.val (.bool false))) (es.map fun p => (AV.imm (.val p.1), AV.imm (.val p.2))) 0 = some none := by
 cases b <;> (simp only [Fills] at h; subst h; rfl)
theorem zfw {y n : Value} {b : Bool} {es : List (Value × Value)} (h : Fills y n false b es) : Fills y n true b (es ++ [(.bool true, y)]) := by
 cases b <;> (simp only [Fills] at h ⊢; subst h; simp)
theorem zfx {y n : Value} {b : Bool} {es : List (Value × Value)} (h : Fills y n b false es) : Fills y n b true (es ++ [(.bool false, n)]) := by
 cases b <;> (simp only [Fills] at h ⊢; subst h; simp)
theorem zfu {y n : Value} {es : List (Value × Value)} (h : Fills y n true true es) (m : Mem) (t : Bool) : ∃ i, findK m 1 (.imm (.val (.bool t))) (es.map fun p => (AV.imm (.val p.1), AV.imm (.val p.2))) 0 = some (some i) ∧ ∃ p, (es.map fun p => (AV.imm (.val p.1), AV.imm (.val p.2)))[i]? = some p ∧ p.2 = .imm (.val (if t then y else n)) := by
 simp only [Fills] at h
 rcases h with rfl | rfl <;> cases t
 ·exact ⟨1, rfl, _, rfl, rfl⟩
 ·exact ⟨0, rfl, _, rfl, rfl⟩
 ·exact ⟨0, rfl, _, rfl, rfl⟩
 ·exact ⟨1, rfl, _, rfl, rfl⟩
theorem zfv {y n : Value} (hy : y.oneCell' = true) (hn : n.oneCell' = true) {a b : Bool} {es : List (Value × Value)} (h : Fills y n a b es) : ∀ p ∈ es, p.1.oneCell' = true ∧ p.2.oneCell' = true := by
 intro p hp
 cases a <;> cases b <;> simp only [Fills] at h
 ·subst h; cases hp
 ·subst h; rw [List.mem_singleton.1 hp]; exact ⟨rfl, hn⟩
 ·subst h; rw [List.mem_singleton.1 hp]; exact ⟨rfl, hy⟩
 ·rcases h with rfl | rfl <;> (simp at hp; rcases hp with rfl | rfl <;> first | exact ⟨rfl, hy⟩ | exact ⟨rfl, hn⟩)
variable {call : Calls'} {N : Nat} {ops : Array Oper} {zs : List XO} {n : Nat} {s0 sF : St} {S : Nat → St} {sp : Nat → Bool}
def LJ (l : LitAt) (C0 : Cx) (m0 : Mem) (listed : Array Bool) (D : Cx) (t : St) (a : Act) : Prop :=
 listed.getD l.im true = true → ∃ b es, Box C0 m0 D t.mem b es ∧ a.tmps.getD l.tA undef = .map (some b) ∧ (listed.getD l.iv true = true → a.tmps.getD l.tM undef = .map (some b)) ∧ Fills l.y l.n (listed.getD l.i1 true) (listed.getD l.i2 true) es
structure LitSpec (l : LitAt) (ops : Array Oper) (zs : List XO) (n : Nat) (z : List Value) (k : Src) (tL : Nat) : Prop where
 xA : zs[l.im]? = some ⟨some l.tA, .litA, none⟩
 x1 : zs[l.i1]? = some ⟨none, .litI 1 (.t l.tA) (.c (.bool true)) (.c l.y), none⟩
 x2 : zs[l.i2]? = some ⟨none, .litI 1 (.t l.tA) (.c (.bool false)) (.c l.n), none⟩
 xM : zs[l.iv]? = some ⟨some l.tM, .litM (.t l.tA), none⟩
 xL : zs[l.il]? = some ⟨some tL, .litL 1 z (.t l.tM) k l.y l.n, none⟩
 hy : l.y.oneCell' = true
 hn : l.n.oneCell' = true
 ltA : l.im < n
 lt1 : l.i1 < n
 lt2 : l.i2 < n
 ltM : l.iv < n
 ltL : l.il < n
 ne : l.im ≠ l.i1 ∧ l.im ≠ l.i2 ∧ l.im ≠ l.iv ∧ l.im ≠ l.il ∧ l.i1 ≠ l.i2 ∧ l.i1 ≠ l.iv ∧ l.i1 ≠ l.il ∧ l.i2 ≠ l.iv ∧ l.i2 ≠ l.il ∧ l.iv ≠ l.il ∧ l.tA ≠ l.tM
 w1 : Region.waitsFor .any ops l.i1 l.im = true
 w2 : Region.waitsFor .any ops l.i2 l.im = true
 wM : Region.waitsFor .any ops l.iv l.im = true
 wM1 : Region.waitsFor .any ops l.iv l.i1 = true
 wM2 : Region.waitsFor .any ops l.iv l.i2 = true
 wL : Region.waitsFor .any ops l.il l.iv = true
theorem zr2 {listed : Array Bool} {i j : Nat} (h : j ≠ i) : (listed.setIfInBounds i true).getD j true = listed.getD j true := getD_set_ne true (Ne.symm h)
theorem zr3 {listed : Array Bool} {i : Nat} : (listed.setIfInBounds i true).getD i true = true := by
 rw [Array.getD_eq_getD_getElem?, Array.getElem?_setIfInBounds]
 split <;> (try split) <;> simp_all
theorem zof (a : Act) (d : Option Tmp) (v w : Value) (u : Nat) (h : d ≠ some u) : (a.put d v).tmps.getD u w = a.tmps.getD u w := by
 cases d with
 | none => rfl
 | some d =>
  have : d ≠ u := fun e => h (by rw [e])
  simp only [Act.put, Array.getD_eq_getD_getElem?, Array.getElem?_setIfInBounds]
  rw [if_neg this]
theorem obj_lt {C : Cx} {s : St} {a : Act} (hs : SRep num C s a) : ∀ (i : Nat) o, s.mem[i]? = some o → ∀ j ∈ o.refs, j < s.mem.length := fun i o ho j hj => by
 have := zmv (hs.mem.obj i o ho) j hj
 have := hs.mem.len
 omega
theorem env_lt {C : Cx} {s : St} {a : Act} (hs : SRep num C s a) (w : Nat) : ∀ id ∈ (s.env.get w).refs, id < s.mem.length := fun id hid => by
 have := zaw (hs.env w) id hid
 have := hs.mem.len
 omega
theorem zjk {ro : Option Nat} (d : Drawn call P num N ops (zs.map XO.unlit) n s0 sF S sp) (hcall : CallOK num P call) {k : Nat} {C : Cx} {m : Mem} {a0 : Act} {l : LitAt}
  {listed : Array Bool} {t : St} {i : Nat} {o : Oper} {x : XO} (hi : i < n) (hr : i ∈ Region.ready .any ops listed) (p : Part (zs.map XO.unlit) n S listed t) {D : Cx} {a : Act} (hlat : Later num k C m a0 D t a) (hx : zs[i]? = some x) (hxc : ∀ fn as, x.op.unlit ≠ .call .own fn as)
  {K : Act → World → Prop} (hK : ∀ F t2 a', Later num k C m a0 F t2 a' → Part (zs.map XO.unlit) n S (listed.setIfInBounds i true) t2 → LJ l C m (listed.setIfInBounds i true) F t2 a' → K a' F.w) :
  ∃ t1, exOne call t x.unlit = some t1 ∧ ∀ F a', Later num k C m a0 F t1 a' → LJ l C m (listed.setIfInBounds i true) F t1 a' → K a' F.w := by
 have hx' : (zs.map XO.unlit)[i]? = some x.unlit := by rw [List.getElem?_map, hx]; rfl
 obtain ⟨t1, h1, hnext⟩ := d.part_step (o := o) hcall p hi hr hx' (fun fn as h => absurd h (hxc fn as)) hlat.rep
 refine ⟨t1, h1, fun F a' hl hj => ?_⟩
 obtain ⟨t2, G, hw, hl2, p2⟩ := hnext F a' hl.rep
 rw [← hw]
 refine hK G t2 a' (hl.trans (by rw [hl.k] at hl2; exact hl2)) p2 fun him => ?_
 obtain ⟨b, es, B, hA, hM, hf⟩ := hj him
 exact ⟨b, es, B.keep hl2.step, hA, hM, hf⟩
theorem lit_wp {ro : Option Nat} {l : LitAt} {z : List Value} {kS : Src} {tL : Nat} (L : LitSpec l ops zs n z kS tL) (d : Drawn call P num N ops (zs.map XO.unlit) n s0 sF S sp) (hsp : ∀ i, sp i = true → i = l.im ∨ i = l.i1 ∨ i = l.i2 ∨ i = l.iv ∨ i = l.il) (htr : ∀ (i : Nat) o, ops[i]? = some o → ∃ x, zs[i]? = some x ∧ trOper P num N ops o = some x.wipe) (hcall : CallOK num P call) {Q : Exit → Act → World → Prop} {k : Nat} {C : Cx} {m : Mem} {a0 : Act} (hN : N ≤ a0.tmps.size)
  (listed : Array Bool) (D : Cx) (t : St) (a : Act) (i : Nat) (o : Oper) (hi : i < n) (hspi : sp i = true) (inv : HeadInv .any ops n listed) (hr : i ∈ Region.ready .any ops listed) (ho : ops[i]? = some o) (p : Part (zs.map XO.unlit) n S listed t) (hlat : Later num k C m a0 D t a) (hj : LJ l C m listed D t a) (K : Act → World → Prop)
  (hK : ∀ F t2 a', Later num k C m a0 F t2 a' → Part (zs.map XO.unlit) n S (listed.setIfInBounds i true) t2 → LJ l C m (listed.setIfInBounds i true) F t2 a' → K a' F.w) :
  if Region.wanted o (yielded ops a.tmps) then o.wpIn (fz ro) 0 P a D.w K Q else (∀ f, o.about P D.w a.eval = some f → (fz ro).fn f) ∧ K (a.put o.dst undef) D.w := by
 have hun : listed.getD i true = false := (mem_ready.1 hr).1
 have hNa : N ≤ a.tmps.size := by rw [hlat.size]; exact hN
 have htk := hlat.rep.k
 have hol := obj_lt hlat.rep
 have hel := env_lt hlat.rep
 have up : ∀ j j', Region.waitsFor .any ops j j' = true → listed.getD j false = true → listed.getD j' false = true := by
  intro j j' hw hl
  obtain ⟨o', ho', e, he, hb, hon⟩ := Region.waitsFor_spec hw
  rw [← hon]
  exact inv.closed j o' ho' hl e he hb
 have junkA : listed.getD l.im true = true → t.env.get l.tA = .junk := by
  intro h
  have hx' : (zs.map XO.unlit)[l.im]? = some ⟨some l.tA, .junk, none⟩ := by rw [List.getElem?_map, L.xA]; rfl
  rw [(p.done l.im _ l.tA L.ltA hx' rfl h).1]
  have := d.step l.im _ L.ltA hx'
  simp only [exOne, exOp, Option.map_some, Option.some.injEq] at this
  rw [← this]
  simp [Env.get]
 have junkM : listed.getD l.iv true = true → t.env.get l.tM = .junk := by
  intro h
  have hx' : (zs.map XO.unlit)[l.iv]? = some ⟨some l.tM, .junk, none⟩ := by rw [List.getElem?_map, L.xM]; rfl
  rw [(p.done l.iv _ l.tM L.ltM hx' rfl h).1]
  have := d.step l.iv _ L.ltM hx'
  simp only [exOne, exOp, Option.map_some, Option.some.injEq] at this
  rw [← this]
  simp [Env.get]
 obtain ⟨x, hx, htro⟩ := htr i o ho
 obtain ⟨n1, n2, n3, n4, n5, n6, n7, n8, n9, n10, n11⟩ := L.ne
 rcases hsp i hspi with rfl | rfl | rfl | rfl | rfl
 ·
  rw [L.xA] at hx
  cases hx
  obtain ⟨t1, h1, hgo⟩ := zjk (ro := ro) (o := o) (l := l) d hcall hi hr p hlat L.xA (fun _ _ h => by cases h) hK
  have ht1 : t1 = { t with env := (l.tA, .junk) :: t.env } := by
   simp only [XO.unlit, XOp.unlit, exOne, exOp, Option.map_some, Option.some.injEq] at h1
   exact h1.symm
  subst ht1
  have hex : exOne call t ⟨some l.tA, .makeMap none, none⟩ = some { k := t.k, env := (l.tA, .omap t.mem.length) :: t.env, mem := t.mem ++ [mapObj []] } := rfl
  refine one_wp (x := ⟨some l.tA, .makeMap none, none⟩) hcall htro hlat.rep hNa hex fun E a' hl' hput => ?_
  have hu := hlat.trans (by rw [hlat.k] at hl'; exact hl')
  obtain ⟨F, hw, hF, hB⟩ := under (t := t) (t1 := { t with env := (l.tA, .junk) :: t.env }) (es := []) hu rfl hlat.k.symm htk rfl rfl (fun w => by
   by_cases hw : w = l.tA
   ·right; subst hw; simp [Env.get]
   ·left; simp [Env.get, hw]) (fun w id hid => by
   by_cases hw : w = l.tA
   ·subst hw; simp [Env.get, AV.refs] at hid
   ·simp only [Env.get, if_neg hw] at hid; exact hel w id hid) hol (fun p hp => by cases hp)
  rw [← hw]
  have hA : a'.tmps.getD l.tA undef = .map (some (E.σ t.mem.length)) := by
   have := hu.rep.env l.tA
   simp only [Env.get, if_true] at this
   generalize a'.tmps.getD l.tA undef = v at *
   cases this
   rfl
  have hnot : ∀ j, Region.waitsFor .any ops j l.im = true → listed.getD j true = false := fun j hwj => by
   cases hc : listed.getD j true with
   | false => rfl
   | true =>
    have hjs : j < listed.size := by
     obtain ⟨o', ho', _⟩ := Region.waitsFor_spec hwj
     rw [inv.size]; exact (Array.getElem?_eq_some_iff.1 ho').1
    have hcf : listed.getD j false = true := by simp [hjs] at hc ⊢; exact hc
    have := zgt (up j l.im hwj hcf)
    rw [hun] at this; cases this
  refine hgo F a' hF fun _ => ⟨_, [], hB, hA, fun hv => ?_, ?_⟩
  ·rw [zr2 (Ne.symm n3), hnot _ L.wM] at hv; cases hv
  ·rw [zr2 (Ne.symm n1), zr2 (Ne.symm n2), hnot _ L.w1, hnot _ L.w2]; rfl
 ·
  rw [L.x1] at hx
  cases hx
  obtain ⟨t1, h1, hgo⟩ := zjk (ro := ro) (o := o) (l := l) d hcall hi hr p hlat L.x1 (fun _ _ h => by cases h) hK
  have ht1 : t1 = t := by
   simp only [XO.unlit, XOp.unlit, exOne, exOp, Option.map_some, Option.some.injEq] at h1
   exact h1.symm
  subst ht1
  have him := zgt (zo9 hr L.w1)
  obtain ⟨b, es, B, hA, hM, hf⟩ := hj him
  rw [hun] at hf
  obtain ⟨Ev, hEw, hov⟩ := over (q := l.tA) hlat B hA
  have hex : exOne call (ov t1 l.tA es) ⟨none, .mapSet 1 (.t l.tA) (.c (.bool true)) (.c l.y), none⟩ = some { ov t1 l.tA es with mem := t1.mem ++ [mapObj (es ++ [(.bool true, l.y)])] } := by
   have hg : (ov t1 l.tA es).mem[t1.mem.length]? = some (mapObj es) := by simp [ov]
   have hfd := zfs hf (ov t1 l.tA es).mem
   have hset : (ov t1 l.tA es).mem.set t1.mem.length (mapObj (es ++ [(.bool true, l.y)])) = t1.mem ++ [mapObj (es ++ [(.bool true, l.y)])] := by simp [ov, List.set_append]
   have he : (ov t1 l.tA es).env.ev (.t l.tA) = .omap t1.mem.length := by simp [ov, Env.ev, Env.get]
   have hc1 : (ov t1 l.tA es).env.ev (.c (.bool true)) = .imm (.val (.bool true)) := rfl
   have hc2 : (ov t1 l.tA es).env.ev (.c l.y) = .imm (.val l.y) := rfl
   rw [mapObj] at hg
   rw [← hset]
   simp only [exOne, exOp, he, hc1, hc2, isKeyAV, if_true, hg, hfd, Option.map_some, mapObj, List.map_append, List.map_cons, List.map_nil]
  rw [← hEw]
  refine one_wp (x := ⟨none, .mapSet 1 (.t l.tA) (.c (.bool true)) (.c l.y), none⟩) hcall htro hov.rep hNa hex fun E a' hl' hput => ?_
  have hu := hov.trans (by rw [hov.k] at hl'; exact hl')
  have hf2 := zfw hf
  obtain ⟨F, hw, hF, hB⟩ := under (t := t1) (t1 := t1) (es := es ++ [(.bool true, l.y)]) hu rfl rfl htk rfl rfl (fun w => by
   by_cases hw : w = l.tA
   ·right; subst hw; exact junkA him
   ·left; simp [ov, Env.get, hw]) hel hol (zfv L.hy L.hn hf2)
  rw [← hw]
  have hA' : a'.tmps.getD l.tA undef = .map (some (E.σ t1.mem.length)) := by
   have := hu.rep.env l.tA
   simp only [ov, Env.get, if_true] at this
   generalize a'.tmps.getD l.tA undef = v at *
   cases this
   rfl
  obtain ⟨vv, hput⟩ := hput
  have hAA : a'.tmps.getD l.tA undef = a.tmps.getD l.tA undef := by rw [hput]; exact zof a _ _ _ _ (by rw [← (zts htro).2.2.1]; intro h; cases h)
  have hb : b = E.σ t1.mem.length := by rw [hAA, hA] at hA'; cases hA'; rfl
  refine hgo F a' hF fun _ => ⟨_, _, hB, hA', fun hv => ?_, ?_⟩
  ·rw [zr2 (Ne.symm n6)] at hv
   rw [hput, zof a _ _ _ _ (by rw [← (zts htro).2.2.1]; intro h; cases h), hM hv, hb]
  ·rw [zr3, zr2 (Ne.symm n5)]; exact hf2
 ·
  rw [L.x2] at hx
  cases hx
  obtain ⟨t1, h1, hgo⟩ := zjk (ro := ro) (o := o) (l := l) d hcall hi hr p hlat L.x2 (fun _ _ h => by cases h) hK
  have ht1 : t1 = t := by
   simp only [XO.unlit, XOp.unlit, exOne, exOp, Option.map_some, Option.some.injEq] at h1
   exact h1.symm
  subst ht1
  have him := zgt (zo9 hr L.w2)
  obtain ⟨b, es, B, hA, hM, hf⟩ := hj him
  rw [hun] at hf
  obtain ⟨Ev, hEw, hov⟩ := over (q := l.tA) hlat B hA
  have hex : exOne call (ov t1 l.tA es) ⟨none, .mapSet 1 (.t l.tA) (.c (.bool false)) (.c l.n), none⟩ = some { ov t1 l.tA es with mem := t1.mem ++ [mapObj (es ++ [(.bool false, l.n)])] } := by
   have hg : (ov t1 l.tA es).mem[t1.mem.length]? = some (mapObj es) := by simp [ov]
   have hfd := zft hf (ov t1 l.tA es).mem
   have hset : (ov t1 l.tA es).mem.set t1.mem.length (mapObj (es ++ [(.bool false, l.n)])) = t1.mem ++ [mapObj (es ++ [(.bool false, l.n)])] := by simp [ov, List.set_append]
   have he : (ov t1 l.tA es).env.ev (.t l.tA) = .omap t1.mem.length := by simp [ov, Env.ev, Env.get]
   have hc1 : (ov t1 l.tA es).env.ev (.c (.bool false)) = .imm (.val (.bool false)) := rfl
   have hc2 : (ov t1 l.tA es).env.ev (.c l.n) = .imm (.val l.n) := rfl
   rw [mapObj] at hg
   rw [← hset]
   simp only [exOne, exOp, he, hc1, hc2, isKeyAV, if_true, hg, hfd, Option.map_some, mapObj, List.map_append, List.map_cons, List.map_nil]
  rw [← hEw]
  refine one_wp (x := ⟨none, .mapSet 1 (.t l.tA) (.c (.bool false)) (.c l.n), none⟩) hcall htro hov.rep hNa hex fun E a' hl' hput => ?_
  have hu := hov.trans (by rw [hov.k] at hl'; exact hl')
  have hf2 := zfx hf
  obtain ⟨F, hw, hF, hB⟩ := under (t := t1) (t1 := t1) (es := es ++ [(.bool false, l.n)]) hu rfl rfl htk rfl rfl (fun w => by
   by_cases hw : w = l.tA
   ·right; subst hw; exact junkA him
   ·left; simp [ov, Env.get, hw]) hel hol (zfv L.hy L.hn hf2)
  rw [← hw]
  have hA' : a'.tmps.getD l.tA undef = .map (some (E.σ t1.mem.length)) := by
   have := hu.rep.env l.tA
   simp only [ov, Env.get, if_true] at this
   generalize a'.tmps.getD l.tA undef = v at *
   cases this
   rfl
  obtain ⟨vv, hput⟩ := hput
  have hAA : a'.tmps.getD l.tA undef = a.tmps.getD l.tA undef := by rw [hput]; exact zof a _ _ _ _ (by rw [← (zts htro).2.2.1]; intro h; cases h)
  have hb : b = E.σ t1.mem.length := by rw [hAA, hA] at hA'; cases hA'; rfl
  refine hgo F a' hF fun _ => ⟨_, _, hB, hA', fun hv => ?_, ?_⟩
  ·rw [zr2 (Ne.symm n8)] at hv
   rw [hput, zof a _ _ _ _ (by rw [← (zts htro).2.2.1]; intro h; cases h), hM hv, hb]
  ·rw [zr2 n5, zr3]; exact hf2
 ·
  rw [L.xM] at hx
  cases hx
  obtain ⟨t1, h1, hgo⟩ := zjk (ro := ro) (o := o) (l := l) d hcall hi hr p hlat L.xM (fun _ _ h => by cases h) hK
  have ht1 : t1 = { t with env := (l.tM, .junk) :: t.env } := by
   simp only [XO.unlit, XOp.unlit, exOne, exOp, Option.map_some, Option.some.injEq] at h1
   exact h1.symm
  subst ht1
  have him := zgt (zo9 hr L.wM)
  have hi1 := zgt (zo9 hr L.wM1)
  have hi2 := zgt (zo9 hr L.wM2)
  obtain ⟨b, es, B, hA, hM, hf⟩ := hj him
  obtain ⟨Ev, hEw, hov⟩ := over (q := l.tA) hlat B hA
  have hex : exOne call (ov t l.tA es) ⟨some l.tM, .mv (.t l.tA), none⟩ = some { ov t l.tA es with env := (l.tM, .omap t.mem.length) :: (ov t l.tA es).env } := by
   simp [exOne, exOp, ov, Env.ev, Env.get]
  rw [← hEw]
  refine one_wp (x := ⟨some l.tM, .mv (.t l.tA), none⟩) hcall htro hov.rep hNa hex fun E a' hl' hput => ?_
  have hu := hov.trans (by rw [hov.k] at hl'; exact hl')
  obtain ⟨F, hw, hF, hB⟩ := under (t := t) (t1 := { t with env := (l.tM, .junk) :: t.env }) (es := es) hu rfl rfl htk rfl rfl (fun w => by
   by_cases hw : w = l.tM
   ·right; subst hw; simp [Env.get]
   ·by_cases hw2 : w = l.tA
    ·right; subst hw2; simp only [Env.get, if_neg n11]; exact junkA him
    ·left; simp [ov, Env.get, hw, hw2]) (fun w id hid => by
   by_cases hw : w = l.tM
   ·subst hw; simp [Env.get, AV.refs] at hid
   ·simp only [Env.get, if_neg hw] at hid; exact hel w id hid) hol (zfv L.hy L.hn hf)
  rw [← hw]
  have hA' : a'.tmps.getD l.tA undef = .map (some (E.σ t.mem.length)) := by
   have := hu.rep.env l.tA
   simp only [ov, Env.get, if_neg n11, if_true] at this
   generalize a'.tmps.getD l.tA undef = v at *
   cases this
   rfl
  have hM' : a'.tmps.getD l.tM undef = .map (some (E.σ t.mem.length)) := by
   have := hu.rep.env l.tM
   simp only [ov, Env.get, if_true] at this
   generalize a'.tmps.getD l.tM undef = v at *
   cases this
   rfl
  refine hgo F a' hF fun _ => ⟨_, _, hB, hA', fun _ => hM', ?_⟩
  rw [zr2 n6, zr2 n8]; exact hf
 ·
  rw [L.xL] at hx
  cases hx
  obtain ⟨t1, h1, hgo⟩ := zjk (ro := ro) (o := o) (l := l) d hcall hi hr p hlat L.xL (fun _ _ h => by cases h) hK
  have him := zgt (up l.iv l.im L.wM (zo9 hr L.wL))
  have hiv' := zo9 hr L.wL
  have hiv := zgt hiv'
  have hi1 := zgt (up _ _ L.wM1 hiv')
  have hi2 := zgt (up _ _ L.wM2 hiv')
  obtain ⟨b, es, B, hA, hM, hf⟩ := hj him
  rw [hi1, hi2] at hf
  obtain ⟨Ev, hEw, hov⟩ := over (q := l.tM) hlat B (hM hiv)
  obtain ⟨tt, hkey, ht1⟩ : ∃ tt, t.env.ev kS = .imm (.val (.bool tt)) ∧ t1 = { t with env := (tL, .imm (.val (if tt then l.y else l.n))) :: t.env } := by
   simp only [XO.unlit, XOp.unlit, exOne, exOp, Option.map_eq_some_iff] at h1
   obtain ⟨vv, h2, h3⟩ := h1
   split at h2
   ·rename_i tt hk
    cases h2
    exact ⟨tt, hk, by rw [← h3]; cases tt <;> rfl⟩
   ·cases h2
  subst ht1
  obtain ⟨j, hfd, pp, hpp, hp2⟩ := zfu hf (ov t l.tM es).mem tt
  have hkov : (ov t l.tM es).env.ev kS = .imm (.val (.bool tt)) := by
   cases kS with
   | t u =>
    have hu : u ≠ l.tM := by
     intro e
     subst e
     simp only [Env.ev] at hkey
     rw [junkM hiv] at hkey; cases hkey
    simp only [Env.ev, ov, Env.get, if_neg hu] at hkey ⊢
    exact hkey
   | c v => exact hkey
   | f g => cases hkey
  have hex : exOne call (ov t l.tM es) ⟨some tL, .lookup 1 z false (.t l.tM) kS false, none⟩ = some { ov t l.tM es with env := (tL, .imm (.val (if tt then l.y else l.n))) :: (ov t l.tM es).env } := by
   have hg : (ov t l.tM es).mem[t.mem.length]? = some (.map (es.map fun p => (AV.imm (.val p.1), AV.imm (.val p.2)))) := by simp [ov, mapObj]
   have he : (ov t l.tM es).env.ev (.t l.tM) = .omap t.mem.length := by simp [ov, Env.ev, Env.get]
   simp only [exOne, exOp, he, hkov, isKeyAV, if_true]
   rw [hg]
   simp only [hfd, hpp, Option.map_some, hp2]
   rfl
  rw [← hEw]
  refine one_wp (x := ⟨some tL, .lookup 1 z false (.t l.tM) kS false, none⟩) hcall htro hov.rep hNa hex fun E a' hl' hput => ?_
  have hu := hov.trans (by rw [hov.k] at hl'; exact hl')
  obtain ⟨vv, hput⟩ := hput
  have hdst : o.dst = some tL := (zts htro).2.2.1.symm
  have hx1 : (zs.map XO.unlit)[l.il]? = some ⟨some tL, .pick kS (.c l.y) (.c l.n), none⟩ := by rw [List.getElem?_map, L.xL]; rfl
  have hxA : (zs.map XO.unlit)[l.im]? = some ⟨some l.tA, .junk, none⟩ := by rw [List.getElem?_map, L.xA]; rfl
  have hxM : (zs.map XO.unlit)[l.iv]? = some ⟨some l.tM, .junk, none⟩ := by rw [List.getElem?_map, L.xM]; rfl
  have hLA : tL ≠ l.tA := by
   intro e
   rcases (d.one l.il l.im _ _ l.tA L.ltL L.ltA hx1 hxA rfl).1 with h | h
   ·exact n4 h.symm
   ·exact h (by rw [e])
  have hLM : tL ≠ l.tM := by
   intro e
   rcases (d.one l.il l.iv _ _ l.tM L.ltL L.ltM hx1 hxM rfl).1 with h | h
   ·exact n10 h.symm
   ·exact h (by rw [e])
  obtain ⟨F, hw, hF, hB⟩ := under (t := t) (t1 := { t with env := (tL, .imm (.val (if tt then l.y else l.n))) :: t.env }) (es := es) hu rfl rfl htk rfl rfl (fun w => by
   by_cases hw : w = tL
   ·left; subst hw; simp [Env.get]
   ·by_cases hw2 : w = l.tM
    ·right; subst hw2; simp only [Env.get, if_neg (Ne.symm hLM)]; exact junkM hiv
    ·left; simp [ov, Env.get, hw, hw2]) (fun w id hid => by
   by_cases hw : w = tL
   ·subst hw; simp [Env.get, AV.refs] at hid
   ·simp only [Env.get, if_neg hw] at hid; exact hel w id hid) hol (zfv L.hy L.hn hf)
  rw [← hw]
  have hAA : a'.tmps.getD l.tA undef = .map (some b) := by rw [hput, zof a _ _ _ _ (by rw [hdst]; intro h; cases h; exact hLA rfl)]; exact hA
  have hMM : a'.tmps.getD l.tM undef = .map (some b) := by rw [hput, zof a _ _ _ _ (by rw [hdst]; intro h; cases h; exact hLM rfl)]; exact hM hiv
  have hM' : a'.tmps.getD l.tM undef = .map (some (E.σ t.mem.length)) := by
   have := hu.rep.env l.tM
   simp only [ov, Env.get, if_neg (Ne.symm hLM), if_true] at this
   generalize a'.tmps.getD l.tM undef = v at *
   cases this
   rfl
  have hb : b = E.σ t.mem.length := by rw [hMM] at hM'; cases hM'; rfl
  subst hb
  refine hgo F a' hF fun _ => ⟨_, _, hB, hAA, fun _ => hMM, ?_⟩
  rw [zr2 n7, zr2 n9, hi1, hi2]; exact hf
end
end Go.EX


namespace Go.EX
section
variable {num : Names} {P : Program}
theorem ztu {call : Calls'} {N : Nat} {ops : Array Oper} : ∀ (l : List Oper) (zs : List XO) {s s' : St}, trOps P num N ops l = zs.map XO.wipe → exOps call s (zs.map XO.unlit) = some s' → ∀ (i : Nat) (o : Oper), l[i]? = some o → ∃ x : XO, zs[i]? = some x ∧ trOper P num N ops o = some x.wipe
 | [], _, _, _, _, _, i, o, ho => by simp at ho
 | o :: l, zs, s, s', htr, h, i, o', hi => by
  simp only [trOps] at htr
  cases ho : trOper P num N ops o with
  | none =>
   rw [ho] at htr
   cases zs with
   | nil => simp at htr
   | cons x r =>
    simp only [List.map_cons, List.cons.injEq] at htr
    have hb : x.wipe = badOp := htr.1.symm
    have h1 : (x.op = .callV (.c (.bool true)) [] ∨ x.op = .callP (.c (.bool true)) [] ∨ ∃ w, x.op = .callT (.c (.bool true)) [] w) ∧ x.guard = none := by
     obtain ⟨d, op, g⟩ := x
     simp only [XO.wipe, badOp, XO.mk.injEq] at hb
     obtain ⟨_, h2, h3⟩ := hb
     refine ⟨?_, h3⟩
     cases op <;> simp only [XOp.wipe, reduceCtorEq] at h2
     ·exact .inl h2
     ·cases h2; exact .inr (.inl rfl)
     ·cases h2; exact .inr (.inr ⟨_, rfl⟩)
    simp only [List.map_cons, exOps] at h
    unfold exOne at h
    rcases h1.1 with h4 | h4 | ⟨_, h4⟩ <;> simp only [XO.unlit, h4, h1.2, XOp.unlit, exOp, Env.ev, Option.map_none, Option.bind_none] at h <;> cases h
  | some y =>
   rw [ho] at htr
   cases zs with
   | nil => simp at htr
   | cons x r =>
    simp only [List.map_cons, List.cons.injEq] at htr
    simp only [List.map_cons, exOps] at h
    cases hx : exOne call s x.unlit with
    | none => rw [hx] at h; cases h
    | some s1 =>
     rw [hx] at h
     cases i with
     | zero =>
      simp at hi
      subst hi
      exact ⟨x, rfl, by rw [ho, htr.1]⟩
     | succ i => exact ztu l r htr.2 h i o' (by simpa using hi)
theorem zue {x : XO} (h : (!(x.op.isLitA || x.op.isLitI || x.op.isLitM || x.op.isLitL)) = true) : x.unlit = x := by
 obtain ⟨d, op, g⟩ := x
 cases op <;> first | rfl | simp [XOp.isLitA, XOp.isLitI, XOp.isLitM, XOp.isLitL] at h
theorem zjl {l : LitAt} {ops : Array Oper} {zs : List XO} {n : Nat} (h : l.ok ops zs n = true) : (∃ z k tL, LitSpec l ops zs n z k tL) ∧ (∀ i x, i < n → zs[i]? = some x → (i ≠ l.im ∧ i ≠ l.i1 ∧ i ≠ l.i2 ∧ i ≠ l.iv ∧ i ≠ l.il) → x.unlit = x) ∧ ∀ i x, n ≤ i → zs[i]? = some x → x.unlit = x := by
 unfold LitAt.ok at h
 simp only [Bool.and_eq_true] at h
 obtain ⟨⟨⟨⟨⟨⟨h1, h2⟩, h3⟩, h4⟩, h5⟩, h6⟩, h7⟩ := h
 refine ⟨?_, fun i x hi hx hne => ?_, fun i x hi hx => ?_⟩
 ·split at h1
  ·rename_i a b c1 d c2 f g t2 zz hh kk yy nn eA e1 e2 eM eL
   simp only [Bool.and_eq_true, beq_iff_eq] at h1
   obtain ⟨⟨⟨⟨⟨rfl, rfl⟩, rfl⟩, rfl⟩, rfl⟩, rfl⟩ := h1
   rw [e1, e2, eL] at h2
   simp only [Bool.and_eq_true] at h2
   obtain ⟨⟨o1, o2⟩, ⟨⟨v1, v2⟩, v3⟩, v4⟩ := h2
   have q1 := zuu v1
   have q2 := zuu v2
   have q3 := zuu v3
   have q4 := zuu v4
   subst q1 q2
   rw [q3, q4] at eL
   simp only [decide_eq_true_eq] at h3
   simp only [bne_iff_ne] at h4
   simp only [zmi] at o1 o2
   obtain ⟨⟨⟨⟨r1, r2⟩, r3⟩, r4⟩, r5⟩ := h3
   obtain ⟨⟨⟨⟨⟨⟨⟨⟨⟨⟨s1, s2⟩, s3⟩, s4⟩, s5⟩, s6⟩, s7⟩, s8⟩, s9⟩, s10⟩, s11⟩ := h4
   obtain ⟨⟨⟨⟨⟨w1, w2⟩, w3⟩, w4⟩, w5⟩, w6⟩ := h5
   exact ⟨_, _, _, eA, e1, e2, eM, eL, o1, o2, r1, r2, r3, r4, r5, ⟨s1, s2, s3, s4, s5, s6, s7, s8, s9, s10, s11⟩, w1, w2, w3, w4, w5, w6⟩
  ·cases h1
 ·have := List.all_eq_true.1 h6 i (List.mem_range.2 hi)
  simp only [Bool.or_eq_true, beq_iff_eq, hx] at this
  obtain ⟨m1, m2, m3, m4, m5⟩ := hne
  rcases this with ((((h | h) | h) | h) | h) | h
  ·exact absurd h m1
  ·exact absurd h m2
  ·exact absurd h m3
  ·exact absurd h m4
  ·exact absurd h m5
  ·exact zue h
 ·refine zue (List.all_eq_true.1 h7 x (List.mem_of_getElem? (i := i - n) ?_))
  rw [List.getElem?_drop, ← hx]
  congr 1; omega
theorem zjv {ro : Option Nat} {call : Calls'} (hcall : CallOK num P call) (hmix : P.follows .mixedOrders = true) {N id : Nat} {ops : Array Oper} {draw : Bool} {keep : List Nat} {zs : List XO} (htr : trOps P num N ops ops.toList = zs.map XO.wipe) (hd : drawsOk (.region id ops draw) (.lregion keep zs) = true) {C : Cx} {s s' : St} {a : Act} (hs : SRep num C s a) (hN : N ≤ a.tmps.size) (h : exOps call s (zs.map XO.unlit) = some s')
  {Q : Exit → Act → World → Prop} (hQ : ∀ D a', Later num s.k C s.mem a D s' a' → Q .normal a' D.w) : (Code.region id ops draw).wpIn (fz ro) 0 P Q a C.w := by
 cases draw with
 | false => simp [drawsOk] at hd
 | true =>
  simp only [drawsOk, litOk, Bool.and_eq_true, beq_iff_eq, decide_eq_true_eq] at hd
  obtain ⟨⟨⟨hok, hlt⟩, hlit⟩, hlen⟩ := hd
  generalize calmRun (zs.map XO.unlit) = n at hok hlt hlit
  obtain ⟨⟨z, kS, tL, L⟩, hin, hout⟩ := zjl hlit
  generalize litAt zs = l at L hin hlit
  simp only [drawOk, Bool.and_eq_true] at hok
  obtain ⟨⟨⟨⟨k1, k2⟩, k3⟩, k4⟩, k5⟩ := hok
  have htail : n = ops.size ∨ (n < ops.size ∧ Region.sinkB .any ops n = true ∧ Region.chainB .any ops n = true) := by
   simp only [Bool.or_eq_true, beq_iff_eq, Bool.and_eq_true, decide_eq_true_eq] at k4
   rcases k4 with h | ⟨⟨h, h'⟩, h''⟩
   ·exact .inl h
   ·exact .inr ⟨h, h', h''⟩
  have hn' : n ≤ ops.size := by omega
  have hall := fun i o ho => ztu ops.toList zs htr h i o ho
  have hS : ∀ i, ∃ t, exOps call s ((zs.map XO.unlit).take i) = some t ∧ exOps call t ((zs.map XO.unlit).drop i) = some s' := zfb _ s s' h
  obtain ⟨S, hS⟩ : ∃ S : Nat → St, ∀ i, exOps call s ((zs.map XO.unlit).take i) = some (S i) ∧ exOps call (S i) ((zs.map XO.unlit).drop i) = some s' := ⟨fun i => Classical.choose (hS i), fun i => Classical.choose_spec (hS i)⟩
  have go : ∀ (i : Nat) x, (zs.map XO.unlit)[i]? = some x → exOne call (S i) x = some (S (i + 1)) := by
   intro i x hx
   have e1 := (hS i).1
   have e2 := (hS (i + 1)).1
   have : (zs.map XO.unlit).take (i + 1) = (zs.map XO.unlit).take i ++ [x] := by
    rw [List.take_add_one, hx]; rfl
   rw [this] at e2
   exact zfa _ x s _ _ e1 e2
  have d : Drawn call P num N ops (zs.map XO.unlit) n s s' S (fun i => i == l.im || i == l.i1 || i == l.i2 || i == l.iv || i == l.il) := by
   refine ⟨by simpa using hlen, hn', fun i o hsp ho => ?_, ?_, ?_, ?_, ?_, go, ?_, fun i x _ hx => go i x hx, ?_⟩
   ·obtain ⟨x, hx, htx⟩ := hall i o (by simpa using ho)
    simp only [Bool.or_eq_false_iff, beq_eq_false_iff_ne] at hsp
    have hux : x.unlit = x := by
     rcases Nat.lt_or_ge i n with h1 | h1
     ·exact hin i x h1 hx ⟨hsp.1.1.1.1, hsp.1.1.1.2, hsp.1.1.2, hsp.1.2, hsp.2⟩
     ·exact hout i x h1 hx
    exact ⟨x, by rw [List.getElem?_map, hx]; simp [hux], htx⟩
   ·intro i x hi hx
    refine List.all_eq_true.1 k1 x (List.mem_of_getElem? (i := i) ?_)
    rw [List.getElem?_take, if_pos hi]; exact hx
   ·intro i j x y d hi hj hx hy hyd
    have := List.all_eq_true.1 (List.all_eq_true.1 k2 i (List.mem_range.2 hi)) j (List.mem_range.2 hj)
    simp only [hx, hy, hyd, Bool.and_eq_true, Bool.or_eq_true, beq_iff_eq, bne_iff_ne, Bool.not_eq_true', List.contains_eq_mem, decide_eq_false_iff_not, decide_eq_true_eq] at this
    refine ⟨this.1, fun hr => ?_⟩
    rcases this.2 with h | h
    ·exact absurd hr h
    ·exact h
   ·intro i o hi ho e he hb
    have := List.all_eq_true.1 k3 i (List.mem_range.2 hi)
    simp only [ho] at this
    have := Array.all_eq_true_iff_forall_mem.1 this e he
    simpa [hb] using this
   ·have := (hS 0).1
    simp [exOps] at this
    exact this.symm
   ·have := (hS (zs.map XO.unlit).length).2
    rw [List.drop_eq_nil_of_le (Nat.le_refl _)] at this
    simp only [exOps, Option.some.injEq] at this
    exact this
   ·exact (hS n).2
  refine wpIn_region_any hmix ?_
  have h0 := zea hs
  have h1 := zqg h0.rep ((S n).mem.length - s.mem.length)
  have hspec : ∀ i, (fun i => i == l.im || i == l.i1 || i == l.i2 || i == l.iv || i == l.il) i = true → i = l.im ∨ i = l.i1 ∨ i = l.i2 ∨ i = l.iv ∨ i = l.il := by
   intro i hi
   simp only [Bool.or_eq_true, beq_iff_eq] at hi
   rcases hi with (((h | h) | h) | h) | h
   ·exact .inl h
   ·exact .inr (.inl h)
   ·exact .inr (.inr (.inl h))
   ·exact .inr (.inr (.inr (.inl h)))
   ·exact .inr (.inr (.inr (.inr h)))
  have hxA : (zs.map XO.unlit)[l.im]? = some ⟨some l.tA, .junk, none⟩ := by rw [List.getElem?_map, L.xA]; rfl
  have hxM : (zs.map XO.unlit)[l.iv]? = some ⟨some l.tM, .junk, none⟩ := by rw [List.getElem?_map, L.xM]; rfl
  have := d.anyJ (ro := ro) (fun i hi => by
    simp only [Bool.or_eq_false_iff, beq_eq_false_iff_ne]
    have := L.ltA; have := L.lt1; have := L.lt2; have := L.ltM; have := L.ltL
    refine ⟨⟨⟨⟨?_, ?_⟩, ?_⟩, ?_⟩, ?_⟩ <;> omega) htail k5 hcall (Q := Q) (k := s.k) (C := C) (m := s.mem) (a0 := a) hN hQ (LJ l C s.mem)
   (fun listed D t a i x E t1 a' F t2 hi hsp hun hx hj hl1 hput hl2 him => by
    simp only [Bool.or_eq_false_iff, beq_eq_false_iff_ne] at hsp
    obtain ⟨⟨⟨⟨m1, m2⟩, m3⟩, m4⟩, m5⟩ := hsp
    rw [zr2 (Ne.symm m1)] at him
    obtain ⟨b, es, B, hA, hM, hf⟩ := hj him
    obtain ⟨v, hput⟩ := hput
    have dA : x.dst ≠ some l.tA := by
     rcases (d.one i l.im x _ l.tA hi L.ltA hx hxA rfl).1 with h | h
     ·exact absurd h m1
     ·exact h
    have dM : x.dst ≠ some l.tM := by
     rcases (d.one i l.iv x _ l.tM hi L.ltM hx hxM rfl).1 with h | h
     ·exact absurd h m4
     ·exact h
    refine ⟨b, es, (B.keep hl1.step).keep hl2.step, by rw [hput, zof _ _ _ _ _ dA]; exact hA, fun hv => ?_, ?_⟩
    ·rw [zr2 (Ne.symm m4)] at hv
     rw [hput, zof _ _ _ _ _ dM]; exact hM hv
    ·rw [zr2 (Ne.symm m2), zr2 (Ne.symm m3)]; exact hf)
   (fun listed D t a i o hi hsp inv hr ho p hlat hj K hK => lit_wp (ro := ro) L d hspec (fun i o ho => hall i o (by simpa using ho)) hcall hN listed D t a i o hi hsp inv hr ho p hlat hj K hK)
   n (Array.replicate ops.size false) a _ _ (zpz n ops.size hn')
   ⟨by simp, fun j oj _ hl => (by rw [getD_replicate_false] at hl; cases hl), fun t ht h2 => getD_in (by simpa using h2) (getD_replicate_false _ _)⟩
   (d.start h0.rep) (h0.trans h1) (fun him => by
    rw [getD_in (by have := L.ltA; simp; omega) (getD_replicate_false _ _)] at him; cases him)
  rw [show n + (ops.size - n) = ops.size by omega] at this
  exact this
end
end Go.EX


namespace Go.EX
def Le (c d : Calls') : Prop := ∀ f a m r, c f a m = some r → d f a m = some r
theorem zfg {c d : Calls'} (h : Le c d) {s : St} {fn : Nat} {as : List AV} {r : AV × St} (hr : exView c s fn as = some r) : exView d s fn as = some r := by
 unfold exView at *
 cases ha : as.mapM (frz s.mem) with
 | none => simp [ha] at hr
 | some l =>
  simp only [ha] at hr ⊢
  cases hc : c fn l [] with
  | none => simp [hc] at hr
  | some p => simp only [hc] at hr; simp only [h _ _ _ _ hc]; exact hr
theorem zfc {c d : Calls'} (h : Le c d) {s : St} {fn : Nat} {as : List AV} {r : AV × St} (hr : exOwn c s fn as = some r) : exOwn d s fn as = some r := by
 unfold exOwn at *
 cases ha : as.mapM (frz s.mem) with
 | none => simp [ha] at hr
 | some l =>
  simp only [ha] at hr ⊢
  cases hc : c fn l [] with
  | none => simp [hc] at hr
  | some p => simp only [hc] at hr; simp only [h _ _ _ _ hc]; exact hr
theorem zff {c d : Calls'} (h : Le c d) {s : St} {fn : Nat} {as : List AV} {r : AV × St} (hr : exShare c s fn as = some r) : exShare d s fn as = some r := by
 unfold exShare at *
 dsimp only at *
 generalize hm : AV.ren.renL (place (order 0 (AV.refs.refsL as) s.mem)) as = l at *
 generalize hq : s.mem.pickAll (order 0 (AV.refs.refsL as) s.mem) = q at *
 cases hc : c fn l q with
 | none => simp [hc] at hr
 | some p => simp only [hc] at hr; simp only [h _ _ _ _ hc]; exact hr
theorem zfd {c d : Calls'} (h : Le c d) {s : St} {fn : Nat} {as : List AV} {r : AV × St} (hr : exPeek c s fn as = some r) : exPeek d s fn as = some r := by
 unfold exPeek at *
 dsimp only at *
 generalize hm : AV.ren.renL (place (order 0 (AV.refs.refsL as) s.mem)) as = l at *
 cases hc : c fn l (s.mem.pickAll (order 0 (AV.refs.refsL as) s.mem)) with
 | none => simp [hc] at hr
 | some p => simp only [hc] at hr; simp only [h _ _ _ _ hc]; exact hr
theorem ze1 {c d : Calls'} (h : Le c d) {s : St} {fn : Nat} {as : List AV} {r : AV × St} (hr : exLook c s fn as = some r) : exLook d s fn as = some r := by
 unfold exLook at *
 dsimp only at *
 generalize hm : AV.ren.renL (place (order 0 (AV.refs.refsL as) s.mem)) as = l at *
 cases hc : c fn l (s.mem.pickAll (order 0 (AV.refs.refsL as) s.mem)) with
 | none => simp [hc] at hr
 | some p => simp only [hc] at hr; simp only [h _ _ _ _ hc]; exact hr
theorem ze7 {c d : Calls'} (h : Le c d) {s : St} {op : XOp} {r : AV × St} (hr : exOp c s op = some r) : exOp d s op = some r := by
 cases op with
 | call mode fn args =>
  cases mode with
  | view => exact zfg h hr
  | own => exact zfc h hr
  | share => exact zff h hr
  | peek => exact zfd h hr
  | look => exact ze1 h hr
  | touch => cases hr
 | callV f args =>
  simp only [exOp] at hr ⊢
  split at hr
  ·rename_i heq; exact zff h hr
  ·cases hr
 | _ => exact hr
theorem ze4 {c d : Calls'} (h : Le c d) {s : St} {o : XO} {r : St} (hr : exOne c s o = some r) : exOne d s o = some r := by
 unfold exOne at *
 have hop : ∀ x, exOp c s o.op = some x → exOp d s o.op = some x := fun x hx => ze7 h hx
 have hgo : ∀ (g : AV × St → St), (exOp c s o.op).map g = some r → (exOp d s o.op).map g = some r := by
  intro g hg
  cases hx : exOp c s o.op with
  | none => simp [hx] at hg
  | some x => rw [hop x hx]; rwa [hx] at hg
 dsimp only at *
 split at hr
 ·exact hgo _ hr
 ·split at hr
  ·rename_i heq
   split at hr
   ·rename_i hcb; simp only [hcb, if_true] at *; exact hgo _ hr
   ·rename_i hcb; simp only [hcb, if_false] at *; exact hr
  ·exact hr
  ·cases hr
theorem ze9 {c d : Calls'} (h : Le c d) (l : List XO) : ∀ {s : St} {r : St}, exOps c s l = some r → exOps d s l = some r := by
 induction l with
 | nil => intro s r hr; exact hr
 | cons o l ih =>
  intro s r hr
  simp only [exOps] at *
  cases hx : exOne c s o with
  | none => simp [hx] at hr
  | some s' => rw [hx] at hr; rw [ze4 h hx]; exact ih hr
theorem zqj {f g : St → Option (XExit × St)} (h : ∀ s r, f s = some r → g s = some r) : ∀ (n m : Nat), n ≤ m → ∀ {s r}, rounds f n s = some r → rounds g m s = some r := by
 intro n
 induction n with
 | zero => intro m _ s r hr; simp [rounds] at hr
 | succ n ih =>
  intro m hm s r hr
  obtain ⟨m, rfl⟩ : ∃ k, m = k + 1 := ⟨m - 1, by omega⟩
  simp only [rounds] at *
  cases hx : f s with
  | none => simp [hx] at hr
  | some p =>
   rw [h _ _ hx]
   rw [hx] at hr
   obtain ⟨e, s'⟩ := p
   cases e with
   | normal => exact ih m (by omega) hr
   | exit id => exact hr
   | ret => exact hr
theorem zez {c d : Calls'} (h : Le c d) {n m : Nat} (hnm : n ≤ m) (x : XCode) : ∀ {s r}, exCode c n x s = some r → exCode d m x s = some r := by
 induction x with
 | skip => intro s r hr; exact hr
 | region keep ops =>
  intro s r hr
  simp only [exCode] at *
  cases hx : exOps c s ops with
  | none => simp [hx] at hr
  | some s' => rw [hx] at hr; rw [ze9 h ops hx]; exact hr
 | lregion keep ops =>
  intro s r hr
  simp only [exCode] at *
  cases hx : exOps c s (ops.map XO.unlit) with
  | none => simp [hx] at hr
  | some s' => rw [hx] at hr; rw [ze9 h _ hx]; exact hr
 | seq a b iha ihb =>
  intro s r hr
  simp only [exCode] at *
  cases hx : exCode c n a s with
  | none => simp [hx] at hr
  | some p =>
   rw [iha hx]
   rw [hx] at hr
   obtain ⟨e, s'⟩ := p
   cases e with
   | normal => exact ihb hr
   | exit id => exact hr
   | ret => exact hr
 | cond k a b iha ihb =>
  intro s r hr
  simp only [exCode] at *
  split at hr
  ·split at hr
   ·rename_i ht; simp only [ht, if_true]; exact iha hr
   ·rename_i ht; simp only [ht, if_false]; exact ihb hr
  ·cases hr
 | block id b ih =>
  intro s r hr
  simp only [exCode] at *
  cases hx : exCode c n b s with
  | none => simp [hx] at hr
  | some p => rw [ih hx]; rw [hx] at hr; exact hr
 | loop keep b ih =>
  intro s r hr
  simp only [exCode] at *
  exact zqj (fun s r hs => ih hs) n m hnm hr
 | exit id => intro s r hr; exact hr
 | ret => intro s r hr; exact hr
 | rangeF f ps keep as b => intro s r hr; cases hr
theorem ze0 {c d : Calls'} (h : Le c d) {n m : Nat} (hnm : n ≤ m) {f : XFun} {as : List AV} {q : Mem} {r} (hr : exFun c n f as q = some r) : exFun d m f as q = some r := by
 unfold exFun at *
 cases hx : exCode c n f.body { k := q.length, env := enter 0 as, mem := q } with
 | none => simp [hx] at hr
 | some p => rw [zez h hnm f.body hx]; rw [hx] at hr; exact hr
section
variable (code : Nat → Option XFun) (ext : Calls')
theorem zbq (n : Nat) : Le (callN code ext n) (callN code ext (n + 1)) := by
 induction n with
 | zero => intro f a m r h; simp [callN] at h
 | succ n ih =>
  intro f a m r h
  unfold callN at h ⊢
  cases hc : code f with
  | none =>
   simp only [hc] at h ⊢
   split at h
   ·cases h
   ·rename_i hy; rw [if_neg hy]; exact h
  | some x => simp only [hc] at h ⊢; exact ze0 ih (Nat.le_succ n) h
theorem zbp {n m : Nat} (h : n ≤ m) : Le (callN code ext n) (callN code ext m) := by
  induction m with
  | zero => obtain rfl : n = 0 := by omega
            exact fun _ _ _ _ h => h
  | succ m ih =>
    rcases Nat.lt_or_ge n (m + 1) with h' | h'
    · exact fun f a q r hr => zbq code ext m f a q r (ih (by omega) f a q r hr)
    · obtain rfl : n = m + 1 := by omega
      exact fun _ _ _ _ h => h
open Classical in
noncomputable def callW : Calls' := fun f a m => if h : ∃ r, ∃ n, callN code ext n f a m = some r then some (Classical.choose h) else none
theorem zbt {f : Nat} {a : List AV} {m : Mem} {r : AV × Mem} : callW code ext f a m = some r ↔ ∃ n, callN code ext n f a m = some r := by
 unfold callW
 constructor
 ·intro h
  split at h
  ·rename_i hx
   obtain ⟨n, hn⟩ := Classical.choose_spec hx
   have : Classical.choose hx = r := by simpa using h
   exact ⟨n, this ▸ hn⟩
  ·cases h
 ·rintro ⟨n, hn⟩
  have hx : ∃ r, ∃ n, callN code ext n f a m = some r := ⟨r, n, hn⟩
  rw [dif_pos hx]
  obtain ⟨k, hk⟩ := Classical.choose_spec hx
  have h1 := zbp code ext (Nat.le_max_left n k) f a m r hn
  have h2 := zbp code ext (Nat.le_max_right n k) f a m _ hk
  rw [h1] at h2
  exact h2.symm
theorem zaa (n : Nat) : Le (callN code ext n) (callW code ext) := fun _ _ _ _ h => (zbt code ext).2 ⟨n, h⟩
open Classical in
noncomputable def den (x : XCode) (s : St) : Option (XExit × St) := if h : ∃ r, ∃ n, exCode (callW code ext) n x s = some r then some (Classical.choose h) else none
theorem zdt {x : XCode} {s : St} {r} : den code ext x s = some r ↔ ∃ n, exCode (callW code ext) n x s = some r := by
 unfold den
 constructor
 ·intro h
  split at h
  ·rename_i hx
   obtain ⟨n, hn⟩ := Classical.choose_spec hx
   have : Classical.choose hx = r := by simpa using h
   exact ⟨n, this ▸ hn⟩
  ·cases h
 ·rintro ⟨n, hn⟩
  have hx : ∃ r, ∃ n, exCode (callW code ext) n x s = some r := ⟨r, n, hn⟩
  rw [dif_pos hx]
  obtain ⟨k, hk⟩ := Classical.choose_spec hx
  have h1 := zez (c := callW code ext) (d := callW code ext) (fun _ _ _ _ h => h) (Nat.le_max_left n k) x hn
  have h2 := zez (c := callW code ext) (d := callW code ext) (fun _ _ _ _ h => h) (Nat.le_max_right n k) x hk
  rw [h1] at h2
  exact h2.symm
theorem zfe {s : St} {fn : Nat} {as : List AV} {r} (h : exShare (callW code ext) s fn as = some r) : ∃ n, exShare (callN code ext n) s fn as = some r := by
 unfold exShare at *
 dsimp only at *
 generalize AV.ren.renL (place (order 0 (AV.refs.refsL as) s.mem)) as = l at *
 generalize s.mem.pickAll (order 0 (AV.refs.refsL as) s.mem) = q at *
 cases hc : callW code ext fn l q with
 | none => simp [hc] at h
 | some p => obtain ⟨n, hn⟩ := (zbt code ext).1 hc; simp only [hc] at h; exact ⟨n, by simp only [hn]; exact h⟩
theorem ze6 {s : St} {op : XOp} {r} (h : exOp (callW code ext) s op = some r) : ∃ n, exOp (callN code ext n) s op = some r := by
 have view : ∀ fn as, exView (callW code ext) s fn as = some r → ∃ n, exView (callN code ext n) s fn as = some r := by
  intro fn as h
  unfold exView at *
  cases ha : as.mapM (frz s.mem) with
  | none => simp [ha] at h
  | some l =>
   simp only [ha] at h ⊢
   cases hc : callW code ext fn l [] with
   | none => simp [hc] at h
   | some p => obtain ⟨n, hn⟩ := (zbt code ext).1 hc; simp only [hc] at h; exact ⟨n, by simp only [hn]; exact h⟩
 have own : ∀ fn as, exOwn (callW code ext) s fn as = some r → ∃ n, exOwn (callN code ext n) s fn as = some r := by
  intro fn as h
  unfold exOwn at *
  cases ha : as.mapM (frz s.mem) with
  | none => simp [ha] at h
  | some l =>
   simp only [ha] at h ⊢
   cases hc : callW code ext fn l [] with
   | none => simp [hc] at h
   | some p => obtain ⟨n, hn⟩ := (zbt code ext).1 hc; simp only [hc] at h; exact ⟨n, by simp only [hn]; exact h⟩
 have share : ∀ fn as, exShare (callW code ext) s fn as = some r → ∃ n, exShare (callN code ext n) s fn as = some r := fun fn as h => zfe code ext h
 have peek : ∀ fn as, exPeek (callW code ext) s fn as = some r → ∃ n, exPeek (callN code ext n) s fn as = some r := by
  intro fn as h
  unfold exPeek at *
  dsimp only at *
  generalize AV.ren.renL (place (order 0 (AV.refs.refsL as) s.mem)) as = l at *
  cases hc : callW code ext fn l (s.mem.pickAll (order 0 (AV.refs.refsL as) s.mem)) with
  | none => simp [hc] at h
  | some p => obtain ⟨n, hn⟩ := (zbt code ext).1 hc; simp only [hc] at h; exact ⟨n, by simp only [hn]; exact h⟩
 have look : ∀ fn as, exLook (callW code ext) s fn as = some r → ∃ n, exLook (callN code ext n) s fn as = some r := by
  intro fn as h
  unfold exLook at *
  dsimp only at *
  generalize AV.ren.renL (place (order 0 (AV.refs.refsL as) s.mem)) as = l at *
  cases hc : callW code ext fn l (s.mem.pickAll (order 0 (AV.refs.refsL as) s.mem)) with
  | none => simp [hc] at h
  | some p => obtain ⟨n, hn⟩ := (zbt code ext).1 hc; simp only [hc] at h; exact ⟨n, by simp only [hn]; exact h⟩
 cases op with
 | call mode fn args =>
  cases mode with
  | view => exact view _ _ h
  | own => exact own _ _ h
  | share => exact share _ _ h
  | peek => exact peek _ _ h
  | look => exact look _ _ h
  | touch => cases h
 | callV f args =>
  simp only [exOp] at h ⊢
  split at h
  ·rename_i heq; exact share _ _ h
  ·cases h
 | _ => exact ⟨0, h⟩
theorem ze3 {s : St} {o : XO} {r} (h : exOne (callW code ext) s o = some r) : ∃ n, exOne (callN code ext n) s o = some r := by
 unfold exOne at *
 have hgo : ∀ (g : AV × St → St), (exOp (callW code ext) s o.op).map g = some r → ∃ n, (exOp (callN code ext n) s o.op).map g = some r := by
  intro g hg
  cases hx : exOp (callW code ext) s o.op with
  | none => simp [hx] at hg
  | some x => obtain ⟨n, hn⟩ := ze6 code ext hx; exact ⟨n, by rw [hn]; rwa [hx] at hg⟩
 dsimp only at *
 split at h
 ·exact hgo _ h
 ·split at h
  ·rename_i heq
   split at h
   ·rename_i hcb; simp only [hcb, if_true]; exact hgo _ h
   ·rename_i hcb; simp only [hcb, if_false]; exact ⟨0, h⟩
  ·exact ⟨0, h⟩
  ·cases h
theorem ze8 (l : List XO) : ∀ {s r}, exOps (callW code ext) s l = some r → ∃ n, exOps (callN code ext n) s l = some r := by
 induction l with
 | nil => intro s r h; exact ⟨0, h⟩
 | cons o l ih =>
  intro s r h
  simp only [exOps] at *
  cases hx : exOne (callW code ext) s o with
  | none => simp [hx] at h
  | some s' =>
   rw [hx] at h
   obtain ⟨n, hn⟩ := ze3 code ext hx
   obtain ⟨k, hk⟩ := ih h
   exact ⟨max n k, by rw [ze4 (zbp code ext (Nat.le_max_left n k)) hn]; exact ze9 (zbp code ext (Nat.le_max_right n k)) l hk⟩
theorem zqi {f : St → Option (XExit × St)} {g : Nat → St → Option (XExit × St)} (hg : ∀ n m, n ≤ m → ∀ s r, g n s = some r → g m s = some r) (h : ∀ s r, f s = some r → ∃ n, g n s = some r) :
  ∀ (k : Nat) {s r}, rounds f k s = some r → ∃ n, rounds (g n) k s = some r := by
 intro k
 induction k with
 | zero => intro s r hr; simp [rounds] at hr
 | succ k ih =>
  intro s r hr
  simp only [rounds] at *
  cases hx : f s with
  | none => simp [hx] at hr
  | some p =>
   rw [hx] at hr
   obtain ⟨n, hn⟩ := h _ _ hx
   obtain ⟨e, s'⟩ := p
   cases e with
   | normal =>
    obtain ⟨j, hj⟩ := ih hr
    exact ⟨max n j, by rw [hg n _ (Nat.le_max_left n j) _ _ hn]; exact zqj (hg j _ (Nat.le_max_right n j)) k k (Nat.le_refl k) hj⟩
   | exit id => exact ⟨n, by rw [hn]; exact hr⟩
   | ret => exact ⟨n, by rw [hn]; exact hr⟩
theorem zey (k : Nat) (x : XCode) : ∀ {s r}, exCode (callW code ext) k x s = some r → ∃ n, exCode (callN code ext n) k x s = some r := by
 induction x with
 | skip => intro s r h; exact ⟨0, h⟩
 | region keep ops =>
  intro s r h
  simp only [exCode] at *
  cases hx : exOps (callW code ext) s ops with
  | none => simp [hx] at h
  | some s' => rw [hx] at h; obtain ⟨n, hn⟩ := ze8 code ext ops hx; exact ⟨n, by rw [hn]; exact h⟩
 | lregion keep ops =>
  intro s r h
  simp only [exCode] at *
  cases hx : exOps (callW code ext) s (ops.map XO.unlit) with
  | none => simp [hx] at h
  | some s' => rw [hx] at h; obtain ⟨n, hn⟩ := ze8 code ext _ hx; exact ⟨n, by rw [hn]; exact h⟩
 | seq a b iha ihb =>
  intro s r h
  simp only [exCode] at *
  cases hx : exCode (callW code ext) k a s with
  | none => simp [hx] at h
  | some p =>
   rw [hx] at h
   obtain ⟨n, hn⟩ := iha hx
   obtain ⟨e, s'⟩ := p
   cases e with
   | normal =>
    obtain ⟨j, hj⟩ := ihb h
    exact ⟨max n j, by rw [zez (zbp code ext (Nat.le_max_left n j)) (Nat.le_refl k) a hn]; exact zez (zbp code ext (Nat.le_max_right n j)) (Nat.le_refl k) b hj⟩
   | exit id => exact ⟨n, by rw [hn]; exact h⟩
   | ret => exact ⟨n, by rw [hn]; exact h⟩
 | cond c a b iha ihb =>
  intro s r h
  simp only [exCode] at *
  split at h
  ·split at h
   ·rename_i ht; simp only [ht, if_true]; exact iha h
   ·rename_i ht; simp only [ht, if_false]; exact ihb h
  ·cases h
 | block id b ih =>
  intro s r h
  simp only [exCode] at *
  cases hx : exCode (callW code ext) k b s with
  | none => simp [hx] at h
  | some p => rw [hx] at h; obtain ⟨n, hn⟩ := ih hx; exact ⟨n, by rw [hn]; exact h⟩
 | loop keep b ih =>
  intro s r h
  simp only [exCode] at *
  exact zqi (f := fun s => exCode (callW code ext) k b (s.tidy keep)) (g := fun n s => exCode (callN code ext n) k b (s.tidy keep)) (fun n m hnm s r hs => zez (zbp code ext hnm) (Nat.le_refl k) b hs) (fun s r hs => ih hs) k h
 | exit id => intro s r h; exact ⟨0, h⟩
 | ret => intro s r h; exact ⟨0, h⟩
 | rangeF f ps keep as b => intro s r h; cases h
theorem zds (s : St) : den code ext .skip s = some (.normal, s) := (zdt code ext).2 ⟨0, rfl⟩
theorem zdm (id : Nat) (s : St) : den code ext (.exit id) s = some (.exit id, s) := (zdt code ext).2 ⟨0, rfl⟩
theorem zdq (s : St) : den code ext .ret s = some (.ret, s) := (zdt code ext).2 ⟨0, rfl⟩
theorem zmn {α : Type} {a b : Option α} (h : ∀ r, a = some r ↔ b = some r) : a = b := by
 cases a with
 | none => cases b with
  | none => rfl
  | some y => exact absurd ((h y).2 rfl) (by simp)
 | some x => exact ((h x).1 rfl).symm
theorem zdp (keep : List Nat) (ops : List XO) (s : St) :
  den code ext (.region keep ops) s = (exOps (callW code ext) s ops).map fun s' => (.normal, { s' with env := s'.env.keep keep }) := by
 refine zmn fun r => ⟨fun h => ?_, fun h => (zdt code ext).2 ⟨0, h⟩⟩
 obtain ⟨n, hn⟩ := (zdt code ext).1 h
 exact hn
theorem zdo (keep : List Nat) (ops : List XO) (s : St) :
  den code ext (.lregion keep ops) s = (exOps (callW code ext) s (ops.map XO.unlit)).map fun s' => (.normal, { s' with env := s'.env.keep keep }) := by
 refine zmn fun r => ⟨fun h => ?_, fun h => (zdt code ext).2 ⟨0, h⟩⟩
 obtain ⟨n, hn⟩ := (zdt code ext).1 h
 exact hn
def andThen (p : Option (XExit × St)) (f : St → Option (XExit × St)) : Option (XExit × St) :=
 match p with
 | some (.normal, s) => f s
 | r => r
theorem zdr (a b : XCode) (s : St) : den code ext (.seq a b) s = andThen (den code ext a s) (den code ext b) := by
 refine zmn fun r => ⟨fun h => ?_, fun h => ?_⟩
 ·obtain ⟨n, hn⟩ := (zdt code ext).1 h
  simp only [exCode] at hn
  cases hx : exCode (callW code ext) n a s with
  | none => simp [hx] at hn
  | some p =>
   rw [hx] at hn
   rw [(zdt code ext).2 ⟨n, hx⟩]
   obtain ⟨e, s'⟩ := p
   cases e with
   | normal => exact (zdt code ext).2 ⟨n, hn⟩
   | exit id => exact hn
   | ret => exact hn
 ·cases hx : den code ext a s with
  | none => simp [hx, andThen] at h
  | some p =>
   rw [hx] at h
   obtain ⟨n, hn⟩ := (zdt code ext).1 hx
   obtain ⟨e, s'⟩ := p
   cases e with
   | normal =>
    obtain ⟨k, hk⟩ := (zdt code ext).1 h
    refine (zdt code ext).2 ⟨max n k, ?_⟩
    simp only [exCode]
    rw [zez (c := callW code ext) (fun _ _ _ _ h => h) (Nat.le_max_left n k) a hn]
    exact zez (c := callW code ext) (fun _ _ _ _ h => h) (Nat.le_max_right n k) b hk
   | exit id => exact (zdt code ext).2 ⟨n, by simp only [exCode]; rw [hn]; exact h⟩
   | ret => exact (zdt code ext).2 ⟨n, by simp only [exCode]; rw [hn]; exact h⟩
theorem zdl (c : Src) (a b : XCode) (s : St) (t : Bool) (h : s.env.ev c = .imm (.val (.bool t))) : den code ext (.cond c a b) s = if t then den code ext a s else den code ext b s := by
 refine zmn fun r => ⟨fun hr => ?_, fun hr => ?_⟩
 ·obtain ⟨n, hn⟩ := (zdt code ext).1 hr
  simp only [exCode, h] at hn
  cases t
  ·exact (zdt code ext).2 ⟨n, hn⟩
  ·exact (zdt code ext).2 ⟨n, hn⟩
 ·cases t
  ·obtain ⟨n, hn⟩ := (zdt code ext).1 hr
   exact (zdt code ext).2 ⟨n, by simp only [exCode, h]; exact hn⟩
  ·obtain ⟨n, hn⟩ := (zdt code ext).1 hr
   exact (zdt code ext).2 ⟨n, by simp only [exCode, h]; exact hn⟩
def blockOut (id : Nat) (p : Option (XExit × St)) : Option (XExit × St) :=
 match p with
 | some (.exit j, s) => if j = id then some (.normal, s) else some (.exit j, s)
 | r => r
theorem zdk (id : Nat) (b : XCode) (s : St) : den code ext (.block id b) s = blockOut id (den code ext b s) := by
 refine zmn fun r => ⟨fun h => ?_, fun h => ?_⟩
 ·obtain ⟨n, hn⟩ := (zdt code ext).1 h
  simp only [exCode] at hn
  cases hx : exCode (callW code ext) n b s with
  | none => simp [hx] at hn
  | some p => rw [(zdt code ext).2 ⟨n, hx⟩]; rw [hx] at hn; exact hn
 ·cases hx : den code ext b s with
  | none => simp [hx, blockOut] at h
  | some p =>
   obtain ⟨n, hn⟩ := (zdt code ext).1 hx
   rw [hx] at h
   exact (zdt code ext).2 ⟨n, by simp only [exCode]; rw [hn]; exact h⟩
theorem zdn (keep : List Nat) (b : XCode) (s : St) : den code ext (.loop keep b) s = andThen (den code ext b (s.tidy keep)) (den code ext (.loop keep b)) := by
 refine zmn fun r => ⟨fun h => ?_, fun h => ?_⟩
 ·obtain ⟨n, hn⟩ := (zdt code ext).1 h
  simp only [exCode] at hn
  cases n with
  | zero => simp [rounds] at hn
  | succ n =>
   simp only [rounds] at hn
   cases hx : exCode (callW code ext) (n + 1) b (s.tidy keep) with
   | none => simp [hx] at hn
   | some p =>
    rw [(zdt code ext).2 ⟨n + 1, hx⟩]
    rw [hx] at hn
    obtain ⟨e, s'⟩ := p
    cases e with
    | normal => exact (zdt code ext).2 ⟨n + 1, by simp only [exCode]; exact zqj (fun _ _ h => h) n (n + 1) (Nat.le_succ n) hn⟩
    | exit id => exact hn
    | ret => exact hn
 ·cases hx : den code ext b (s.tidy keep) with
  | none => simp [hx, andThen] at h
  | some p =>
   rw [hx] at h
   obtain ⟨n, hn⟩ := (zdt code ext).1 hx
   obtain ⟨e, s'⟩ := p
   cases e with
   | normal =>
    obtain ⟨k, hk⟩ := (zdt code ext).1 h
    refine (zdt code ext).2 ⟨max n k + 1, ?_⟩
    simp only [exCode, rounds] at hk ⊢
    rw [zez (c := callW code ext) (d := callW code ext) (fun _ _ _ _ h => h) (m := max n k + 1) (by omega) b hn]
    exact zqj (fun s r hs => zez (c := callW code ext) (d := callW code ext) (fun _ _ _ _ h => h) (by omega) b hs) k (max n k) (by omega) hk
   | exit id =>
    refine (zdt code ext).2 ⟨n + 1, ?_⟩
    simp only [exCode, rounds]
    rw [zez (c := callW code ext) (d := callW code ext) (fun _ _ _ _ h => h) (m := n + 1) (by omega) b hn]
    exact h
   | ret =>
    refine (zdt code ext).2 ⟨n + 1, ?_⟩
    simp only [exCode, rounds]
    rw [zez (c := callW code ext) (d := callW code ext) (fun _ _ _ _ h => h) (m := n + 1) (by omega) b hn]
    exact h
def funOut (f : XFun) (p : Option (XExit × St)) : Option (AV × Mem) :=
 match p with
 | some (.normal, s) | some (.ret, s) => leave s f
 | _ => none
theorem zbs {fn : Nat} {f : XFun} (hf : code fn = some f) (as : List AV) (m : Mem) :
  callW code ext fn as m = funOut f (den code ext f.body { k := m.length, env := enter 0 as, mem := m }) := by
 refine zmn fun r => ⟨fun h => ?_, fun h => ?_⟩
 ·obtain ⟨n, hn⟩ := (zbt code ext).1 h
  cases n with
  | zero => simp [callN] at hn
  | succ n =>
   simp only [callN, hf, exFun] at hn
   cases hx : exCode (callN code ext n) n f.body { k := m.length, env := enter 0 as, mem := m } with
   | none => simp [hx] at hn
   | some p =>
    rw [(zdt code ext).2 ⟨n, zez (zaa code ext n) (Nat.le_refl n) f.body hx⟩]
    rw [hx] at hn
    exact hn
 ·cases hx : den code ext f.body { k := m.length, env := enter 0 as, mem := m } with
  | none => simp [hx, funOut] at h
  | some p =>
   rw [hx] at h
   obtain ⟨n, hn⟩ := (zdt code ext).1 hx
   obtain ⟨k, hk⟩ := zey code ext n f.body hn
   refine (zbt code ext).2 ⟨max n k + 1, ?_⟩
   simp only [callN, hf, exFun]
   rw [zez (zbp code ext (Nat.le_max_right n k)) (Nat.le_max_left n k) f.body hk]
   exact h
theorem zbr {fn : Nat} (hf : code fn = none) (hy : fn ≠ yieldNo) (as : List AV) (m : Mem) : callW code ext fn as m = ext fn as m := by
 refine zmn fun r => ⟨fun h => ?_, fun h => (zbt code ext).2 ⟨1, by simpa [callN, hf, hy] using h⟩⟩
 obtain ⟨n, hn⟩ := (zbt code ext).1 h
 cases n with
 | zero => simp [callN] at hn
 | succ n => simpa [callN, hf, hy] using hn
end
end Go.EX


namespace Go.EX
section
variable {num : Names} {P : Program}
def exitOf : XExit → Exit
 | .normal => .normal
 | .exit id => .exit id
 | .ret => .ret
theorem ztq {C : Cx} {s : St} {a : Act} (hs : SRep num C s a) (keep : List Nat) : ∃ D, D.w = C.w ∧ Later num s.k C s.mem a D (s.tidy keep) a := by
 obtain ⟨D, hw, h1, h2, h3⟩ := ztr hs keep
 exact ⟨D, hw, h1, h2, h3, rfl, fun lo _ h => h.step hs.mem h2⟩
theorem zh9 {C D : Cx} {m : Mem} {k : Nat} {s : St} {a a' : Act} (h : Later num k C m a D s a') (keep : List Nat) : Later num k C m a D { s with env := s.env.keep keep } a' :=
 ⟨⟨h.rep.mem, h.rep.env.keep keep, h.rep.k⟩, h.step, h.k, h.size, h.marks⟩
theorem zbc {call : Calls'} {n : Nat} {xc : XCode} {s : St} (h : (.cond (.c .nilFunc) .skip .skip : XCode) = xc.wipe) : exCode call n xc s = none := by
 cases xc <;> simp only [XCode.wipe, reduceCtorEq, XCode.cond.injEq] at h
 obtain ⟨rfl, _, _⟩ := h
 rfl
theorem zc5 {ro : Option Nat} {call : Calls'} (hcall : CallOK num P call) (hmix : P.follows .mixedOrders = true) (hL : ∀ a b ps N as bs, LoopOK P num a b ps N as bs → num.L a b ps N as bs) {N n : Nat} : ∀ (c : Code) (xc : XCode) {s s' : St} {e : XExit} {a : Act} {C : Cx} {Q : Exit → Act → World → Prop}, tr P num N c = xc.wipe → drawsOk c xc = true → (ro = none ∨ xc.still = true) →
  exCode call n xc s = some (e, s') → SRep num C s a → N ≤ a.tmps.size → (∀ D a', Later num s.k C s.mem a D s' a' → Q (exitOf e) a' D.w) → c.wpIn (fz ro) 0 P Q a C.w := by
 intro c
 induction c with
 | skip =>
  intro xc s s' e a C Q htr _ _ h hs _ hQ
  cases xc <;> simp only [tr, XCode.wipe, reduceCtorEq] at htr
  cases h
  exact wpIn_skip (hQ C a (.refl hs))
 | exit id =>
  intro xc s s' e a C Q htr _ _ h hs _ hQ
  cases xc <;> simp only [tr, XCode.wipe, reduceCtorEq, XCode.exit.injEq] at htr
  subst htr
  cases h
  exact wpIn_exit (hQ C a (.refl hs))
 | ret =>
  intro xc s s' e a C Q htr _ _ h hs _ hQ
  cases xc <;> simp only [tr, XCode.wipe, reduceCtorEq] at htr
  cases h
  exact wpIn_ret (hQ C a (.refl hs))
 | region id ops draw =>
  intro xc s s' e a C Q htr hd hro h hs hN hQ
  cases xc <;> simp only [tr, XCode.wipe, reduceCtorEq, XCode.region.injEq, true_and] at htr
  case lregion keep xs =>
   simp only [exCode] at h
   cases hx : exOps call s (xs.map XO.unlit) with
   | none => rw [hx] at h; cases h
   | some s1 =>
    rw [hx] at h
    cases h
    exact zjv hcall hmix htr hd hs hN hx fun D a' hl => hQ D a' (zh9 hl keep)
  rename_i keep xs
  simp only [exCode] at h
  cases hx : exOps call s xs with
  | none => rw [hx] at h; cases h
  | some s1 =>
   rw [hx] at h
   cases h
   exact zpf hcall hmix htr hd hs hN hx fun D a' hl => hQ D a' (zh9 hl keep)
 | seq x y ihx ihy =>
  intro xc s s' e a C Q htr hd hro h hs hN hQ
  cases xc <;> simp only [tr, XCode.wipe, reduceCtorEq, XCode.seq.injEq] at htr
  rename_i x' y'
  simp only [drawsOk, Bool.and_eq_true] at hd
  simp only [exCode] at h
  cases hx : exCode call n x' s with
  | none => rw [hx] at h; cases h
  | some p =>
   obtain ⟨e1, s1⟩ := p
   rw [hx] at h
   refine wpIn_seq (ihx x' htr.1 hd.1 (hro.imp id fun h => (Bool.and_eq_true_iff.1 h).1) hx hs hN fun D a' hl => ?_)
   cases e1 with
   | normal =>
    simp only [exitOf, Exit.then]
    exact ihy y' htr.2 hd.2 (hro.imp id fun h => (Bool.and_eq_true_iff.1 h).2) h hl.rep (by rw [hl.size]; exact hN) fun E a'' hl' => hQ E a'' (hl.trans (by rw [hl.k] at hl'; exact hl'))
   | exit id => cases h; exact hQ D a' hl
   | ret => cases h; exact hQ D a' hl
 | cond o x y ihx ihy =>
  intro xc s s' e a C Q htr hd hro h hs hN hQ
  simp only [tr] at htr
  split at htr
  ·rename_i o' ho
   cases xc <;> simp only [XCode.wipe, reduceCtorEq, XCode.cond.injEq] at htr
   rename_i o'' x' y'
   obtain ⟨rfl, h1, h2⟩ := htr
   simp only [drawsOk, Bool.and_eq_true] at hd
   simp only [exCode] at h
   split at h
   ·rename_i t ht
    have hv := zsq hs ho ht
    refine wpIn_cond hv ?_
    cases t with
    | true => simp only [if_true] at h ⊢; exact ihx x' h1 hd.1 (hro.imp id fun h => (Bool.and_eq_true_iff.1 h).1) h hs hN hQ
    | false => simp only [Bool.false_eq_true, if_false] at h ⊢; exact ihy y' h2 hd.2 (hro.imp id fun h => (Bool.and_eq_true_iff.1 h).2) h hs hN hQ
   ·cases h
  ·rw [zbc htr] at h; cases h
 | block id b ih =>
  intro xc s s' e a C Q htr hd hro h hs hN hQ
  cases xc <;> simp only [tr, XCode.wipe, reduceCtorEq, XCode.block.injEq] at htr
  rename_i id' b'
  obtain ⟨rfl, htr⟩ := htr
  simp only [drawsOk] at hd
  simp only [exCode] at h
  cases hx : exCode call n b' s with
  | none => rw [hx] at h; cases h
  | some p =>
   obtain ⟨e1, s1⟩ := p
   rw [hx] at h
   refine wpIn_block (ih b' htr hd hro hx hs hN fun D a' hl => ?_)
   cases e1 with
   | normal => cases h; exact hQ D a' hl
   | exit j =>
    simp only at h
    split at h
    ·rename_i hj; cases h; simp only [exitOf, Exit.inBlock, hj, if_true]; exact hQ D a' hl
    ·rename_i hj; cases h; simp only [exitOf, Exit.inBlock, hj, if_false]; exact hQ D a' hl
   | ret => cases h; exact hQ D a' hl
 | loop b ih =>
  intro xc s s' e a C Q htr hd hro h hs hN hQ
  cases xc <;> simp only [tr, XCode.wipe, reduceCtorEq, XCode.loop.injEq, true_and] at htr
  rename_i keep b'
  simp only [drawsOk] at hd
  simp only [exCode] at h
  have key : ∀ (m : Nat) (s : St) (a : Act) (C : Cx), rounds (fun s => exCode call n b' (s.tidy keep)) m s = some (e, s') → SRep num C s a → N ≤ a.tmps.size → (∀ D a', Later num s.k C s.mem a D s' a' → Q (exitOf e) a' D.w) → Code.roundsIn (fz ro) 0 P b Q m a C.w := by
   intro m
   induction m with
   | zero => intro s a C h; cases h
   | succ m ihm =>
    intro s a C h hs hN hQ
    simp only [rounds] at h
    obtain ⟨D0, hw, h0⟩ := ztq hs keep
    rw [roundsIn_succ, ← hw]
    cases hx : exCode call n b' (s.tidy keep) with
    | none => rw [hx] at h; cases h
    | some p =>
     obtain ⟨e1, s1⟩ := p
     rw [hx] at h
     refine ih b' htr hd hro hx h0.rep hN fun D a' hl => ?_
     rw [h0.k] at hl
     have hl := h0.trans hl
     cases e1 with
     | normal =>
      simp only [exitOf, Exit.then]
      exact ihm s1 a' D h hl.rep (by rw [hl.size]; exact hN) fun E a'' hl' => hQ E a'' (hl.trans (by rw [hl.k] at hl'; exact hl'))
     | exit id => cases h; exact hQ D a' hl
     | ret => cases h; exact hQ D a' hl
  exact wpIn_loop_rounds n (key n s a C h hs hN hQ)
 | scope b ih =>
  intro xc s s' e a C Q htr hd hro h hs hN hQ
  simp only [tr] at htr
  simp only [drawsOk] at hd
  refine zvk (ih xc htr hd hro h hs hN fun D a' hl => ?_)
  have := hQ D a' hl
  cases e <;> exact this
 | label l =>
  intro xc s s' e a C Q htr _ _ h hs _ hQ
  cases xc <;> simp only [tr, XCode.wipe, reduceCtorEq] at htr
  cases h
  exact wpIn_label (hQ C a (.refl hs))
 | rangeFunc f ps x y =>
  intro xc s s' e a C Q htr hd hro h hs hN hQ
  simp only [tr] at htr
  split at htr
  ·rename_i f' hf
   split at htr
   ·rename_i hps
    cases xc <;> simp only [XCode.wipe, reduceCtorEq, XCode.rangeF.injEq, true_and] at htr
    rename_i f'' ps'' keep xa xb
    obtain ⟨rfl, rfl, ha, hb⟩ := htr
    simp only [drawsOk, Bool.and_eq_true] at hd
    rcases hro with rfl | hro
    ·cases h
    ·cases hro
   ·rw [zbc htr] at h; cases h
  ·rw [zbc htr] at h; cases h
 | _ =>
  intro xc s s' e a C Q htr _ _ h
  simp only [tr] at htr
  rw [zbc htr] at h; cases h
structure FunOK (P : Program) (num : FuncId → Nat) (f : FuncId) (xf : XFun) : Prop where
 fn : ∃ fn c, P.funcs[f]? = some fn ∧ fn.name ≠ "runtime.NumGoroutine" ∧ fn.body = some c ∧ tr P num fn.ntmps c = xf.body.wipe ∧ drawsOk c xf.body = true ∧ fn.results.toList.map (trRes P) = xf.res ∧ (∀ t ty, ResultVar.cell t ty ∈ fn.results → known P ty = true)
def resKnown (P : Program) : ResultVar → Bool
 | .tmp _ => true
 | .cell _ ty => known P ty
theorem FunOK.of {num : FuncId → Nat} {f : FuncId} {xf : XFun} {fn : Func} (h : P.funcs[f]? = some fn) (hn : (fn.name == "runtime.NumGoroutine") = false) (ht : fn.body.map (tr P num fn.ntmps) = some xf.body.wipe) (hd : fn.body.map (drawsOk · xf.body) = some true)
  (hr : fn.results.toList.map (trRes P) = xf.res) (hk : fn.results.toList.all (resKnown P) = true) : FunOK P num f xf := by
 cases hb : fn.body with
 | none => rw [hb] at ht; cases ht
 | some c =>
  rw [hb] at ht hd
  refine ⟨fn, c, h, by simpa using hn, hb, Option.some.inj ht, Option.some.inj hd, hr, fun t ty hm => ?_⟩
  exact List.all_eq_true.1 hk _ (Array.mem_toList_iff.2 hm)
def resSem (tmps : Array Value) : ResultVar → Sem Value
 | .tmp t => pure (tmps.getD t undef)
 | .cell a t => do loadVar t (← asAddr (tmps.getD a undef))
theorem zp0 (fn : Func) (tmps : Array Value) : results fn tmps = (do let vs ← fn.results.mapM (resSem tmps); pure (if h : vs.size = 1 then vs[0] else .tuple vs)) := by
 rfl
theorem zrc {fn : Func} {tmps : Array Value} {C : Cx} {s : St} {vs : List AV} (hm : MRep num C s.mem) (he : ERep num C s.env tmps) (hk : ∀ t ty, ResultVar.cell t ty ∈ fn.results → known P ty = true) (h : (fn.results.toList.map (trRes P)).mapM (resOf s) = some vs) :
  ∃ v, (results fn tmps).run P C.w = .ok v C.w ∧ ARep num C (wrapRes vs) v := by
 have key : ∀ (l : List ResultVar) (vs : List AV), (∀ t ty, ResultVar.cell t ty ∈ l → known P ty = true) → (l.map (trRes P)).mapM (resOf s) = some vs →
   ∃ us : List Value, (l.mapM (resSem tmps)).run P C.w = .ok us C.w ∧ vs.length = us.length ∧ ∀ (j : Nat) (x : AV) (u : Value), vs[j]? = some x → us[j]? = some u → ARep num C x u := by
  intro l
  induction l with
  | nil => intro vs _ h; simp at h; subst h; exact ⟨[], by simp, rfl, fun j x u hx _ => by simp at hx⟩
  | cons r l ih =>
   intro vs hk h
   simp only [List.map_cons, List.mapM_cons, Option.bind_eq_bind, Option.pure_def] at h
   cases hr : resOf s (trRes P r) with
   | none => rw [hr] at h; simp at h
   | some x =>
    rw [hr] at h
    cases hrest : (l.map (trRes P)).mapM (resOf s) with
    | none => rw [hrest] at h; simp at h
    | some xs =>
     rw [hrest] at h
     simp at h
     subst h
     obtain ⟨us, h1, h2, h3⟩ := ih xs (fun t ty hm => hk t ty (List.mem_cons_of_mem _ hm)) hrest
     have hone : ∃ u, (resSem tmps r).run P C.w = .ok u C.w ∧ ARep num C x u := by
      cases r with
      | tmp t => simp only [trRes, resOf, Option.some.injEq] at hr; subst hr; exact ⟨tmps.getD t undef, by simp only [resSem, Sem.run_pure], he t⟩
      | cell t ty =>
       simp only [trRes, resOf] at hr
       obtain ⟨b, o, u, hv, h4, h5⟩ := zq9 (hk t ty (List.mem_cons_self ..)) hm (he t) hr
       refine ⟨u, ?_, h5⟩
       simp only [resSem, hv, asAddr, Sem.run_bind, Sem.run_pure, Result.andThen_ok, h4]
     obtain ⟨u, h4, h5⟩ := hone
     refine ⟨u :: us, ?_, by simp [h2], fun j y z hy hz => ?_⟩
     ·rw [List.mapM_cons]
      simp [h4, h1]
     ·cases j with
      | zero => simp at hy hz; subst hy; subst hz; exact h5
      | succ j => exact h3 j y z (by simpa using hy) (by simpa using hz)
 obtain ⟨us, h1, h2, h3⟩ := key fn.results.toList vs (fun t ty hm => hk t ty (Array.mem_toList_iff.1 hm)) h
 have hrun : (results fn tmps).run P C.w = .ok (if h : us.toArray.size = 1 then us.toArray[0] else .tuple us.toArray) C.w := by
  rw [zp0, Array.mapM_eq_mapM_toList]
  simp [h1]
 refine ⟨_, hrun, ?_⟩
 cases vs with
 | nil =>
  have : us = [] := by simpa using h2.symm
  subst this
  exact .tup [] #[] rfl fun j x u hx _ => by simp at hx
 | cons x r =>
  cases us with
  | nil => simp at h2
  | cons u us =>
   cases r with
   | nil =>
    have : us = [] := by simpa using h2.symm
    subst this
    exact h3 0 x u rfl rfl
   | cons y r =>
    cases us with
    | nil => simp at h2
    | cons u' us =>
     simp only [wrapRes]
     rw [dif_neg (by simp)]
     exact .tup _ _ (by simpa using h2) fun j x u hx hu => h3 j x u hx (by simpa using hu)
theorem zej : ∀ (l : List AV) (i t : Nat), (enter i l).get t = if i ≤ t then (l[t - i]?).getD .junk else .junk
 | [], i, t => by simp [enter, Env.get]
 | x :: r, i, t => by
  simp only [enter, Env.get]
  by_cases h : t = i
  ·subst h; simp
  ·rw [if_neg h, zej r (i + 1) t]
   by_cases h' : i ≤ t
   ·have h1 : i + 1 ≤ t := by omega
    have h2 : t - i = (t - (i + 1)) + 1 := by omega
    rw [if_pos h', if_pos h1, h2]; simp
   ·rw [if_neg h', if_neg (by omega)]
theorem zvj {F : Fence} {n : Nat} {c : Code} {Q Q' : Exit → Act → World → Prop} {a : Act} {w : World} (h : c.wpIn F n P Q a w) (hq : ∀ e a w, Q e a w → Q' e a w) : c.wpIn F n P Q' a w := Code.wpIn_mono hq h
theorem zi6 {fn : Func} {k : Nat} {C : Cx} {m m1 : Mem} {e : Env} {tmps : Array Value} {R : Ending → World → Prop} : ∀ {ds : List Deferred} {D : Cx}, Step num k C m D m1 → ERep num D e tmps → Marked C.w.heap.size D ds →
  (∀ D, Step num k C m D m1 → ERep num D e tmps → ∃ v, (results fn tmps).run P D.w = .ok v D.w ∧ R (.returned v) D.w) → LeavesInM Fence.wide 0 P fn tmps R ds .returning D.w := by
 intro ds
 induction ds with
 | nil => intro D hst hen _ h; exact h D hst hen
 | cons d ds ih =>
  intro D hst hen hmk h
  obtain ⟨rs, h1, h2, h3⟩ := hmk
  cases rs with
  | nil => cases h1
  | cons r rs =>
   simp only [List.map_cons, List.cons.injEq] at h1
   obtain ⟨rfl, rfl⟩ := h1
   obtain ⟨hr, hrs⟩ := List.nodup_cons.1 h2
   obtain ⟨g1, g2, g3⟩ := h3 r (List.mem_cons_self ..)
   have hc : ∀ arr e fz, D.w.heap[r]? ≠ some (.cells arr e fz) := fun arr e fz h => by rw [g2] at h; cases h
   have hown : ¬ Own D m1 r := fun ho => by
    rcases zm7 hst.rep ho with ⟨_, _, _, h⟩ | ⟨_, _, h⟩ | ⟨_, h⟩ | ⟨_, _, h⟩ <;> rw [g2] at h <;> cases h
   refine ⟨by simp, .inl ⟨r, D.w.putObj r (.deferred none), rfl, run_takeDeferred g2, ?_⟩⟩
   refine ih (D := { D with w := D.w.putObj r (.deferred none) }) (zn7 hst g1 g3 hc hown) (hen.mono (zn8 g3 hc)) ⟨rs, rfl, hrs, fun q hq => ?_⟩ h
   obtain ⟨q1, q2, q3⟩ := h3 q (List.mem_cons_of_mem _ hq)
   exact ⟨q1, (World.putObj_heap_other fun h => hr (by rw [← h]; exact hq)).trans q2, q3⟩
theorem fun_ok {call : Calls'} (hcall : CallOK num P call) (hmix : P.follows .mixedOrders = true) (hL : ∀ a b ps N as bs, LoopOK P num a b ps N as bs → num.L a b ps N as bs) {n : Nat} {f : FuncId} {xf : XFun} (hf : FunOK P num f xf) {args : List AV} {m m' : Mem} {r : AV} {C : Cx} {vals : Array Value} (h : exFun call n xf args m = some (r, m')) (hm : MRep num C m) (hl : args.length = vals.size)
  (hr : ∀ (j : Nat) (x : AV) (u : Value), args[j]? = some x → vals[j]? = some u → ARep num C x u) :
  Callable P f ∧ Calls P f vals C.w (fun e w' => ∃ v D, e = .returned v ∧ D.w = w' ∧ Step num m.length C m D m' ∧ ARep num D r v) := by
 obtain ⟨fn, c, h1, h2, h3, h4, h5, h6, h7⟩ := hf.fn
 refine ⟨⟨fn, h1, h2, by rw [h3]; rfl⟩, (callsIn_wide (n := 0)).1 (callsIn_of_wp_marks h1 h3 trivial ?_)⟩
 generalize ha : ({ tmps := vals ++ Array.replicate (fn.ntmps - vals.size) undef, defers := [] } : Act) = a
 have hN : fn.ntmps ≤ a.tmps.size := by rw [← ha]; simp; omega
 have hs : SRep num C { k := m.length, env := enter 0 args, mem := m } a := by
  refine ⟨hm, fun t => ?_, Nat.le_refl _⟩
  rw [zej]
  simp only [Nat.zero_le, if_true, Nat.sub_zero]
  cases hx : args[t]? with
  | none => exact .junk _
  | some x =>
   have ht : t < vals.size := by rw [← hl]; exact (List.getElem?_eq_some_iff.1 hx).1
   have : a.tmps.getD t undef = vals[t] := by
    rw [← ha]
    simp only [Array.getD_eq_getD_getElem?, Array.getElem?_append, if_pos ht]
    simp [ht]
   rw [this]
   exact hr t x vals[t] hx (by simp [ht])
 have hmk0 : Marked C.w.heap.size C a.defers := ⟨[], by rw [← ha]; rfl, List.nodup_nil, fun r hr => by cases hr⟩
 have hdone : ∀ {s : St}, leave s xf = some (r, m') → ∀ D a', Later num m.length C m a D s a' → LeavesInM Fence.wide 0 P fn a'.tmps (fun e w' => ∃ v D, e = .returned v ∧ D.w = w' ∧ Step num m.length C m D m' ∧ ARep num D r v) a'.defers .returning D.w := by
  intro s hlv D a' hlat
  refine zi6 hlat.step hlat.rep.env (hlat.marks _ (Nat.le_refl _) hmk0) fun D hst hen => ?_
  unfold leave at hlv
  cases hv : xf.res.mapM (resOf s) with
  | none => rw [hv] at hlv; cases hlv
  | some vs =>
   rw [hv] at hlv
   rw [← h6] at hv
   obtain ⟨v, hrun, hx⟩ := zrc hst.rep hen h7 hv
   refine ⟨v, hrun, v, ?_⟩
   simp only [Option.map_some] at hlv
   split at hlv
   ·cases hlv
    exact ⟨D, rfl, rfl, hst, hx⟩
   ·cases hlv
    have hst1 := znl hst.rep (k := s.k) hlat.rep.k (wrapRes vs).refs
    have hst' : Step num m.length D s.mem (D.pick (order s.k (wrapRes vs).refs s.mem)) (s.mem.pickAll (order s.k (wrapRes vs).refs s.mem)) := hst1.le (by rw [hlat.k]; exact Nat.le_refl _)
    exact ⟨D.pick (order s.k (wrapRes vs).refs s.mem), rfl, rfl, hst.trans hst', hx.tr (znn _)⟩
 unfold exFun at h
 split at h
 ·rename_i s hx
  exact zvj (zc5 (ro := none) hcall hmix hL c xf.body h4 h5 (.inl rfl) hx hs hN (Q := fun e a' w => ∃ D, e = .normal ∧ D.w = w ∧ Later num m.length C m a D s a') fun D a' hlat => ⟨D, rfl, rfl, hlat⟩) fun e a' w ⟨D, h1, h2, h3⟩ => by
   subst h1 h2; exact hdone h D a' h3
 ·rename_i s hx
  exact zvj (zc5 (ro := none) hcall hmix hL c xf.body h4 h5 (.inl rfl) hx hs hN (Q := fun e a' w => ∃ D, e = .ret ∧ D.w = w ∧ Later num m.length C m a D s a') fun D a' hlat => ⟨D, rfl, rfl, hlat⟩) fun e a' w ⟨D, h1, h2, h3⟩ => by
   subst h1 h2; exact hdone h D a' h3
 ·cases h
theorem FunOK.one {num : FuncId → Nat} {f : FuncId} {xf : XFun} {fn : Func} (h : P.funcs[f]? = some fn) (e : (fn.name == "runtime.NumGoroutine", fn.body.map (tr P num fn.ntmps), fn.body.map (drawsOk · xf.body), fn.results.toList.map (trRes P), fn.results.toList.all (resKnown P)) = (false, some xf.body.wipe, some true, xf.res, true)) : FunOK P num f xf :=
 .of h (congrArg (·.1) e) (congrArg (·.2.1) e) (congrArg (·.2.2.1) e) (congrArg (·.2.2.2.1) e) (congrArg (·.2.2.2.2) e)
structure Runs (P : Program) (num : Names) (code : Nat → Option XFun) (ext : Calls') : Prop where
 mix : P.follows .mixedOrders = true
 fns : ∀ f xf, code (num f) = some xf → FunOK P num f xf
 ext : ExtOK num P ext
 nz : ∀ f, num f ≠ yieldNo
 yld : code yieldNo = none
 loops : ∀ a b ps N as bs, LoopOK P num a b ps N as bs ↔ num.L a b ps N as bs
 seat : ∀ e n off, liesB P e n off = true → num.B e n off
 byte : ∀ e, isU8 P e = true → P.cellsOf e = 1 → num.U e
theorem zrg {code : Nat → Option XFun} {ext : Calls'} (h : Runs P num code ext) : ∀ n, CallOK num P (callN code ext n)
 | 0 => ⟨fun f args m r m' C vals hc => (by cases hc), fun args m r m' C l vals hc => (by cases hc), h.seat, h.byte⟩
 | n + 1 => by
  refine ⟨fun f args m r m' C vals hc hm hl hr => ?_, fun args m r m' C l vals hc hm hl h0 hr => ?_, h.seat, h.byte⟩
  ·simp only [callN] at hc
   cases hf : code (num f) with
   | none => rw [hf] at hc; simp only [h.nz f, if_false] at hc; exact h.ext f args m r m' C vals hc hm hl hr
   | some xf => rw [hf] at hc; exact fun_ok (zrg h n) h.mix (fun a b ps N as bs => (h.loops a b ps N as bs).1) (h.fns f xf hf) hc hm hl hr
  ·simp only [callN, h.yld, if_true] at hc
   cases hc
theorem zrh {code : Nat → Option XFun} {ext : Calls'} (h : Runs P num code ext) : CallOK num P (callW code ext) := by
 refine ⟨fun f args m r m' C vals hc hm hl hr => ?_, fun args m r m' C l vals hc hm hl h0 hr => ?_, h.seat, h.byte⟩
 ·obtain ⟨n, hn⟩ := (zbt code ext).1 hc
  exact (zrg h n).fn f args m r m' C vals hn hm hl hr
 ·obtain ⟨n, hn⟩ := (zbt code ext).1 hc
  exact (zrg h n).yld args m r m' C l vals hn hm hl h0 hr
theorem zlm : ExtOK num P (fun _ _ _ => none) := fun f args m r m' C vals hc => by cases hc
end
end Go.EX


namespace Go.EX
open Go.RowKit
section
variable {num : Names} {P : Program} {code : Nat → Option XFun} {ext : Calls'}
def Cx.whole (w : World) : Cx := { σ := fun _ => 0, I := fun b => b < w.heap.size, n := 0, w := w }
theorem zu4 (w : World) (hG : num.G (fun b => b < w.heap.size) w) : MRep num (Cx.whole w) [] :=
 ⟨rfl, fun id o h => by simp at h, fun i j o p h => by simp at h, fun b ⟨id, o, h, _⟩ => by simp at h, fun b h => h, hG⟩
end
end Go.EX


namespace Go.EX
open Go.RowKit
structure Ty (α : Type) where
 sz : Nat
 agg : Bool
 enc : α → List IV
 wf : α → Prop
 len : ∀ x, (enc x).length = sz
def tInt (k : IntKind) : Ty Int := ⟨1, false, fun n => [.val (.int k n)], fun n => (Lit.int k n).wf = true, fun _ => rfl⟩
def tStr : Ty ByteArray := ⟨1, false, fun s => [.val (.string s)], fun s => s.size ≤ 140737488355328, fun _ => rfl⟩
def Reads {α : Type} (t : Ty α) (iv : IV) (xs : List α) : Prop :=
 (∀ x ∈ xs, t.wf x) ∧ xs.length ≤ 140737488355328 ∧ ((iv = .val (.slice none 0 0) ∧ xs = []) ∨
  ∃ row off cap, iv = .slice row off xs.length cap ∧ (∀ c, cap = some c → xs.length ≤ c) ∧ cut row off (xs.length * t.sz) = some (xs.flatMap t.enc))
structure Sl {α : Type} (t : Ty α) where
 iv : IV
 xs : List α
 ok : Reads t iv xs
def tSl {α : Type} (t : Ty α) : Ty (Sl t) := ⟨1, false, fun s => [s.iv], fun _ => True, fun _ => rfl⟩
def tNil : Ty Unit := ⟨0, true, fun _ => [], fun _ => True, fun _ => rfl⟩
def tPair {α β : Type} (a : Ty α) (b : Ty β) : Ty (α × β) := ⟨a.sz + b.sz, true, fun x => a.enc x.1 ++ b.enc x.2, fun x => a.wf x.1 ∧ b.wf x.2, fun x => by simp [a.len, b.len]⟩
def Ty.av {α : Type} (t : Ty α) (x : α) : AV := if t.agg then .agg ((t.enc x).map .imm) else match t.enc x with
 | [y] => .imm y
 | _ => .junk
def ReadsAs {α : Type} (P : Program) (t : TypeId) (τ : Ty α) : Prop :=
 ∀ {H : Type} (enc : TypeId × Value → H) (w : World) (spare : Nat → Bool) (_ : ∀ b, spare b = true) (fuel : Nat) (cs : List Value) (x : DataW H × List MemPlace), DataW.trod enc P w 0 spare true fuel t cs = some x → (DataW.weights P t x.1).all (· ≤ reachBytes) = true →
  ∃ d : α, τ.wf d ∧ cs.length = τ.sz ∧ ∀ (j : Nat) (y : IV) (u : Value), (τ.enc d)[j]? = some y → cs[j]? = some u → IRep (fun b => b < w.heap.size) w y u
section
variable {P : Program} {t : TypeId}
theorem readsInt {k : IntKind} (ht : P.underlying t = some (.int k)) : ReadsAs P t (tInt k) := by
 intro H enc w spare hsp fuel cs x h hwt
 obtain ⟨n, rfl, _, hw⟩ := DataW.trod_int ht h
 refine ⟨n, hw, rfl, fun j y u hy hu => ?_⟩
 cases j with
 | zero => simp [tInt] at hy hu; subst hy; subst hu; exact .val _ rfl
 | succ j => simp [tInt] at hy
theorem readsStr (ht : P.underlying t = some .string) : ReadsAs P t tStr := by
 intro H enc w spare hsp fuel cs x h hwt
 obtain ⟨s, rfl, rfl, hs⟩ := DataW.trod_string ht h
 refine ⟨s, by
  have h2 : s.data.toList.length ≤ reachBytes := by simpa [DataW.weights] using hwt
  have e : s.data.toList.length = s.size := Array.length_toList
  have e2 : reachBytes = 140737488351232 := rfl
  show s.size ≤ 140737488355328
  omega, rfl, fun j y u hy hu => ?_⟩
 cases j with
 | zero => simp [tStr] at hy hu; subst hy; subst hu; exact .val _ rfl
 | succ j => simp [tStr] at hy
theorem cells?_get {w : World} {base : Nat} {a : Addr} {n : Nat} {cs : List Value} (h : w.cells? base a n = some cs) : cs.length = n ∧ ∀ j, j < n → w.cell? (a.add j) = cs[j]? := by
 unfold World.cells? at h
 split at h
 ·refine ⟨by simpa using mapM_some_length h, fun j hj => ?_⟩
  exact mapM_some_get h j j (by simp [hj])
 ·cases h
theorem zf2 {α β : Type} (f : α → List β) (n : Nat) (hn : 0 < n) (hf : ∀ x, (f x).length = n) : ∀ (l : List α) (j : Nat), (l.flatMap f)[j]? = (l[j / n]?).bind fun x => (f x)[j % n]?
 | [], j => by simp
 | x :: r, j => by
  rw [List.flatMap_cons, List.getElem?_append, hf x]
  by_cases h : j < n
  ·rw [if_pos h, Nat.div_eq_of_lt h, Nat.mod_eq_of_lt h]; rfl
  ·rw [if_neg h, zf2 f n hn hf r (j - n)]
   have h1 : j / n = (j - n) / n + 1 := by
    rw [← Nat.div_eq_sub_div hn (by omega)]
   have h2 : j % n = (j - n) % n := Nat.mod_eq_sub_mod (by omega)
   rw [h1, h2]; rfl
theorem zf3 {α β : Type} (f : α → List β) (n : Nat) (hf : ∀ x, (f x).length = n) : ∀ (l : List α), (l.flatMap f).length = l.length * n
 | [] => by simp
 | x :: r => by rw [List.flatMap_cons, List.length_append, hf x, zf3 f n hf r, List.length_cons, Nat.add_mul, Nat.one_mul, Nat.add_comm]
theorem zdb {α : Type} (l : List α) {n : Nat} (h : l.length = n) : cut l 0 n = some l := by
 subst h
 simp [cut]
theorem zcj {α : Type} (n : Nat) (p : Nat → α → Prop) (h : ∀ i, i < n → ∃ x, p i x) : ∃ l : List α, l.length = n ∧ ∀ i x, l[i]? = some x → p i x := by
 induction n with
 | zero => exact ⟨[], rfl, fun i x hx => by simp at hx⟩
 | succ n ih =>
  obtain ⟨l, h1, h2⟩ := ih fun i hi => h i (by omega)
  obtain ⟨x, hx⟩ := h n (by omega)
  refine ⟨l ++ [x], by simp [h1], fun i y hy => ?_⟩
  rw [List.getElem?_append] at hy
  split at hy
  ·exact h2 i y hy
  ·have : i = n := by
    have := (List.getElem?_eq_some_iff.1 hy).1
    simp at this; omega
   subst this
   simp [h1] at hy
   subst hy; exact hx
theorem zuw {H : Type} {e : TypeId} : ∀ (l : List (DataW H)), (DataW.weightsAll P e l).all (· ≤ reachBytes) = true → ∀ (i : Nat) (d : DataW H), l[i]? = some d → (DataW.weights P e d).all (· ≤ reachBytes) = true
 | [], _, i, d, h => by simp at h
 | x :: l, hw, i, d, h => by
  simp only [DataW.weightsAll, List.all_append, Bool.and_eq_true] at hw
  cases i with
  | zero => simp at h; subst h; exact hw.1
  | succ i => exact zuw l hw.2 i d (by simpa using h)
theorem zux {H : Type} : ∀ (ts : List TypeId) (l : List (DataW H)), (DataW.weightsEach P ts l).all (· ≤ reachBytes) = true → ∀ (i : Nat) (t : TypeId) (d : DataW H), ts[i]? = some t → l[i]? = some d → (DataW.weights P t d).all (· ≤ reachBytes) = true
 | [], _, _, i, t, d, h, _ => by simp at h
 | _ :: _, [], _, i, t, d, _, h => by simp at h
 | t0 :: ts, x :: l, hw, i, t, d, ht, h => by
  simp only [DataW.weightsEach, List.all_append, Bool.and_eq_true] at hw
  cases i with
  | zero => simp at h ht; subst h; subst ht; exact hw.1
  | succ i => exact zux ts l hw.2 i t d (by simpa using ht) (by simpa using h)
theorem readsSl {α : Type} {e : TypeId} {τ : Ty α} (ht : P.underlying t = some (.slice e)) (he : ReadsAs P e τ) (hc : P.cellsOf e = τ.sz) (h0 : 0 < τ.sz) (hby : 0 < P.bytesOf e) : ReadsAs P t (tSl τ) := by
 intro H enc w spare hsp fuel cs x h hwt
 have hlt := DataW.trod_lt _ _ _ _ h
 rcases DataW.trod_slice ht h with ⟨rfl, _⟩ | ⟨a, len, cap, elems, rest, n, _, rfl, rfl, hb, hl, hm, hel, h1, h2, _⟩
 ·refine ⟨⟨.val (.slice none 0 0), [], fun x hx => (by cases hx), by simp, .inl ⟨rfl, rfl⟩⟩, trivial, rfl, fun j y u hy hu => ?_⟩
  cases j with
  | zero => simp [tSl] at hy hu; subst hy; subst hu; exact .val _ rfl
  | succ j => simp [tSl] at hy
 ·obtain ⟨hr, h3⟩ := h2 (hsp _)
  simp only [DataW.weights, ht, List.all_cons, List.all_append, Bool.and_eq_true, decide_eq_true_eq, List.length_map] at hwt
  have hlong : elems.length + rest.length ≤ reachBytes := Nat.le_trans (Nat.le_mul_of_pos_right _ hby) hwt.1
  have hwe := hwt.2.1
  have hone : ∀ i, i < len → ∃ d : α, τ.wf d ∧ ∀ j y, (τ.enc d)[j]? = some y → ∃ u, w.cell? ((a.add (i * τ.sz)).add j) = some u ∧ IRep (fun b => b < w.heap.size) w y u := by
   intro i hi
   have h4 := h1 i hi
   have hei : ∃ z, elems[i]? = some z := by
    have hie : i < elems.length := by omega
    exact ⟨_, List.getElem?_eq_getElem hie⟩
   obtain ⟨z, hz⟩ := hei
   rw [hz] at h4
   rw [Option.bind_eq_some_iff] at h4
   obtain ⟨cs, h5, h6⟩ := h4
   obtain ⟨d, hd, hlen, hrep⟩ := he enc w spare hsp n cs z h6 (zuw _ hwe i z.1 (by rw [List.getElem?_map, hz]; rfl))
   obtain ⟨h7, h8⟩ := cells?_get h5
   refine ⟨d, hd, fun j y hy => ?_⟩
   have hj : j < cs.length := by
    rw [hlen]
    have := (List.getElem?_eq_some_iff.1 hy).1
    rw [τ.len] at this; exact this
   refine ⟨cs[j], ?_, hrep j y _ hy (List.getElem?_eq_getElem hj)⟩
   have := h8 j (by rw [← h7]; exact hj)
   rw [hc] at this
   rw [this]; exact List.getElem?_eq_getElem hj
  obtain ⟨xs, hxl, hxs⟩ := zcj len _ hone
  have hmax : xs.length ≤ 140737488355328 := by have e : reachBytes = 140737488351232 := rfl; omega
  refine ⟨⟨.slice (xs.flatMap τ.enc) 0 xs.length (some cap), xs, fun x hx => ?_, by omega, .inr ⟨_, 0, some cap, rfl, fun c hc => by cases hc; omega, zdb _ (zf3 _ _ τ.len xs)⟩⟩, trivial, rfl, fun j y u hy hu => ?_⟩
  ·obtain ⟨i, hi, rfl⟩ := List.mem_iff_getElem.1 hx
   exact (hxs i _ (List.getElem?_eq_getElem hi)).1
  cases j with
  | succ j => simp [tSl] at hy
  | zero =>
   simp [tSl] at hy hu; subst hy; subst hu
   by_cases hcap : cap = 0
   ·subst hcap
    have : len = 0 := by omega
    subst this
    rw [hxl]
    exact .vac _ 0 a
   ·have hblk : a.block < w.heap.size := by
     have hin : MemPlace.cell a.block a.off ∈ MemPlace.row a ((elems.length + rest.length) * P.cellsOf e) := by
      simp only [MemPlace.row, List.mem_map, List.mem_range]
      refine ⟨0, ?_, by simp⟩
      exact Nat.mul_pos (by omega) (by omega)
     exact hlt _ (List.mem_append_left _ hin)
    have hspot : a.spot = none := by
     have : ∃ z cs, w.cells? 0 a (P.cellsOf e) = some cs ∧ z = cs := by
      by_cases hl0 : 0 < len
      ·have h4 := h1 0 hl0
       have hie : 0 < elems.length := by omega
       rw [List.getElem?_eq_getElem hie, Option.bind_eq_some_iff] at h4
       obtain ⟨cs, h5, _⟩ := h4
       simp [Addr.add] at h5
       exact ⟨cs, cs, h5, rfl⟩
      ·have h4 := h3 0 (by omega)
       have hie : 0 < rest.length := by omega
       rw [List.getElem?_eq_getElem hie, Option.bind_eq_some_iff] at h4
       obtain ⟨cs, h5, _⟩ := h4
       have : len = 0 := by omega
       subst this
       simp [Addr.add] at h5
       exact ⟨cs, cs, h5, rfl⟩
     obtain ⟨_, cs, h5, _⟩ := this
     obtain ⟨h7, h8⟩ := cells?_get h5
     have h9 := h8 0 (by omega)
     have hj : 0 < cs.length := by omega
     rw [List.getElem?_eq_getElem hj] at h9
     have := World.cell?_spot h9
     simpa [Addr.add] using this
    obtain ⟨b, o, sp⟩ := a
    simp only at hspot
    subst hspot
    have hcell : ∀ j y, (xs.flatMap τ.enc)[j]? = some y → ∃ u, w.cell? ⟨b, o + j, none⟩ = some u ∧ IRep (fun b => b < w.heap.size) w y u := by
     intro j y hy
     rw [zf2 _ _ h0 τ.len, Option.bind_eq_some_iff] at hy
     obtain ⟨d, hd, hy⟩ := hy
     obtain ⟨u, hu, hr⟩ := (hxs _ _ hd).2 _ _ hy
     refine ⟨u, ?_, hr⟩
     rw [zai, zai] at hu
     rw [← hu]
     congr 2
     have := Nat.div_add_mod j τ.sz
     rw [Nat.mul_comm] at this
     omega
    rw [← hxl]
    refine IRep.slice (I := fun b => b < w.heap.size) (xs.flatMap τ.enc) 0 xs.length (some cap) b o cap o (fun j => (w.cell? ⟨b, o + j, none⟩).getD undef) hblk (fun j y hy => ?_) (fun j y hy => ?_) (by omega) (fun k hk => by cases hk; rfl) (.inl rfl)
    ·obtain ⟨u, hu, _⟩ := hcell j y hy
     simp only [hu]; rfl
    ·obtain ⟨u, hu, hr⟩ := hcell j y hy
     simp only [hu]; exact hr
def ReadsRow {α : Type} (P : Program) (fs : List Field) (at' : Nat) (τ : Ty α) : Prop :=
 ∀ {H : Type} (enc : TypeId × Value → H) (w : World) (spare : Nat → Bool) (_ : ∀ b, spare b = true) (fuel : Nat) (cs : List Value), (∀ f ∈ fs, ∃ x, DataW.trod enc P w 0 spare true fuel f.type ((cs.drop f.offset).take (P.cellsOf f.type)) = some x ∧ (DataW.weights P f.type x.1).all (· ≤ reachBytes) = true) →
  ∃ d : α, τ.wf d ∧ ∀ (j : Nat) (y : IV) (u : Value), (τ.enc d)[j]? = some y → cs[at' + j]? = some u → IRep (fun b => b < w.heap.size) w y u
theorem readsNil (n : Nat) : ReadsRow P [] n tNil := by
 intro H enc w spare hsp fuel cs h
 exact ⟨(), trivial, fun j y u hy => by simp [tNil] at hy⟩
theorem readsCons {α β : Type} {f : Field} {fs : List Field} {n : Nat} {τ : Ty α} {σ : Ty β} (h1 : ReadsAs P f.type τ) (ho : f.offset = n) (hc : P.cellsOf f.type = τ.sz) (h2 : ReadsRow P fs (n + τ.sz) σ) : ReadsRow P (f :: fs) n (tPair τ σ) := by
 intro H enc w spare hsp fuel cs h
 obtain ⟨x, hx, hxw⟩ := h f (List.mem_cons_self ..)
 obtain ⟨d, hd, hl, hr⟩ := h1 enc w spare hsp fuel _ _ hx hxw
 obtain ⟨d', hd', hr'⟩ := h2 enc w spare hsp fuel cs fun g hg => h g (List.mem_cons_of_mem _ hg)
 refine ⟨(d, d'), ⟨hd, hd'⟩, fun j y u hy hu => ?_⟩
 simp only [tPair] at hy
 rw [List.getElem?_append, τ.len] at hy
 split at hy
 ·rename_i hj
  refine hr j y u hy ?_
  rw [List.getElem?_take, hc, if_pos hj, List.getElem?_drop, ho]
  exact hu
 ·rename_i hj
  refine hr' _ y u hy ?_
  rw [← hu]
  congr 1
  omega
theorem readsStruct {α : Type} {fs : Array Field} {τ : Ty α} (ht : P.underlying t = some (.struct fs)) (hf : ReadsRow P fs.toList 0 τ) (hc : P.cellsOf t = τ.sz) : ReadsAs P t τ := by
 intro H enc w spare hsp fuel cs x h hwt
 obtain ⟨xs, n, _, rfl, hl, hxl, hg⟩ := DataW.trod_struct ht h
 simp only [DataW.weights, ht] at hwt
 obtain ⟨d, hd, hr⟩ := hf enc w spare hsp n cs fun f hmem => by
  obtain ⟨i, hi, rfl⟩ := List.mem_iff_getElem.1 hmem
  have hi' : i < fs.size := by simpa using hi
  have := hg i fs[i] (by simp [hi'])
  have hie : i < xs.length := by omega
  rw [List.getElem?_eq_getElem hie] at this
  exact ⟨_, by simpa using this, zux _ _ hwt i _ _ (by simp [hi']) (by rw [List.getElem?_map, List.getElem?_eq_getElem hie]; rfl)⟩
 exact ⟨d, hd, by rw [hl, hc], fun j y u hy hu => hr j y u hy (by simpa using hu)⟩
theorem readsVia {α β : Type} {τ : Ty α} {σ : Ty β} (h : ReadsAs P t τ) (f : α → β) (he : ∀ x, σ.enc (f x) = τ.enc x) (hw : ∀ x, τ.wf x → σ.wf (f x)) (hs : σ.sz = τ.sz) : ReadsAs P t σ := by
 intro H enc w spare hsp fuel cs x hx hwt
 obtain ⟨d, hd, hl, hr⟩ := h enc w spare hsp fuel cs x hx hwt
 exact ⟨f d, hw d hd, by rw [hl, hs], fun j y u hy hu => hr j y u (by rw [← he]; exact hy) hu⟩
end
end Go.EX


namespace Go.EX
open Go.RowKit Go.ChangeShapes Go.WideShapes Go.ChangeAt
def isAggT (P : Program) (t : TypeId) : Bool :=
 match P.underlying t with
 | some (.struct _) | some (.array ..) => true
 | _ => false
inductive ArgsOf (P : Program) : List TypeId → (List AV → Prop) → Prop
 | nil : ArgsOf P [] (fun az => az = [])
 | cons {α : Type} {t : TypeId} {τ : Ty α} {ts : List TypeId} {Q : List AV → Prop} (h : ReadsAs P t τ) (ha : isAggT P t = τ.agg) (r : ArgsOf P ts Q) : ArgsOf P (t :: ts) (fun az => ∃ x r, τ.wf x ∧ az = τ.av x :: r ∧ Q r)
section
variable {P : Program} {num : Names}
theorem zax {α : Type} {t : TypeId} {τ : Ty α} (h : ReadsAs P t τ) (ha : isAggT P t = τ.agg) {H : Type} {enc : TypeId × Value → H} {W : World} {b : Nat} {v : Value} {d : DataW H} {ps : List MemPlace}
  (hok : Value.okWide P W .any b t v) (ht : DataW.Trod enc P W 0 (fun _ => true) true t v d ps) (hwt : (DataW.weights P t d).all (· ≤ reachBytes) = true) : ∃ x : α, τ.wf x ∧ ARep num (Cx.whole W) (τ.av x) v := by
 obtain ⟨fuel, ht⟩ := ht
 obtain ⟨x, hx, hl, hr⟩ := h enc W _ (fun _ => rfl) fuel _ _ ht hwt
 refine ⟨x, hx, ?_⟩
 unfold Ty.av
 have hlen := τ.len x
 cases hag : τ.agg with
 | true =>
  rw [hag] at ha
  have : ∃ cs, v = .agg cs := by
   unfold isAggT at ha
   unfold Value.okWide at hok
   split at ha
   ·rename_i fs hu; rw [hu] at hok; obtain ⟨cs, h1, _⟩ := hok; exact ⟨cs, h1⟩
   ·rename_i n e hu; rw [hu] at hok; obtain ⟨cs, h1, _⟩ := hok; exact ⟨cs, h1⟩
   ·cases ha
  obtain ⟨cs, rfl⟩ := this
  have hcs : (Value.agg cs).cells = cs := rfl
  rw [hcs] at hl hr
  rw [if_pos rfl]
  have hget : ∀ (j : Nat) (u : Value), cs[j]? = some u → ∃ y, (τ.enc x)[j]? = some y ∧ IRep (fun b => b < W.heap.size) W y u := by
   intro j u hu
   have hj : j < (τ.enc x).length := by
    rw [hlen, ← hl]
    have := (Array.getElem?_eq_some_iff.1 hu).1
    simpa using this
   exact ⟨_, List.getElem?_eq_getElem hj, hr j _ u (List.getElem?_eq_getElem hj) (by simpa using hu)⟩
  refine .agg _ cs (by rw [List.length_map, hlen, ← hl]; simp) (fun j u hu => ?_) fun j y u hy hu => ?_
  ·obtain ⟨y, _, h2⟩ := hget j u hu
   exact h2.one
  ·rw [List.getElem?_map] at hy
   obtain ⟨z, h1, h2⟩ := hget j u hu
   rw [h1] at hy
   simp at hy; subst hy
   exact .imm _ _ h2
 | false =>
  rw [hag] at ha
  have hcell : Cell.okWide P W .any b t v := by
   unfold isAggT at ha
   unfold Value.okWide at hok
   split at hok
   ·rename_i fs hu; rw [hu] at ha; cases ha
   ·rename_i n e hu; rw [hu] at ha; cases ha
   ·exact hok
  have hone : v.cells.toList = [v] := by
   cases v <;> first | rfl | (exfalso; unfold Cell.okWide at hcell; split at hcell <;> first | cases ‹Value.agg _ = _› | cases ‹Value.tuple _ = _› | (unfold Cell.ok at hcell; split at hcell <;> first | exact hcell | cases ‹Value.agg _ = _› | cases ‹Value.tuple _ = _›))
  rw [hone] at hl hr
  simp only [Bool.false_eq_true, if_false]
  split
  ·rename_i y hy
   exact .imm _ _ (hr 0 y v (by rw [hy]; rfl) rfl)
  ·exact .junk _
theorem ziq {H : Type} {enc : TypeId × Value → H} {W : World} {b : Nat} : ∀ {ts : List TypeId} {Q : List AV → Prop} (_ : ArgsOf P ts Q) (vs : List Value) (ds : List (DataW H)) (ps : List MemPlace),
  (∀ (j : Nat) t v, ts[j]? = some t → vs[j]? = some v → Value.okWide P W .any b t v) → DataW.TrodAll enc P W 0 (fun _ => true) true ts vs ds ps → (DataW.weightsEach P ts ds).all (· ≤ reachBytes) = true →
  ∃ az, Q az ∧ az.length = vs.length ∧ ds.length = ts.length ∧ ∀ (j : Nat) (x : AV) (u : Value), az[j]? = some x → vs[j]? = some u → ARep num (Cx.whole W) x u := by
 intro ts Q h
 induction h with
 | nil =>
  intro vs ds ps _ ht _
  obtain ⟨rfl, rfl, _⟩ := trodAll_nil ht
  exact ⟨[], rfl, rfl, rfl, fun j x u hx => by simp at hx⟩
 | cons h ha r ih =>
  intro vs ds ps hok ht hwt
  obtain ⟨v0, vs0, d0, ds0, p0, q0, rfl, rfl, rfl, h0, r0⟩ := trodAll_cons ht
  obtain ⟨az, h1, h2, h3, h4⟩ := ih vs0 ds0 q0 (fun j t v hj hv => hok (j + 1) t v (by simpa using hj) (by simpa using hv)) r0 (by simp only [DataW.weightsEach, List.all_append, Bool.and_eq_true] at hwt; exact hwt.2)
  obtain ⟨x, hx, hr⟩ := zax (num := num) h ha (hok 0 _ v0 rfl rfl) h0 (by simp only [DataW.weightsEach, List.all_append, Bool.and_eq_true] at hwt; exact hwt.1)
  refine ⟨_ :: az, ⟨x, az, hx, rfl, h1⟩, by simp [h2], by simp [h3], fun j y u hy hu => ?_⟩
  cases j with
  | zero => simp at hy hu; subst hy; subst hu; exact hr
  | succ j => exact h4 j y u (by simpa using hy) (by simpa using hu)
theorem ztw {H : Type} {enc : TypeId × Value → H} (hl : laidOutB P = true) {W W' : World} (hb : Below W.heap.size W W') : ∀ {ts : List TypeId} {vs : List Value} {ds : List (DataW H)} {ps : List MemPlace},
  (ts.all fun t => P.readableRec t && decide (t < P.types.size)) = true → DataW.TrodAll enc P W 0 (fun _ => true) true ts vs ds ps → DataW.TrodAll enc P W' 0 (fun b => decide (b < W.heap.size)) true ts vs ds ps
 | [], vs, ds, ps, _, h => by
  obtain ⟨rfl, rfl, rfl⟩ := trodAll_nil h
  exact trodAll_mk0
 | t :: ts, vs, ds, ps, hts, h => by
  obtain ⟨v0, vs0, d0, ds0, p0, q0, rfl, rfl, rfl, h0, r0⟩ := trodAll_cons h
  simp only [List.all_cons, Bool.and_eq_true, decide_eq_true_eq] at hts
  have lt0 : ∀ x ∈ p0, x.block < W.heap.size := by obtain ⟨m, hm⟩ := h0; exact DataW.trod_lt m _ _ _ hm
  exact trodAll_cons_mk (Below.trod hl hts.1.1 hts.1.2 h0 hb lt0) (ztw hl hb hts.2 r0)
theorem zir {code : Nat → Option XFun} {ext : Calls'} (h : Runs P num code ext) {f : FuncId} {az : List AV} {vals : Array Value} {w : World} (hG : num.G (fun b => b < w.heap.size) w) {m : Mem} (hr : callW code ext (num f) az [] = some (.imm (.val (.bool true)), m)) (hl : az.length = vals.size)
  (ha : ∀ (j : Nat) (x : AV) (u : Value), az[j]? = some x → vals[j]? = some u → ARep num (Cx.whole w) x u) :
  Calls P f vals w fun e w' => e = .returned (.bool true) ∧ Below w.heap.size w w' := by
 obtain ⟨_, hc⟩ := (zrh h).fn f _ _ _ _ (Cx.whole w) vals hr (zu4 w hG) hl ha
 refine hc.mono fun e w' ⟨v, D, he, hw, hst, hv⟩ => ?_
 have := zpy hv
 subst this
 subst hw
 exact ⟨he, hst.os, hst.tape, hst.out, hst.size, fun k hk => hst.keep k hk fun ⟨i, o, h, _⟩ => by simp at h⟩
def LawSpec (s : ChangeSpec) (n : Nat) : Prop := s.vars = [] ∧ ∀ (H : Type) (ds : List (DataW H)), ds.length = n → s.fn H ds = { results := [.lit (.bool true)], args := ds }
end
end Go.EX

