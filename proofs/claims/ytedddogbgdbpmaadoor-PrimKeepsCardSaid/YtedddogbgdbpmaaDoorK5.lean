import Derived.Test.YtedddogbgdbpmaaDoorK3
import Derived.Laws.BytesString
import Derived.Lib.ConvBytes
import Derived.Test.YtedddogbgdbpmaaDoorK4
import Derived.RangeFuncRecord
import Derived.LoopN
import Derived.StillTail
import Derived.OrdersIn
import Derived.TacticsIn
import Derived.OwnWalkIn
set_option linter.unusedVariables false
set_option linter.unusedSimpArgs false
namespace Go.EX
section
variable {num : Names} {P : Program}
variable {ty : TypeId} {pos : String} {after : Array Edge} {a : Act} {C : Cx} {s : St}
theorem zhz {e : TypeId} (h : isU8 P e = true) : P.underlying e = some (.int .u8) := by
 unfold isU8 at h
 split at h
 ·assumption
 ·cases h
theorem y_idxP (hs : SRep num C s a) {t e : TypeId} {len : Nat} {x i : Operand} {x' i' : Src} (hx : trSrc num x = some x') (hi : trSrc num i = some i') (ht : P.underlying t = some (.array len e)) (hk : known P e = true)
  {n : Int} (hn : intOf (s.env.ev i') = some n) (hb : 0 ≤ n ∧ n < len) {y : AV} (hy : (match s.env.ev x' with | .imm (.ptr row o) => some (AV.imm (.ptr row (o + n.toNat * P.cellsOf e))) | .optr id o => some (.optr id (o + n.toNat * P.cellsOf e)) | _ => none) = some y) :
  Yields num P (.indexAddr t x i) ty pos after a C s y s := by
 obtain ⟨inf, d, hinf, hd, hsz, _⟩ := zim hk
 obtain ⟨kk, hie, _⟩ := zpx (zsp hs hi) hn
 have h1 := zsp hs hx
 generalize hu : a.eval x = u at h1
 have run : ∀ b o, u = .pointer (some ⟨b, o, none⟩) → ∀ dst g, (execOp a.eval ⟨dst, .indexAddr t x i, ty, pos, after, g⟩).run P C.w = .ok (.value (.pointer (some ⟨b, o + n.toNat * P.cellsOf e, none⟩))) C.w := by
  intro b o hb' dst g
  simp [execOp, hu, hb', hie, Instr.indexAt, asIntOf, run_underlying ht, zrd hinf, hb.1, hb.2, zai, hsz, Instr.sureAddr]
 split at hy
 ·rename_i row o heq
  cases hy
  rw [heq] at h1
  cases h1 with
  | imm _ _ h => cases h with
   | ptr _ _ b o' u' hI hc hu' =>
    refine zwj hs (run b (o' + o) rfl) ?_
    rw [Nat.add_assoc]
    exact .imm _ _ (.ptr row _ b o' u' hI hc hu')
 ·rename_i id o heq
  cases hy
  rw [heq] at h1
  cases h1 with
  | optr _ _ hid => exact zwj hs (run (C.σ id) o rfl) (.optr id _ hid)
 ·cases hy
theorem zwa (hs : SRep num C s a) {mn : Bool} {x y : Operand} {x' y' : Src} {ats : Array TypeId} (hx : trSrc num x = some x') (hy : trSrc num y = some y') {k j : IntKind} {m n : Int} (h1 : s.env.ev x' = .imm (.val (.int k m))) (h2 : s.env.ev y' = .imm (.val (.int j n))) :
  Yields num P (.call { callee := .builtin (if mn then .min else .max), args := #[x, y], argTypes := ats }) ty pos after a C s (.imm (.val (.int k (if mn then (if n < m then n else m) else (if m < n then n else m))))) s := by
 have hu := zsq hs hx h1
 have hv := zsq hs hy h2
 cases mn with
 | true =>
  refine zwj (v := .int k (if n < m then n else m)) hs (fun _ _ => ?_) (.imm _ _ (.val _ rfl))
  simp [execOp, resolve, invoke, builtin, hu, hv, Builtin.min_, Builtin.min2]
 | false =>
  refine zwj (v := .int k (if m < n then n else m)) hs (fun _ _ => ?_) (.imm _ _ (.val _ rfl))
  simp [execOp, resolve, invoke, builtin, hu, hv, Builtin.max_, Builtin.max2]
theorem zuc : ∀ (cs : List IV) (ns : List Int), u8s cs = some ns → ns.length = cs.length ∧ ∀ (j : Nat) x, cs[j]? = some x → ∃ n, x = .val (.int .u8 n) ∧ ns[j]? = some n
 | [], ns, h => by simp [u8s] at h; subst h; simp
 | c :: r, ns, h => by
  unfold u8s at h
  split at h
  ·rename_i he; cases he
  ·rename_i n r' he
   cases he
   simp only [Option.map_eq_some_iff] at h
   obtain ⟨ms, h1, rfl⟩ := h
   obtain ⟨h2, h3⟩ := zuc r ms h1
   refine ⟨by simp [h2], fun j x hx => ?_⟩
   cases j with
   | zero => simp at hx; exact ⟨n, hx.symm, by simp⟩
   | succ j => simpa using h3 j x (by simpa using hx)
  ·cases h
end
end Go.EX


namespace Go.EX
section
variable {num : Names} {P : Program}
variable {ty : TypeId} {pos : String} {after : Array Edge} {a : Act} {C : Cx} {s : St}
theorem zar {s : St} {sz b : Nat} {a x : AV} {r : AV × St} (h : exAppendM s sz b a x = some r) : exAppendR s sz b a x = some r := by
 unfold exAppendM at h
 split at h
 ·split at h
  ·rename_i h1 h2
   split at h
   ·rename_i hc
    obtain ⟨c1, rfl, c3, c4⟩ := hc
    unfold exAppendR
    simp only [h1, c1, c3, and_false, if_false, if_true, h2, c4]
    exact h
   ·cases h
  ·cases h
 ·cases h
theorem zjm (m : Mem) (agg : Option Nat) (y : IV) : loadAt m agg (.imm y) = loadAt [] agg (.imm y) := by cases y <;> rfl
theorem znd {place : Nat → Option (Nat × Nat)} {ps : List (Nat × Operand)} {α : Type} {f : List (Nat × Nat × Src) → α} {y : α} (h : (trParts num place ps).map f = some y) : ∃ qs, trParts num place ps = some qs ∧ f qs = y := by
 simpa [Option.map_eq_some_iff] using h
theorem zso {x : Operand} {α : Type} {f : Src → α} {y : α} (h : (trSrc num x).map f = some y) : ∃ z, trSrc num x = some z ∧ f z = y := by
 simpa [Option.map_eq_some_iff] using h
def Does (num : Names) (P : Program) (op : Op) (ty : TypeId) (pos : String) (after : Array Edge) (a : Act) (C : Cx) (s : St) (x : AV) (s' : St) : Prop :=
 Yields num P op ty pos after a C s x s' ∨ CallsTo num P op ty pos after a C s x s' ∨ GoesRound num P op ty pos after a C s x s'
theorem ze5 {call : Calls'} (hcall : CallOK num P call) (hs : SRep num C s a) {op : Op} {x : XOp} (htr : trOp P num op = some x.wipe) {r : AV} {s' : St} (h : exOp call s x = some (r, s')) : Does num P op ty pos after a C s r s' := by
 cases op with
 | move o =>
  simp only [trOp] at htr
  obtain ⟨z, hz, hx⟩ := zso htr
  cases x <;> simp only [XOp.wipe, XOp.mv.injEq, reduceCtorEq] at hx
  ·subst hx; cases h; exact .inl (y_mv hs hz)
  ·subst hx; cases h
  ·subst hx; exact .inl (y_ice hs hz h)
  ·cases h
 | assign o =>
  simp only [trOp] at htr
  obtain ⟨z, hz, hx⟩ := zso htr
  cases x <;> simp only [XOp.wipe, XOp.mv.injEq, reduceCtorEq] at hx
  ·subst hx; cases h; exact .inl (zvw hs hz)
  ·subst hx; cases h
  ·subst hx; exact .inl (y_iceA hs hz h)
  ·cases h
 | pick c o1 o2 =>
  simp only [trOp] at htr
  split at htr
  ·rename_i c' a' b' e1 e2 e3
   simp only [Option.some.injEq] at htr
   cases x <;> simp only [XOp.wipe, XOp.pick.injEq, reduceCtorEq] at htr
   obtain ⟨rfl, rfl, rfl⟩ := htr
   simp only [exOp] at h
   split at h
   ·rename_i t ht
    cases h
    exact .inl (y_pick hs e1 e2 e3 ht)
   ·cases h
  ·cases htr
 | alloc t =>
  simp only [trOp] at htr
  split at htr
  ·rename_i zs hz
   split at htr
   ·rename_i hone
    split at htr
    ·rename_i off hoff
     simp only [Option.some.injEq] at htr
     cases x <;> simp only [XOp.wipe, XOp.allocB.injEq, reduceCtorEq] at htr
     obtain ⟨rfl, rfl⟩ := htr
     cases h
     exact .inl (zvr hcall.seat hs hz hone hoff)
    ·simp only [Option.some.injEq] at htr
     cases x <;> simp only [XOp.wipe, XOp.alloc.injEq, reduceCtorEq] at htr
     subst htr
     cases h
     exact .inl (zvq hs hz hone)
   ·cases htr
  ·cases htr
 | box t o =>
  simp only [trOp] at htr
  split at htr
  ·have plain : ∀ (htr : (trSrc num o).map (XOp.box (P.cellsOf t)) = some x.wipe), Does num P (.box t o) ty pos after a C s r s' := by
    intro htr
    obtain ⟨z, hz, hx⟩ := zso htr
    cases x <;> simp only [XOp.wipe, XOp.box.injEq, reduceCtorEq] at hx
    obtain ⟨rfl, rfl⟩ := hx
    simp only [exOp] at h
    cases hc : (s.env.ev z).cells with
    | none => simp [hc] at h
    | some cs => rw [hc] at h; cases h; exact .inl (y_box hs hz hc)
   split at htr
   ·rename_i zs hzs
    split at htr
    ·rename_i off hoff
     split at htr
     ·rename_i hlen
      obtain ⟨z, hz, hx⟩ := zso htr
      cases x <;> simp only [XOp.wipe, XOp.boxB.injEq, reduceCtorEq] at hx
      obtain ⟨rfl, rfl, rfl⟩ := hx
      simp only [exOp] at h
      cases hc : (s.env.ev z).cells with
      | none => simp [hc] at h
      | some cs =>
       rw [hc] at h
       dsimp only at h
       split at h
       ·rename_i hcl
        split at h
        ·rename_i hnil
         cases h
         exact .inl (y_boxB hcall.seat hs hz hc hoff (by omega) hnil)
        ·cases h
       ·cases h
     ·cases htr
    ·exact plain htr
   ·exact plain htr
  ·cases htr
 | build t ps =>
  simp only [trOp] at htr
  split at htr
  ·cases htr
  ·rename_i zs hz
   split at htr
   ·cases htr
   ·rename_i hone
    have hone' : zs.all oneCellV = true := by simpa using hone
    split at htr
    ·rename_i fs ht
     split at htr
     ·rename_i hk
      obtain ⟨qs, hq, hx⟩ := znd htr
      cases x <;> simp only [XOp.wipe, XOp.build.injEq, reduceCtorEq] at hx
      obtain ⟨rfl, rfl⟩ := hx
      simp only [exOp] at h
      cases hf : fillAll (imZ zs) (qs.map fun (o, n, x) => (o, n, s.env.ev x)) with
      | none => rw [hf] at h; cases h
      | some cs => rw [hf] at h; cases h; exact .inl (zvx hs hz hone' hq (.inl ⟨fs, ht, hk, rfl⟩) hf)
     ·cases htr
    ·rename_i n e ht
     split at htr
     ·rename_i hk
      obtain ⟨qs, hq, hx⟩ := znd htr
      cases x <;> simp only [XOp.wipe, XOp.build.injEq, reduceCtorEq] at hx
      obtain ⟨rfl, rfl⟩ := hx
      simp only [exOp] at h
      cases hf : fillAll (imZ zs) (qs.map fun (o, n, x) => (o, n, s.env.ev x)) with
      | none => rw [hf] at h; cases h
      | some cs => rw [hf] at h; cases h; exact .inl (zvx hs hz hone' hq (.inr ⟨n, e, ht, hk, rfl⟩) hf)
     ·cases htr
    ·cases htr
 | buildSlice t len ps =>
  simp only [trOp] at htr
  split at htr
  ·rename_i e ht
   split at htr
   ·rename_i zs hz
    split at htr
    ·rename_i hc
     simp only [Bool.and_eq_true, decide_eq_true_eq] at hc
     obtain ⟨⟨⟨⟨hk, hone⟩, hbig⟩, h0⟩, hzl⟩ := hc
     obtain ⟨qs, hq, hx⟩ := znd htr
     cases x <;> simp only [XOp.wipe, XOp.buildSlice.injEq, reduceCtorEq] at hx
     obtain ⟨rfl, rfl, rfl, rfl⟩ := hx
     simp only [exOp] at h
     cases hf : fillAll (imZ (copies len zs)) (qs.map fun (o, n, x) => (o, n, s.env.ev x)) with
     | none => rw [hf] at h; cases h
     | some cs => rw [hf] at h; cases h; exact .inl (zvy hs ht hz hk hone hbig h0 hzl hq hf)
    ·cases htr
   ·cases htr
  ·cases htr
 | load t o =>
  simp only [trOp] at htr
  split at htr
  ·rename_i hk
   obtain ⟨z, hz, hx⟩ := zso htr
   cases x <;> simp only [XOp.wipe, XOp.load.injEq, reduceCtorEq] at hx
   ·obtain ⟨rfl, rfl⟩ := hx
    simp only [exOp] at h
    cases hl : loadAt s.mem (aggOf P t) (s.env.ev z) with
    | none => rw [hl] at h; cases h
    | some v => rw [hl] at h; cases h; exact .inl (y_load hs hk hz hl)
   ·obtain ⟨rfl, rfl⟩ := hx
    simp only [exOp] at h
    split at h
    ·rename_i y hy
     have hl : loadAt s.mem (aggOf P t) (s.env.ev z) = loadAt [] (aggOf P t) (.imm y) := by rw [hy]; exact zjm s.mem _ y
     cases hl' : loadAt [] (aggOf P t) (.imm y) with
     | none => rw [hl'] at h; cases h
     | some v => rw [hl'] at h; cases h; exact .inl (y_load hs hk hz (hl.trans hl'))
    ·cases h
  ·cases htr
 | store t o1 o2 =>
  simp only [trOp] at htr
  split at htr
  ·rename_i hk
   split at htr
   ·rename_i p' x' e1 e2
    simp only [Option.some.injEq] at htr
    cases x <;> simp only [XOp.wipe, XOp.store.injEq, reduceCtorEq] at htr
    ·obtain ⟨rfl, rfl, rfl⟩ := htr
     simp only [exOp] at h
     split at h
     ·rename_i cs hc
      split at h
      ·rename_i hn
       cases hst : storeAt s.mem (s.env.ev p') cs with
       | none => rw [hst] at h; cases h
       | some m => rw [hst] at h; cases h; exact .inl (zwh hs hk e1 e2 hc hn hst)
      ·cases h
     ·cases h
    ·cases h
    ·obtain ⟨rfl, rfl, rfl⟩ := htr
     simp only [exOp] at h
     exact .inl (zwi hs hk e1 e2 rfl h)
   ·cases htr
  ·cases htr
 | nilCheck o =>
  simp only [trOp] at htr
  obtain ⟨z, hz, hx⟩ := zso htr
  cases x <;> simp only [XOp.wipe, XOp.nilCheck.injEq, reduceCtorEq] at hx
  subst hx
  simp only [exOp] at h
  split at h
  ·rename_i hn; cases h; exact .inl (zwc hs hz hn)
  ·cases h
 | binOp op t o1 o2 yt =>
  simp only [trOp] at htr
  have bin : ∀ (x' y' : Src), trSrc num o1 = some x' → trSrc num o2 = some y' → x.wipe = .bin op x' y' → Does num P (.binOp op t o1 o2 yt) ty pos after a C s r s' := by
   intro x' y' e1 e2 hx
   cases x <;> simp only [XOp.wipe, XOp.bin.injEq, reduceCtorEq] at hx
   obtain ⟨rfl, rfl, rfl⟩ := hx
   simp only [exOp] at h
   split at h
   ·rename_i u v hu hv
    simp only [Option.map_eq_some_iff, Prod.mk.injEq] at h
    obtain ⟨q, hq, rfl, rfl⟩ := h
    exact .inl (y_bin hs e1 e2 hu hv hq)
   ·cases h
  split at htr
  ·rename_i e1 e2; exact bin _ _ e1 e2 (Option.some.inj htr).symm
  ·rename_i e1 e2; exact bin _ _ e1 e2 (Option.some.inj htr).symm
  ·rename_i x' y' ht e1 e2
   have hx := (Option.some.inj htr).symm
   cases x <;> simp only [XOp.wipe, XOp.binB.injEq, reduceCtorEq] at hx
   obtain ⟨rfl, rfl, rfl⟩ := hx
   simp only [exOp] at h
   split at h
   ·rename_i u v hu hv
    simp only [Option.map_eq_some_iff, Prod.mk.injEq] at h
    obtain ⟨q, hq, rfl, rfl⟩ := h
    exact .inl (y_binB hs e1 e2 ht hu hv hq)
   ·cases h
  ·rename_i fs x' y' ht e1 e2
   split at htr
   ·rename_i ks hf
    have hx := (Option.some.inj htr).symm
    cases x <;> simp only [XOp.wipe, XOp.eqCells.injEq, reduceCtorEq] at hx
    obtain ⟨rfl, rfl, rfl, rfl⟩ := hx
    simp only [exOp] at h
    split at h
    ·rename_i xs ys h1 h2
     simp only [Option.map_eq_some_iff, Prod.mk.injEq] at h
     obtain ⟨b, hb, rfl, rfl⟩ := h
     exact .inl (zv2 (neg := false) hs e1 e2 hf h1 h2 hb)
    ·cases h
   ·rename_i ks hf
    have hx := (Option.some.inj htr).symm
    cases x <;> simp only [XOp.wipe, XOp.eqCells.injEq, reduceCtorEq] at hx
    obtain ⟨rfl, rfl, rfl, rfl⟩ := hx
    simp only [exOp] at h
    split at h
    ·rename_i xs ys h1 h2
     simp only [Option.map_eq_some_iff, Prod.mk.injEq] at h
     obtain ⟨b, hb, rfl, rfl⟩ := h
     exact .inl (zv2 (neg := true) hs e1 e2 hf h1 h2 hb)
    ·cases h
   ·cases htr
  ·rename_i d x' y' _ _ _ _ ht e1 e2
   split at htr
   ·rename_i k hk
    have hx := (Option.some.inj htr).symm
    cases x <;> simp only [XOp.wipe, XOp.eqNil.injEq, reduceCtorEq] at hx
    obtain ⟨rfl, rfl, rfl⟩ := hx
    simp only [exOp, Option.map_eq_some_iff, Prod.mk.injEq] at h
    obtain ⟨b, hb, rfl, rfl⟩ := h
    exact .inl (zv3 (neg := false) hs e1 ht hk hb)
   ·rename_i k hk
    have hx := (Option.some.inj htr).symm
    cases x <;> simp only [XOp.wipe, XOp.eqNil.injEq, reduceCtorEq] at hx
    obtain ⟨rfl, rfl, rfl⟩ := hx
    simp only [exOp, Option.map_eq_some_iff, Prod.mk.injEq] at h
    obtain ⟨b, hb, rfl, rfl⟩ := h
    exact .inl (zv3 (neg := true) hs e1 ht hk hb)
   ·cases htr
  ·cases htr
 | unOp op t o =>
  simp only [trOp] at htr
  obtain ⟨z, hz, hx⟩ := zso htr
  cases x <;> simp only [XOp.wipe, XOp.un.injEq, reduceCtorEq] at hx
  obtain ⟨rfl, rfl⟩ := hx
  simp only [exOp] at h
  split at h
  ·rename_i u hu
   cases hr : valUn op u with
   | none => rw [hr] at h; cases h
   | some q => rw [hr] at h; cases h; exact .inl (y_un hs hz hu hr)
  ·cases h
 | convert src dst o =>
  simp only [trOp] at htr
  split at htr
  ·rename_i j k z h1 h2 hz
   simp only [Option.some.injEq] at htr
   cases x <;> simp only [XOp.wipe, XOp.conv.injEq, reduceCtorEq] at htr
   obtain ⟨rfl, rfl⟩ := htr
   simp only [exOp] at h
   cases hi : intOf (s.env.ev z) with
   | none => rw [hi] at h; cases h
   | some i => rw [hi] at h; cases h; exact .inl (y_conv hs hz h1 h2 hi)
  ·rename_i z h1 h2 hz
   simp only [Option.some.injEq] at htr
   cases x <;> simp only [XOp.wipe, XOp.convS.injEq, reduceCtorEq] at htr
   subst htr
   simp only [exOp] at h
   split at h
   ·rename_i b hb; cases h; exact .inl (zv0 hs hz h1 h2 hb)
   ·cases h
  ·rename_i e z h1 h2 hz
   split at htr
   ·rename_i he
    simp only [Option.some.injEq] at htr
    cases x <;> simp only [XOp.wipe, XOp.strOf.injEq, reduceCtorEq] at htr
    subst htr
    cases h
   ·cases htr
  ·rename_i e z h1 h2 hz
   split at htr
   ·rename_i he
    simp only [Option.some.injEq] at htr
    cases x <;> simp only [XOp.wipe, XOp.bytesOf.injEq, reduceCtorEq] at htr
    subst htr
    cases h
   ·cases htr
  ·cases htr
 | makeFunc fn first caps =>
  cases fn <;> simp only [trOp] at htr <;> first | (cases htr; done) | skip
  rename_i f
  split at htr
  ·rename_i hfirst
   have : first = #[] := by simpa using hfirst
   subst this
   simp only [Option.map_eq_some_iff] at htr
   obtain ⟨cs, hcs, hx⟩ := htr
   cases x <;> simp only [XOp.wipe, XOp.mkClo.injEq, reduceCtorEq] at hx
   obtain ⟨rfl, rfl⟩ := hx
   cases h
   exact .inl (zwb hs hcs)
  ·cases htr
 | makeSlice t l c =>
  simp only [trOp] at htr
  split at htr
  ·rename_i e ht
   split at htr
   ·rename_i zs l' c' hz e1 e2
    split at htr
    ·rename_i hc
     simp only [Bool.and_eq_true, decide_eq_true_eq] at hc
     obtain ⟨⟨⟨hk, hzl⟩, h0⟩, hone⟩ := hc
     simp only [Option.some.injEq] at htr
     cases x <;> simp only [XOp.wipe, XOp.makeSlice.injEq, reduceCtorEq] at htr
     cases h
    ·cases htr
   ·cases htr
  ·cases htr
 | slice t o lo hi mx =>
  cases mx with
  | some m =>
   cases lo with
   | some _ => simp [trOp] at htr
   | none => cases hi with
    | none => simp [trOp] at htr
    | some hh =>
     simp only [trOp] at htr
     split at htr
     ·rename_i e z h' m' ht hz h1 h2
      split at htr
      ·rename_i hk
       simp only [Option.some.injEq] at htr
       cases x <;> simp only [XOp.wipe, XOp.slice3.injEq, reduceCtorEq] at htr
       obtain ⟨rfl, rfl, rfl, rfl⟩ := htr
       simp only [exOp] at h
       cases hy : exSlice3 (P.cellsOf e) (s.env.ev z) (s.env.ev h') (s.env.ev m') with
       | none => rw [hy] at h; cases h
       | some y => rw [hy] at h; cases h; exact .inl (zwf hs hz h1 h2 ht hk hy)
      ·cases htr
     ·cases htr
  | none =>
   simp only [trOp] at htr
   split at htr
   ·rename_i e z lo' hi' ht hz hl hh
    split at htr
    ·rename_i hk
     simp only [Option.some.injEq] at htr
     cases x <;> simp only [XOp.wipe, XOp.slice.injEq, reduceCtorEq] at htr
     obtain ⟨rfl, rfl, rfl, rfl⟩ := htr
     simp only [exOp] at h
     cases hy : exSlice (P.cellsOf e) (s.env.ev z) (lo'.map s.env.ev) (hi'.map s.env.ev) with
     | none => rw [hy] at h; cases h
     | some y => rw [hy] at h; cases h; exact .inl (zwe hs hz hl hh ht hk hy)
    ·cases htr
   ·rename_i z lo' hi' ht hz hl hh
    simp only [Option.some.injEq] at htr
    cases x <;> simp only [XOp.wipe, XOp.sliceS.injEq, reduceCtorEq] at htr
    obtain ⟨rfl, rfl, rfl⟩ := htr
    simp only [exOp] at h
    split at h
    ·rename_i b hb
     cases hbd : bounds b.size b.size (lo'.map s.env.ev) (hi'.map s.env.ev) with
     | none => rw [hbd] at h; cases h
     | some lh => obtain ⟨l, hh'⟩ := lh; rw [hbd] at h; cases h; exact .inl (zwg hs hz hl hh ht hb hbd)
    ·cases h
   ·cases htr
 | fieldAddr t o f =>
  simp only [trOp] at htr
  split at htr
  ·rename_i fs z ht hz
   split at htr
   ·rename_i fd hf
    split at htr
    ·rename_i hc
     simp only [Bool.and_eq_true, decide_eq_true_eq] at hc
     simp only [Option.some.injEq] at htr
     cases x <;> simp only [XOp.wipe, XOp.fieldA.injEq, reduceCtorEq] at htr
     obtain ⟨rfl, rfl⟩ := htr
     simp only [exOp] at h
     refine .inl ?_
     split at h
     ·rename_i row o' heq; cases h; exact zv6 hs hz ht hf hc.1 hc.2 (by rw [heq])
     ·rename_i b0 a0 row o' heq; cases h; exact zv6 hs hz ht hf hc.1 hc.2 (by rw [heq])
     ·rename_i id o' heq; cases h; exact zv6 hs hz ht hf hc.1 hc.2 (by rw [heq])
     ·cases h
    ·cases htr
   ·cases htr
  ·cases htr
 | field t o f =>
  simp only [trOp] at htr
  split at htr
  ·rename_i fs z ht hz
   split at htr
   ·rename_i fd hf
    split at htr
    ·rename_i hc
     simp only [Option.some.injEq] at htr
     cases x <;> simp only [XOp.wipe, XOp.field.injEq, reduceCtorEq] at htr
     obtain ⟨rfl, rfl, rfl⟩ := htr
     simp only [exOp] at h
     split at h
     ·rename_i cs heq
      cases hg : getCells (aggOf P fd.type) cs fd.offset with
      | none => rw [hg] at h; cases h
      | some y => rw [hg] at h; cases h; exact .inl (zv5 hs hz ht hf hc heq hg)
     ·cases h
    ·cases htr
   ·cases htr
  ·cases htr
 | indexAddr t o i =>
  simp only [trOp] at htr
  split at htr
  ·rename_i e z i' ht hz hi
   split at htr
   ·rename_i hk
    simp only [Option.some.injEq] at htr
    cases x <;> simp only [XOp.wipe, XOp.idxA.injEq, reduceCtorEq] at htr
    obtain ⟨rfl, rfl, rfl⟩ := htr
    simp only [exOp] at h
    split at h
    ·cases h
    ·rename_i n hn
     refine .inl ?_
     split at h
     ·rename_i row off len cap heq
      split at h
      ·rename_i hb; cases h; exact y_idxA hs hz hi ht hk hn (by rw [heq]; simp only [hb, and_self, if_true])
      ·cases h
     ·rename_i b0 a0 row off len cap heq
      split at h
      ·rename_i hb; cases h; exact y_idxA hs hz hi ht hk hn (by rw [heq]; simp only [hb, and_self, if_true])
      ·cases h
     ·rename_i id off sz len cap heq
      split at h
      ·rename_i hb; cases h; exact y_idxA hs hz hi ht hk hn (by rw [heq]; simp only [hb, and_self, if_true])
      ·cases h
     ·cases h
   ·cases htr
  ·rename_i len e z i' ht hz hi
   split at htr
   ·rename_i hk
    simp only [Option.some.injEq] at htr
    cases x <;> simp only [XOp.wipe, XOp.idxP.injEq, reduceCtorEq] at htr
    obtain ⟨rfl, rfl, rfl, rfl⟩ := htr
    simp only [exOp] at h
    split at h
    ·cases h
    ·rename_i n hn
     refine .inl ?_
     split at h
     ·rename_i hb
      split at h
      ·rename_i row o heq; cases h; exact y_idxP hs hz hi ht hk hn hb (by rw [heq])
      ·rename_i id o heq; cases h; exact y_idxP hs hz hi ht hk hn hb (by rw [heq])
      ·cases h
     ·cases h
   ·cases htr
  ·cases htr
 | index t o i =>
  simp only [trOp] at htr
  split at htr
  ·rename_i z i' ht hz hi
   simp only [Option.some.injEq] at htr
   cases x <;> simp only [XOp.wipe, XOp.idxS.injEq, reduceCtorEq] at htr
   obtain ⟨rfl, rfl⟩ := htr
   simp only [exOp] at h
   split at h
   ·rename_i n b hn hb
    split at h
    ·rename_i h0
     split at h
     ·rename_i c hc; cases h; exact .inl (y_idxS hs hz hi ht hn hb h0 hc)
     ·cases h
    ·cases h
   ·cases h
  ·rename_i len e z i' ht hz hi
   split at htr
   ·rename_i hk
    simp only [Option.some.injEq] at htr
    cases x <;> simp only [XOp.wipe, XOp.idxV.injEq, reduceCtorEq] at htr
    cases h
   ·cases htr
  ·cases htr
 | extract o i =>
  simp only [trOp] at htr
  obtain ⟨z, hz, hx⟩ := zso htr
  cases x <;> simp only [XOp.wipe, XOp.extract.injEq, reduceCtorEq] at hx
  obtain ⟨rfl, rfl⟩ := hx
  simp only [exOp] at h
  split at h
  ·rename_i vs hv
   cases hy : vs[i]? with
   | none => rw [hy] at h; cases h
   | some y => rw [hy] at h; cases h; exact .inl (zv4 hs hz hv hy)
  ·cases h
 | call c =>
  simp only [trOp] at htr
  obtain ⟨callee, args, ats⟩ := c
  cases callee with
  | invoke => simp [trCall] at htr
  | builtin b =>
   obtain ⟨al⟩ := args
   obtain ⟨tl⟩ := ats
   simp only [trCall] at htr
   split at htr
   ·rename_i o t
    split at htr
    ·rename_i ht
     obtain ⟨z, hz, hx⟩ := zso htr
     cases x <;> simp only [XOp.wipe, XOp.lenS.injEq, reduceCtorEq] at hx
     subst hx
     simp only [exOp] at h
     split at h
     ·rename_i b hb; cases h; exact .inl (y_lenS hs hz ht hb)
     ·cases h
    ·rename_i e ht
     obtain ⟨z, hz, hx⟩ := zso htr
     cases x <;> simp only [XOp.wipe, XOp.len.injEq, reduceCtorEq] at hx
     subst hx
     simp only [exOp, Option.map_eq_some_iff, Prod.mk.injEq] at h
     obtain ⟨n, hn, rfl, rfl⟩ := h
     exact .inl (y_len hs hz ht hn)
    ·rename_i kt e ht
     obtain ⟨z, hz, hx⟩ := zso htr
     cases x <;> simp only [XOp.wipe, XOp.lenM.injEq, reduceCtorEq] at hx
     subst hx
     exact .inl (y_lenM hs hz ht h)
    ·cases htr
   ·rename_i o1 o2 ts
    split at htr
    ·rename_i z1 z2 e1 e2
     have hx := (Option.some.inj htr).symm
     cases x <;> simp only [XOp.wipe, XOp.minmax.injEq, reduceCtorEq] at hx
     obtain ⟨rfl, rfl, rfl⟩ := hx
     simp only [exOp] at h
     split at h
     ·rename_i k m j n h1 h2; cases h; exact .inl (zwa (mn := true) hs e1 e2 h1 h2)
     ·cases h
    ·cases htr
   ·rename_i o1 o2 ts
    split at htr
    ·rename_i z1 z2 e1 e2
     have hx := (Option.some.inj htr).symm
     cases x <;> simp only [XOp.wipe, XOp.minmax.injEq, reduceCtorEq] at hx
     obtain ⟨rfl, rfl, rfl⟩ := hx
     simp only [exOp] at h
     split at h
     ·rename_i k m j n h1 h2; cases h; exact .inl (zwa (mn := false) hs e1 e2 h1 h2)
     ·cases h
    ·cases htr
   ·rename_i o t
    split at htr
    ·rename_i e ht
     obtain ⟨z, hz, hx⟩ := zso htr
     cases x <;> simp only [XOp.wipe, XOp.cap.injEq, reduceCtorEq] at hx
     subst hx
     simp only [exOp, Option.map_eq_some_iff, Prod.mk.injEq] at h
     obtain ⟨n, hn, rfl, rfl⟩ := h
     exact .inl (y_cap hs hz ht hn)
    ·cases htr
   ·rename_i o1 o2 t u
    split at htr
    ·rename_i e d z1 z2 ht hu e1 e2
     split at htr
     ·rename_i hc
      simp only [Bool.and_eq_true, decide_eq_true_eq] at hc
      have hx := (Option.some.inj htr).symm
      cases x <;> simp only [XOp.wipe, XOp.copy.injEq, reduceCtorEq] at hx
      obtain ⟨rfl, rfl, rfl⟩ := hx
      cases h
     ·cases htr
    ·cases htr
   ·rename_i o t
    split at htr
    ·rename_i e z1 ht e1
     split at htr
     ·rename_i zs hz
      split at htr
      ·rename_i hc
       simp only [Bool.and_eq_true, decide_eq_true_eq] at hc
       obtain ⟨⟨⟨hk, hzl⟩, h0⟩, hone⟩ := hc
       have hx := (Option.some.inj htr).symm
       cases x <;> simp only [XOp.wipe, XOp.clear.injEq, reduceCtorEq] at hx
       obtain ⟨rfl, rfl, rfl⟩ := hx
       cases h
      ·cases htr
     ·cases htr
    ·cases htr
   ·rename_i o1 o2 t u
    split at htr
    ·rename_i e d z1 z2 ht hu e1 e2
     split at htr
     ·rename_i hc
      simp only [Bool.and_eq_true, decide_eq_true_eq] at hc
      obtain ⟨⟨⟨⟨⟨hk, h0⟩, hb0⟩, hz⟩, hd⟩, hu8⟩ := hc
      have hx := (Option.some.inj htr).symm
      cases x <;> simp only [XOp.wipe, XOp.append.injEq, reduceCtorEq] at hx
      ·obtain ⟨rfl, rfl, rfl, rfl⟩ := hx
       exact .inl (zvv hs ht hu hd hk h0 hb0 hz e1 e2 h)
      ·obtain ⟨rfl, rfl, rfl, rfl⟩ := hx
       cases h
      ·obtain ⟨hc1, hb1, rfl, rfl⟩ := hx
       rw [← hb1] at hu8
       have hu8' : isU8 P e = true := by simpa using hu8
       exact .inl (zvu hcall.byte hs ht hu hd hk h0 hb0 hz hc1.symm hb1.symm hu8' e1 e2 h)
      ·obtain ⟨rfl, rfl, rfl, rfl⟩ := hx
       exact .inl (zvt hs ht hu hd hk h0 hb0 hz e1 e2 (zar h))
     ·cases htr
    ·cases htr
   ·cases htr
  | value fo =>
   cases fo with
   | func f =>
    simp only [trCall, Option.map_eq_some_iff] at htr
    obtain ⟨ys, hy, hx⟩ := htr
    cases x <;> simp only [XOp.wipe, XOp.call.injEq, reduceCtorEq] at hx
    rename_i mode fn as
    obtain ⟨_, rfl, rfl⟩ := hx
    simp only [exOp] at h
    cases mode with
    | view => exact .inr (.inl (y_view hcall hs hy h))
    | own => exact .inr (.inl (y_own hcall hs hy h))
    | share => exact .inr (.inl (zwd hcall hs hy h))
    | peek =>
     obtain ⟨rfl, _, h⟩ := znf h
     exact .inr (.inl (zwd hcall hs hy h))
    | look => exact .inr (.inl (zwd hcall hs hy (zjs h)))
    | touch => cases h
   | tmp t =>
    simp only [trCall] at htr
    split at htr
    ·rename_i f' as hf hy
     have hx := (Option.some.inj htr).symm
     cases x <;> simp only [XOp.wipe, XOp.callV.injEq, reduceCtorEq] at hx
     ·obtain ⟨rfl, rfl⟩ := hx
      simp only [exOp] at h
      split at h
      ·rename_i fn caps heq; exact .inr (.inl (zvz hcall hs hf hy heq h))
      ·cases h
     ·cases h
     ·cases h
    ·cases htr
   | const v =>
    simp only [trCall] at htr
    split at htr
    ·rename_i f' as hf hy
     have hx := (Option.some.inj htr).symm
     cases x <;> simp only [XOp.wipe, XOp.callV.injEq, reduceCtorEq] at hx
     ·obtain ⟨rfl, rfl⟩ := hx
      simp only [exOp] at h
      split at h
      ·rename_i fn caps heq; exact .inr (.inl (zvz hcall hs hf hy heq h))
      ·cases h
     ·cases h
     ·cases h
    ·cases htr
   | global g => simp [trCall, trSrc] at htr
 | range t o =>
  simp only [trOp] at htr
  split at htr
  ·rename_i ht
   obtain ⟨z, hz, hx⟩ := zso htr
   cases x <;> simp only [XOp.wipe, XOp.rangeS.injEq, reduceCtorEq] at hx
   subst hx
   cases h
  ·cases htr
 | next o is =>
  cases is with
  | false => simp only [trOp, reduceCtorEq] at htr
  | true =>
   simp only [trOp] at htr
   obtain ⟨z, hz, hx⟩ := zso htr
   cases x <;> simp only [XOp.wipe, XOp.nextS.injEq, reduceCtorEq] at hx
   subst hx
   cases h
 | makeMap t r =>
  simp only [trOp] at htr
  split at htr
  ·rename_i kt e r' ht hr
   have hx := (Option.some.inj htr).symm
   cases x <;> simp only [XOp.wipe, XOp.makeMap.injEq, reduceCtorEq] at hx
   case litA => cases h
   subst hx
   simp only [exOp] at h
   cases hint : (‹Option Src› : Option Src) with
   | none =>
    rw [hint] at h hr
    cases h
    exact .inl (zv8 hs ht hr fun x hx => by cases hx)
   | some z =>
    rw [hint] at h hr
    simp only at h
    split at h
    ·rename_i i hi
     cases h
     exact .inl (zv8 hs ht hr fun x hx => by cases hx; exact ⟨i, hi⟩)
    ·cases h
  ·cases htr
 | lookup t m k ok =>
  simp only [trOp] at htr
  split at htr
  ·rename_i kt e m' k' ht hm hk
   split at htr
   ·rename_i kind zs agg hkt hz
    have hx := (Option.some.inj htr).symm
    cases x <;> simp only [XOp.wipe, XOp.lookup.injEq, reduceCtorEq] at hx
    case litL => cases h
    obtain ⟨rfl, rfl, rfl, rfl, rfl, rfl⟩ := hx
    exact .inl (zv7 hs ht hm hk hkt hz h)
   ·cases htr
  ·cases htr
 | mapUpdate t m k v | insert t m k v =>
  simp only [trOp] at htr
  split at htr
  ·rename_i kt e m' k' v' ht hm hk hv
   split at htr
   ·rename_i kind hkt
    have hx := (Option.some.inj htr).symm
    cases x <;> simp only [XOp.wipe, XOp.mapSet.injEq, reduceCtorEq] at hx
    case litI => cases h
    obtain ⟨rfl, rfl, rfl, rfl⟩ := hx
    first
     | exact .inl (zv9 hs ht hm hk hv hkt h (.inl rfl))
     | exact .inl (zv9 hs ht hm hk hv hkt h (.inr rfl))
   ·cases htr
  ·cases htr
 | _ => simp [trOp] at htr
end
end Go.EX


namespace Go.EX
section
variable {num : Names} {P : Program}
abbrev fz (ro : Option Nat) : Fence := { Fence.wide with round := ro }
def Marked (lo : Nat) (C : Cx) (ds : List Deferred) : Prop :=
 ∃ rs : List Nat, ds = rs.map (fun r => { target := .collected r, args := #[] }) ∧ rs.Nodup ∧ ∀ r ∈ rs, lo ≤ r ∧ C.w.heap[r]? = some (.deferred (some [])) ∧ ¬ C.I r
theorem zm7 {C : Cx} {m : Mem} (hm : MRep num C m) {b : Nat} (h : Own C m b) : (∃ arr e fz, C.w.heap[b]? = some (.cells arr e fz)) ∨ (∃ es k, C.w.heap[b]? = some (.map es k)) ∨ (∃ R, C.w.heap[b]? = some (.loop R)) ∨ ∃ t i, C.w.heap[b]? = some (.stringIter t i) := by
 obtain ⟨id, o, ho, hlv, rfl⟩ := h
 have h1 := hm.obj id o ho
 cases o with
 | flat => obtain ⟨arr, e, h2, _⟩ := h1; exact .inl ⟨arr, e, _, h2⟩
 | rich => obtain ⟨arr, e, h2, _⟩ := h1; exact .inl ⟨arr, e, _, h2⟩
 | fix => obtain ⟨arr, e, h2, _⟩ := h1; exact .inl ⟨arr, e, _, h2⟩
 | map => obtain ⟨es, k, h2, _⟩ := h1; exact .inr (.inl ⟨es, k, h2⟩)
 | loop => obtain ⟨R, N, h2, _⟩ := h1; exact .inr (.inr (.inl ⟨R, h2⟩))
 | iter => exact .inr (.inr (.inr ⟨_, _, h1⟩))
 | text => obtain ⟨arr, e, h2, _⟩ := h1; exact .inl ⟨arr, e, _, h2⟩
 | dead => cases hlv
theorem Marked.step {lo k : Nat} {C D : Cx} {m m' : Mem} {ds : List Deferred} (h : Marked lo C ds) (hm : MRep num C m) (hst : Step num k C m D m') : Marked lo D ds := by
 obtain ⟨rs, h1, h2, h3⟩ := h
 refine ⟨rs, h1, h2, fun r hr => ?_⟩
 obtain ⟨h4, h5, h6⟩ := h3 r hr
 have hlt := (Array.getElem?_eq_some_iff.1 h5).1
 have hno : ¬ Own C m r := fun ho => by
  rcases zm7 hm ho with ⟨_, _, _, h⟩ | ⟨_, _, h⟩ | ⟨_, h⟩ | ⟨_, _, h⟩ <;> rw [h5] at h <;> cases h
 refine ⟨h4, by rw [hst.keep r hlt hno]; exact h5, fun hI => ?_⟩
 rcases hst.imm' r hI with h | h | h
 ·exact h6 h
 ·omega
 ·exact hno h
structure Later (num : Names) (k : Nat) (C : Cx) (m : Mem) (a : Act) (D : Cx) (s' : St) (a' : Act) : Prop where
 rep : SRep num D s' a'
 step : Step num k C m D s'.mem
 k : s'.k = k
 size : a'.tmps.size = a.tmps.size
 marks : ∀ lo, lo ≤ C.w.heap.size → Marked lo C a.defers → Marked lo D a'.defers
theorem Later.trans {k : Nat} {C D E : Cx} {m : Mem} {s s' : St} {a a' a'' : Act} (h : Later num k C m a D s a') (g : Later num k D s.mem a' E s' a'') : Later num k C m a E s' a'' :=
 ⟨g.rep, h.step.trans g.step, g.k, g.size.trans h.size, fun lo hle hl => g.marks lo (Nat.le_trans hle h.step.size) (h.marks lo hle hl)⟩
theorem Later.refl {C : Cx} {s : St} {a : Act} (hs : SRep num C s a) : Later num s.k C s.mem a C s a := ⟨hs, .refl hs.mem hs.k, rfl, rfl, fun _ _ h => h⟩
theorem zon (a : Act) (d : Option Tmp) (v : Value) : (a.put d v).tmps.size = a.tmps.size := by cases d <;> simp [Act.put]
theorem zoa (a : Act) (d : Option Tmp) (v : Value) : (a.put d v).defers = a.defers := by cases d <;> rfl
def St.bind (s : St) (d : Option Nat) (v : AV) : St := match d with
 | some d => { s with env := (d, v) :: s.env }
 | none => s
theorem zbi (s : St) (d : Option Nat) (v : AV) : (s.bind d v).mem = s.mem := by cases d <;> rfl
theorem bind_k (s : St) (d : Option Nat) (v : AV) : (s.bind d v).k = s.k := by cases d <;> rfl
theorem zbh {k N : Nat} {C D : Cx} {m : Mem} {s : St} {a : Act} {d : Option Nat} {x : AV} {v : Value} (hm : MRep num C m) (hN : N ≤ a.tmps.size) (hd : dstOk N d = true) (hst : Step num k C m D s.mem) (he : ERep num D s.env a.tmps) (hx : ARep num D x v) (hk : s.k = k) :
  Later num k C m a D (s.bind d x) (a.put d v) := by
 refine ⟨⟨by rw [zbi]; exact hst.rep, ?_, by rw [bind_k, zbi, hk]; exact hst.len⟩, by rw [zbi]; exact hst, by rw [bind_k, hk], zon .., fun lo _ h => by rw [zoa]; exact h.step hm hst⟩
 cases d with
 | none => exact he
 | some d =>
  have : d < a.tmps.size := Nat.lt_of_lt_of_le (by simpa [dstOk] using hd) hN
  exact he.put this hx
theorem zd9 {ro : Option Nat} {op : Op} {ty : TypeId} {pos : String} {after : Array Edge} {a : Act} {C : Cx} {s s' : St} {x : AV} (hm : MRep num C s.mem) (h : Does num P op ty pos after a C s x s') {N : Nat} (hN : N ≤ a.tmps.size) {d : Option Tmp} (hd : dstOk N d = true) (g : Option (Nat × Bool))
  {K : Act → World → Prop} {Q : Exit → Act → World → Prop} (hK : ∀ D a', Later num s.k C s.mem a D (s'.bind d x) a' → (∃ v, a' = a.put d v) → K a' D.w) : Oper.wpIn (fz ro) 0 P ⟨d, op, ty, pos, after, g⟩ a C.w K Q := by
 have hnd : ∀ c, op ≠ .defer c := by
  rintro c rfl
  have hbad : ∀ (r : Result Next), (execOp a.eval ⟨d, .defer c, ty, pos, after, g⟩).run P C.w = r → (∀ dd w, r ≠ .ok (.defer dd) w) → (∀ x w, r ≠ .halt x w) → False := by
   intro r hr h1 h2
   simp only [execOp, Sem.run_bind] at hr
   cases hq : (resolve a.eval c ty).run P C.w with
   | ok v w => rw [hq] at hr; simp only [Result.andThen, Sem.run_pure] at hr; exact h1 _ _ hr.symm
   | halt x w => rw [hq] at hr; simp only [Result.andThen] at hr; exact h2 _ _ hr.symm
  rcases h with ⟨v, D, hrun, _⟩ | ⟨f, vals, hrun, _⟩ | ⟨l, fn, tmps, as, bd, hrun, _⟩
  ·rcases hrun d g with h | ⟨h, _⟩ <;> exact hbad _ h (fun _ _ => by simp) (fun _ _ => by simp)
  ·exact hbad _ (hrun d g) (fun _ _ => by simp) (fun _ _ => by simp)
  ·exact hbad _ (hrun d g) (fun _ _ => by simp) (fun _ _ => by simp)
 unfold Oper.wpIn
 refine ⟨fun _ _ => trivial, ?_⟩
 rw [Oper.semAt_eq _ _ _ hnd]
 rcases h with ⟨v, D, hrun, hst, he, hx, hk⟩ | ⟨f, vals, hrun, hc⟩ | ⟨l, fn, tmps, as, bd, hrun, hc⟩
 ·rcases hrun d g with h | ⟨h, rfl⟩ <;> rw [h]
  ·rw [Oper.uponIn_value]; exact hK D _ (zbh hm hN hd hst he hx hk) ⟨_, rfl⟩
  ·rw [Oper.uponIn_skip]; exact hK D _ (zbh hm hN hd hst he hx hk) ⟨_, rfl⟩
 ·rw [hrun d g, Oper.uponIn_enter]
  refine ⟨fun h => (by cases h), ?_⟩
  refine CallsIn.mono (R := fun e w' => ∃ v D, e = .returned v ∧ D.w = w' ∧ Step num s.k C s.mem D s'.mem ∧ ERep num D s'.env a.tmps ∧ ARep num D x v ∧ s'.k = s.k) (callsIn_wide.2 hc) fun e w' ⟨v, D, he', hw, hst, he, hx, hk⟩ => ?_
  subst he' hw
  exact hK D _ (zbh hm hN hd hst he hx hk) ⟨_, rfl⟩
 ·rw [hrun d g, Oper.uponIn_round]
  refine ⟨fun h => (by cases h), ?_⟩
  have hc' : RoundIn (fz ro) (0 - 1) P l fn tmps as bd C.w (fun e w' => ∃ v D, e = .returned v ∧ D.w = w' ∧ Step num s.k C s.mem D s'.mem ∧ ERep num D s'.env a.tmps ∧ ARep num D x v ∧ s'.k = s.k) := hc
  refine hc'.mono fun e w' ⟨v, D, he', hw, hst, he, hx, hk⟩ => ?_
  subst he' hw
  exact hK D _ (zbh hm hN hd hst he hx hk) ⟨_, rfl⟩
theorem zts {N : Nat} {ops : Array Oper} {o : Oper} {x : XO} (h : trOper P num N ops o = some x) : trOp P num o.op = some x.op ∧ trGuard ops o.guard = some x.guard ∧ x.dst = o.dst ∧ dstOk N o.dst = true ∧ ∀ (t : Nat) (b : Bool), x.guard = some (t, b) → t < N := by
 unfold trOper at h
 split at h
 ·rename_i y g h1 h2
  split at h
  ·cases h; rename_i hd; simp only [Bool.and_eq_true] at hd; exact ⟨h1, h2, rfl, hd.1, fun t b hg => by simp only at hg; subst hg; simpa [dstOk] using hd.2⟩
  ·cases h
 ·cases h
theorem ze2 {call : Calls'} {s : St} {o : XO} {s' : St} (h : exOne call s o = some s') :
  (∃ v s1, exOp call s o.op = some (v, s1) ∧ s' = s1.bind o.dst v ∧ (o.guard = none ∨ ∃ t b, o.guard = some (t, b) ∧ s.env.get t = .imm (.val (.bool b)))) ∨
  (s' = s.bind o.dst (.tup []) ∧ ∃ t b, o.guard = some (t, b) ∧ ((∃ c, s.env.get t = .imm (.val (.bool c)) ∧ c ≠ b) ∨ s.env.get t = .tup [])) := by
 unfold exOne at h
 dsimp only at h
 have go : ∀ {s'}, (exOp call s o.op).map (fun (v, s') => match o.dst with | some d => { s' with env := (d, v) :: s'.env } | none => s') = some s' → ∃ v s1, exOp call s o.op = some (v, s1) ∧ s' = s1.bind o.dst v := by
  intro s' h
  cases hx : exOp call s o.op with
  | none => rw [hx] at h; cases h
  | some p =>
   obtain ⟨v, s1⟩ := p
   rw [hx] at h
   refine ⟨v, s1, rfl, ?_⟩
   simp only [Option.map_some, Option.some.injEq] at h
   rw [← h]
   cases o.dst <;> rfl
 split at h
 ·rename_i hg
  obtain ⟨v, s1, h1, h2⟩ := go h
  exact .inl ⟨v, s1, h1, h2, .inl hg⟩
 ·rename_i t b hg
  split at h
  ·rename_i c hc
   split at h
   ·rename_i hcb
    obtain ⟨v, s1, h1, h2⟩ := go h
    exact .inl ⟨v, s1, h1, h2, .inr ⟨t, b, hg, by rw [hc, hcb]⟩⟩
   ·rename_i hcb
    refine .inr ⟨?_, t, b, hg, .inl ⟨c, hc, hcb⟩⟩
    simp only [Option.some.injEq] at h
    rw [← h]
    cases o.dst <;> rfl
  ·rename_i hc
   refine .inr ⟨?_, t, b, hg, .inr hc⟩
   simp only [Option.some.injEq] at h
   rw [← h]
   cases o.dst <;> rfl
  ·cases h
theorem zuv {ops : Array Oper} {o : Oper} {a : Act} {C : Cx} {s : St} (hs : SRep num C s a) {t : Nat} {b : Bool} {j : Nat} {c : Bool} (hg : o.guard = some (j, b)) (hj : (ops[j]?).bind (·.dst) = some t) (ht : t < a.tmps.size) (hc : s.env.get t = .imm (.val (.bool c))) :
  Region.wanted o (yielded ops a.tmps) = (c == b) := by
 have h1 := hs.env t
 rw [hc] at h1
 have h2 := zpy h1
 have h3 : a.tmps[t]? = some (.bool c) := by
  simp only [Array.getD, ht, dite_true] at h2
  rw [Array.getElem?_eq_getElem ht]; exact congrArg some h2
 simp only [Region.wanted, hg, yielded, hj, Option.bind_some, h3]
 cases c <;> cases b <;> rfl
theorem zuf {ops : Array Oper} {o : Oper} {a : Act} {C : Cx} {s : St} (hs : SRep num C s a) {t : Nat} {b : Bool} {j : Nat} (hg : o.guard = some (j, b)) (hj : (ops[j]?).bind (·.dst) = some t) (ht : t < a.tmps.size) (hc : s.env.get t = .tup []) :
  Region.wanted o (yielded ops a.tmps) = false := by
 have h1 := hs.env t
 rw [hc] at h1
 have h3 : a.tmps[t]? = some (.tuple #[]) := by
  generalize hv : a.tmps.getD t undef = v at h1
  cases h1 with
  | tup _ vs hl _ =>
   have : vs = #[] := by simpa using hl.symm
   subst this
   simp only [Array.getD, ht, dite_true] at hv
   rw [Array.getElem?_eq_getElem ht]; exact congrArg some hv
 simp only [Region.wanted, hg, yielded, hj, Option.bind_some, h3]
 cases b <;> rfl
theorem zsl (C : Cx) : ARep num C (.tup []) undef := .tup [] #[] rfl fun j x u hx _ => by simp at hx
theorem one_wp {ro : Option Nat} {call : Calls'} (hcall : CallOK num P call) {N : Nat} {ops : Array Oper} {o : Oper} {x : XO} (htr : trOper P num N ops o = some x.wipe) {a : Act} {C : Cx} {s s' : St} (hs : SRep num C s a) (hN : N ≤ a.tmps.size) (h : exOne call s x = some s')
  {K : Act → World → Prop} {Q : Exit → Act → World → Prop} (hK : ∀ D a', Later num s.k C s.mem a D s' a' → (∃ v, a' = a.put o.dst v) → K a' D.w) :
  if Region.wanted o (yielded ops a.tmps) then o.wpIn (fz ro) 0 P a C.w K Q else (∀ f, o.about P C.w a.eval = some f → (fz ro).fn f) ∧ K (a.put o.dst undef) C.w := by
 obtain ⟨h1, h2, h3, h4, hgd⟩ := zts htr
 have hguard : x.wipe.guard = x.guard := rfl
 have hdst : x.wipe.dst = x.dst := rfl
 rw [hguard] at h2
 rw [hdst] at h3
 have wgd : ∀ (t : Nat) (b : Bool), x.guard = some (t, b) → ∃ j, o.guard = some (j, b) ∧ (ops[j]?).bind (·.dst) = some t := by
  intro t b hx
  rw [hx] at h2
  unfold trGuard at h2
  split at h2
  ·cases h2
  ·rename_i j b' hjb
   split at h2
   ·rename_i t' ht
    simp only [Option.some.injEq, Prod.mk.injEq] at h2
    obtain ⟨rfl, rfl⟩ := h2
    exact ⟨_, hjb, ht⟩
   ·cases h2
 rcases ze2 h with ⟨v, s1, hx, rfl, hg⟩ | ⟨rfl, t, b, hg, hc⟩
 ·have hw : Region.wanted o (yielded ops a.tmps) = true := by
   rcases hg with hg | ⟨t, b, hg, hc⟩
   ·rw [hg] at h2
    unfold trGuard at h2
    split at h2
    ·simp [Region.wanted, *]
    ·split at h2 <;> simp at h2
   ·obtain ⟨j, hj, hd⟩ := wgd t b hg
    rw [zuv hs hj hd (Nat.lt_of_lt_of_le (hgd t b hg) hN) hc]; simp
  rw [if_pos hw]
  have := zd9 (ro := ro) hs.mem (ze5 (ty := o.type) (pos := o.pos) (after := o.after) hcall hs h1 hx) hN h4 o.guard (K := K) (Q := Q)
  obtain ⟨d, op, ty, pos, after, g⟩ := o
  dsimp only at *
  refine this fun D a' hl hp => hK D a' ?_ hp
  rw [h3]
  exact hl
 ·obtain ⟨j, hj, hd⟩ := wgd t b hg
  have hw : Region.wanted o (yielded ops a.tmps) = false := by
   rcases hc with ⟨c, hc, hne⟩ | hc
   ·rw [zuv hs hj hd (Nat.lt_of_lt_of_le (hgd t b hg) hN) hc]; simpa using hne
   ·exact zuf hs hj hd (Nat.lt_of_lt_of_le (hgd t b hg) hN) hc
  rw [hw]
  simp only [Bool.false_eq_true, if_false]
  refine ⟨fun _ _ => trivial, hK C _ ?_ ⟨_, rfl⟩⟩
  rw [h3]
  exact zbh hs.mem hN h4 (.refl hs.mem hs.k) hs.env (zsl C) rfl
theorem zjj {ro : Option Nat} {call : Calls'} (hcall : CallOK num P call) {N : Nat} {ops : Array Oper} {Q : Exit → Act → World → Prop} : ∀ (l : List Oper) (xs : List XO) {a : Act} {C : Cx} {s s' : St}, trOps P num N ops l = xs.map XO.wipe → SRep num C s a → N ≤ a.tmps.size → exOps call s xs = some s' →
  (∀ D a', Later num s.k C s.mem a D s' a' → Q .normal a' D.w) → wpListIn (fz ro) 0 P ops Q l a C.w
 | [], xs, a, C, s, s', htr, hs, _, h, hQ => by
  cases xs with
  | nil => cases h; exact hQ C a (.refl hs)
  | cons x r => simp [trOps] at htr
 | o :: l, xs, a, C, s, s', htr, hs, hN, h, hQ => by
  simp only [trOps] at htr
  cases ho : trOper P num N ops o with
  | none =>
   rw [ho] at htr
   cases xs with
   | nil => simp at htr
   | cons x r =>
    simp only [List.map_cons, List.cons.injEq] at htr
    have hb : x.wipe = badOp := htr.1.symm
    have h1 : (x.op = .callV (.c (.bool true)) [] ∨ x.op = .callP (.c (.bool true)) [] ∨ ∃ w, x.op = .callT (.c (.bool true)) [] w) ∧ x.guard = none := by
     obtain ⟨d, op, g⟩ := x
     simp only [XO.wipe, badOp, XO.mk.injEq] at hb
     obtain ⟨_, h2, h3⟩ := hb
     refine ⟨?_, h3⟩
     cases op <;> simp only [XOp.wipe, reduceCtorEq] at h2
     ·exact .inl h2
     ·cases h2; exact .inr (.inl rfl)
     ·cases h2; exact .inr (.inr ⟨_, rfl⟩)
    simp only [exOps] at h
    unfold exOne at h
    rcases h1.1 with h4 | h4 | ⟨_, h4⟩ <;> simp only [h4, h1.2, exOp, Env.ev, Option.map_none, Option.bind_none] at h <;> cases h
  | some y =>
   rw [ho] at htr
   cases xs with
   | nil => simp at htr
   | cons x r =>
    simp only [List.map_cons, List.cons.injEq] at htr
    obtain ⟨h1, h2⟩ := htr
    subst h1
    simp only [exOps] at h
    cases hx : exOne call s x with
    | none => rw [hx] at h; cases h
    | some s1 =>
     rw [hx] at h
     simp only [Option.bind_some] at h
     have := one_wp hcall ho hs hN hx (ro := ro) (Q := Q) (K := wpListIn (fz ro) 0 P ops Q l) fun D a' hl _ =>
      zjj hcall l r h2 hl.rep (by rw [hl.size]; exact hN) h fun E a'' hl' => hQ E a'' (hl.trans (by rw [hl.k] at hl'; exact hl'))
     unfold wpListIn
     exact this
theorem zvi {F : Fence} {n : Nat} {md : Region.Mode} {ops : Array Oper} {Q' : Exit → Act → World → Prop} : ∀ (l : List Oper) (k : Nat) (listed : Array Bool) (a : Act) (w : World), (∀ j, l[j]? = ops[k + j]?) →
  Region.seqB md ops l.length k listed = true → wpListIn F n P ops Q' l a w → wpAnyIn F n P md ops Q' l.length listed a w
 | [], _, _, _, _, _, hB, h => ⟨by simpa [Region.seqB] using hB, h⟩
 | o :: l, k, listed, a, w, hl, hB, h => by
  have h0 : ops[k]? = some o := by simpa using (hl 0).symm
  simp only [List.length_cons, Region.seqB, Bool.and_eq_true, decide_eq_true_eq] at hB
  refine ⟨fun h1 => (by rw [hB.1] at h1; cases h1), fun i hi => ?_⟩
  rw [hB.1] at hi
  have hik : i = k := by simpa using hi
  subst hik
  have hw : wpOpIn F n P ops Q' i (wpListIn F n P ops Q' l) a w := by unfold wpOpIn; simp only [h0]; exact h
  exact wpOpIn_mono (fun a' w' h' => zvi l (i + 1) _ a' w' (fun j => by have := hl (j + 1); simpa [Nat.add_assoc, Nat.add_comm 1 j] using this) hB.2 h') hw
end
end Go.EX


namespace Go.EX
theorem zew {s t : Env} {y : Src} (he : ∀ n ∈ srcTmp y, t.get n = s.get n) : t.ev y = s.ev y := by
 cases y with
 | t n => exact he n (by simp [srcTmp])
 | c v => rfl
 | f n => rfl
theorem zeu {s t : Env} {y : Option Src} (he : ∀ n ∈ srcTmpO y, t.get n = s.get n) : y.map t.ev = y.map s.ev := by
 cases y with
 | none => rfl
 | some y => exact congrArg some (zew he)
theorem zet {s t : Env} {l : List Src} (he : ∀ n ∈ l.flatMap srcTmp, t.get n = s.get n) : l.map t.ev = l.map s.ev :=
 List.map_congr_left fun y hy => zew fun n hn => he n (List.mem_flatMap.2 ⟨y, hy, hn⟩)
theorem zev {s t : Env} {l : List (Nat × Nat × Src)} (he : ∀ n ∈ l.flatMap (fun p => srcTmp p.2.2), t.get n = s.get n) : l.map (fun (o, n, x) => (o, n, t.ev x)) = l.map fun (o, n, x) => (o, n, s.ev x) :=
 List.map_congr_left fun y hy => by
  have := zew (s := s) (t := t) (y := y.2.2) fun n hn => he n (List.mem_flatMap.2 ⟨y, hy, hn⟩)
  simp only [this]
def In (K : Nat → Prop) (x : AV) : Prop := ∀ id ∈ x.refs, K id
def InL (K : Nat → Prop) (l : List AV) : Prop := ∀ x ∈ l, In K x
theorem in_agg {K : Nat → Prop} {l : List AV} : In K (.agg l) ↔ InL K l := by
 constructor
 ·intro h x hx id hid; exact h id (by simp only [AV.refs]; exact refsL_mem.2 ⟨x, hx, hid⟩)
 ·intro h id hid; simp only [AV.refs] at hid; obtain ⟨x, hx, hid⟩ := refsL_mem.1 hid; exact h x hx id hid
theorem in_tup {K : Nat → Prop} {l : List AV} : In K (.tup l) ↔ InL K l := by
 constructor
 ·intro h x hx id hid; exact h id (by simp only [AV.refs]; exact refsL_mem.2 ⟨x, hx, hid⟩)
 ·intro h id hid; simp only [AV.refs] at hid; obtain ⟨x, hx, hid⟩ := refsL_mem.1 hid; exact h x hx id hid
theorem in_clo {K : Nat → Prop} {n : Nat} {l : List AV} : In K (.clo n l) ↔ InL K l := by
 constructor
 ·intro h x hx id hid; exact h id (by simp only [AV.refs]; exact refsL_mem.2 ⟨x, hx, hid⟩)
 ·intro h id hid; simp only [AV.refs] at hid; obtain ⟨x, hx, hid⟩ := refsL_mem.1 hid; exact h x hx id hid
theorem in_imm {K : Nat → Prop} {x : IV} : In K (.imm x) := fun id hid => by simp [AV.refs] at hid
theorem in_tag {K : Nat → Prop} {b a : Nat} {x : IV} : In K (.tag b a x) := fun id hid => by simp [AV.refs] at hid
theorem zhr {K : Nat → Prop} : In K .junk := fun id hid => by simp [AV.refs] at hid
theorem in_optr {K : Nat → Prop} {i o : Nat} : In K (.optr i o) ↔ K i := by simp [In, AV.refs]
theorem in_osl {K : Nat → Prop} {i a b c : Nat} {d : Option Nat} : In K (.osl i a b c d) ↔ K i := by simp [In, AV.refs]
theorem in_omap {K : Nat → Prop} {i : Nat} : In K (.omap i) ↔ K i := by simp [In, AV.refs]
theorem in_ev {K : Nat → Prop} {e : Env} {y : Src} (h : ∀ n ∈ srcTmp y, In K (e.get n)) : In K (e.ev y) := by
 cases y with
 | t n => exact h n (by simp [srcTmp])
 | c v => exact in_imm
 | f n => exact in_clo.2 fun x hx => by cases hx
theorem InL.get {K : Nat → Prop} {l : List AV} (h : InL K l) {j : Nat} {x : AV} (hx : l[j]? = some x) : In K x := h x (List.mem_of_getElem? hx)
theorem InL.mapImm {K : Nat → Prop} {α : Type} (l : List α) (f : α → IV) : InL K (l.map fun x => .imm (f x)) := fun x hx => by obtain ⟨y, _, rfl⟩ := List.mem_map.1 hx; exact in_imm
theorem zhy {K : Nat → Prop} : ∀ (xs l : List AV) (off : Nat), InL K l → InL K xs → InL K (setAll l off xs)
 | [], l, off, hl, _ => hl
 | x :: xs, l, off, hl, hx => by
  simp only [setAll]
  refine zhy xs _ _ (fun y hy => ?_) (fun y hy => hx y (List.mem_cons_of_mem _ hy))
  rcases List.mem_or_eq_of_mem_set hy with h | h
  ·exact hl y h
  ·rw [h]; exact hx x (List.mem_cons_self ..)
theorem zhm {K : Nat → Prop} {x : AV} {cs : List AV} (h : In K x) (hc : x.cells = some cs) : InL K cs := by
 cases x <;> simp only [AV.cells, Option.some.injEq, reduceCtorEq] at hc <;> subst hc <;> first | exact in_agg.1 h | (intro y hy; rw [List.mem_singleton.1 hy]; exact h)
theorem zho {K : Nat → Prop} : ∀ (ps : List (Nat × Nat × AV)) (cs r : List AV), InL K cs → (∀ p ∈ ps, In K p.2.2) → fillAll cs ps = some r → InL K r
 | [], cs, r, hc, _, h => by cases h; exact hc
 | (off, n, v) :: ps, cs, r, hc, hp, h => by
  simp only [fillAll] at h
  split at h
  ·rename_i vs hv
   split at h
   ·exact zho ps _ _ (zhy vs cs off hc (zhm (hp _ (List.mem_cons_self ..)) hv)) (fun p hp' => hp p (List.mem_cons_of_mem _ hp')) h
   ·cases h
  ·cases h
theorem in_cut {K : Nat → Prop} {l r : List AV} {off n : Nat} (hl : InL K l) (h : cut l off n = some r) : InL K r := by
 unfold cut at h
 dsimp only at h
 split at h
 ·cases h; exact fun x hx => hl x (List.mem_of_mem_drop (List.mem_of_mem_take hx))
 ·cases h
theorem zhp {K : Nat → Prop} {l : List AV} {agg : Option Nat} {off : Nat} {r : AV} (hl : InL K l) (h : getCells agg l off = some r) : In K r := by
 cases agg with
 | none => exact hl.get h
 | some n =>
  simp only [getCells, Option.map_eq_some_iff] at h
  obtain ⟨c, hc, rfl⟩ := h
  exact in_agg.2 (in_cut hl hc)
theorem zhq {K : Nat → Prop} {l : List IV} {agg : Option Nat} {off : Nat} {r : AV} (h : getCellsI agg l off = some r) : In K r := by
 cases agg with
 | none => simp only [getCellsI, Option.map_eq_some_iff] at h; obtain ⟨c, _, rfl⟩ := h; exact in_imm
 | some n =>
  simp only [getCellsI, Option.map_eq_some_iff] at h
  obtain ⟨c, hc, rfl⟩ := h
  exact in_agg.2 (InL.mapImm c id)
theorem in_imZ {K : Nat → Prop} (zs : List Value) : InL K (imZ zs) := InL.mapImm zs .val
structure Agree (K : Nat → Prop) (s t : Mem) : Prop where
 same : ∀ id, K id → t[id]? = s[id]?
 closed : ∀ id o, K id → s[id]? = some o → ∀ j ∈ o.refs, K j
theorem zhx {K : Nat → Prop} {s t : Mem} (h : Agree K s t) {id : Nat} (hk : K id) {cs : List AV} (hc : s[id]? = some (.rich cs)) : InL K cs := fun x hx j hj => h.closed id _ hk hc j (by simp only [AObj.refs]; exact refsL_mem.2 ⟨x, hx, hj⟩)
theorem in_map {K : Nat → Prop} {s t : Mem} (h : Agree K s t) {id : Nat} (hk : K id) {es : List (AV × AV)} (hc : s[id]? = some (.map es)) : ∀ p ∈ es, In K p.1 ∧ In K p.2 := fun p hp =>
 ⟨fun j hj => h.closed id _ hk hc j (by simp only [AObj.refs, List.mem_append]; exact .inl (refsL_mem.2 ⟨p.1, List.mem_map.2 ⟨p, hp, rfl⟩, hj⟩)),
  fun j hj => h.closed id _ hk hc j (by simp only [AObj.refs, List.mem_append]; exact .inr (refsL_mem.2 ⟨p.2, List.mem_map.2 ⟨p, hp, rfl⟩, hj⟩))⟩
theorem zj0 {α β : Type} {f g : α → Option β} : ∀ (l : List α), (∀ x ∈ l, f x = g x) → l.mapM f = l.mapM g
 | [], _ => rfl
 | x :: r, h => by
  rw [List.mapM_cons, List.mapM_cons, h x (List.mem_cons_self ..), zj0 r fun y hy => h y (List.mem_cons_of_mem _ hy)]
theorem zgg {K : Nat → Prop} {s t : Mem} (h : Agree K s t) : ∀ (n : Nat) (x : AV), In K x → frzV t n x = frzV s n x
 | n, .imm x, _ => by cases n <;> rfl
 | 0, .osl .., _ => rfl
 | 0, .optr .., _ => rfl
 | n + 1, .osl id off sz len cap, hx => by
  have hk := in_osl.1 hx
  simp only [frzV, h.same id hk]
  cases hc : s[id]? with
  | none => rfl
  | some o =>
   cases o with
   | rich cs => simp only []; rw [zj0 cs fun y hy => zgg h n y (zhx h hk hc y hy)]
   | _ => rfl
 | n + 1, .optr id off, hx => by
  have hk := in_optr.1 hx
  simp only [frzV, h.same id hk]
  cases hc : s[id]? with
  | none => rfl
  | some o =>
   cases o with
   | rich cs => simp only []; rw [zj0 cs fun y hy => zgg h n y (zhx h hk hc y hy)]
   | _ => rfl
 | n, .omap _, _ => by cases n <;> rfl
 | n, .clo .., _ => by cases n <;> rfl
 | n, .agg _, _ => by cases n <;> rfl
 | n, .tup _, _ => by cases n <;> rfl
 | n, .yld _, _ => by cases n <;> rfl
 | n, .seat .., _ => by cases n <;> rfl
 | n, .tag .., _ => by cases n <;> rfl
 | n, .err, _ => by cases n <;> rfl
 | n, .junk, _ => by cases n <;> rfl
theorem zgd {K : Nat → Prop} {s t : Mem} (h : Agree K s t) (x : AV) (hx : In K x) : frz.frz1 t x = frz.frz1 s x := by
 cases x with
 | agg cs => simp only [frz.frz1]; rw [zj0 cs fun y hy => zgg h 20 y (in_agg.1 hx y hy)]
 | _ => simp only [frz.frz1]; rw [zgg h 20 _ hx]
theorem zge {K : Nat → Prop} {s t : Mem} (h : Agree K s t) (x : AV) (hx : In K x) : frz.frzC t x = frz.frzC s x := by
 cases x with
 | clo fn caps => rfl
 | _ => simp only [frz.frzC]; rw [zgg h 20 _ hx]
theorem zgj {K : Nat → Prop} {s t : Mem} (h : Agree K s t) (x : AV) (hx : In K x) : frz t x = frz s x := by
 cases x with
 | agg cs => simp only [frz]; rw [zj0 cs fun y hy => zgg h 20 y (in_agg.1 hx y hy)]
 | tup vs => simp only [frz]; rw [zj0 vs fun y hy => zgd h y (in_tup.1 hx y hy)]
 | clo fn caps => simp only [frz]; rw [zj0 caps fun y hy => zge h y (in_clo.1 hx y hy)]
 | _ => simp only [frz]; rw [zgg h 20 _ hx]
theorem zhl {K : Nat → Prop} (l : List IV) : In K (.agg (l.map .imm)) := in_agg.2 (InL.mapImm l id)
mutual
theorem zpd : ∀ (x : AV), (x.ren fun _ => none).refs = []
 | .imm _ => rfl
 | .osl .. => rfl
 | .optr .. => rfl
 | .omap _ => rfl
 | .clo fn caps => by simp only [AV.ren, AV.refs]; exact zpb caps
 | .agg cells => by simp only [AV.ren, AV.refs]; exact zpb cells
 | .tup vs => by simp only [AV.ren, AV.refs]; exact zpb vs
 | .yld _ => rfl
 | .seat .. => rfl
 | .tag .. => rfl
 | .err => rfl
 | .junk => rfl
theorem zpb : ∀ (l : List AV), AV.refs.refsL (AV.ren.renL (fun _ => none) l) = []
 | [] => rfl
 | x :: r => by simp only [AV.ren.renL, AV.refs.refsL, zpd x, zpb r, List.append_nil]
end
theorem in_frz {K : Nat → Prop} {m : Mem} {x y : AV} (h : frz m x = some y) : In K y := by
 have one : ∀ {x y : AV}, frz.frz1 m x = some y → In K y := by
  intro x y h
  cases x <;> simp only [frz.frz1, Option.map_eq_some_iff] at h <;> obtain ⟨l, _, rfl⟩ := h <;> first | exact in_imm | exact zhl l
 cases x with
 | agg cs => simp only [frz, Option.map_eq_some_iff] at h; obtain ⟨l, _, rfl⟩ := h; exact zhl l
 | tup vs =>
  simp only [frz, Option.map_eq_some_iff] at h
  obtain ⟨l, hl, rfl⟩ := h
  refine in_tup.2 fun y hy => ?_
  obtain ⟨j, hj⟩ := List.getElem?_of_mem hy
  obtain ⟨x, _, hx⟩ := (zj1 _ vs l hl).2 j y hj
  exact one hx
 | clo fn caps =>
  simp only [frz, Option.map_eq_some_iff] at h
  obtain ⟨l, hl, rfl⟩ := h
  refine in_clo.2 fun y hy => ?_
  obtain ⟨j, hj⟩ := List.getElem?_of_mem hy
  obtain ⟨x, _, hx⟩ := (zj1 _ caps l hl).2 j y hj
  cases x with
  | clo g cs =>
   simp only [frz.frzC, Option.some.injEq] at hx
   subst hx
   intro id hid
   simp only [AV.refs, zpb] at hid
   cases hid
  | _ => simp only [frz.frzC, Option.map_eq_some_iff] at hx; obtain ⟨l, _, rfl⟩ := hx; exact in_imm
 | _ => simp only [frz, Option.map_eq_some_iff] at h; obtain ⟨l, _, rfl⟩ := h; exact in_imm
theorem zjn {K : Nat → Prop} {s t : Mem} (h : Agree K s t) {agg : Option Nat} {x : AV} (hx : In K x) : loadAt t agg x = loadAt s agg x := by
 unfold loadAt
 cases x with
 | optr id off => simp only [h.same id (in_optr.1 hx)]
 | imm y => cases y <;> rfl
 | tag b a y => cases y <;> rfl
 | _ => rfl
theorem zhs {K : Nat → Prop} {s t : Mem} (h : Agree K s t) {agg : Option Nat} {x r : AV} (hx : In K x) (hr : loadAt s agg x = some r) : In K r := by
 unfold loadAt at hr
 split at hr
 ·exact zhq hr
 ·exact zhq hr
 ·rename_i id off
  have hk := in_optr.1 hx
  split at hr
  ·exact zhq hr
  ·rename_i cs hc; exact zhp (zhx h hk hc) hr
  ·exact zhq hr
  ·cases hr
 ·cases hr
theorem zib {K : Nat → Prop} {s t : Mem} (h : Agree K s t) (kind : Nat) {x y : AV} (hx : In K x) (hy : In K y) : keyEq t kind x y = keyEq s kind x y := by
 unfold keyEq
 split <;> first | rfl | skip
 rename_i i o j p
 rw [h.same i (in_optr.1 hx), h.same j (in_optr.1 hy)]
theorem zfz {K : Nat → Prop} {s t : Mem} (h : Agree K s t) (kind : Nat) {k : AV} (hk : In K k) : ∀ (es : List (AV × AV)) (i : Nat), (∀ p ∈ es, In K p.1) → findK t kind k es i = findK s kind k es i
 | [], _, _ => rfl
 | e :: es, i, he => by
  simp only [findK, zib h kind hk (he e (List.mem_cons_self ..)), zfz h kind hk es (i + 1) fun p hp => he p (List.mem_cons_of_mem _ hp)]
theorem zhv {K : Nat → Prop} {x : AV} (h : x.plain1 = true) : In K x := by
 unfold AV.plain1 at h
 split at h
 ·exact in_imm
 ·intro id hid; cases hid
 ·cases h
theorem zhw {K : Nat → Prop} {x : AV} (h : x.plain2 = true) : In K x := by
 cases x with
 | agg cs => exact in_agg.2 fun y hy => zhv (List.all_eq_true.1 h y hy)
 | _ => exact zhv h
theorem zhu {K : Nat → Prop} {x : AV} (h : x.plain = true) : In K x := by
 cases x with
 | tup cs => exact in_tup.2 fun y hy => zhw (List.all_eq_true.1 h y hy)
 | _ => exact zhw h
end Go.EX


namespace Go.EX
structure Makes (K : Nat → Prop) (len : Nat) (val : Nat → AV) (new : Nat → List AObj) : Prop where
 size : ∀ p, (new p).length = len
 inV : ∀ p, In (fun id => K id ∨ (p ≤ id ∧ id < p + len)) (val p)
 inN : ∀ p o, o ∈ new p → ∀ id ∈ o.refs, K id ∨ (p ≤ id ∧ id < p + len)
 ren : ∀ p q f, (∀ j, j < len → f (p + j) = some (q + j)) → (∀ id, K id → f id = some id) → (val p).ren f = val q ∧ (new p).map (AObj.ren f) = new q
theorem zjy {K : Nat → Prop} (o : AObj) (ho : ∀ id ∈ o.refs, K id) (val : Nat → AV) (hv : ∀ p, (val p).refs = [p]) (hr : ∀ p q f, f p = some q → (val p).ren f = val q) : Makes K 1 val fun _ => [o] := by
 refine ⟨fun _ => rfl, fun p id hid => ?_, fun p o' ho' id hid => ?_, fun p q f h1 h2 => ⟨hr p q f (by simpa using h1 0 (by omega)), ?_⟩⟩
 ·rw [hv] at hid; simp at hid; exact .inr (by omega)
 ·rw [List.mem_singleton.1 ho'] at hid; exact .inl (ho id hid)
 ·simp only [List.map_cons, List.map_nil]
  rw [zmc fun id hid => h2 id (ho id hid)]
theorem zjz {K : Nat → Prop} (cs : List AV) (off : Nat) (hcs : InL K cs) : Makes K 1 (fun id => .optr id 0) fun p => [.rich (cs.set off (.seat p off))] := by
 have hin : ∀ p, ∀ x ∈ cs.set off (.seat p off), x = .seat p off ∨ In K x := by
  intro p x hx
  rcases List.mem_or_eq_of_mem_set hx with h | h
  ·exact .inr (hcs x h)
  ·exact .inl h
 refine ⟨fun _ => rfl, fun p id hid => ?_, fun p o' ho' id hid => ?_, fun p q f h1 h2 => ⟨by simp [AV.ren, show f p = some q by simpa using h1 0 (by omega)], ?_⟩⟩
 ·simp [AV.refs] at hid; exact .inr (by omega)
 ·rw [List.mem_singleton.1 ho'] at hid
  simp only [AObj.refs] at hid
  obtain ⟨x, hx, hid⟩ := refsL_mem.1 hid
  rcases hin p x hx with rfl | h
  ·simp [AV.refs] at hid; exact .inr (by omega)
  ·exact .inl (h id hid)
 ·simp only [List.map_cons, List.map_nil, AObj.ren, zph, List.map_set, AV.ren, show f p = some q by simpa using h1 0 (by omega)]
  have : cs.map (AV.ren f) = cs := by
   conv => rhs; rw [← List.map_id cs]
   exact List.map_congr_left fun x hx => ren_id fun id hid => h2 id (hcs x hx id hid)
  rw [this]
theorem zht {K : Nat → Prop} {cs : List AV} (h : InL K cs) : ∀ id ∈ (mkObj cs).refs, K id := by
 unfold mkObj
 split
 ·intro id hid; simp [AObj.refs] at hid
 ·intro id hid; simp only [AObj.refs] at hid; obtain ⟨x, hx, hid⟩ := refsL_mem.1 hid; exact h x hx id hid
theorem zox {K : Nat → Prop} {s t : Mem} (h : Agree K s t) : ∀ (n : Nat) (todo acc : List Nat), (∀ x ∈ todo, K x) → (∀ x ∈ acc, K x) → reach t n todo acc = reach s n todo acc ∧ ∀ x ∈ reach s n todo acc, K x
 | 0, todo, acc, h1, h2 => by simp only [reach, true_and]; exact h2
 | n + 1, [], acc, h1, h2 => by simp only [reach, true_and]; exact h2
 | n + 1, id :: todo, acc, h1, h2 => by
  have hk := h1 id (by simp)
  have hs := h.same id hk
  have hlt : id < t.length ↔ id < s.length := by
   constructor
   ·intro hi; rw [List.getElem?_eq_getElem hi] at hs; exact (List.getElem?_eq_some_iff.1 hs.symm).1
   ·intro hi; rw [List.getElem?_eq_getElem hi] at hs; exact (List.getElem?_eq_some_iff.1 hs).1
  simp only [reach, hs, hlt]
  have ht : ∀ x ∈ todo, K x := fun x hx => h1 x (by simp [hx])
  split
  ·exact zox h n todo acc ht h2
  ·split
   ·rename_i hi
    refine zox h n _ _ (fun x hx => ?_) (fun x hx => ?_)
    ·rcases List.mem_append.1 hx with hx | hx
     ·exact ht x hx
     ·rw [List.getElem?_eq_getElem hi] at hx
      exact h.closed id _ hk (List.getElem?_eq_getElem hi) x hx
    ·rcases List.mem_append.1 hx with hx | hx
     ·exact h2 x hx
     ·rw [List.mem_singleton.1 hx]; exact hk
   ·exact zox h n todo acc ht h2
theorem zng {K : Nat → Prop} {s t : Mem} (h : Agree K s t) {l : List Nat} (hl : ∀ x ∈ l, K x) : t.pickAll l = s.pickAll l := by
 unfold Mem.pickAll
 refine List.map_congr_left fun x hx => ?_
 rw [h.same x (hl x hx)]
theorem zmt {K : Nat → Prop} {s t : Mem} (hm : Agree K s t) {as : List AV} (hk : InL K as) : order 0 (AV.refs.refsL as) t = order 0 (AV.refs.refsL as) s ∧ ∀ x ∈ order 0 (AV.refs.refsL as) s, K x := by
 have hroots : ∀ x ∈ AV.refs.refsL as, K x := fun x hx => by
  obtain ⟨y, hy, hxy⟩ := refsL_mem.1 hx
  exact hk y hy x hxy
 have h0 : ∀ m : Mem, order 0 (AV.refs.refsL as) m = reach m 1000000000000 (AV.refs.refsL as ++ Mem.refs (m.take 0)) (List.range 0) := fun _ => rfl
 rw [h0, h0]
 simp only [List.take_zero]
 refine zox hm 1000000000000 _ _ (fun x hx => ?_) (fun x hx => ?_)
 ·rcases List.mem_append.1 hx with hx | hx
  ·exact hroots x hx
  ·simp [Mem.refs] at hx
 ·simp at hx
theorem zjr {call : Calls'} {K : Nat → Prop} {s t : St} {fn : Nat} {as : List AV} (hm : Agree K s.mem t.mem) (hk : InL K as) {r : AV} {s' : St} (h : exLook call s fn as = some (r, s')) :
  ∃ (len : Nat) (val : Nat → AV) (new : Nat → List AObj), Makes K len val new ∧ r = val s.mem.length ∧ s' = { s with mem := s.mem ++ new s.mem.length } ∧ exLook call t fn as = some (val t.mem.length, { t with mem := t.mem ++ new t.mem.length }) := by
 have hord := zmt hm hk
 unfold exLook at h ⊢
 dsimp only at h ⊢
 rw [hord.1, zng hm hord.2]
 have hK := hord.2
 clear hord
 generalize order 0 (AV.refs.refsL as) s.mem = l at *
 cases hc : call fn (AV.ren.renL (place l) as) (s.mem.pickAll l) with
 | none => simp [hc] at h
 | some rm =>
  obtain ⟨rv, mc⟩ := rm
  simp only [hc] at h ⊢
  split at h
  case isFalse => cases h
  rename_i hq
  obtain ⟨hmc, hall⟩ := hq
  rw [Bool.and_eq_true] at hall
  obtain ⟨ha1, ha2⟩ := hall
  rw [Bool.and_eq_true] at ha2
  have hb1 : ∀ i ∈ rv.refs, i < mc.length := fun i hi => by simpa using List.all_eq_true.1 ha2.1 i hi
  have hb2 : ∀ o ∈ mc.drop l.length, ∀ i ∈ o.refs, i < mc.length := fun o ho i hi => by
   have := List.all_eq_true.1 ha2.2 o (List.mem_of_mem_drop ho)
   simpa using List.all_eq_true.1 this i hi
  cases h
  have hback : ∀ (p i id : Nat), i < mc.length → (if i < l.length then l[i]? else some (p + (i - l.length))) = some id → K id ∨ (p ≤ id ∧ id < p + (mc.length - l.length)) := by
   intro p i id hi he
   split at he
   ·exact .inl (hK id (List.mem_of_getElem? he))
   ·cases he; right; omega
  have hbind : ∀ (p q : Nat) (f : Nat → Option Nat), (∀ j, j < mc.length - l.length → f (p + j) = some (q + j)) → (∀ id, K id → f id = some id) → ∀ i, i < mc.length → ((if i < l.length then l[i]? else some (p + (i - l.length))).bind f) = (if i < l.length then l[i]? else some (q + (i - l.length))) := by
   intro p q f h1 h2 i hi
   split
   ·rename_i hil
    rw [List.getElem?_eq_getElem hil, Option.bind_some]
    exact h2 _ (hK _ (List.getElem_mem hil))
   ·rw [Option.bind_some]; exact h1 _ (by omega)
  refine ⟨mc.length - l.length, fun p => rv.ren fun i => if i < l.length then l[i]? else some (p + (i - l.length)), fun p => (mc.drop l.length).map (AObj.ren fun i => if i < l.length then l[i]? else some (p + (i - l.length))), ⟨fun p => by simp, fun p id hid => ?_, fun p o ho id hid => ?_, fun p q f h1 h2 => ⟨?_, ?_⟩⟩, rfl, rfl, ?_⟩
  ·obtain ⟨i, hi, e⟩ := zps rv id hid
   exact hback p i id (hb1 i hi) e
  ·obtain ⟨o', ho', rfl⟩ := List.mem_map.1 ho
   obtain ⟨i, hi, e⟩ := zmd o' id hid
   exact hback p i id (hb2 o' ho' i hi) e
  ·rw [zpt]
   exact zpo rv fun i hi => hbind p q f h1 h2 i (hb1 i hi)
  ·rw [List.map_map]
   refine List.map_congr_left fun o ho => ?_
   simp only [Function.comp, zme]
   exact zmb o fun i hi => hbind p q f h1 h2 i (hb2 o ho i hi)
  ·rw [if_pos]
   refine ⟨hmc, ?_⟩
   rw [Bool.and_eq_true, Bool.and_eq_true]
   refine ⟨?_, ha2⟩
   rw [List.all_eq_true] at ha1 ⊢
   intro id hid
   have := ha1 id hid
   rw [hm.same id (hK id hid)]
   exact this
theorem zee {K : Nat → Prop} {s t : Mem} (hm : Agree K s t) {sz : Nat} {x : AV} (hx : In K x) : elemsR t sz x = elemsR s sz x := by
 unfold elemsR
 cases x with
 | osl id off z len cap => simp only [hm.same id (in_osl.1 hx)]
 | imm y => cases y <;> rfl
 | _ => rfl
theorem zhn {K : Nat → Prop} {s t : Mem} (hm : Agree K s t) {sz : Nat} {x : AV} (hx : In K x) {n : Nat} {news : List AV} (h : elemsR s sz x = some (n, news)) : InL K news := by
 unfold elemsR at h
 split at h
 ·have hk := in_osl.1 hx
  split at h
  ·rename_i cs hcs
   simp only [Option.map_eq_some_iff, Prod.mk.injEq] at h
   obtain ⟨r, hr, _, rfl⟩ := h
   exact in_cut (zhx hm hk hcs) hr
  ·simp only [Option.map_eq_some_iff, Prod.mk.injEq] at h
   obtain ⟨r, hr, _, rfl⟩ := h
   exact InL.mapImm r fun x => x
  ·cases h
 ·simp only [Option.map_eq_some_iff, Prod.mk.injEq] at h
  obtain ⟨r, hr, _, rfl⟩ := h
  exact InL.mapImm r fun x => x
 ·cases h
theorem zjx {call : Calls'} {K : Nat → Prop} {x : XOp} (hc : makeOp x = true) {s t : St} (hm : Agree K s.mem t.mem) (he : ∀ n ∈ x.needs, t.env.get n = s.env.get n) (hk : ∀ n ∈ x.needs, In K (s.env.get n))
  (hb : ∀ fn l as r mc, x = .call .own fn l → (l.map s.env.ev).mapM (frz s.mem) = some as → call fn as [] = some (r, mc) → (∀ id ∈ r.refs, id < mc.length) ∧ ∀ o ∈ mc, ∀ id ∈ o.refs, id < mc.length) {r : AV} {s' : St} (h : exOp call s x = some (r, s')) :
  ∃ (len : Nat) (val : Nat → AV) (new : Nat → List AObj), Makes K len val new ∧ r = val s.mem.length ∧ s' = { s with mem := s.mem ++ new s.mem.length } ∧ exOp call t x = some (val t.mem.length, { t with mem := t.mem ++ new t.mem.length }) := by
 have e1 : ∀ y, (∀ n ∈ srcTmp y, n ∈ x.needs) → t.env.ev y = s.env.ev y := fun y hy => zew fun n hn => he n (hy n hn)
 have k1 : ∀ y, (∀ n ∈ srcTmp y, n ∈ x.needs) → In K (s.env.ev y) := fun y hy => in_ev fun n hn => hk n (hy n hn)
 cases x with
 | alloc zs =>
  cases h
  refine ⟨1, fun id => .optr id 0, fun _ => [.rich (imZ zs)], zjy _ (fun id hid => ?_) _ (fun _ => rfl) (fun p q f hf => by simp [AV.ren, hf]), rfl, rfl, rfl⟩
  simp only [AObj.refs] at hid; obtain ⟨x, hx, hid⟩ := refsL_mem.1 hid; exact in_imZ zs x hx id hid
 | box n y =>
  have ky := k1 y (by simp [XOp.needs])
  simp only [exOp] at h ⊢
  rw [e1 y (by simp [XOp.needs])]
  cases hcs : (s.env.ev y).cells with
  | none => rw [hcs] at h; cases h
  | some cs =>
   rw [hcs] at h
   cases h
   refine ⟨1, fun id => .optr id 0, fun _ => [.rich cs], zjy _ (fun id hid => ?_) _ (fun _ => rfl) (fun p q f hf => by simp [AV.ren, hf]), rfl, rfl, rfl⟩
   simp only [AObj.refs] at hid; obtain ⟨x, hx, hid⟩ := refsL_mem.1 hid; exact zhm ky hcs x hx id hid
 | allocB off zs =>
  cases h
  exact ⟨1, fun id => .optr id 0, fun p => [.rich ((imZ zs).set off (.seat p off))], zjz _ off (in_imZ zs), rfl, rfl, rfl⟩
 | boxB off n y =>
  have ky := k1 y (by simp [XOp.needs])
  simp only [exOp] at h ⊢
  rw [e1 y (by simp [XOp.needs])]
  cases hcs : (s.env.ev y).cells with
  | none => rw [hcs] at h; cases h
  | some cs =>
   rw [hcs] at h
   dsimp only at h ⊢
   split at h
   ·rename_i hln
    split at h
    ·rename_i hnil
     cases h
     exact ⟨1, fun id => .optr id 0, fun p => [.rich (cs.set off (.seat p off))], zjz _ off (zhm ky hcs), rfl, rfl, by rw [if_pos hln]; rfl⟩
    ·cases h
   ·cases h
 | buildSlice sz zs len ps =>
  simp only [exOp] at h ⊢
  rw [zev (s := s.env) (t := t.env) (by simpa [XOp.needs] using he)]
  cases hf : fillAll (imZ (copies len zs)) (ps.map fun (o, n, x) => (o, n, s.env.ev x)) with
  | none => rw [hf] at h; cases h
  | some cs =>
   rw [hf] at h
   cases h
   refine ⟨1, fun id => .osl id 0 sz len (some len), fun _ => [mkObj cs], zjy _ (zht (zho _ _ _ (in_imZ _) (fun p hp => ?_) hf)) _ (fun _ => rfl) (fun p q f hf => by simp [AV.ren, hf]), rfl, rfl, rfl⟩
   obtain ⟨q, hq, rfl⟩ := List.mem_map.1 hp
   exact k1 q.2.2 fun n hn => by simp only [XOp.needs]; exact List.mem_flatMap.2 ⟨q, hq, hn⟩
 | makeSlice sz bytes zs l c => cases h
 | appendT sz bytes y z w =>
  have ky := k1 y (by simp [XOp.needs]; intros; simp [*])
  have kz := k1 z (by simp [XOp.needs]; intros; simp [*])
  simp only [exOp, exAppendM] at h ⊢
  rw [e1 y (by simp [XOp.needs]; intros; simp [*]), e1 z (by simp [XOp.needs]; intros; simp [*])]
  generalize s.env.ev y = a at *
  generalize s.env.ev z = b at *
  split at h
  ·rw [zee hm kz, zee hm ky]
   split at h
   ·rename_i n news nn old h1 h2
    split at h
    ·rename_i hc
     cases h
     refine ⟨1, fun id => .osl id 0 sz _ none, fun _ => [.rich (old ++ news)], zjy _ (fun id hid => ?_) _ (fun _ => rfl) (fun p q f hf => by simp [AV.ren, hf]), rfl, rfl, ?_⟩
     ·simp only [AObj.refs] at hid
      obtain ⟨x, hx, hid⟩ := refsL_mem.1 hid
      rcases List.mem_append.1 hx with hx | hx
      ·exact zhn hm ky h2 x hx id hid
      ·exact zhn hm kz h1 x hx id hid
     ·simp only [if_pos hc]; rfl
    ·cases h
   ·cases h
  ·cases h
 | makeMap hint =>
  have mk : Makes K 1 (fun id => .omap id) (fun _ => [.map []]) := zjy _ (fun id hid => by simp [AObj.refs, AV.refs.refsL] at hid) _ (fun _ => rfl) (fun p q f hf => by simp [AV.ren, hf])
  simp only [exOp] at h ⊢
  cases hint with
  | none => cases h; exact ⟨1, _, _, mk, rfl, rfl, rfl⟩
  | some y =>
   simp only at h ⊢
   rw [e1 y (by simp [XOp.needs, srcTmpO])]
   split at h
   ·rename_i i hi; cases h; exact ⟨1, _, _, mk, rfl, rfl, by rfl⟩
   ·cases h
 | call mode fn l =>
  cases mode with
  | own =>
   simp only [exOp, exOwn] at h ⊢
   have hin : InL K (l.map s.env.ev) := fun x hx => by
    obtain ⟨q, hq, rfl⟩ := List.mem_map.1 hx
    exact k1 q fun n hn => by simp only [XOp.needs]; exact List.mem_flatMap.2 ⟨q, hq, hn⟩
   rw [zet (s := s.env) (t := t.env) (by simpa [XOp.needs] using he), zj0 _ fun x hx => zgj hm x (hin x hx)]
   split at h
   ·cases h
   ·rename_i as has
    split at h
    ·cases h
    ·rename_i r0 mc hcall
     obtain ⟨hb1, hb2⟩ := hb fn l as r0 mc rfl has hcall
     split at h
     ·rename_i hcond
      cases h
      refine ⟨mc.length, fun p => r0.ren fun i => some (p + i), fun p => mc.map (AObj.ren fun i => some (p + i)), ⟨fun p => by simp, fun p id hid => ?_, fun p o ho id hid => ?_, fun p q f h1 h2 => ⟨?_, ?_⟩⟩, rfl, rfl, by simp only [hcall, hcond, if_true]⟩
      ·obtain ⟨i, hi, e⟩ := zps r0 id hid
       cases e
       exact .inr ⟨by omega, by have := hb1 i hi; omega⟩
      ·obtain ⟨o', ho', rfl⟩ := List.mem_map.1 ho
       obtain ⟨i, hi, e⟩ := zmd o' id hid
       cases e
       exact .inr ⟨by omega, by have := hb2 o' ho' i hi; omega⟩
      ·rw [zpt]
       exact zpo r0 fun id hid => by simpa using h1 id (hb1 id hid)
      ·rw [List.map_map]
       refine List.map_congr_left fun o ho => ?_
       simp only [Function.comp, zme]
       exact zmb o fun id hid => by simpa using h1 id (hb2 o ho id hid)
     ·cases h
  | look =>
   simp only [exOp] at h ⊢
   have hin : InL K (l.map s.env.ev) := fun x hx => by
    obtain ⟨q, hq, rfl⟩ := List.mem_map.1 hx
    exact k1 q fun n hn => by simp only [XOp.needs]; exact List.mem_flatMap.2 ⟨q, hq, hn⟩
   rw [zet (s := s.env) (t := t.env) (by simpa [XOp.needs] using he)]
   exact zjr hm hin h
  | view => cases hc
  | share => cases hc
  | peek => cases hc
  | touch => cases hc
 | _ => cases hc
end Go.EX


namespace Go.EX
theorem zne {call : Calls'} {K : Nat → Prop} {s t : St} {fn : Nat} {as : List AV} (hm : Agree K s.mem t.mem) (hk : InL K as) {r : AV} {s' : St} (h : exPeek call s fn as = some (r, s')) :
  s' = s ∧ exPeek call t fn as = some (r, t) ∧ In K r := by
 have hroots : ∀ x ∈ AV.refs.refsL as, K x := fun x hx => by
  obtain ⟨y, hy, hxy⟩ := refsL_mem.1 hx
  exact hk y hy x hxy
 have hord : order 0 (AV.refs.refsL as) t.mem = order 0 (AV.refs.refsL as) s.mem ∧ ∀ x ∈ order 0 (AV.refs.refsL as) s.mem, K x := by
  have h0 : ∀ m : Mem, order 0 (AV.refs.refsL as) m = reach m 1000000000000 (AV.refs.refsL as ++ Mem.refs (m.take 0)) (List.range 0) := fun _ => rfl
  rw [h0, h0]
  simp only [List.take_zero]
  refine zox hm 1000000000000 _ _ (fun x hx => ?_) (fun x hx => ?_)
  ·rcases List.mem_append.1 hx with hx | hx
   ·exact hroots x hx
   ·simp [Mem.refs] at hx
  ·simp at hx
 unfold exPeek at h ⊢
 dsimp only at h ⊢
 rw [hord.1, zng hm hord.2]
 cases hc : call fn (AV.ren.renL (place (order 0 (AV.refs.refsL as) s.mem)) as) (s.mem.pickAll (order 0 (AV.refs.refsL as) s.mem)) with
 | none => simp [hc] at h
 | some rm =>
  obtain ⟨rv, mc⟩ := rm
  simp only [hc] at h ⊢
  split at h
  case isFalse => cases h
  rename_i hq
  obtain ⟨hmc, hp, hall⟩ := hq
  cases h
  refine ⟨rfl, ?_, zhu hp⟩
  rw [if_pos]
  refine ⟨hmc, hp, ?_⟩
  rw [List.all_eq_true] at hall ⊢
  intro id hid
  have := hall id hid
  rw [hm.same id (hord.2 id hid)]
  exact this
end Go.EX


namespace Go.EX
theorem zbu {call : Calls'} {K : Nat → Prop} {x : XOp} (hc : calmOp x = true) {s t : St} (hm : Agree K s.mem t.mem) (he : ∀ n ∈ x.reads, t.env.get n = s.env.get n) (hk : ∀ n ∈ x.reads, In K (s.env.get n)) {r : AV} {s' : St} (h : exOp call s x = some (r, s')) :
  s' = s ∧ exOp call t x = some (r, t) ∧ In K r := by
 have hmap : ∀ {α : Type} (o : Option α) (f : α → AV), o.map (fun v => (f v, s)) = some (r, s') → (∀ v, o = some v → In K (f v)) → s' = s ∧ o.map (fun v => (f v, t)) = some (r, t) ∧ In K r := by
  intro α o f ho hf
  cases o with
  | none => cases ho
  | some v => cases ho; exact ⟨rfl, rfl, hf v rfl⟩
 have e1 : ∀ y, (∀ n ∈ srcTmp y, n ∈ x.reads) → t.env.ev y = s.env.ev y := fun y hy => zew fun n hn => he n (hy n hn)
 have k1 : ∀ y, (∀ n ∈ srcTmp y, n ∈ x.reads) → In K (s.env.ev y) := fun y hy => in_ev fun n hn => hk n (hy n hn)
 have eO : ∀ y, (∀ n ∈ srcTmpO y, n ∈ x.reads) → y.map t.env.ev = y.map s.env.ev := fun y hy => zeu fun n hn => he n (hy n hn)
 cases x with
 | mv y =>
  have ky := k1 y (by simp [XOp.reads])
  simp only [exOp] at h ⊢
  rw [e1 y (by simp [XOp.reads])]
  cases h; exact ⟨rfl, rfl, ky⟩
 | load agg y =>
  have ky := k1 y (by simp [XOp.reads])
  simp only [exOp] at h ⊢
  rw [e1 y (by simp [XOp.reads]), zjn hm ky]
  exact hmap _ _ h fun v hv => zhs hm ky hv
 | loadI agg y =>
  have ky := k1 y (by simp [XOp.reads])
  simp only [exOp] at h ⊢
  rw [e1 y (by simp [XOp.reads])]
  split at h
  ·exact hmap _ _ h fun v hv => zhs (s := []) (t := []) ⟨fun _ _ => rfl, fun id o _ ho => by simp at ho⟩ in_imm hv
  ·cases h
 | nilCheck y =>
  have ky := k1 y (by simp [XOp.reads])
  simp only [exOp] at h ⊢
  rw [e1 y (by simp [XOp.reads])]
  revert h; split <;> intro h <;> first | (cases h; done) | (cases h; exact ⟨rfl, rfl, ky⟩)
 | extract y i =>
  have ky := k1 y (by simp [XOp.reads])
  simp only [exOp] at h ⊢
  rw [e1 y (by simp [XOp.reads])]
  revert h; split <;> intro h <;> first | (cases h; done) | skip
  rename_i vs hv
  rw [hv] at ky
  exact hmap _ _ h fun v hv => (in_tup.1 ky).get hv
 | field off agg y =>
  have ky := k1 y (by simp [XOp.reads])
  simp only [exOp] at h ⊢
  rw [e1 y (by simp [XOp.reads])]
  revert h; split <;> intro h <;> first | (cases h; done) | skip
  rename_i cs hv
  rw [hv] at ky
  exact hmap _ _ h fun v hv => zhp (in_agg.1 ky) hv
 | fieldA off y =>
  have ky := k1 y (by simp [XOp.reads])
  simp only [exOp] at h ⊢
  rw [e1 y (by simp [XOp.reads])]
  revert h; split <;> intro h <;> first | (cases h; done) | skip
  ·cases h; exact ⟨rfl, rfl, in_imm⟩
  ·cases h; exact ⟨rfl, rfl, in_tag⟩
  ·rename_i id o hv
   rw [hv] at ky
   cases h; exact ⟨rfl, rfl, in_optr.2 (in_optr.1 ky)⟩
 | eqNil _ _ y | un _ y | conv _ y | convS y | len y | lenS y | cap y =>
  simp only [exOp] at h ⊢
  rw [e1 y (by simp [XOp.reads])]
  first
   | exact hmap _ _ h fun _ _ => in_imm
   | (revert h; split <;> intro h <;> first | (cases h; done) | (cases h; exact ⟨rfl, rfl, in_imm⟩) | exact hmap _ _ h fun _ _ => in_imm)
 | idxP n sz y z =>
  have ky := k1 y (by simp [XOp.reads]; intros; simp [*])
  simp only [exOp] at h ⊢
  rw [e1 y (by simp [XOp.reads]; intros; simp [*]), e1 z (by simp [XOp.reads]; intros; simp [*])]
  split at h
  ·cases h
  ·split at h
   ·rename_i hb
    split at h
    ·cases h; refine ⟨rfl, ?_, in_imm⟩; simp only [*, and_self, if_true]
    ·rename_i heq; cases h; rw [heq] at ky; refine ⟨rfl, ?_, in_optr.2 (in_optr.1 ky)⟩; simp only [*, and_self, if_true]
    ·cases h
   ·cases h
 | idxV n sz agg y z => cases h
 | strOf y => cases h
 | bytesOf y => cases h
 | minmax mn y z =>
  simp only [exOp] at h ⊢
  rw [e1 y (by simp [XOp.reads]; intros; simp [*]), e1 z (by simp [XOp.reads]; intros; simp [*])]
  revert h; split <;> intro h <;> first | (cases h; done) | (cases h; exact ⟨rfl, rfl, in_imm⟩)
 | pick a b c =>
  have kb := k1 b (by simp [XOp.reads]; intros; simp [*])
  have kc := k1 c (by simp [XOp.reads]; intros; simp [*])
  simp only [exOp] at h ⊢
  rw [e1 a (by simp [XOp.reads]; intros; simp [*]), e1 b (by simp [XOp.reads]; intros; simp [*]), e1 c (by simp [XOp.reads]; intros; simp [*])]
  revert h; split <;> intro h <;> first | (cases h; done) | skip
  cases h
  refine ⟨rfl, rfl, ?_⟩
  split
  ·exact kb
  ·exact kc
 | bin _ y z | binB _ y z | eqCells _ _ y z | idxS y z =>
  simp only [exOp] at h ⊢
  rw [e1 y (by simp [XOp.reads]; intros; simp [*]), e1 z (by simp [XOp.reads]; intros; simp [*])]
  repeat' (first | exact hmap _ _ h fun _ _ => in_imm | (cases h; done) | (cases h; exact ⟨rfl, rfl, in_imm⟩) | (revert h; split <;> intro h))
 | idxA _ y z =>
  have ky := k1 y (by simp [XOp.reads]; intros; simp [*])
  simp only [exOp] at h ⊢
  rw [e1 y (by simp [XOp.reads]; intros; simp [*]), e1 z (by simp [XOp.reads]; intros; simp [*])]
  split at h
  ·cases h
  ·split at h
   ·split at h
    ·rename_i hb; cases h; refine ⟨rfl, ?_, in_imm⟩; simp only [*, and_self, if_true]
    ·cases h
   ·split at h
    ·rename_i hb; cases h; refine ⟨rfl, ?_, in_tag⟩; simp only [*, and_self, if_true]
    ·cases h
   ·rename_i heq
    split at h
    ·rename_i hb; cases h; rw [heq] at ky; refine ⟨rfl, ?_, in_optr.2 (in_osl.1 ky)⟩; simp only [*, and_self, if_true]
    ·cases h
   ·cases h
 | build zs ps =>
  simp only [exOp] at h ⊢
  rw [zev (s := s.env) (t := t.env) (by simpa [XOp.reads] using he)]
  refine hmap _ _ h fun v hv => in_agg.2 (zho _ _ _ (in_imZ zs) (fun p hp => ?_) hv)
  obtain ⟨q, hq, rfl⟩ := List.mem_map.1 hp
  exact k1 q.2.2 fun n hn => by simp only [XOp.reads]; exact List.mem_flatMap.2 ⟨q, hq, hn⟩
 | slice sz y lo hi =>
  have ky := k1 y (by simp [XOp.reads]; intros; simp [*])
  simp only [exOp] at h ⊢
  rw [e1 y (by simp [XOp.reads]; intros; simp [*]), eO lo (by simp [XOp.reads]; intros; simp [*]), eO hi (by simp [XOp.reads]; intros; simp [*])]
  refine hmap _ _ h fun v hv => ?_
  generalize s.env.ev y = yv at hv ky
  unfold exSlice at hv
  split at hv
  ·simp only [Option.map_eq_some_iff] at hv; obtain ⟨_, _, rfl⟩ := hv; exact in_imm
  ·simp only [Option.map_eq_some_iff] at hv; obtain ⟨_, _, rfl⟩ := hv; exact in_imm
  ·split at hv
   ·simp only [Option.map_eq_some_iff] at hv; obtain ⟨_, _, rfl⟩ := hv; exact in_osl.2 (in_osl.1 ky)
   ·cases hv
  ·cases hv
 | slice3 sz y hi mx =>
  have ky := k1 y (by simp [XOp.reads]; intros; simp [*])
  simp only [exOp] at h ⊢
  rw [e1 y (by simp [XOp.reads]; intros; simp [*]), e1 hi (by simp [XOp.reads]; intros; simp [*]), e1 mx (by simp [XOp.reads]; intros; simp [*])]
  refine hmap _ _ h fun v hv => ?_
  generalize s.env.ev y = yv at hv ky
  unfold exSlice3 at hv
  split at hv
  ·split at hv
   ·split at hv
    ·cases hv; exact in_imm
    ·cases hv
   ·split at hv
    ·cases hv; exact in_imm
    ·cases hv
   ·split at hv
    ·cases hv; exact in_osl.2 (in_osl.1 ky)
    ·cases hv
   ·cases hv
  ·cases hv
 | sliceS y lo hi =>
  simp only [exOp] at h ⊢
  rw [e1 y (by simp [XOp.reads]; intros; simp [*]), eO lo (by simp [XOp.reads]; intros; simp [*]), eO hi (by simp [XOp.reads]; intros; simp [*])]
  revert h; split <;> intro h <;> first | (cases h; done) | exact hmap _ _ h fun _ _ => in_imm
 | mkClo _ l =>
  simp only [exOp] at h ⊢
  rw [zet (s := s.env) (t := t.env) (by simpa [XOp.reads] using he)]
  cases h
  refine ⟨rfl, rfl, in_clo.2 fun x hx => ?_⟩
  obtain ⟨q, hq, rfl⟩ := List.mem_map.1 hx
  exact k1 q fun n hn => by simp only [XOp.reads]; exact List.mem_flatMap.2 ⟨q, hq, hn⟩
 | lookup kind zs agg y z ok =>
  have ky := k1 y (by simp [XOp.reads]; intros; simp [*])
  have kz := k1 z (by simp [XOp.reads]; intros; simp [*])
  simp only [exOp] at h ⊢
  rw [e1 y (by simp [XOp.reads]; intros; simp [*]), e1 z (by simp [XOp.reads]; intros; simp [*])]
  generalize s.env.ev y = yv at h ky ⊢
  generalize s.env.ev z = zv at h kz ⊢
  have kzero : In K (zeroAV zs agg) := by
   unfold zeroAV
   split
   ·exact in_agg.2 (in_imZ zs)
   ·split
    ·exact in_imm
    ·exact zhr
  have kout : ∀ (v : AV) (b : Bool), In K v → In K (.tup [v, .imm (.val (.bool b))]) := fun v b hv => in_tup.2 fun x hx => by
   simp only [List.mem_cons, List.not_mem_nil, or_false] at hx
   rcases hx with rfl | rfl
   ·exact hv
   ·exact in_imm
  split at h
  ·rename_i hik
   rw [if_pos hik]
   split at h
   ·cases ok <;> cases h
    ·exact ⟨rfl, rfl, kzero⟩
    ·exact ⟨rfl, rfl, kout _ _ kzero⟩
   ·rename_i id
    have hid := in_omap.1 ky
    simp only [hm.same id hid]
    split at h
    ·rename_i es hes
     have hin := in_map hm hid hes
     rw [zfz hm kind kz es 0 fun p hp => (hin p hp).1]
     split at h
     ·cases ok <;> cases h
      ·exact ⟨rfl, rfl, kzero⟩
      ·exact ⟨rfl, rfl, kout _ _ kzero⟩
     ·rename_i i hi
      cases hp : es[i]? with
      | none => rw [hp] at h; cases h
      | some p =>
       rw [hp] at h
       have kp := (hin p (List.mem_of_getElem? hp)).2
       cases ok <;> cases h
       ·exact ⟨rfl, rfl, kp⟩
       ·exact ⟨rfl, rfl, kout _ _ kp⟩
     ·cases h
    ·cases h
   ·cases h
  ·cases h
 | lenM y =>
  have ky := k1 y (by simp [XOp.reads])
  simp only [exOp] at h ⊢
  rw [e1 y (by simp [XOp.reads])]
  generalize s.env.ev y = yv at h ky ⊢
  split at h
  ·cases h; exact ⟨rfl, rfl, in_imm⟩
  ·rename_i id
   simp only [hm.same id (in_omap.1 ky)]
   split at h
   ·cases h; exact ⟨rfl, rfl, in_imm⟩
   ·cases h
  ·cases h
 | call mode fn l =>
  cases mode with
  | view =>
   simp only [exOp, exView] at h ⊢
   have hin : InL K (l.map s.env.ev) := fun x hx => by
    obtain ⟨q, hq, rfl⟩ := List.mem_map.1 hx
    exact k1 q fun n hn => by simp only [XOp.reads]; exact List.mem_flatMap.2 ⟨q, hq, hn⟩
   rw [zet (s := s.env) (t := t.env) (by simpa [XOp.reads] using he), zj0 _ fun x hx => zgj hm x (hin x hx)]
   split at h
   ·cases h
   ·split at h
    ·cases h
    ·rename_i mc hcall
     split at h
     ·rename_i hp
      cases h
      refine ⟨rfl, by simp only [hcall, hp, if_true], ?_⟩
      exact zhu hp
     ·rename_i hp
      split at h
      ·rename_i hi
       simp only [hcall, hp, hi, Bool.false_eq_true, if_true, if_false]
       exact hmap _ _ h fun v hv => in_frz hv
      ·cases h
  | own => cases hc
  | share => cases hc
  | look => cases hc
  | touch => cases hc
  | peek =>
   simp only [exOp] at h ⊢
   have hin : InL K (l.map s.env.ev) := fun x hx => by
    obtain ⟨q, hq, rfl⟩ := List.mem_map.1 hx
    exact k1 q fun n hn => by simp only [XOp.reads]; exact List.mem_flatMap.2 ⟨q, hq, hn⟩
   rw [zet (s := s.env) (t := t.env) (by simpa [XOp.reads] using he)]
   exact zne hm hin h
 | alloc | allocB | box | boxB | buildSlice | store | storeF | frz | ice | append | appendK | appendS | appendT | makeSlice | copy | clear | callV | callT | makeMap | mapSet | rangeS | nextS => cases hc
 | callP g l => cases h
 | restore n y z => cases h
 | junk => cases h; exact ⟨rfl, rfl, zhr⟩
 | litA | litI | litM | litL => cases h
end Go.EX

