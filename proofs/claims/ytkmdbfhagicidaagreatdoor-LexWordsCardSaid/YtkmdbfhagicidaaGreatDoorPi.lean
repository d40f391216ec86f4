import Derived.Test.YtkmdbfhagicidaaGreatDoorBld2
import Derived.Test.YtkmdbfhagicidaaGreatDoorFmt
import Derived.Test.YtkmdbfhagicidaaGreatDoorK10
import Derived.Shelf.Strconv.ParseIntPublic10
import Derived.Shelf.Strconv.Clone
import Derived.FnData
set_option linter.unusedVariables false
set_option linter.unusedSimpArgs false
namespace Go.EX
open Go.Proofs Go.RowKit
def ErrsIn (P : Program) (es : List String) (I : Nat → Prop) (w : World) : Prop := ∀ n ∈ es, (∃ g, P.globalNamed n = some g ∧ I g) ∧ ∃ tp p, w.var? P n = some #[.iface tp p]
theorem ErrsIn.up {P : Program} {es : List String} {I J : Nat → Prop} {w w' : World} (h : ErrsIn P es I w) (hI : ∀ b, I b → J b) (hw : ∀ b, I b → w'.heap[b]? = w.heap[b]?) : ErrsIn P es J w' := by
 intro t ht
 obtain ⟨⟨g, h1, h2⟩, tp, p, h3⟩ := h t ht
 refine ⟨⟨g, h1, hI g h2⟩, tp, p, ?_⟩
 unfold World.var? at *
 rw [h1] at h3 ⊢
 simp only [Option.bind_some] at h3 ⊢
 rw [hw g h2]; exact h3
@[reducible] def Names.errs (f : FuncId → Nat) (P : Program) (ts : List Tab) (es : List String) : Names := ⟨f, fun I w => TabsIn P ts I w ∧ ErrsIn P es I w, fun h hI hw => ⟨h.1.up hI hw, h.2.up hI hw⟩, LoopOK P f, fun e n off => liesB P e n off = true, fun e => isU8 P e = true ∧ P.cellsOf e = 1⟩
section
variable {P : Program}
theorem zej {f0 : FuncId → Nat} {ts : List Tab} {es : List String} {cc : FuncId} {T : TypeId} (L : CheckFacts P cc T) (hb : builderTy P = some T) {g : Nat} (hnum : ∀ f, f0 f = g → f = cc) (hcl : Callable P cc) :
  ExtOK (Names.errs f0 P ts es) P (extCheck g) := by
 intro f args m r m' C vals hc hm hl hr
 unfold extCheck at hc
 split at hc
 ·rename_i hf
  rw [hnum f hf]
  refine ⟨hcl, ?_⟩
  split at hc
  ·rename_i id off
   have hv := zso hl hr
   subst hv
   split at hc
   ·rename_i cs ho
    obtain ⟨arr, e, hw, hcs⟩ := hm.obj id _ ho
    split at hc
    ·rename_i i o hat
     split at hc
     ·rename_i hio
      obtain ⟨rfl, rfl⟩ := hio
      simp only [Option.some.injEq, Prod.mk.injEq] at hc
      obtain ⟨rfl, rfl⟩ := hc
      obtain ⟨u, hu, h1, hru⟩ := hcs _ _ hat
      cases hru with
      | seat _ _ n e' hid hrow hbb =>
       obtain ⟨arr', fz, hw', hn⟩ := hrow
       rw [hw] at hw'
       obtain ⟨rfl, rfl, rfl⟩ : arr = arr' ∧ e = e' ∧ (0, 0) = fz := by simpa using hw'
       subst hn
       have hlt : o < arr.size := (Array.getElem?_eq_some_iff.1 hu).1
       have hlies : liesAt P P.depth e (arr.size / P.cellsOf e) o (T) 1 = true := by
        have : liesB P e arr.size o = true := hbb
        unfold liesB at this
        rw [hb] at this
        exact this
       refine (L.fresh (C.σ i) o arr.size e C.w (by rw [Lib.cell_of_heap hw]; exact hu) (by simp [World.shape?, hw]) hlt hlies (by simp [World.frozen?, hw])).mono ?_
       rintro ex w' ⟨rfl, rfl⟩
       rw [zpx hw]
       have hsz : (arr.setIfInBounds o (.pointer (some ⟨C.σ i, o, none⟩))).size = arr.size := by simp
       have htr := zsi hm ho rfl hw hsz
       refine ⟨_, { C with w := C.w.setRow (C.σ i) (arr.setIfInBounds o (.pointer (some ⟨C.σ i, o, none⟩))) }, rfl, rfl, zsh (o' := .rich (cs.set o (.optr i o))) hm ho rfl hw hsz rfl (fun h => h) ?_ (Nat.le_refl _), .tup [] #[] rfl fun j x u hx _ => by simp at hx⟩
       refine ⟨_, e, by show (C.w.setRow _ _).heap[_]? = _; rw [zpy _ _ _ _ _ hw, if_pos rfl], fun j x hx => ?_⟩
       rw [zpz] at hx
       split at hx
       ·rename_i hj
        obtain ⟨rfl, hj⟩ := hj
        cases hx
        exact ⟨.pointer (some ⟨C.σ i, o, none⟩), by simp [hlt], rfl, .optr _ _ hid⟩
       ·rename_i hj
        have hjl := (List.getElem?_eq_some_iff.1 hx).1
        have hne : o ≠ j := fun e => hj ⟨e, hjl⟩
        obtain ⟨u', hu', ho1, hr'⟩ := hcs j x hx
        exact ⟨u', by rw [Array.getElem?_setIfInBounds, if_neg hne]; exact hu', ho1, hr'.mono htr⟩
     ·cases hc
    ·rename_i i o hat
     split at hc
     ·rename_i hio
      obtain ⟨rfl, rfl⟩ := hio
      simp only [Option.some.injEq, Prod.mk.injEq] at hc
      obtain ⟨rfl, rfl⟩ := hc
      obtain ⟨u, hu, h1, hru⟩ := hcs _ _ hat
      have := ptr_of hru
      subst this
      refine (L.used (C.σ i) o C.w (by rw [Lib.cell_of_heap hw]; exact hu)).mono ?_
      rintro ex w' ⟨rfl, rfl⟩
      exact ⟨_, C, rfl, rfl, .refl hm (Nat.le_refl _), .tup [] #[] rfl fun j x u hx _ => by simp at hx⟩
     ·cases hc
    ·cases hc
   ·cases hc
  ·cases hc
 ·cases hc
theorem zen {f0 : FuncId → Nat} {ts : List Tab} {es : List String} {ρ : Go.Shelf.Ren} (L : Lays.n169 P ρ) (X : Builder.Extra P ρ) {g : Nat} (hnum : ∀ f, f0 f = g → f = ρ.f 169) (hcl : Callable P (ρ.f 169)) :
  ExtOK (Names.errs f0 P ts es) P (extStr g) := by
 intro f args m r m' C vals hc hm hl hr
 unfold extStr at hc
 split at hc
 ·rename_i hf
  rw [hnum f hf]
  refine ⟨hcl, ?_⟩
  split at hc
  ·rename_i id off
   have hv := zso hl hr
   subst hv
   split at hc
   ·rename_i cs ho
    obtain ⟨arr, e, hw, hcs⟩ := hm.obj id _ ho
    split at hc
    ·rename_i hat
     simp only [Option.some.injEq, Prod.mk.injEq] at hc
     obtain ⟨rfl, rfl⟩ := hc
     obtain ⟨u, hu, h1, hru⟩ := hcs _ _ hat
     have := zn0 hru
     subst this
     refine (At.String_nil L X (C.σ id) off C.w (by rw [Lib.cell_of_heap hw]; exact hu)).mono ?_
     rintro ex w' ⟨rfl, rfl⟩
     exact ⟨_, { C with w := C.w.drew }, rfl, rfl, zgi hm rfl rfl rfl (Nat.le_refl _) fun _ _ => rfl, .imm _ _ (.val _ rfl)⟩
    ·rename_i j l hat
     split at hc
     ·rename_i row hj
      split at hc
      ·rename_i ns hns
       split at hc
       ·rename_i hcond
        obtain ⟨hrl, hl0, hall⟩ := hcond
        simp only [Option.some.injEq, Prod.mk.injEq] at hc
        obtain ⟨rfl, rfl⟩ := hc
        obtain ⟨u, hu, h1, hru⟩ := hcs _ _ hat
        obtain ⟨arr2, e2, hw2, ⟨hu8, hc1⟩, hrow⟩ := hm.obj j _ hj
        have he2 := zg4 hu8
        obtain ⟨hnl, hng⟩ := zsc row ns hns
        cases hru with
        | osl _ _ _ _ _ c a n e3 hid hlc hk ha hwr hss =>
         obtain ⟨arr3, fz, hw3, hn⟩ := hwr
         rw [hw2] at hw3
         obtain ⟨rfl, rfl, rfl⟩ : arr2 = arr3 ∧ e2 = e3 ∧ (0, 0) = fz := by simpa using hw3
         subst hn
         have ha0 : a = 0 := by rcases ha with h | h <;> omega
         subst ha0
         have hlen : (ns.map fun n => UInt8.ofNat n.toNat).length = l := by rw [List.length_map, hnl, hrl]
         have hne : (ns.map fun n => UInt8.ofNat n.toNat) ≠ [] := by
          intro h
          rw [h] at hlen
          simp at hlen; omega
         have hsize : l ≤ arr2.size := by rcases hss with h | h <;> omega
         have hcell : ∀ (i : Nat) (x : UInt8), (ns.map fun n => UInt8.ofNat n.toNat)[i]? = some x → arr2[i]? = some (Value.int .u8 x.toNat) := by
          intro i x hx
          rw [List.getElem?_map, Option.map_eq_some_iff] at hx
          obtain ⟨n, hn, rfl⟩ := hx
          have hir : i < row.length := by rw [← hnl]; exact (List.getElem?_eq_some_iff.1 hn).1
          obtain ⟨n', h2, h3⟩ := hng i row[i] (List.getElem?_eq_getElem hir)
          rw [hn] at h3
          cases h3
          obtain ⟨u, h4, h5⟩ := hrow i _ (List.getElem?_eq_getElem hir)
          rw [h2] at h5
          cases h5
          rw [h4]
          have h6 := List.all_eq_true.1 hall n (List.mem_of_getElem? hn)
          simp only [Bool.and_eq_true, decide_eq_true_eq] at h6
          have h7 : ((UInt8.ofNat n.toNat).toNat : Int) = n := by
           rw [UInt8.toNat_ofNat']
           omega
          rw [h7]
         rw [← hlen] at hu
         rw [zmr]
         refine (At.String_some L X (C.σ id) off (C.σ j) c arr2 e2 _ C.w (by rw [Lib.cell_of_heap hw]; exact hu) hne (by omega) hlc.2 hw2 (by omega) hc1 he2 hcell).mono ?_
         rintro ex w' ⟨rfl, rfl⟩
         rw [hlen]
         have hget := fun b => zff hw2 (n := l) (by omega) b
         have hk : ∀ b, b < C.w.heap.size → b ≠ C.σ j → (C.w.drew.freeze ⟨C.σ j, 0, none⟩ l).heap[b]? = C.w.heap[b]? := fun b _ hb => by rw [hget b, if_neg hb]
         have hsz : ∀ n e, RowAt C.w (C.σ j) n e → RowAt (C.w.drew.freeze ⟨C.σ j, 0, none⟩ l) (C.σ j) n e := fun n e h => h.put hw2 (by rw [hget, if_pos rfl]) rfl
         have hfs : (C.w.drew.freeze ⟨C.σ j, 0, none⟩ l).heap.size = C.w.heap.size := by
          unfold World.freeze
          split
          ·rfl
          ·simp
         have hfe : (C.w.drew.freeze ⟨C.σ j, 0, none⟩ l).os = C.w.os ∧ (C.w.drew.freeze ⟨C.σ j, 0, none⟩ l).tape = C.w.tape ∧ (C.w.drew.freeze ⟨C.σ j, 0, none⟩ l).output = C.w.output := by
          unfold World.freeze
          split <;> exact ⟨rfl, rfl, rfl⟩
         exact ⟨_, C.claim (C.σ j) (C.w.drew.freeze ⟨C.σ j, 0, none⟩ l), rfl, rfl, zbv (p := .dead) hm hj rfl (.inl rfl) hfe.1 hfe.2.1 hfe.2.2 (by rw [hfs]; exact Nat.le_refl _) hk hsz trivial (Nat.le_refl _) rfl, .imm _ _ (.val _ rfl)⟩
       ·cases hc
      ·cases hc
     ·cases hc
    ·cases hc
   ·cases hc
  ·cases hc
 ·cases hc
theorem zel {f0 : FuncId → Nat} {ts : List Tab} {es : List String} {ρ : Go.Shelf.Ren} (L : LaysM.n246 P ρ) (ht : ("internal/strconv.uint64pow10", IntKind.u64, Lib.pow10Tab) ∈ ts) {g : Nat} (hnum : ∀ f, f0 f = g → f = ρ.f 246) (hcl : Callable P (ρ.f 246)) :
  ExtOK (Names.errs f0 P ts es) P (extItoa g) := by
 intro f args m r m' C vals hc hm hl hr
 unfold extItoa at hc
 split at hc
 ·rename_i hf
  rw [hnum f hf]
  refine ⟨hcl, ?_⟩
  split at hc
  ·rename_i n
   split at hc
   ·rename_i hn
    simp only [Option.some.injEq, Prod.mk.injEq] at hc
    obtain ⟨rfl, rfl⟩ := hc
    have hv : vals = #[.int .i64 n, .int .i64 10] := zsq hl hr
    subst hv
    have htab := (hm.glo.1 _ ht).2
    refine (Any.internal_strconv_FormatInt_10 L n hn.1 hn.2 C.w htab).mono ?_
    rintro e w' ⟨rfl, k, os, rfl⟩
    refine ⟨_, { C with w := _ }, rfl, rfl, zgi hm rfl rfl rfl ?_ ?_, .imm _ _ (.val _ rfl)⟩
    ·simp [Go.Sort.grow, World.drewN]
    ·intro b hb
     simp [Go.Sort.grow, World.drewN, Array.getElem?_append, hb]
   ·cases hc
  ·cases hc
 ·cases hc
theorem za1 {num : Names} {C : Cx} {m : Mem} (hm : MRep num C m) {w' : World} (h : Below C.w.heap.size C.w w') : Step num m.length C m { C with w := w' } m :=
 zgi hm h.os h.tape h.output h.size h.block
theorem zsp {num : Names} {C : Cx} {a b c : Value} {vals : Array Value} (hl : [AV.imm (.val a), AV.imm (.val b), AV.imm (.val c)].length = vals.size) (hr : ∀ (j : Nat) (x : AV) (u : Value), [AV.imm (.val a), AV.imm (.val b), AV.imm (.val c)][j]? = some x → vals[j]? = some u → ARep num C x u) :
  vals = #[a, b, c] := by
 obtain ⟨l⟩ := vals
 match l, hl, hr with
 | [u, v, w], _, hr => rw [zn0 (hr 0 _ u rfl rfl), zn0 (hr 1 _ v rfl rfl), zn0 (hr 2 _ w rfl rfl)]
theorem zsn {num : Names} {C : Cx} {a : Value} {vals : Array Value} (hl : [AV.imm (.val a)].length = vals.size) (hr : ∀ (j : Nat) (x : AV) (u : Value), [AV.imm (.val a)][j]? = some x → vals[j]? = some u → ARep num C x u) :
  vals = #[a] := by
 obtain ⟨l⟩ := vals
 match l, hl, hr with
 | [u], _, hr => rw [zn0 (hr 0 _ u rfl rfl)]
theorem znz {num : Names} {C : Cx} {x y : AV} {a b : Value} (h1 : ARep num C x a) (h2 : ARep num C y b) : ARep num C (.tup [x, y]) (.tuple #[a, b]) := by
 refine .tup _ _ rfl fun j z u hz hu => ?_
 match j with
 | 0 => cases hz; cases hu; exact h1
 | 1 => cases hz; cases hu; exact h2
 | j + 2 => simp at hz
theorem zem {f0 : FuncId → Nat} {ts : List Tab} {es : List String} {ρ : Go.Shelf.Ren} (L : LaysC.n174 P ρ) (hs : "strconv.ErrSyntax" ∈ es) (hg : "strconv.ErrRange" ∈ es) {g : Nat} (hnum : ∀ f, f0 f = g → f = ρ.f 174) (hcl : Callable P (ρ.f 174)) :
  ExtOK (Names.errs f0 P ts es) P (extPI g) := by
 intro f args m r m' C vals hc hm hl hr
 unfold extPI at hc
 split at hc
 ·rename_i hf
  rw [hnum f hf]
  refine ⟨hcl, ?_⟩
  split at hc
  ·rename_i s
   split at hc
   ·rename_i hsz
    have hv := zsp hl hr
    subst hv
    split at hc
    ·rename_i v hp
     simp only [Option.some.injEq, Prod.mk.injEq] at hc
     obtain ⟨rfl, rfl⟩ := hc
     refine (Any.strconv_ParseInt_10_at64_ok L s (by omega) v hp C.w).mono ?_
     rintro e w' ⟨rfl, hw⟩
     have hb : Below C.w.heap.size C.w w' := by
      rcases hw with rfl | ⟨t, rfl⟩
      ·exact Below.refl _ _
      ·exact Lib.bytesWorld_below _ _ _
     exact ⟨_, { C with w := w' }, rfl, rfl, za1 hm hb, znz (.imm _ _ (.val _ rfl)) (.imm _ _ (.val _ rfl))⟩
    ·rename_i hp
     simp only [Option.some.injEq, Prod.mk.injEq] at hc
     obtain ⟨rfl, rfl⟩ := hc
     obtain ⟨_, tp, p, hvar⟩ := hm.glo.2 _ hg
     have h0 := World.var?_cell L.m16 hvar 0
     refine (Any.strconv_ParseInt_10_at64_range L s (by omega) hp (.iface tp p) C.w (by simpa using h0) (Or.inr ⟨tp, p, rfl⟩)).mono ?_
     rintro e w' ⟨N, rfl, _, _, hb⟩
     exact ⟨_, { C with w := w' }, rfl, rfl, za1 hm hb, znz (.imm _ _ (.val _ rfl)) (.err _ _)⟩
    ·rename_i hp
     simp only [Option.some.injEq, Prod.mk.injEq] at hc
     obtain ⟨rfl, rfl⟩ := hc
     obtain ⟨_, tp, p, hvar⟩ := hm.glo.2 _ hs
     have h0 := World.var?_cell L.m15 hvar 0
     refine (Any.strconv_ParseInt_10_at64_syntax L s (by omega) hp (.iface tp p) C.w (by simpa using h0) (Or.inr ⟨tp, p, rfl⟩)).mono ?_
     rintro e w' ⟨N, rfl, _, _, hb⟩
     exact ⟨_, { C with w := w' }, rfl, rfl, za1 hm hb, znz (.imm _ _ (.val _ rfl)) (.err _ _)⟩
   ·cases hc
  ·cases hc
 ·cases hc
theorem zek {f0 : FuncId → Nat} {ts : List Tab} {es : List String} {ρ : Go.Shelf.Ren} (L : LaysM.n316 P ρ) {g : Nat} (hnum : ∀ f, f0 f = g → f = ρ.f 316) (hcl : Callable P (ρ.f 316)) :
  ExtOK (Names.errs f0 P ts es) P (extCl g) := by
 intro f args m r m' C vals hc hm hl hr
 unfold extCl at hc
 split at hc
 ·rename_i hf
  rw [hnum f hf]
  refine ⟨hcl, ?_⟩
  split at hc
  ·rename_i s
   split at hc
   ·rename_i hsz
    have hv := zsn hl hr
    subst hv
    simp only [Option.some.injEq, Prod.mk.injEq] at hc
    obtain ⟨rfl, rfl⟩ := hc
    refine (Any.stringslite_Clone L s C.w (by omega)).mono ?_
    rintro e w' ⟨rfl, hb⟩
    exact ⟨_, { C with w := w' }, rfl, rfl, za1 hm hb, .imm _ _ (.val _ rfl)⟩
   ·cases hc
  ·cases hc
 ·cases hc
end
end Go.EX

