import Derived.Test.YtedddogbgdbpmaaDoorBld
import Derived.Test.YtedddogbgdbpmaaDoorFmt
set_option linter.unusedVariables false
set_option linter.unusedSimpArgs false
namespace Go.EX
open Go.Proofs
theorem zrz {w : World} {b o : Nat} {v : Value} {arr : Array Value} {e : TypeId} (hw : w.heap[b]? = some (.cells arr e (0, 0))) : w.setCell ⟨b, o, none⟩ v = w.setRow b (arr.setIfInBounds o v) := by
 have hlt : b < w.heap.size := (Array.getElem?_eq_some_iff.1 hw).1
 unfold World.setCell World.setRow
 congr 1
 refine Array.ext (by simp) fun i h1 h2 => ?_
 simp only [Array.getElem_modify]
 split
 ·rename_i hi
  subst hi
  have : w.heap[b] = .cells arr e (0, 0) := by rw [Array.getElem?_eq_getElem hlt] at hw; exact Option.some.inj hw
  simp [this]
 ·rfl
def extCheck (g : Nat) : Calls' := fun f args m => if f = g then match args with
  | [.optr id off] => match m[id]? with
   | some (.rich cs) => match cs[off]? with
    | some (.seat i o) => if i = id ∧ o = off then some (.tup [], m.set id (.rich (cs.set off (.optr id off)))) else none
    | some (.optr i o) => if i = id ∧ o = off then some (.tup [], m) else none
    | _ => none
   | _ => none
  | _ => none
 else none
def extStr (g : Nat) : Calls' := fun f args m => if f = g then match args with
  | [.optr id off] => match m[id]? with
   | some (.rich cs) => match cs[off + 1]? with
    | some (.imm (.val (.slice none 0 0))) => some (.imm (.val (.string .empty)), m)
    | some (.osl j 0 1 l none) => match m[j]? with
     | some (.text row) => match u8s row with
      | some ns => if row.length = l ∧ 0 < l ∧ (ns.all fun n => decide (0 ≤ n) && decide (n < 256)) = true then some (.imm (.val (.string (pushAll ns))), m.set j .dead ++ [.dead]) else none
      | none => none
     | _ => none
    | _ => none
   | _ => none
  | _ => none
 else none
section
variable {P : Program}
theorem zum {num : Names} {C : Cx} {id off : Nat} {vals : Array Value} (hl : [AV.optr id off].length = vals.size) (hr : ∀ (j : Nat) (x : AV) (u : Value), [AV.optr id off][j]? = some x → vals[j]? = some u → ARep num C x u) :
  vals = #[.pointer (some ⟨C.σ id, off, none⟩)] := by
 obtain ⟨l⟩ := vals
 match l, hl, hr with
 | [u], _, hr =>
  have := hr 0 _ u rfl rfl
  cases this
  rfl
theorem ptr_of {num : Names} {C : Cx} {i o : Nat} {u : Value} (h : ARep num C (.optr i o) u) : u = .pointer (some ⟨C.σ i, o, none⟩) := by cases h; rfl
theorem zfi {f0 : FuncId → Nat} {ts : List Tab} {cc : FuncId} {T : TypeId} (L : CheckFacts P cc T) (hb : builderTy P = some T) {g : Nat} (hnum : ∀ f, f0 f = g → f = cc) (hcl : Callable P cc) :
  ExtOK (Names.tabs f0 P ts) P (extCheck g) := by
 intro f args m r m' C vals hc hm hl hr
 unfold extCheck at hc
 split at hc
 ·rename_i hf
  rw [hnum f hf]
  refine ⟨hcl, ?_⟩
  split at hc
  ·rename_i id off
   have hv := zum hl hr
   subst hv
   split at hc
   ·rename_i cs ho
    obtain ⟨arr, e, hw, hcs⟩ := hm.obj id _ ho
    split at hc
    ·rename_i i o hat
     split at hc
     ·rename_i hio
      obtain ⟨rfl, rfl⟩ := hio
      simp only [Option.some.injEq, Prod.mk.injEq] at hc
      obtain ⟨rfl, rfl⟩ := hc
      obtain ⟨u, hu, h1, hru⟩ := hcs _ _ hat
      cases hru with
      | seat _ _ n e' hid hrow hbb =>
       obtain ⟨arr', fz, hw', hn⟩ := hrow
       rw [hw] at hw'
       obtain ⟨rfl, rfl, rfl⟩ : arr = arr' ∧ e = e' ∧ (0, 0) = fz := by simpa using hw'
       subst hn
       have hlt : o < arr.size := (Array.getElem?_eq_some_iff.1 hu).1
       have hlies : liesAt P P.depth e (arr.size / P.cellsOf e) o (T) 1 = true := by
        have : liesB P e arr.size o = true := hbb
        unfold liesB at this
        rw [hb] at this
        exact this
       refine (L.fresh (C.σ i) o arr.size e C.w (by rw [Lib.cell_of_heap hw]; exact hu) (by simp [World.shape?, hw]) hlt hlies (by simp [World.frozen?, hw])).mono ?_
       rintro ex w' ⟨rfl, rfl⟩
       rw [zrz hw]
       have hsz : (arr.setIfInBounds o (.pointer (some ⟨C.σ i, o, none⟩))).size = arr.size := by simp
       have htr := zuh hm ho rfl hw hsz
       refine ⟨_, { C with w := C.w.setRow (C.σ i) (arr.setIfInBounds o (.pointer (some ⟨C.σ i, o, none⟩))) }, rfl, rfl, zug (o' := .rich (cs.set o (.optr i o))) hm ho rfl hw hsz rfl (fun h => h) ?_ (Nat.le_refl _), .tup [] #[] rfl fun j x u hx _ => by simp at hx⟩
       refine ⟨_, e, by show (C.w.setRow _ _).heap[_]? = _; rw [zr0 _ _ _ _ _ hw, if_pos rfl], fun j x hx => ?_⟩
       rw [zr1] at hx
       split at hx
       ·rename_i hj
        obtain ⟨rfl, hj⟩ := hj
        cases hx
        exact ⟨.pointer (some ⟨C.σ i, o, none⟩), by simp [hlt], rfl, .optr _ _ hid⟩
       ·rename_i hj
        have hjl := (List.getElem?_eq_some_iff.1 hx).1
        have hne : o ≠ j := fun e => hj ⟨e, hjl⟩
        obtain ⟨u', hu', ho1, hr'⟩ := hcs j x hx
        exact ⟨u', by rw [Array.getElem?_setIfInBounds, if_neg hne]; exact hu', ho1, hr'.mono htr⟩
     ·cases hc
    ·rename_i i o hat
     split at hc
     ·rename_i hio
      obtain ⟨rfl, rfl⟩ := hio
      simp only [Option.some.injEq, Prod.mk.injEq] at hc
      obtain ⟨rfl, rfl⟩ := hc
      obtain ⟨u, hu, h1, hru⟩ := hcs _ _ hat
      have := ptr_of hru
      subst this
      refine (L.used (C.σ i) o C.w (by rw [Lib.cell_of_heap hw]; exact hu)).mono ?_
      rintro ex w' ⟨rfl, rfl⟩
      exact ⟨_, C, rfl, rfl, .refl hm (Nat.le_refl _), .tup [] #[] rfl fun j x u hx _ => by simp at hx⟩
     ·cases hc
    ·cases hc
   ·cases hc
  ·cases hc
 ·cases hc
theorem zga {w : World} {g n : Nat} {arr : Array Value} {e : TypeId} (hw : w.heap[g]? = some (.cells arr e (0, 0))) (hn : n ≠ 0) (b : Nat) :
  (w.drew.freeze ⟨g, 0, none⟩ n).heap[b]? = if b = g then some (.cells arr e (0, 0 + n)) else w.heap[b]? := by
 unfold World.freeze
 rw [if_neg hn]
 simp only [World.drew, Array.getElem?_modify]
 by_cases h : g = b
 ·subst h
  simp [hw]
 ·rw [if_neg h, if_neg (fun e => h e.symm)]
theorem zn6 (ns : List Int) : pushAll ns = ⟨(ns.map fun n => UInt8.ofNat n.toNat).toArray⟩ := by
 have key : ∀ (ns : List Int) (b : ByteArray), ns.foldl (fun r n => r.push (UInt8.ofNat n.toNat)) b = ⟨b.data ++ (ns.map fun n => UInt8.ofNat n.toNat).toArray⟩ := by
  intro ns
  induction ns with
  | nil => intro b; simp
  | cons n r ih =>
   intro b
   rw [List.foldl_cons, ih]
   simp [ByteArray.push]
 have := key ns .empty
 unfold pushAll
 rw [this]
 have h0 : (ByteArray.empty).data = #[] := rfl
 rw [h0, Array.empty_append]
theorem zfn {f0 : FuncId → Nat} {ts : List Tab} {ρ : Go.Shelf.Ren} (L : Lays.n169 P ρ) (X : Builder.Extra P ρ) {g : Nat} (hnum : ∀ f, f0 f = g → f = ρ.f 169) (hcl : Callable P (ρ.f 169)) :
  ExtOK (Names.tabs f0 P ts) P (extStr g) := by
 intro f args m r m' C vals hc hm hl hr
 unfold extStr at hc
 split at hc
 ·rename_i hf
  rw [hnum f hf]
  refine ⟨hcl, ?_⟩
  split at hc
  ·rename_i id off
   have hv := zum hl hr
   subst hv
   split at hc
   ·rename_i cs ho
    obtain ⟨arr, e, hw, hcs⟩ := hm.obj id _ ho
    split at hc
    ·rename_i hat
     simp only [Option.some.injEq, Prod.mk.injEq] at hc
     obtain ⟨rfl, rfl⟩ := hc
     obtain ⟨u, hu, h1, hru⟩ := hcs _ _ hat
     have := zpy hru
     subst this
     refine (At.String_nil L X (C.σ id) off C.w (by rw [Lib.cell_of_heap hw]; exact hu)).mono ?_
     rintro ex w' ⟨rfl, rfl⟩
     exact ⟨_, { C with w := C.w.drew }, rfl, rfl, zg6 hm rfl rfl rfl (Nat.le_refl _) fun _ _ => rfl, .imm _ _ (.val _ rfl)⟩
    ·rename_i j l hat
     split at hc
     ·rename_i row hj
      split at hc
      ·rename_i ns hns
       split at hc
       ·rename_i hcond
        obtain ⟨hrl, hl0, hall⟩ := hcond
        simp only [Option.some.injEq, Prod.mk.injEq] at hc
        obtain ⟨rfl, rfl⟩ := hc
        obtain ⟨u, hu, h1, hru⟩ := hcs _ _ hat
        obtain ⟨arr2, e2, hw2, ⟨hu8, hc1⟩, hrow⟩ := hm.obj j _ hj
        have he2 := zhz hu8
        obtain ⟨hnl, hng⟩ := zuc row ns hns
        cases hru with
        | osl _ _ _ _ _ c a n e3 hid hlc hk ha hwr hss =>
         obtain ⟨arr3, fz, hw3, hn⟩ := hwr
         rw [hw2] at hw3
         obtain ⟨rfl, rfl, rfl⟩ : arr2 = arr3 ∧ e2 = e3 ∧ (0, 0) = fz := by simpa using hw3
         subst hn
         have ha0 : a = 0 := by rcases ha with h | h <;> omega
         subst ha0
         have hlen : (ns.map fun n => UInt8.ofNat n.toNat).length = l := by rw [List.length_map, hnl, hrl]
         have hne : (ns.map fun n => UInt8.ofNat n.toNat) ≠ [] := by
          intro h
          rw [h] at hlen
          simp at hlen; omega
         have hsize : l ≤ arr2.size := by rcases hss with h | h <;> omega
         have hcell : ∀ (i : Nat) (x : UInt8), (ns.map fun n => UInt8.ofNat n.toNat)[i]? = some x → arr2[i]? = some (Value.int .u8 x.toNat) := by
          intro i x hx
          rw [List.getElem?_map, Option.map_eq_some_iff] at hx
          obtain ⟨n, hn, rfl⟩ := hx
          have hir : i < row.length := by rw [← hnl]; exact (List.getElem?_eq_some_iff.1 hn).1
          obtain ⟨n', h2, h3⟩ := hng i row[i] (List.getElem?_eq_getElem hir)
          rw [hn] at h3
          cases h3
          obtain ⟨u, h4, h5⟩ := hrow i _ (List.getElem?_eq_getElem hir)
          rw [h2] at h5
          cases h5
          rw [h4]
          have h6 := List.all_eq_true.1 hall n (List.mem_of_getElem? hn)
          simp only [Bool.and_eq_true, decide_eq_true_eq] at h6
          have h7 : ((UInt8.ofNat n.toNat).toNat : Int) = n := by
           rw [UInt8.toNat_ofNat']
           omega
          rw [h7]
         rw [← hlen] at hu
         rw [zn6]
         refine (At.String_some L X (C.σ id) off (C.σ j) c arr2 e2 _ C.w (by rw [Lib.cell_of_heap hw]; exact hu) hne (by omega) hlc.2 hw2 (by omega) hc1 he2 hcell).mono ?_
         rintro ex w' ⟨rfl, rfl⟩
         rw [hlen]
         have hget := fun b => zga hw2 (n := l) (by omega) b
         have hk : ∀ b, b < C.w.heap.size → b ≠ C.σ j → (C.w.drew.freeze ⟨C.σ j, 0, none⟩ l).heap[b]? = C.w.heap[b]? := fun b _ hb => by rw [hget b, if_neg hb]
         have hsz : ∀ n e, RowAt C.w (C.σ j) n e → RowAt (C.w.drew.freeze ⟨C.σ j, 0, none⟩ l) (C.σ j) n e := fun n e h => h.put hw2 (by rw [hget, if_pos rfl]) rfl
         have hfs : (C.w.drew.freeze ⟨C.σ j, 0, none⟩ l).heap.size = C.w.heap.size := by
          unfold World.freeze
          split
          ·rfl
          ·simp
         have hfe : (C.w.drew.freeze ⟨C.σ j, 0, none⟩ l).os = C.w.os ∧ (C.w.drew.freeze ⟨C.σ j, 0, none⟩ l).tape = C.w.tape ∧ (C.w.drew.freeze ⟨C.σ j, 0, none⟩ l).output = C.w.output := by
          unfold World.freeze
          split <;> exact ⟨rfl, rfl, rfl⟩
         exact ⟨_, C.claim (C.σ j) (C.w.drew.freeze ⟨C.σ j, 0, none⟩ l), rfl, rfl, zcl (p := .dead) hm hj rfl (.inl rfl) hfe.1 hfe.2.1 hfe.2.2 (by rw [hfs]; exact Nat.le_refl _) hk hsz trivial (Nat.le_refl _) rfl, .imm _ _ (.val _ rfl)⟩
       ·cases hc
      ·cases hc
     ·cases hc
    ·cases hc
   ·cases hc
  ·cases hc
 ·cases hc
end
end Go.EX

