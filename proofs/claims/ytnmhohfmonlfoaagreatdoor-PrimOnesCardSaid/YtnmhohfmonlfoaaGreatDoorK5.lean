import Derived.Test.YtnmhohfmonlfoaaGreatDoorK4
import Derived.Test.YtnmhohfmonlfoaaGreatDoorK3
import Derived.Laws.BytesString
import Derived.Lib.ConvBytes
import Derived.LoopN
import Derived.StillTail
import Derived.OrdersIn
import Derived.TacticsIn
import Derived.OwnWalkIn
set_option linter.unusedVariables false
set_option linter.unusedSimpArgs false
namespace Go.EX
section
variable {num : Names} {P : Program}
variable {ty : TypeId} {pos : String} {after : Array Edge} {a : Act} {C : Cx} {s : St}
theorem zrk {m : Mem} (hm : MRep num C m) {id : Nat} {cs : List IV} (ho : m[id]? = some (.text cs)) : MRep num C (m.set id (.flat cs false)) := by
 have hid : id < m.length := (List.getElem?_eq_some_iff.1 ho).1
 have split : ∀ (i : Nat) p, (m.set id (.flat cs false))[i]? = some p → (i = id ∧ p = .flat cs false) ∨ (i ≠ id ∧ m[i]? = some p) := by
  intro i p hp
  rw [zp1] at hp
  split at hp
  ·rename_i h; exact .inl ⟨h.1.symm, (Option.some.inj hp).symm⟩
  ·rename_i h; exact .inr ⟨fun e => h ⟨e.symm, by rw [e]; exact hid⟩, hp⟩
 have own : ∀ b, Own C (m.set id (.flat cs false)) b → Own C m b := by
  rintro b ⟨i, p, hp, hl, hb⟩
  rcases split i p hp with ⟨rfl, rfl⟩ | ⟨_, hp'⟩
  ·exact ⟨i, _, ho, rfl, hb⟩
  ·exact ⟨i, p, hp', hl, hb⟩
 refine ⟨by simpa using hm.len, fun i p hp => ?_, fun i j p q hp hq h1 h2 he => ?_, fun b hb => hm.imm b (own b hb), hm.bd, hm.glo⟩
 ·rcases split i p hp with ⟨rfl, rfl⟩ | ⟨_, hp'⟩
  ·obtain ⟨arr, e, h1, _, h2⟩ := hm.obj i _ ho
   exact ⟨arr, e, h1, h2⟩
  ·exact hm.obj i p hp'
 ·rcases split i p hp with ⟨rfl, rfl⟩ | ⟨hi, hp'⟩ <;> rcases split j q hq with ⟨rfl, rfl⟩ | ⟨hj, hq'⟩
  ·exact .inl rfl
  ·rcases hm.inj _ j _ q ho hq' rfl h2 he with h | h
   ·exact .inl h
   ·cases q <;> cases h
  ·rcases hm.inj i _ p _ hp' ho h1 rfl he with h | h
   ·exact .inl h
   ·cases p <;> cases h
  ·exact hm.inj i j p q hp' hq' h1 h2 he
theorem zrl {D : Cx} (ht : Tr some C D) {olds us : Array Value} {ol nl : List IV} (ho : ∀ (j : Nat) x, ol[j]? = some x → ∃ u : Value, olds[j]? = some u ∧ IRep C.I C.w x u) (hol : ol.length = olds.size)
  (hn : ∀ (j : Nat) x, nl[j]? = some x → ∃ u : Value, us[j]? = some u ∧ IRep C.I C.w x u) {arr : Array Value} (h1 : ∀ j : Nat, j < olds.size → arr[j]? = olds[j]?) (h2 : ∀ j : Nat, j < us.size → arr[olds.size + j]? = us[j]?) :
  ∀ (j : Nat) x, (ol ++ nl)[j]? = some x → ∃ u : Value, arr[j]? = some u ∧ IRep D.I D.w x u := by
 intro j x hx
 rcases Nat.lt_or_ge j ol.length with h | h
 ·rw [List.getElem?_append_left h] at hx
  obtain ⟨u, hu, hr⟩ := ho j x hx
  exact ⟨u, by rw [h1 j (by omega)]; exact hu, hr.mono ht.imm ht.keep⟩
 ·rw [List.getElem?_append_right h] at hx
  obtain ⟨u, hu, hr⟩ := hn _ x hx
  have hj := (Array.getElem?_eq_some_iff.1 hu).1
  refine ⟨u, ?_, hr.mono ht.imm ht.keep⟩
  have := h2 (j - ol.length) hj
  rw [← hol] at this
  have e : ol.length + (j - ol.length) = j := by omega
  rw [e] at this
  rw [this]; exact hu
theorem ztb (hU : ∀ e, isU8 P e = true → P.cellsOf e = 1 → num.U e) (hs : SRep num C s a) {t u e : TypeId} {d : TypeDesc} {x y : Operand} {x' y' : Src} (ht : P.underlying t = some (.slice e)) (hu : P.underlying u = some d) (hd : notIntD d = true) (hk : known P e = true) (h0 : 0 < P.cellsOf e) (hb0 : 0 < P.bytesOf e)
  (hz : zeroOk P e = true) (hc1 : P.cellsOf e = 1) (hb1 : P.bytesOf e = 1) (hu8 : isU8 P e = true) (hx : trSrc num x = some x') (hy : trSrc num y = some y') {r : AV} {s' : St} (h : exAppendS s (s.env.ev x') (s.env.ev y') = some (r, s')) :
  Yields num P (.call { callee := .builtin .append, args := #[x, y], argTypes := #[t, u] }) ty pos after a C s r s' := by
 obtain ⟨i, dd, hi, _, hsz, hby⟩ := zhu hk
 obtain ⟨z, hzi, hzs⟩ : ∃ z, i.zero = some z ∧ z.cells.size = P.cellsOf e := by
  unfold zeroOk zeroCellsOf at hz
  rw [hi] at hz
  cases hq : i.zero with
  | none => simp [hq] at hz
  | some z => simp [hq] at hz; exact ⟨z, rfl, hz⟩
 have hm := hs.mem
 have hlen := hm.len
 have hue := hU e hu8 hc1
 unfold exAppendS at h
 cases hel : elems s.mem 1 (s.env.ev y') with
 | none => simp [hel] at h
 | some nn =>
  obtain ⟨n, news⟩ := nn
  simp only [hel] at h
  have hax := zql hs hx
  split at h
  ·rename_i heq
   by_cases hn0 : n = 0
   ·rw [if_pos hn0] at h
    cases h
    have h9 : exAppend s (P.cellsOf e) (P.bytesOf e) (s.env.ev x') (s.env.ev y') = some (s.env.ev x', s) := by
     unfold exAppend
     rw [hc1, hel, heq]
     simp [hn0]
    rw [heq] at h9
    exact zs8 hs ht hu hd hk h0 hb0 hz hx hy (by rw [heq]; exact h9)
   ·rw [if_neg hn0] at h
    obtain ⟨us, hg⟩ := zgc (P := P) hm (zql hs hy) hel
    have hexec : ∀ (b : Option Addr) (l c : Nat) (v : Value) (w' : World), a.eval x = .slice b l c → (Builtin.append_ #[t, u] ty #[.slice b l c, a.eval y]).run P C.w = .ok v w' →
      ∀ dst g, (execOp a.eval ⟨dst, .call { callee := .builtin .append, args := #[x, y], argTypes := #[t, u] }, ty, pos, after, g⟩).run P C.w = .ok (.value v) w' := by
     intro b l c v w' hb hr dst g
     simp [execOp, resolve, invoke, builtin, hb, hr]
    have hxv : a.eval x = .slice none 0 0 := by rw [heq] at hax; exact znl hax
    split at h
    ·rename_i hbd
     simp only [fresh, Option.some.injEq, Prod.mk.injEq] at h
     obtain ⟨rfl, rfl⟩ := h
     have hr := zoh (P := P) (ty := ty) ht hu hd hi hzi C.w none 0 0 n (a.eval y) #[] us (hg.len _) (by rw [← hsz, hc1]; exact hg.cells _ rfl) rfl (by omega) (by rw [← hby, hb1, Nat.zero_add, Nat.mul_one]; exact hbd) (by rw [← hby]; exact hb0)
     generalize hrest : Builtin.zeroCells z.cells (grownCap C.w (0 + n) 0 e - (0 + n)) = rest at hr
     have htr := zi8 (w1 := C.w.drew) hm rfl (.cells (#[] ++ us ++ rest) e (0, 0))
     refine ⟨_, C.more C.w.drew (.cells (#[] ++ us ++ rest) e (0, 0)), fun dst g => .inl (hexec none 0 0 _ _ hxv hr dst g), zi7 (w1 := C.w.drew) hm rfl rfl rfl rfl _ _ ?_ hs.k, hs.env.mono htr, ?_, rfl⟩
     ·refine ⟨#[] ++ us ++ rest, e, ?_, hue, ?_⟩
      ·simp only [Cx.more, if_true]
       rw [zau, if_pos (show C.w.heap.size = C.w.drew.heap.size from rfl)]
      ·intro j x hx
       obtain ⟨u, hu, hr'⟩ := hg.rep j x hx
       have hj := (Array.getElem?_eq_some_iff.1 hu).1
       refine ⟨u, ?_, hr'.mono htr.imm htr.keep⟩
       rw [Array.getElem?_append_left (by simp; exact hj)]
       simpa using hu
     ·have hge := grownCap_ge C.w (0 + n) 0 e
      rw [hlen]
      rw [Nat.zero_add] at hge ⊢
      refine zi6 (w1 := C.w.drew) rfl _ e (zge (b := 1) (by rw [Nat.mul_one]; assumption) (by omega)) (fun k hk => by cases hk) (.inr ?_)
      have hrs : rest.size = (grownCap C.w (0 + n) 0 e - (0 + n)) * P.cellsOf e := by rw [← hrest, zt4, hzs]
      rw [Nat.zero_add, hc1] at hrs
      rw [Array.size_append, Array.size_append, hg.size, hrs]
      simp only [List.size_toArray, List.length_nil, Nat.zero_add]
      rw [← Nat.add_mul]
      exact Nat.le_of_eq (by congr 1; omega)
    ·cases h
  ·rename_i id l heq
   split at h
   ·rename_i cs ho
    split at h
    ·rename_i hcond
     obtain ⟨hcl, hl0, hbd⟩ := hcond
     simp only [Option.some.injEq, Prod.mk.injEq] at h
     obtain ⟨rfl, rfl⟩ := h
     obtain ⟨us, hg⟩ := zgc (P := P) hm (zql hs hy) hel
     have hexec : ∀ (b : Option Addr) (l c : Nat) (v : Value) (w' : World), a.eval x = .slice b l c → (Builtin.append_ #[t, u] ty #[.slice b l c, a.eval y]).run P C.w = .ok v w' →
       ∀ dst g, (execOp a.eval ⟨dst, .call { callee := .builtin .append, args := #[x, y], argTypes := #[t, u] }, ty, pos, after, g⟩).run P C.w = .ok (.value v) w' := by
      intro b l c v w' hb hr dst g
      simp [execOp, resolve, invoke, builtin, hb, hr]
     have hax0 := hax
     rw [heq] at hax0
     have hid : id < s.mem.length := (List.getElem?_eq_some_iff.1 ho).1
     have hol : elems (s.mem.set id (.flat cs false)) 1 (.osl id 0 1 l none) = some (l, cs) := by
      have hq : (s.mem.set id (.flat cs false))[id]? = some (.flat cs false) := by rw [zp1, if_pos ⟨rfl, hid⟩]
      simp only [elems, hq, Nat.mul_one, zc6 cs l hcl, Option.map_some]
     obtain ⟨olds, hg2⟩ := zgc (P := P) (zrk hm ho) hax0 hol
     obtain ⟨a2, e2, hw2, hue2, hcells2⟩ := hm.obj id _ ho
     have hlo : (AObj.text cs).live = true := rfl
     have hof : (AObj.text cs).isFix = false := rfl
     rw [heq] at hax
     generalize hxv : a.eval x = v at hax hg2
     cases hax with
     | osl _ _ _ _ _ c' ad arr e' hid' hl hk' ha hw hss =>
      obtain ⟨arr, fz0, hw, rfl⟩ := hw
      rw [hw] at hw2
      obtain ⟨rfl, rfl, rfl⟩ : arr = a2 ∧ e' = e2 ∧ fz0 = (0, 0) := by simpa using hw2
      rcases Nat.lt_or_ge c' (l + n) with hgt | hroom
      ·
       have hr := zoh (P := P) (ty := ty) ht hu hd hi hzi C.w (some ⟨C.σ id, ad, none⟩) l c' n (a.eval y) olds us (hg.len _) (by rw [← hsz, hc1]; exact hg.cells _ rfl) (by rw [← hsz, hc1]; exact hg2.cells _ rfl) hgt (by rw [← hby, hb1, Nat.mul_one]; exact hbd) (by rw [← hby]; exact hb0)
       generalize hrest : Builtin.zeroCells z.cells (grownCap C.w (l + n) c' e - (l + n)) = rest at hr
       have hlt : C.σ id < C.w.heap.size := (Array.getElem?_eq_some_iff.1 hw).1
       have hwk : ∀ b, b < C.w.heap.size → (C.w.drew.alloc (.cells (olds ++ us ++ rest) e)).heap[b]? = C.w.heap[b]? := by
        intro b hb
        rw [zau, if_neg (show ¬ b = C.w.drew.heap.size by show ¬ b = C.w.heap.size; omega)]
        rfl
       have hnew : (C.w.drew.alloc (.cells (olds ++ us ++ rest) e)).heap[C.w.heap.size]? = some (.cells (olds ++ us ++ rest) e (0, 0)) := by
        rw [zau, if_pos (show C.w.heap.size = C.w.drew.heap.size from rfl)]
       have hsz3 : ∀ n9 e9, RowAt C.w (C.σ id) n9 e9 → RowAt (C.w.drew.alloc (.cells (olds ++ us ++ rest) e)) (C.σ id) n9 e9 := fun _ _ h => h.same (hwk _ hlt)
       have htr := zcc (nb := C.w.heap.size) hm ho hlo (w' := C.w.drew.alloc (.cells (olds ++ us ++ rest) e)) (fun b hb _ => hwk b hb) hsz3
       refine ⟨_, C.claim C.w.heap.size (C.w.drew.alloc (.cells (olds ++ us ++ rest) e)), fun dst g => .inl (hexec _ l c' _ _ hxv hr dst g), zcb (w' := C.w.drew.alloc (.cells (olds ++ us ++ rest) e)) hm ho hlo (.inr (Nat.le_refl _)) rfl rfl rfl (by rw [World.size_alloc]; exact Nat.le_succ C.w.heap.size) (fun b hb _ => hwk b hb) hsz3 ?_ hs.k hof, hs.env.mono htr, ?_, rfl⟩
       ·refine ⟨olds ++ us ++ rest, e, by simp only [Cx.claim, if_true]; exact hnew, hue, zrl htr hg2.rep (by rw [hg2.count, hg2.size]) hg.rep (fun j hj => ?_) (fun j hj => ?_)⟩
        ·rw [Array.append_assoc, Array.getElem?_append_left hj]
        ·rw [Array.append_assoc, Array.getElem?_append_right (by omega), Array.getElem?_append_left (by omega)]
         congr 1; omega
       ·have hrs : rest.size = (grownCap C.w (l + n) c' e - (l + n)) * P.cellsOf e := by rw [← hrest, zt4, hzs]
        have hge := grownCap_ge C.w (l + n) c' e
        have hσn : (C.claim C.w.heap.size (C.w.drew.alloc (.cells (olds ++ us ++ rest) e))).σ C.n = C.w.heap.size := by simp [Cx.claim]
        rw [hlen]
        conv => arg 4; rw [← hσn]
        refine .osl0 C.n 0 _ _ none _ 0 _ e (by simp [Cx.claim]) (zge (b := 1) (by rw [Nat.mul_one]; assumption) (by omega)) (fun k hk => by cases hk) (.inl rfl) (by rw [hσn]; exact hnew) (.inr ?_)
        rw [Array.size_append, Array.size_append, hg2.size, hg.size, hrs, hc1, ← Nat.add_mul, ← Nat.add_mul, Nat.zero_add]
        exact Nat.le_of_eq (by congr 1; omega)
      ·
       have hus : us.toList.length = n * 1 := by rw [Array.length_toList, hg.size]
       have hc0 : c' ≠ 0 := by omega
       rcases ha with rfl | h00
       ·have hfit : l * 1 + us.toList.length ≤ arr.size := by
         rw [hus, ← Nat.add_mul]
         rcases hss with h0 | h0
         ·omega
         ·omega
        have hone : ∀ u ∈ us.toList, u.oneCell' = true := zgd hg
        have hst := run_storeCells_at P (C.σ id) (l * 1) e' us.toList 0 arr C.w hw (by rw [Nat.add_zero]; exact hfit) hone
        simp only [Nat.add_zero] at hst
        have hr := zoi (P := P) (ty := ty) ht hu hd hi C.w (some ⟨C.σ id, 0, none⟩) l c' n (a.eval y) us (hg.len _) (by rw [← hsz, hc1]; exact hg.cells _ rfl) hroom
         (fun ad' had => by cases had; rw [zai, ← hsz, hc1, Nat.zero_add]; exact hst) (fun h => by cases h)
        have hsp := zqj arr (l * 1) us.toList hfit
        generalize hnr : (arr.toList.take (l * 1) ++ us.toList ++ arr.toList.drop (l * 1 + us.toList.length)).toArray = narr at hr hsp hst
        have hwk : ∀ b, b < C.w.heap.size → b ≠ C.σ id → (C.w.setRow (C.σ id) narr).heap[b]? = C.w.heap[b]? := by
         intro b _ hb
         rw [zp0 _ _ _ _ _ hw, if_neg hb]
        have hws : (C.w.setRow (C.σ id) narr).heap[C.σ id]? = some (.cells narr e' (0, 0)) := by
         rw [zp0 _ _ _ _ _ hw, if_pos rfl]
        have hsz3 : ∀ n9 e9, RowAt C.w (C.σ id) n9 e9 → RowAt (C.w.setRow (C.σ id) narr) (C.σ id) n9 e9 := by
         intro n0 e0 h0'
         exact h0'.put hw hws hsp
        have htr := zcc (nb := C.σ id) hm ho hlo (w' := C.w.setRow (C.σ id) narr) hwk hsz3
        have hσn : (C.claim (C.σ id) (C.w.setRow (C.σ id) narr)).σ C.n = C.σ id := by simp [Cx.claim]
        have holds : ∀ j : Nat, j < olds.size → arr[j]? = olds[j]? := by
         intro j hj
         obtain ⟨u, hu⟩ : ∃ u, olds[j]? = some u := ⟨_, Array.getElem?_eq_getElem hj⟩
         have h3 := hg2.cells C.w rfl
         simp only [Builtin.firstCells] at h3
         rw [hu]
         have hl2 : l * 1 ≤ arr.size := by omega
         have h4 := run_loadCells (P := P) C.w ⟨C.σ id, 0, none⟩ (l * 1) (fun j => arr.getD j undef) (fun j hj => by
          rw [zai, cell_of_row C.w _ _ arr e' _ hw]
          have : 0 + j < arr.size := by omega
          simp [Array.getD, this, show j < arr.size by omega])
         rw [h4] at h3
         simp only [Result.ok.injEq] at h3
         have h5 := h3.1
         rw [← h5] at hu
         have hj2 : j < l * 1 := by rw [← hg2.size]; exact hj
         have hja : j < arr.size := by omega
         have hj3 : j < l := by omega
         simp [hj3] at hu
         simp [Array.getD, hja] at hu
         rw [Array.getElem?_eq_getElem hja, hu]
        refine ⟨_, C.claim (C.σ id) (C.w.setRow (C.σ id) narr), fun dst g => .inl (hexec _ l c' _ _ hxv hr dst g), zcb (w' := C.w.setRow (C.σ id) narr) hm ho hlo (.inl rfl) rfl rfl rfl (by rw [size_setRow]; exact Nat.le_refl _) hwk hsz3 ?_ hs.k hof, hs.env.mono htr, ?_, rfl⟩
        ·refine ⟨narr, e', by simp only [Cx.claim, if_true]; exact hws, hue2, zrl htr hg2.rep (by rw [hg2.count, hg2.size]) hg.rep (fun j hj => ?_) (fun j hj => ?_)⟩
         ·rw [← hnr, zqi arr _ us.toList hfit, if_neg (by rw [← hg2.size]; omega)]
          exact holds j hj
         ·rw [← hnr, zqi arr _ us.toList hfit, if_pos (by rw [hg2.size, hus, ← hg.size]; omega), Array.getElem?_toList]
          congr 1; rw [hg2.size]; omega
        ·rw [hlen]
         conv => arg 4; rw [← hσn]
         exact .osl0 C.n 0 _ _ none c' 0 _ e' (by simp [Cx.claim]) (by omega) (fun k hk => by cases hk) (.inl rfl) (by rw [hσn]; exact hws) (by rw [hsp]; exact hss)
       ·omega
    ·cases h
   ·cases h
  ·cases h
end
end Go.EX


set_option linter.unusedVariables false
set_option linter.unusedSimpArgs false
namespace Go.EX
section
variable {num : Names} {P : Program}
variable {ty : TypeId} {pos : String} {after : Array Edge} {a : Act} {C : Cx} {s : St}
theorem zg5 {e : TypeId} (h : isU8 P e = true) : P.underlying e = some (.int .u8) := by
 unfold isU8 at h
 split at h
 ·assumption
 ·cases h
theorem y_idxP (hs : SRep num C s a) {t e : TypeId} {len : Nat} {x i : Operand} {x' i' : Src} (hx : trSrc num x = some x') (hi : trSrc num i = some i') (ht : P.underlying t = some (.array len e)) (hk : known P e = true)
  {n : Int} (hn : intOf (s.env.ev i') = some n) (hb : 0 ≤ n ∧ n < len) {y : AV} (hy : (match s.env.ev x' with | .imm (.ptr row o) => some (AV.imm (.ptr row (o + n.toNat * P.cellsOf e))) | .optr id o => some (.optr id (o + n.toNat * P.cellsOf e)) | _ => none) = some y) :
  Yields num P (.indexAddr t x i) ty pos after a C s y s := by
 obtain ⟨inf, d, hinf, hd, hsz, _⟩ := zhu hk
 obtain ⟨kk, hie, _⟩ := znk (zql hs hi) hn
 have h1 := zql hs hx
 generalize hu : a.eval x = u at h1
 have run : ∀ b o, u = .pointer (some ⟨b, o, none⟩) → ∀ dst g, (execOp a.eval ⟨dst, .indexAddr t x i, ty, pos, after, g⟩).run P C.w = .ok (.value (.pointer (some ⟨b, o + n.toNat * P.cellsOf e, none⟩))) C.w := by
  intro b o hb' dst g
  simp [execOp, hu, hb', hie, Instr.indexAt, asIntOf, run_underlying ht, zoy hinf, hb.1, hb.2, zai, hsz, Instr.sureAddr]
 split at hy
 ·rename_i row o heq
  cases hy
  rw [heq] at h1
  cases h1 with
  | imm _ _ h => cases h with
   | ptr _ _ b o' u' hI hc hu' =>
    refine zt3 hs (run b (o' + o) rfl) ?_
    rw [Nat.add_assoc]
    exact .imm _ _ (.ptr row _ b o' u' hI hc hu')
 ·rename_i id o heq
  cases hy
  rw [heq] at h1
  cases h1 with
  | optr _ _ hid => exact zt3 hs (run (C.σ id) o rfl) (.optr id _ hid)
 ·cases hy
theorem ztt (hs : SRep num C s a) {mn : Bool} {x y : Operand} {x' y' : Src} {ats : Array TypeId} (hx : trSrc num x = some x') (hy : trSrc num y = some y') {k j : IntKind} {m n : Int} (h1 : s.env.ev x' = .imm (.val (.int k m))) (h2 : s.env.ev y' = .imm (.val (.int j n))) :
  Yields num P (.call { callee := .builtin (if mn then .min else .max), args := #[x, y], argTypes := ats }) ty pos after a C s (.imm (.val (.int k (if mn then (if n < m then n else m) else (if m < n then n else m))))) s := by
 have hu := zqm hs hx h1
 have hv := zqm hs hy h2
 cases mn with
 | true =>
  refine zt3 (v := .int k (if n < m then n else m)) hs (fun _ _ => ?_) (.imm _ _ (.val _ rfl))
  simp [execOp, resolve, invoke, builtin, hu, hv, Builtin.min_, Builtin.min2]
 | false =>
  refine zt3 (v := .int k (if m < n then n else m)) hs (fun _ _ => ?_) (.imm _ _ (.val _ rfl))
  simp [execOp, resolve, invoke, builtin, hu, hv, Builtin.max_, Builtin.max2]
theorem zr9 : ∀ (cs : List IV) (ns : List Int), u8s cs = some ns → ns.length = cs.length ∧ ∀ (j : Nat) x, cs[j]? = some x → ∃ n, x = .val (.int .u8 n) ∧ ns[j]? = some n
 | [], ns, h => by simp [u8s] at h; subst h; simp
 | c :: r, ns, h => by
  unfold u8s at h
  split at h
  ·rename_i he; cases he
  ·rename_i n r' he
   cases he
   simp only [Option.map_eq_some_iff] at h
   obtain ⟨ms, h1, rfl⟩ := h
   obtain ⟨h2, h3⟩ := zr9 r ms h1
   refine ⟨by simp [h2], fun j x hx => ?_⟩
   cases j with
   | zero => simp at hx; exact ⟨n, hx.symm, by simp⟩
   | succ j => simpa using h3 j x (by simpa using hx)
  ·cases h
theorem zt1 (hs : SRep num C s a) {src dst e : TypeId} {x : Operand} {x' : Src} (hx : trSrc num x = some x') (h1 : P.underlying src = some (.slice e)) (h2 : P.underlying dst = some .string) (he : isU8 P e = true) {b : ByteArray} (hb : strOfV s.mem (s.env.ev x') = some b) :
  Yields num P (.convert src dst x) ty pos after a C s (.imm (.val (.string b))) s := by
 have he' := zg5 he
 have hax := zql hs hx
 unfold strOfV at hb
 split at hb
 ·cases hb
 rename_i hns
 cases hel : elems s.mem 1 (s.env.ev x') with
 | none => rw [hel] at hb; cases hb
 | some nn =>
  obtain ⟨n, cs⟩ := nn
  simp only [hel, Option.map_eq_some_iff] at hb
  obtain ⟨ns, hu, rfl⟩ := hb
  obtain ⟨us, hg⟩ := zgc (P := P) hs.mem hax hel
  obtain ⟨hnl, hng⟩ := zr9 cs ns hu
  have hus : us = (ns.map (Value.int .u8)).toArray := by
   apply Array.ext
   ·rw [hg.size, ← hg.count, ← hnl]; simp
   ·intro j hj1 hj2
    have hjc : j < cs.length := by rw [hg.count, ← hg.size]; exact hj1
    obtain ⟨u, hu1, hu2⟩ := hg.rep j cs[j] (List.getElem?_eq_getElem hjc)
    obtain ⟨m, hm1, hm2⟩ := hng j cs[j] (List.getElem?_eq_getElem hjc)
    rw [hm1] at hu2
    cases hu2
    rw [Array.getElem?_eq_getElem hj1] at hu1
    have h3 : us[j] = Value.int .u8 m := Option.some.inj hu1
    rw [h3]
    have h4 : j < ns.length := by omega
    rw [List.getElem?_eq_getElem h4] at hm2
    simp [Option.some.inj hm2]
  have key : ∀ (ad : Option Addr) (l c : Nat), a.eval x = .slice ad l c → n = l → Yields num P (.convert src dst x) ty pos after a C s (.imm (.val (.string (pushAll ns)))) s := by
   intro ad l c hv hnl'
   subst hnl'
   refine zt3 (v := .string (pushAll ns)) hs (fun _ _ => ?_) (.imm _ _ (.val _ rfl))
   have hc := hg.cells C.w rfl
   rw [hv] at hc
   cases ad with
   | none =>
    simp only [Builtin.firstCells, Sem.run_pure, Result.ok.injEq, and_true] at hc
    have hz : ns = [] := by
     have := congrArg Array.size hc
     rw [hus] at this
     simp at this
     exact List.eq_nil_of_length_eq_zero this.symm
    subst hz
    simp [execOp, hv, run_convert_bytes_string C.w src dst e none n c h1 he' h2, Conv.bytesToString, pushAll]
   | some ad =>
    simp only [Builtin.firstCells, Nat.mul_one] at hc
    rw [hus] at hc
    have hr := run_bytesToString (P := P) C.w ad n c ns hc
    simp [execOp, hv, run_convert_bytes_string C.w src dst e (some ad) n c h1 he' h2, hr, pushAll]
  generalize hxv : a.eval x = v at hax
  generalize hav : s.env.ev x' = av at hax hel hns
  cases hax with
  | imm z v h =>
   cases h with
   | val v h =>
    unfold elems at hel
    split at hel
    ·rename_i heq
     cases heq
     cases hel
     exact key none 0 0 hxv rfl
    ·rename_i b heq
     cases heq
     exact absurd rfl (hns b)
    ·rename_i heq; cases heq
    ·rename_i heq; cases heq
    ·cases hel
   | slice row off len cap b o c ad u hI hc hu' hl hk ha =>
    simp only [elems, Option.map_eq_some_iff, Prod.mk.injEq] at hel
    obtain ⟨_, _, rfl, _⟩ := hel
    exact key _ _ _ hxv rfl
   | vac row off ad =>
    simp only [elems, Option.map_eq_some_iff, Prod.mk.injEq] at hel
    obtain ⟨_, _, rfl, _⟩ := hel
    exact key _ _ _ hxv rfl
   | ptr => simp [elems] at hel
  | osl id off sz len cap c ad arr e' hid hl hk ha hw hs' =>
   have hn : n = len := by
    simp only [elems] at hel
    split at hel
    ·simp only [Option.map_eq_some_iff, Prod.mk.injEq] at hel; obtain ⟨_, _, rfl, _⟩ := hel; rfl
    ·split at hel
     ·simp only [Option.map_eq_some_iff, Prod.mk.injEq] at hel; obtain ⟨_, _, rfl, _⟩ := hel; rfl
     ·cases hel
    ·simp only [Option.map_eq_some_iff, Prod.mk.injEq] at hel; obtain ⟨_, _, rfl, _⟩ := hel; rfl
    ·simp only [Option.map_eq_some_iff, Prod.mk.injEq] at hel; obtain ⟨_, _, rfl, _⟩ := hel; rfl
    ·cases hel
   exact key _ _ _ hxv hn
  | _ => simp [elems] at hel
theorem ztg (hs : SRep num C s a) {src dst e : TypeId} {x : Operand} {x' : Src} (hx : trSrc num x = some x') (h1 : P.underlying src = some .string) (h2 : P.underlying dst = some (.slice e)) (he : isU8 P e = true) {b : ByteArray} (hb : s.env.ev x' = .imm (.val (.string b))) :
  Yields num P (.convert src dst x) ty pos after a C s (.imm (.slice (rowOfS b) 0 b.size none)) s := by
 have he' := zg5 he
 have hu := zqm hs hx hb
 have hm := hs.mem
 have hr := Lib.run_convert_string_bytes (P := P) C.w src dst e b h1 h2 he'
 have hk : ∀ j, j < C.w.heap.size → (Lib.bytesWorld C.w e b).heap[j]? = C.w.heap[j]? := fun j hj => Lib.bytesWorld_at_old C.w e b j hj
 have hsz := Lib.bytesWorld_size C.w e b
 have hos : (Lib.bytesWorld C.w e b).os = C.w.os ∧ (Lib.bytesWorld C.w e b).tape = C.w.tape ∧ (Lib.bytesWorld C.w e b).output = C.w.output := by
  unfold Lib.bytesWorld World.freeze
  split
  ·exact ⟨rfl, rfl, rfl⟩
  ·exact ⟨rfl, rfl, rfl⟩
 refine ⟨.slice (some ⟨C.w.heap.size, 0, none⟩) b.size (grownCap C.w b.size 0 e), { σ := C.σ, I := fun q => C.I q ∨ q = C.w.heap.size, n := C.n, w := Lib.bytesWorld C.w e b }, fun dst g => .inl ?_, ze8 hm hos.1 hos.2.1 hos.2.2 (by omega) hk (fun _ h => .inl h) (fun q hq => ?_) (fun q hq => ?_) hs.k, hs.env.mono (ext_tr hm hk fun _ h => .inl h), ?_, rfl⟩
 ·simp [execOp, hu, hr]
 ·rcases hq with h | h
  ·exact .inl h
  ·exact .inr (by omega)
 ·rcases hq with h | h
  ·have := hm.bd q h
   show q < (Lib.bytesWorld C.w e b).heap.size
   omega
  ·show q < (Lib.bytesWorld C.w e b).heap.size
   omega
 ·refine .imm _ _ (.slice (rowOfS b) 0 b.size none C.w.heap.size 0 _ _ (fun j => .int .u8 (b.data.toList.getD j 0).toNat) (.inr rfl) (fun j x hx => ?_) (fun j x hx => ?_) (grownCap_ge _ _ _ _) (fun k hk => by cases hk) (.inl rfl))
  ·have hj : j < b.size := by
    have := (List.getElem?_eq_some_iff.1 hx).1
    simpa [rowOfS] using this
   rw [Nat.zero_add]
   exact Lib.bytesWorld_cell C.w e b j hj
  ·have hj : j < b.data.toList.length := by
    have := (List.getElem?_eq_some_iff.1 hx).1
    simpa [rowOfS] using this
   simp only [rowOfS, List.getElem?_map, List.getElem?_eq_getElem hj, Option.map_some, Option.some.injEq] at hx
   subst hx
   simp only [List.getD, List.getElem?_eq_getElem hj, Option.getD_some]
   exact .val _ rfl
theorem y_idxV (hs : SRep num C s a) {t e : TypeId} {len : Nat} {x ix : Operand} {x' ix' : Src} (hx : trSrc num x = some x') (hix : trSrc num ix = some ix') (ht : P.underlying t = some (.array len e)) (hk : known P e = true)
  {ii : Int} (hn : intOf (s.env.ev ix') = some ii) (hb0 : 0 ≤ ii ∧ ii < len) {cs : List AV} (hc : s.env.ev x' = .agg cs) {y : AV} (hy : getCells (aggOf P e) cs (ii.toNat * P.cellsOf e) = some y) :
  Yields num P (.index t x ix) ty pos after a C s y s := by
 obtain ⟨i, d, hi, hd, hsz, _⟩ := zhu hk
 obtain ⟨kk, hie, _⟩ := znk (zql hs hix) hn
 have h1 := zql hs hx
 rw [hc] at h1
 generalize hu : a.eval x = u at h1
 generalize ho : ii.toNat * P.cellsOf e = o at hy
 cases h1 with
 | agg _ vs hl hone h =>
  have hrun : (Instr.index t (.agg vs) (.int kk ii)).run P C.w = (part e vs o).run P C.w := by
   simp only [Instr.index, asIntOf, Sem.run_bind, Sem.run_pure, Result.andThen_ok, run_underlying ht, hb0.1, hb0.2, and_self, if_true, zoy hi]
   rw [← hsz, ho]
  have hag : (isAgg e).run P C.w = .ok (aggOf P e).isSome C.w := zos hd C.w
  cases hagg : aggOf P e with
  | none =>
   rw [hagg] at hag hy
   simp only [getCells] at hy
   have hi' : o < vs.size := by rw [← hl]; exact (List.getElem?_eq_some_iff.1 hy).1
   refine zt3 (v := vs[o]) hs (fun _ _ => ?_) (h _ y _ hy (by simp [hi']))
   have hp : (part e vs o).run P C.w = .ok vs[o] C.w := by simp [part, hag, hi']
   simp only [execOp, hu, hie, Sem.run_bind, hrun, hp, Result.andThen_ok, Sem.run_pure]
  | some n =>
   have hn : n = P.cellsOf e := by
    unfold aggOf at hagg
    rw [hd] at hagg
    cases d <;> simp at hagg <;> exact hagg.symm
   rw [hagg] at hag hy
   simp only [getCells] at hy
   cases hc' : cut cs o n with
   | none => simp [hc'] at hy
   | some r =>
    simp [hc'] at hy
    subst hy
    have hrl := zcz hc'
    have hb : n = 0 ∨ o + n ≤ cs.length := by
     rcases Nat.eq_zero_or_pos n with h0 | h0
     ·exact .inl h0
     ·right
      have h2 := zcy hc' (n - 1) (by omega)
      rw [List.getElem?_eq_getElem (l := r) (i := n - 1) (by omega)] at h2
      have := (List.getElem?_eq_some_iff.1 h2).1
      omega
    have hex : ∀ j, j < n → (vs.extract o (o + n))[j]? = vs[o + j]? := by
     intro j hj
     rw [Array.getElem?_extract]
     rw [if_pos (by rcases hb with h0 | h0 <;> omega)]
    have hp : (part e vs o).run P C.w = .ok (.agg (vs.extract o (o + n))) C.w := by
     simp only [part, Sem.run_bind, hag, Result.andThen_ok, Option.isSome_some, if_true, zoy hi, Sem.run_pure]
     rw [← hsz, ← hn]
    refine zt3 (v := .agg (vs.extract o (o + n))) hs (fun _ _ => ?_) ?_
    ·simp only [execOp, hu, hie, Sem.run_bind, hrun, hp, Result.andThen_ok, Sem.run_pure]
    ·have hsize : (vs.extract o (o + n)).size = n := by
      rcases hb with rfl | hb
      ·simp; omega
      ·simp only [Array.size_extract]; omega
     refine .agg r _ (by rw [hrl, hsize]) ?_ ?_
     ·intro j u hj
      have hj' : j < n := by rw [← hsize]; exact (Array.getElem?_eq_some_iff.1 hj).1
      rw [hex j hj'] at hj
      exact hone _ u hj
     ·intro j y u hy' hj
      have hj' : j < n := by rw [← hsize]; exact (Array.getElem?_eq_some_iff.1 hj).1
      rw [hex j hj'] at hj
      exact h (o + j) y u (by rw [zcy hc' j hj']; exact hy') hj
end
end Go.EX


set_option linter.unusedVariables false
set_option linter.unusedSimpArgs false
namespace Go.EX
section
variable {num : Names} {P : Program}
variable {ty : TypeId} {pos : String} {after : Array Edge} {a : Act} {C : Cx} {s : St}
theorem zk0 {place : Nat → Option (Nat × Nat)} {ps : List (Nat × Operand)} {α : Type} {f : List (Nat × Nat × Src) → α} {y : α} (h : (trParts num place ps).map f = some y) : ∃ qs, trParts num place ps = some qs ∧ f qs = y := by
 simpa [Option.map_eq_some_iff] using h
theorem zqk {x : Operand} {α : Type} {f : Src → α} {y : α} (h : (trSrc num x).map f = some y) : ∃ z, trSrc num x = some z ∧ f z = y := by
 simpa [Option.map_eq_some_iff] using h
def Does (num : Names) (P : Program) (op : Op) (ty : TypeId) (pos : String) (after : Array Edge) (a : Act) (C : Cx) (s : St) (x : AV) (s' : St) : Prop :=
 Yields num P op ty pos after a C s x s' ∨ CallsTo num P op ty pos after a C s x s' ∨ GoesRound num P op ty pos after a C s x s'
theorem zen {call : Calls'} (hcall : CallOK num P call) (hs : SRep num C s a) {op : Op} {x : XOp} (htr : trOp P num op = some x.wipe) {r : AV} {s' : St} (h : exOp call s x = some (r, s')) : Does num P op ty pos after a C s r s' := by
 cases op with
 | move o =>
  simp only [trOp] at htr
  obtain ⟨z, hz, hx⟩ := zqk htr
  cases x <;> simp only [XOp.wipe, XOp.mv.injEq, reduceCtorEq] at hx
  ·subst hx; cases h; exact .inl (y_mv hs hz)
  ·cases h
  ·cases h
 | assign o =>
  simp only [trOp] at htr
  obtain ⟨z, hz, hx⟩ := zqk htr
  cases x <;> simp only [XOp.wipe, XOp.mv.injEq, reduceCtorEq] at hx
  ·subst hx; cases h; exact .inl (ztd hs hz)
  ·cases h
  ·cases h
 | pick c o1 o2 =>
  simp only [trOp] at htr
  split at htr
  ·rename_i c' a' b' e1 e2 e3
   simp only [Option.some.injEq] at htr
   cases x <;> simp only [XOp.wipe, XOp.pick.injEq, reduceCtorEq] at htr
   obtain ⟨rfl, rfl, rfl⟩ := htr
   simp only [exOp] at h
   split at h
   ·rename_i t ht
    cases h
    exact .inl (y_pick hs e1 e2 e3 ht)
   ·cases h
  ·cases htr
 | alloc t =>
  simp only [trOp] at htr
  split at htr
  ·rename_i zs hz
   split at htr
   ·rename_i hone
    split at htr
    ·rename_i off hoff
     simp only [Option.some.injEq] at htr
     cases x <;> simp only [XOp.wipe, XOp.allocB.injEq, reduceCtorEq] at htr
     obtain ⟨rfl, rfl⟩ := htr
     cases h
     exact .inl (zs7 hcall.seat hs hz hone hoff)
    ·simp only [Option.some.injEq] at htr
     cases x <;> simp only [XOp.wipe, XOp.alloc.injEq, reduceCtorEq] at htr
     subst htr
     cases h
     exact .inl (zs6 hs hz hone)
   ·cases htr
  ·cases htr
 | box t o =>
  simp only [trOp] at htr
  split at htr
  ·have plain : ∀ (htr : (trSrc num o).map (XOp.box (P.cellsOf t)) = some x.wipe), Does num P (.box t o) ty pos after a C s r s' := by
    intro htr
    obtain ⟨z, hz, hx⟩ := zqk htr
    cases x <;> simp only [XOp.wipe, XOp.box.injEq, reduceCtorEq] at hx
    obtain ⟨rfl, rfl⟩ := hx
    simp only [exOp] at h
    cases hc : (s.env.ev z).cells with
    | none => simp [hc] at h
    | some cs => rw [hc] at h; cases h; exact .inl (y_box hs hz hc)
   split at htr
   ·rename_i zs hzs
    split at htr
    ·rename_i off hoff
     split at htr
     ·rename_i hlen
      obtain ⟨z, hz, hx⟩ := zqk htr
      cases x <;> simp only [XOp.wipe, XOp.boxB.injEq, reduceCtorEq] at hx
      obtain ⟨rfl, rfl, rfl⟩ := hx
      simp only [exOp] at h
      cases hc : (s.env.ev z).cells with
      | none => simp [hc] at h
      | some cs =>
       rw [hc] at h
       dsimp only at h
       split at h
       ·rename_i hcl
        split at h
        ·rename_i hnil
         cases h
         exact .inl (y_boxB hcall.seat hs hz hc hoff (by omega) hnil)
        ·cases h
       ·cases h
     ·cases htr
    ·exact plain htr
   ·exact plain htr
  ·cases htr
 | build t ps =>
  simp only [trOp] at htr
  split at htr
  ·cases htr
  ·rename_i zs hz
   split at htr
   ·cases htr
   ·rename_i hone
    have hone' : zs.all oneCellV = true := by simpa using hone
    split at htr
    ·rename_i fs ht
     split at htr
     ·rename_i hk
      obtain ⟨qs, hq, hx⟩ := zk0 htr
      cases x <;> simp only [XOp.wipe, XOp.build.injEq, reduceCtorEq] at hx
      obtain ⟨rfl, rfl⟩ := hx
      simp only [exOp] at h
      cases hf : fillAll (imZ zs) (qs.map fun (o, n, x) => (o, n, s.env.ev x)) with
      | none => rw [hf] at h; cases h
      | some cs => rw [hf] at h; cases h; exact .inl (zte hs hz hone' hq (.inl ⟨fs, ht, hk, rfl⟩) hf)
     ·cases htr
    ·rename_i n e ht
     split at htr
     ·rename_i hk
      obtain ⟨qs, hq, hx⟩ := zk0 htr
      cases x <;> simp only [XOp.wipe, XOp.build.injEq, reduceCtorEq] at hx
      obtain ⟨rfl, rfl⟩ := hx
      simp only [exOp] at h
      cases hf : fillAll (imZ zs) (qs.map fun (o, n, x) => (o, n, s.env.ev x)) with
      | none => rw [hf] at h; cases h
      | some cs => rw [hf] at h; cases h; exact .inl (zte hs hz hone' hq (.inr ⟨n, e, ht, hk, rfl⟩) hf)
     ·cases htr
    ·cases htr
 | buildSlice t len ps =>
  simp only [trOp] at htr
  split at htr
  ·rename_i e ht
   split at htr
   ·rename_i zs hz
    split at htr
    ·rename_i hc
     simp only [Bool.and_eq_true, decide_eq_true_eq] at hc
     obtain ⟨⟨⟨⟨hk, hone⟩, hbig⟩, h0⟩, hzl⟩ := hc
     obtain ⟨qs, hq, hx⟩ := zk0 htr
     cases x <;> simp only [XOp.wipe, XOp.buildSlice.injEq, reduceCtorEq] at hx
     obtain ⟨rfl, rfl, rfl, rfl⟩ := hx
     simp only [exOp] at h
     cases hf : fillAll (imZ (copies len zs)) (qs.map fun (o, n, x) => (o, n, s.env.ev x)) with
     | none => rw [hf] at h; cases h
     | some cs => rw [hf] at h; cases h; exact .inl (ztf hs ht hz hk hone hbig h0 hzl hq hf)
    ·cases htr
   ·cases htr
  ·cases htr
 | load t o =>
  simp only [trOp] at htr
  split at htr
  ·rename_i hk
   obtain ⟨z, hz, hx⟩ := zqk htr
   cases x <;> simp only [XOp.wipe, XOp.load.injEq, reduceCtorEq] at hx
   obtain ⟨rfl, rfl⟩ := hx
   simp only [exOp] at h
   cases hl : loadAt s.mem (aggOf P t) (s.env.ev z) with
   | none => rw [hl] at h; cases h
   | some v => rw [hl] at h; cases h; exact .inl (y_load hs hk hz hl)
  ·cases htr
 | store t o1 o2 =>
  simp only [trOp] at htr
  split at htr
  ·rename_i hk
   split at htr
   ·rename_i p' x' e1 e2
    simp only [Option.some.injEq] at htr
    cases x <;> simp only [XOp.wipe, XOp.store.injEq, reduceCtorEq] at htr
    obtain ⟨rfl, rfl, rfl⟩ := htr
    simp only [exOp] at h
    split at h
    ·rename_i cs hc
     split at h
     ·rename_i hn
      cases hst : storeAt s.mem (s.env.ev p') cs with
      | none => rw [hst] at h; cases h
      | some m => rw [hst] at h; cases h; exact .inl (zt0 hs hk e1 e2 hc hn hst)
     ·cases h
    ·cases h
   ·cases htr
  ·cases htr
 | nilCheck o =>
  simp only [trOp] at htr
  obtain ⟨z, hz, hx⟩ := zqk htr
  cases x <;> simp only [XOp.wipe, XOp.nilCheck.injEq, reduceCtorEq] at hx
  subst hx
  simp only [exOp] at h
  split at h
  ·rename_i hn; cases h; exact .inl (ztv hs hz hn)
  ·cases h
 | binOp op t o1 o2 yt =>
  simp only [trOp] at htr
  have bin : ∀ (x' y' : Src), trSrc num o1 = some x' → trSrc num o2 = some y' → x.wipe = .bin op x' y' → Does num P (.binOp op t o1 o2 yt) ty pos after a C s r s' := by
   intro x' y' e1 e2 hx
   cases x <;> simp only [XOp.wipe, XOp.bin.injEq, reduceCtorEq] at hx
   obtain ⟨rfl, rfl, rfl⟩ := hx
   simp only [exOp] at h
   split at h
   ·rename_i u v hu hv
    simp only [Option.map_eq_some_iff, Prod.mk.injEq] at h
    obtain ⟨q, hq, rfl, rfl⟩ := h
    exact .inl (y_bin hs e1 e2 hu hv hq)
   ·cases h
  split at htr
  ·rename_i e1 e2; exact bin _ _ e1 e2 (Option.some.inj htr).symm
  ·rename_i e1 e2; exact bin _ _ e1 e2 (Option.some.inj htr).symm
  ·rename_i x' y' ht e1 e2
   have hx := (Option.some.inj htr).symm
   cases x <;> simp only [XOp.wipe, XOp.binB.injEq, reduceCtorEq] at hx
   obtain ⟨rfl, rfl, rfl⟩ := hx
   simp only [exOp] at h
   split at h
   ·rename_i u v hu hv
    simp only [Option.map_eq_some_iff, Prod.mk.injEq] at h
    obtain ⟨q, hq, rfl, rfl⟩ := h
    exact .inl (y_binB hs e1 e2 ht hu hv hq)
   ·cases h
  ·rename_i fs x' y' ht e1 e2
   split at htr
   ·rename_i ks hf
    have hx := (Option.some.inj htr).symm
    cases x <;> simp only [XOp.wipe, XOp.eqCells.injEq, reduceCtorEq] at hx
    obtain ⟨rfl, rfl, rfl, rfl⟩ := hx
    simp only [exOp] at h
    split at h
    ·rename_i xs ys h1 h2
     simp only [Option.map_eq_some_iff, Prod.mk.injEq] at h
     obtain ⟨b, hb, rfl, rfl⟩ := h
     exact .inl (ztk (neg := false) hs e1 e2 hf h1 h2 hb)
    ·cases h
   ·rename_i ks hf
    have hx := (Option.some.inj htr).symm
    cases x <;> simp only [XOp.wipe, XOp.eqCells.injEq, reduceCtorEq] at hx
    obtain ⟨rfl, rfl, rfl, rfl⟩ := hx
    simp only [exOp] at h
    split at h
    ·rename_i xs ys h1 h2
     simp only [Option.map_eq_some_iff, Prod.mk.injEq] at h
     obtain ⟨b, hb, rfl, rfl⟩ := h
     exact .inl (ztk (neg := true) hs e1 e2 hf h1 h2 hb)
    ·cases h
   ·cases htr
  ·rename_i d x' y' _ _ _ _ ht e1 e2
   split at htr
   ·rename_i k hk
    have hx := (Option.some.inj htr).symm
    cases x <;> simp only [XOp.wipe, XOp.eqNil.injEq, reduceCtorEq] at hx
    obtain ⟨rfl, rfl, rfl⟩ := hx
    simp only [exOp, Option.map_eq_some_iff, Prod.mk.injEq] at h
    obtain ⟨b, hb, rfl, rfl⟩ := h
    exact .inl (ztl (neg := false) hs e1 ht hk hb)
   ·rename_i k hk
    have hx := (Option.some.inj htr).symm
    cases x <;> simp only [XOp.wipe, XOp.eqNil.injEq, reduceCtorEq] at hx
    obtain ⟨rfl, rfl, rfl⟩ := hx
    simp only [exOp, Option.map_eq_some_iff, Prod.mk.injEq] at h
    obtain ⟨b, hb, rfl, rfl⟩ := h
    exact .inl (ztl (neg := true) hs e1 ht hk hb)
   ·cases htr
  ·cases htr
 | unOp op t o =>
  simp only [trOp] at htr
  obtain ⟨z, hz, hx⟩ := zqk htr
  cases x <;> simp only [XOp.wipe, XOp.un.injEq, reduceCtorEq] at hx
  obtain ⟨rfl, rfl⟩ := hx
  simp only [exOp] at h
  split at h
  ·rename_i u hu
   cases hr : valUn op u with
   | none => rw [hr] at h; cases h
   | some q => rw [hr] at h; cases h; exact .inl (y_un hs hz hu hr)
  ·cases h
 | convert src dst o =>
  simp only [trOp] at htr
  split at htr
  ·rename_i j k z h1 h2 hz
   simp only [Option.some.injEq] at htr
   cases x <;> simp only [XOp.wipe, XOp.conv.injEq, reduceCtorEq] at htr
   obtain ⟨rfl, rfl⟩ := htr
   simp only [exOp] at h
   cases hi : intOf (s.env.ev z) with
   | none => rw [hi] at h; cases h
   | some i => rw [hi] at h; cases h; exact .inl (y_conv hs hz h1 h2 hi)
  ·rename_i z h1 h2 hz
   simp only [Option.some.injEq] at htr
   cases x <;> simp only [XOp.wipe, XOp.convS.injEq, reduceCtorEq] at htr
   subst htr
   simp only [exOp] at h
   split at h
   ·rename_i b hb; cases h; exact .inl (ztj hs hz h1 h2 hb)
   ·cases h
  ·rename_i e z h1 h2 hz
   split at htr
   ·rename_i he
    simp only [Option.some.injEq] at htr
    cases x <;> simp only [XOp.wipe, XOp.strOf.injEq, reduceCtorEq] at htr
    subst htr
    simp only [exOp, Option.map_eq_some_iff, Prod.mk.injEq] at h
    obtain ⟨b, hb, rfl, rfl⟩ := h
    exact .inl (zt1 hs hz h1 h2 he hb)
   ·cases htr
  ·rename_i e z h1 h2 hz
   split at htr
   ·rename_i he
    simp only [Option.some.injEq] at htr
    cases x <;> simp only [XOp.wipe, XOp.bytesOf.injEq, reduceCtorEq] at htr
    subst htr
    simp only [exOp] at h
    split at h
    ·rename_i b hb; cases h; exact .inl (ztg hs hz h1 h2 he hb)
    ·cases h
   ·cases htr
  ·cases htr
 | makeFunc fn first caps =>
  cases fn <;> simp only [trOp] at htr <;> first | (cases htr; done) | skip
  rename_i f
  split at htr
  ·rename_i hfirst
   have : first = #[] := by simpa using hfirst
   subst this
   simp only [Option.map_eq_some_iff] at htr
   obtain ⟨cs, hcs, hx⟩ := htr
   cases x <;> simp only [XOp.wipe, XOp.mkClo.injEq, reduceCtorEq] at hx
   obtain ⟨rfl, rfl⟩ := hx
   cases h
   exact .inl (ztu hs hcs)
  ·cases htr
 | makeSlice t l c =>
  simp only [trOp] at htr
  split at htr
  ·rename_i e ht
   split at htr
   ·rename_i zs l' c' hz e1 e2
    split at htr
    ·rename_i hc
     simp only [Bool.and_eq_true, decide_eq_true_eq] at hc
     obtain ⟨⟨⟨hk, hzl⟩, h0⟩, hone⟩ := hc
     simp only [Option.some.injEq] at htr
     cases x <;> simp only [XOp.wipe, XOp.makeSlice.injEq, reduceCtorEq] at htr
     obtain ⟨rfl, rfl, rfl, rfl, rfl⟩ := htr
     simp only [exOp] at h
     split at h
     ·rename_i i j hi hj
      split at h
      ·rename_i hb
       cases h
       exact .inl (ztr hs ht hz hk hone h0 hzl e1 e2 hi hj hb)
      ·cases h
     ·cases h
    ·cases htr
   ·cases htr
  ·cases htr
 | slice t o lo hi mx =>
  cases mx with
  | some m =>
   cases lo with
   | some _ => simp [trOp] at htr
   | none => cases hi with
    | none => simp [trOp] at htr
    | some hh =>
     simp only [trOp] at htr
     split at htr
     ·rename_i e z h' m' ht hz h1 h2
      split at htr
      ·rename_i hk
       simp only [Option.some.injEq] at htr
       cases x <;> simp only [XOp.wipe, XOp.slice3.injEq, reduceCtorEq] at htr
       obtain ⟨rfl, rfl, rfl, rfl⟩ := htr
       simp only [exOp] at h
       cases hy : exSlice3 (P.cellsOf e) (s.env.ev z) (s.env.ev h') (s.env.ev m') with
       | none => rw [hy] at h; cases h
       | some y => rw [hy] at h; cases h; exact .inl (zty hs hz h1 h2 ht hk hy)
      ·cases htr
     ·cases htr
  | none =>
   simp only [trOp] at htr
   split at htr
   ·rename_i e z lo' hi' ht hz hl hh
    split at htr
    ·rename_i hk
     simp only [Option.some.injEq] at htr
     cases x <;> simp only [XOp.wipe, XOp.slice.injEq, reduceCtorEq] at htr
     obtain ⟨rfl, rfl, rfl, rfl⟩ := htr
     simp only [exOp] at h
     cases hy : exSlice (P.cellsOf e) (s.env.ev z) (lo'.map s.env.ev) (hi'.map s.env.ev) with
     | none => rw [hy] at h; cases h
     | some y => rw [hy] at h; cases h; exact .inl (ztx hs hz hl hh ht hk hy)
    ·cases htr
   ·rename_i z lo' hi' ht hz hl hh
    simp only [Option.some.injEq] at htr
    cases x <;> simp only [XOp.wipe, XOp.sliceS.injEq, reduceCtorEq] at htr
    obtain ⟨rfl, rfl, rfl⟩ := htr
    simp only [exOp] at h
    split at h
    ·rename_i b hb
     cases hbd : bounds b.size b.size (lo'.map s.env.ev) (hi'.map s.env.ev) with
     | none => rw [hbd] at h; cases h
     | some lh => obtain ⟨l, hh'⟩ := lh; rw [hbd] at h; cases h; exact .inl (ztz hs hz hl hh ht hb hbd)
    ·cases h
   ·cases htr
 | fieldAddr t o f =>
  simp only [trOp] at htr
  split at htr
  ·rename_i fs z ht hz
   split at htr
   ·rename_i fd hf
    split at htr
    ·rename_i hc
     simp only [Bool.and_eq_true, decide_eq_true_eq] at hc
     simp only [Option.some.injEq] at htr
     cases x <;> simp only [XOp.wipe, XOp.fieldA.injEq, reduceCtorEq] at htr
     obtain ⟨rfl, rfl⟩ := htr
     simp only [exOp] at h
     refine .inl ?_
     split at h
     ·rename_i row o' heq; cases h; exact zto hs hz ht hf hc.1 hc.2 (by rw [heq])
     ·rename_i id o' heq; cases h; exact zto hs hz ht hf hc.1 hc.2 (by rw [heq])
     ·cases h
    ·cases htr
   ·cases htr
  ·cases htr
 | field t o f =>
  simp only [trOp] at htr
  split at htr
  ·rename_i fs z ht hz
   split at htr
   ·rename_i fd hf
    split at htr
    ·rename_i hc
     simp only [Option.some.injEq] at htr
     cases x <;> simp only [XOp.wipe, XOp.field.injEq, reduceCtorEq] at htr
     obtain ⟨rfl, rfl, rfl⟩ := htr
     simp only [exOp] at h
     split at h
     ·rename_i cs heq
      cases hg : getCells (aggOf P fd.type) cs fd.offset with
      | none => rw [hg] at h; cases h
      | some y => rw [hg] at h; cases h; exact .inl (ztn hs hz ht hf hc heq hg)
     ·cases h
    ·cases htr
   ·cases htr
  ·cases htr
 | indexAddr t o i =>
  simp only [trOp] at htr
  split at htr
  ·rename_i e z i' ht hz hi
   split at htr
   ·rename_i hk
    simp only [Option.some.injEq] at htr
    cases x <;> simp only [XOp.wipe, XOp.idxA.injEq, reduceCtorEq] at htr
    obtain ⟨rfl, rfl, rfl⟩ := htr
    simp only [exOp] at h
    split at h
    ·cases h
    ·rename_i n hn
     refine .inl ?_
     split at h
     ·rename_i row off len cap heq
      split at h
      ·rename_i hb; cases h; exact y_idxA hs hz hi ht hk hn (by rw [heq]; simp only [hb, and_self, if_true])
      ·cases h
     ·rename_i id off sz len cap heq
      split at h
      ·rename_i hb; cases h; exact y_idxA hs hz hi ht hk hn (by rw [heq]; simp only [hb, and_self, if_true])
      ·cases h
     ·cases h
   ·cases htr
  ·rename_i len e z i' ht hz hi
   split at htr
   ·rename_i hk
    simp only [Option.some.injEq] at htr
    cases x <;> simp only [XOp.wipe, XOp.idxP.injEq, reduceCtorEq] at htr
    obtain ⟨rfl, rfl, rfl, rfl⟩ := htr
    simp only [exOp] at h
    split at h
    ·cases h
    ·rename_i n hn
     refine .inl ?_
     split at h
     ·rename_i hb
      split at h
      ·rename_i row o heq; cases h; exact y_idxP hs hz hi ht hk hn hb (by rw [heq])
      ·rename_i id o heq; cases h; exact y_idxP hs hz hi ht hk hn hb (by rw [heq])
      ·cases h
     ·cases h
   ·cases htr
  ·cases htr
 | index t o i =>
  simp only [trOp] at htr
  split at htr
  ·rename_i z i' ht hz hi
   simp only [Option.some.injEq] at htr
   cases x <;> simp only [XOp.wipe, XOp.idxS.injEq, reduceCtorEq] at htr
   obtain ⟨rfl, rfl⟩ := htr
   simp only [exOp] at h
   split at h
   ·rename_i n b hn hb
    split at h
    ·rename_i h0
     split at h
     ·rename_i c hc; cases h; exact .inl (y_idxS hs hz hi ht hn hb h0 hc)
     ·cases h
    ·cases h
   ·cases h
  ·rename_i len e z i' ht hz hi
   split at htr
   ·rename_i hk
    simp only [Option.some.injEq] at htr
    cases x <;> simp only [XOp.wipe, XOp.idxV.injEq, reduceCtorEq] at htr
    obtain ⟨rfl, rfl, rfl, rfl, rfl⟩ := htr
    simp only [exOp] at h
    split at h
    ·cases h
    ·rename_i n hn
     split at h
     ·rename_i hb
      split at h
      ·rename_i cs heq
       simp only [Option.map_eq_some_iff, Prod.mk.injEq] at h
       obtain ⟨v, hv, rfl, rfl⟩ := h
       exact .inl (y_idxV hs hz hi ht hk hn hb heq hv)
      ·cases h
     ·cases h
   ·cases htr
  ·cases htr
 | extract o i =>
  simp only [trOp] at htr
  obtain ⟨z, hz, hx⟩ := zqk htr
  cases x <;> simp only [XOp.wipe, XOp.extract.injEq, reduceCtorEq] at hx
  obtain ⟨rfl, rfl⟩ := hx
  simp only [exOp] at h
  split at h
  ·rename_i vs hv
   cases hy : vs[i]? with
   | none => rw [hy] at h; cases h
   | some y => rw [hy] at h; cases h; exact .inl (ztm hs hz hv hy)
  ·cases h
 | call c =>
  simp only [trOp] at htr
  obtain ⟨callee, args, ats⟩ := c
  cases callee with
  | invoke => simp [trCall] at htr
  | builtin b =>
   obtain ⟨al⟩ := args
   obtain ⟨tl⟩ := ats
   simp only [trCall] at htr
   split at htr
   ·rename_i o t
    split at htr
    ·rename_i ht
     obtain ⟨z, hz, hx⟩ := zqk htr
     cases x <;> simp only [XOp.wipe, XOp.lenS.injEq, reduceCtorEq] at hx
     subst hx
     simp only [exOp] at h
     split at h
     ·rename_i b hb; cases h; exact .inl (y_lenS hs hz ht hb)
     ·cases h
    ·rename_i e ht
     obtain ⟨z, hz, hx⟩ := zqk htr
     cases x <;> simp only [XOp.wipe, XOp.len.injEq, reduceCtorEq] at hx
     subst hx
     simp only [exOp, Option.map_eq_some_iff, Prod.mk.injEq] at h
     obtain ⟨n, hn, rfl, rfl⟩ := h
     exact .inl (y_len hs hz ht hn)
    ·rename_i kt e ht
     obtain ⟨z, hz, hx⟩ := zqk htr
     cases x <;> simp only [XOp.wipe, XOp.lenM.injEq, reduceCtorEq] at hx
     subst hx
     exact .inl (y_lenM hs hz ht h)
    ·cases htr
   ·rename_i o1 o2 ts
    split at htr
    ·rename_i z1 z2 e1 e2
     have hx := (Option.some.inj htr).symm
     cases x <;> simp only [XOp.wipe, XOp.minmax.injEq, reduceCtorEq] at hx
     obtain ⟨rfl, rfl, rfl⟩ := hx
     simp only [exOp] at h
     split at h
     ·rename_i k m j n h1 h2; cases h; exact .inl (ztt (mn := true) hs e1 e2 h1 h2)
     ·cases h
    ·cases htr
   ·rename_i o1 o2 ts
    split at htr
    ·rename_i z1 z2 e1 e2
     have hx := (Option.some.inj htr).symm
     cases x <;> simp only [XOp.wipe, XOp.minmax.injEq, reduceCtorEq] at hx
     obtain ⟨rfl, rfl, rfl⟩ := hx
     simp only [exOp] at h
     split at h
     ·rename_i k m j n h1 h2; cases h; exact .inl (ztt (mn := false) hs e1 e2 h1 h2)
     ·cases h
    ·cases htr
   ·rename_i o t
    split at htr
    ·rename_i e ht
     obtain ⟨z, hz, hx⟩ := zqk htr
     cases x <;> simp only [XOp.wipe, XOp.cap.injEq, reduceCtorEq] at hx
     subst hx
     simp only [exOp, Option.map_eq_some_iff, Prod.mk.injEq] at h
     obtain ⟨n, hn, rfl, rfl⟩ := h
     exact .inl (y_cap hs hz ht hn)
    ·cases htr
   ·rename_i o1 o2 t u
    split at htr
    ·rename_i e d z1 z2 ht hu e1 e2
     split at htr
     ·rename_i hc
      simp only [Bool.and_eq_true, decide_eq_true_eq] at hc
      have hx := (Option.some.inj htr).symm
      cases x <;> simp only [XOp.wipe, XOp.copy.injEq, reduceCtorEq] at hx
      obtain ⟨rfl, rfl, rfl⟩ := hx
      exact .inl (y_copy hs e1 e2 ht hc.1 h)
     ·cases htr
    ·cases htr
   ·rename_i o t
    split at htr
    ·rename_i e z1 ht e1
     split at htr
     ·rename_i zs hz
      split at htr
      ·rename_i hc
       simp only [Bool.and_eq_true, decide_eq_true_eq] at hc
       obtain ⟨⟨⟨hk, hzl⟩, h0⟩, hone⟩ := hc
       have hx := (Option.some.inj htr).symm
       cases x <;> simp only [XOp.wipe, XOp.clear.injEq, reduceCtorEq] at hx
       obtain ⟨rfl, rfl, rfl⟩ := hx
       exact .inl (zti hs e1 ht hz hk hone h0 hzl h)
      ·cases htr
     ·cases htr
    ·cases htr
   ·rename_i o1 o2 t u
    split at htr
    ·rename_i e d z1 z2 ht hu e1 e2
     split at htr
     ·rename_i hc
      simp only [Bool.and_eq_true, decide_eq_true_eq] at hc
      obtain ⟨⟨⟨⟨⟨hk, h0⟩, hb0⟩, hz⟩, hd⟩, hu8⟩ := hc
      have hx := (Option.some.inj htr).symm
      cases x <;> simp only [XOp.wipe, XOp.append.injEq, reduceCtorEq] at hx
      ·obtain ⟨rfl, rfl, rfl, rfl⟩ := hx
       exact .inl (ztc hs ht hu hd hk h0 hb0 hz e1 e2 h)
      ·obtain ⟨rfl, rfl, rfl, rfl⟩ := hx
       exact .inl (zs9 hs ht hu hd hk h0 hb0 hz e1 e2 h)
      ·obtain ⟨hc1, hb1, rfl, rfl⟩ := hx
       rw [← hb1] at hu8
       have hu8' : isU8 P e = true := by simpa using hu8
       exact .inl (ztb hcall.byte hs ht hu hd hk h0 hb0 hz hc1.symm hb1.symm hu8' e1 e2 h)
     ·cases htr
    ·cases htr
   ·cases htr
  | value fo =>
   cases fo with
   | func f =>
    simp only [trCall, Option.map_eq_some_iff] at htr
    obtain ⟨ys, hy, hx⟩ := htr
    cases x <;> simp only [XOp.wipe, XOp.call.injEq, reduceCtorEq] at hx
    rename_i mode fn as
    obtain ⟨_, rfl, rfl⟩ := hx
    simp only [exOp] at h
    cases mode with
    | view => exact .inr (.inl (y_view hcall hs hy h))
    | own => exact .inr (.inl (y_own hcall hs hy h))
    | share => exact .inr (.inl (ztw hcall hs hy h))
    | peek =>
     obtain ⟨rfl, _, h⟩ := zk2 h
     exact .inr (.inl (ztw hcall hs hy h))
    | look => exact .inr (.inl (ztw hcall hs hy (ziq h)))
   | tmp t =>
    simp only [trCall] at htr
    split at htr
    ·rename_i f' as hf hy
     have hx := (Option.some.inj htr).symm
     cases x <;> simp only [XOp.wipe, XOp.callV.injEq, reduceCtorEq] at hx
     obtain ⟨rfl, rfl⟩ := hx
     simp only [exOp] at h
     split at h
     ·rename_i fn caps heq; exact .inr (.inl (zth hcall hs hf hy heq h))
     ·rename_i id heq; exact .inr (.inr (zt2 hcall hs hf hy heq h))
     ·cases h
    ·cases htr
   | const v =>
    simp only [trCall] at htr
    split at htr
    ·rename_i f' as hf hy
     have hx := (Option.some.inj htr).symm
     cases x <;> simp only [XOp.wipe, XOp.callV.injEq, reduceCtorEq] at hx
     obtain ⟨rfl, rfl⟩ := hx
     simp only [exOp] at h
     split at h
     ·rename_i fn caps heq; exact .inr (.inl (zth hcall hs hf hy heq h))
     ·rename_i id heq; exact .inr (.inr (zt2 hcall hs hf hy heq h))
     ·cases h
    ·cases htr
   | global g => simp [trCall, trSrc] at htr
 | makeMap t r =>
  simp only [trOp] at htr
  split at htr
  ·rename_i kt e r' ht hr
   have hx := (Option.some.inj htr).symm
   cases x <;> simp only [XOp.wipe, XOp.makeMap.injEq, reduceCtorEq] at hx
   case litA => cases h
   subst hx
   simp only [exOp] at h
   cases hint : (‹Option Src› : Option Src) with
   | none =>
    rw [hint] at h hr
    cases h
    exact .inl (ztq hs ht hr fun x hx => by cases hx)
   | some z =>
    rw [hint] at h hr
    simp only at h
    split at h
    ·rename_i i hi
     cases h
     exact .inl (ztq hs ht hr fun x hx => by cases hx; exact ⟨i, hi⟩)
    ·cases h
  ·cases htr
 | lookup t m k ok =>
  simp only [trOp] at htr
  split at htr
  ·rename_i kt e m' k' ht hm hk
   split at htr
   ·rename_i kind zs agg hkt hz
    have hx := (Option.some.inj htr).symm
    cases x <;> simp only [XOp.wipe, XOp.lookup.injEq, reduceCtorEq] at hx
    case litL => cases h
    obtain ⟨rfl, rfl, rfl, rfl, rfl, rfl⟩ := hx
    exact .inl (ztp hs ht hm hk hkt hz h)
   ·cases htr
  ·cases htr
 | mapUpdate t m k v | insert t m k v =>
  simp only [trOp] at htr
  split at htr
  ·rename_i kt e m' k' v' ht hm hk hv
   split at htr
   ·rename_i kind hkt
    have hx := (Option.some.inj htr).symm
    cases x <;> simp only [XOp.wipe, XOp.mapSet.injEq, reduceCtorEq] at hx
    case litI => cases h
    obtain ⟨rfl, rfl, rfl, rfl⟩ := hx
    first
     | exact .inl (zts hs ht hm hk hv hkt h (.inl rfl))
     | exact .inl (zts hs ht hm hk hv hkt h (.inr rfl))
   ·cases htr
  ·cases htr
 | _ => simp [trOp] at htr
end
end Go.EX


set_option linter.unusedVariables false
set_option linter.unusedSimpArgs false
namespace Go.EX
section
variable {num : Names} {P : Program}
abbrev fz (ro : Option Nat) : Fence := { Fence.wide with round := ro }
def Marked (lo : Nat) (C : Cx) (ds : List Deferred) : Prop :=
 ∃ rs : List Nat, ds = rs.map (fun r => { target := .collected r, args := #[] }) ∧ rs.Nodup ∧ ∀ r ∈ rs, lo ≤ r ∧ C.w.heap[r]? = some (.deferred (some [])) ∧ ¬ C.I r
theorem zkr {C : Cx} {m : Mem} (hm : MRep num C m) {b : Nat} (h : Own C m b) : (∃ arr e fz, C.w.heap[b]? = some (.cells arr e fz)) ∨ (∃ es k, C.w.heap[b]? = some (.map es k)) ∨ ∃ R, C.w.heap[b]? = some (.loop R) := by
 obtain ⟨id, o, ho, hlv, rfl⟩ := h
 have h1 := hm.obj id o ho
 cases o with
 | flat => obtain ⟨arr, e, h2, _⟩ := h1; exact .inl ⟨arr, e, _, h2⟩
 | rich => obtain ⟨arr, e, h2, _⟩ := h1; exact .inl ⟨arr, e, _, h2⟩
 | fix => obtain ⟨arr, e, h2, _⟩ := h1; exact .inl ⟨arr, e, _, h2⟩
 | map => obtain ⟨es, k, h2, _⟩ := h1; exact .inr (.inl ⟨es, k, h2⟩)
 | loop => obtain ⟨R, N, h2, _⟩ := h1; exact .inr (.inr ⟨R, h2⟩)
 | text => obtain ⟨arr, e, h2, _⟩ := h1; exact .inl ⟨arr, e, _, h2⟩
 | dead => cases hlv
theorem Marked.step {lo k : Nat} {C D : Cx} {m m' : Mem} {ds : List Deferred} (h : Marked lo C ds) (hm : MRep num C m) (hst : Step num k C m D m') : Marked lo D ds := by
 obtain ⟨rs, h1, h2, h3⟩ := h
 refine ⟨rs, h1, h2, fun r hr => ?_⟩
 obtain ⟨h4, h5, h6⟩ := h3 r hr
 have hlt := (Array.getElem?_eq_some_iff.1 h5).1
 have hno : ¬ Own C m r := fun ho => by
  rcases zkr hm ho with ⟨_, _, _, h⟩ | ⟨_, _, h⟩ | ⟨_, h⟩ <;> rw [h5] at h <;> cases h
 refine ⟨h4, by rw [hst.keep r hlt hno]; exact h5, fun hI => ?_⟩
 rcases hst.imm' r hI with h | h | h
 ·exact h6 h
 ·omega
 ·exact hno h
structure Later (num : Names) (k : Nat) (C : Cx) (m : Mem) (a : Act) (D : Cx) (s' : St) (a' : Act) : Prop where
 rep : SRep num D s' a'
 step : Step num k C m D s'.mem
 k : s'.k = k
 size : a'.tmps.size = a.tmps.size
 marks : ∀ lo, lo ≤ C.w.heap.size → Marked lo C a.defers → Marked lo D a'.defers
theorem Later.trans {k : Nat} {C D E : Cx} {m : Mem} {s s' : St} {a a' a'' : Act} (h : Later num k C m a D s a') (g : Later num k D s.mem a' E s' a'') : Later num k C m a E s' a'' :=
 ⟨g.rep, h.step.trans g.step, g.k, g.size.trans h.size, fun lo hle hl => g.marks lo (Nat.le_trans hle h.step.size) (h.marks lo hle hl)⟩
theorem Later.refl {C : Cx} {s : St} {a : Act} (hs : SRep num C s a) : Later num s.k C s.mem a C s a := ⟨hs, .refl hs.mem hs.k, rfl, rfl, fun _ _ h => h⟩
theorem zmd (a : Act) (d : Option Tmp) (v : Value) : (a.put d v).tmps.size = a.tmps.size := by cases d <;> simp [Act.put]
theorem zl9 (a : Act) (d : Option Tmp) (v : Value) : (a.put d v).defers = a.defers := by cases d <;> rfl
def St.bind (s : St) (d : Option Nat) (v : AV) : St := match d with
 | some d => { s with env := (d, v) :: s.env }
 | none => s
theorem zbi (s : St) (d : Option Nat) (v : AV) : (s.bind d v).mem = s.mem := by cases d <;> rfl
theorem bind_k (s : St) (d : Option Nat) (v : AV) : (s.bind d v).k = s.k := by cases d <;> rfl
theorem zbh {k N : Nat} {C D : Cx} {m : Mem} {s : St} {a : Act} {d : Option Nat} {x : AV} {v : Value} (hm : MRep num C m) (hN : N ≤ a.tmps.size) (hd : dstOk N d = true) (hst : Step num k C m D s.mem) (he : ERep num D s.env a.tmps) (hx : ARep num D x v) (hk : s.k = k) :
  Later num k C m a D (s.bind d x) (a.put d v) := by
 refine ⟨⟨by rw [zbi]; exact hst.rep, ?_, by rw [bind_k, zbi, hk]; exact hst.len⟩, by rw [zbi]; exact hst, by rw [bind_k, hk], zmd .., fun lo _ h => by rw [zl9]; exact h.step hm hst⟩
 cases d with
 | none => exact he
 | some d =>
  have : d < a.tmps.size := Nat.lt_of_lt_of_le (by simpa [dstOk] using hd) hN
  exact he.put this hx
theorem zds {ro : Option Nat} {op : Op} {ty : TypeId} {pos : String} {after : Array Edge} {a : Act} {C : Cx} {s s' : St} {x : AV} (hm : MRep num C s.mem) (h : Does num P op ty pos after a C s x s') {N : Nat} (hN : N ≤ a.tmps.size) {d : Option Tmp} (hd : dstOk N d = true) (g : Option (Nat × Bool))
  {K : Act → World → Prop} {Q : Exit → Act → World → Prop} (hK : ∀ D a', Later num s.k C s.mem a D (s'.bind d x) a' → (∃ v, a' = a.put d v) → K a' D.w) : Oper.wpIn (fz ro) 0 P ⟨d, op, ty, pos, after, g⟩ a C.w K Q := by
 have hnd : ∀ c, op ≠ .defer c := by
  rintro c rfl
  have hbad : ∀ (r : Result Next), (execOp a.eval ⟨d, .defer c, ty, pos, after, g⟩).run P C.w = r → (∀ dd w, r ≠ .ok (.defer dd) w) → (∀ x w, r ≠ .halt x w) → False := by
   intro r hr h1 h2
   simp only [execOp, Sem.run_bind] at hr
   cases hq : (resolve a.eval c ty).run P C.w with
   | ok v w => rw [hq] at hr; simp only [Result.andThen, Sem.run_pure] at hr; exact h1 _ _ hr.symm
   | halt x w => rw [hq] at hr; simp only [Result.andThen] at hr; exact h2 _ _ hr.symm
  rcases h with ⟨v, D, hrun, _⟩ | ⟨f, vals, hrun, _⟩ | ⟨l, fn, tmps, as, bd, hrun, _⟩
  ·rcases hrun d g with h | ⟨h, _⟩ <;> exact hbad _ h (fun _ _ => by simp) (fun _ _ => by simp)
  ·exact hbad _ (hrun d g) (fun _ _ => by simp) (fun _ _ => by simp)
  ·exact hbad _ (hrun d g) (fun _ _ => by simp) (fun _ _ => by simp)
 unfold Oper.wpIn
 refine ⟨fun _ _ => trivial, ?_⟩
 rw [Oper.semAt_eq _ _ _ hnd]
 rcases h with ⟨v, D, hrun, hst, he, hx, hk⟩ | ⟨f, vals, hrun, hc⟩ | ⟨l, fn, tmps, as, bd, hrun, hc⟩
 ·rcases hrun d g with h | ⟨h, rfl⟩ <;> rw [h]
  ·rw [Oper.uponIn_value]; exact hK D _ (zbh hm hN hd hst he hx hk) ⟨_, rfl⟩
  ·rw [Oper.uponIn_skip]; exact hK D _ (zbh hm hN hd hst he hx hk) ⟨_, rfl⟩
 ·rw [hrun d g, Oper.uponIn_enter]
  refine ⟨fun h => (by cases h), ?_⟩
  refine CallsIn.mono (R := fun e w' => ∃ v D, e = .returned v ∧ D.w = w' ∧ Step num s.k C s.mem D s'.mem ∧ ERep num D s'.env a.tmps ∧ ARep num D x v ∧ s'.k = s.k) (callsIn_wide.2 hc) fun e w' ⟨v, D, he', hw, hst, he, hx, hk⟩ => ?_
  subst he' hw
  exact hK D _ (zbh hm hN hd hst he hx hk) ⟨_, rfl⟩
 ·rw [hrun d g, Oper.uponIn_round]
  refine ⟨fun h => (by cases h), ?_⟩
  have hc' : RoundIn (fz ro) (0 - 1) P l fn tmps as bd C.w (fun e w' => ∃ v D, e = .returned v ∧ D.w = w' ∧ Step num s.k C s.mem D s'.mem ∧ ERep num D s'.env a.tmps ∧ ARep num D x v ∧ s'.k = s.k) := hc
  refine hc'.mono fun e w' ⟨v, D, he', hw, hst, he, hx, hk⟩ => ?_
  subst he' hw
  exact hK D _ (zbh hm hN hd hst he hx hk) ⟨_, rfl⟩
theorem zrr {N : Nat} {ops : Array Oper} {o : Oper} {x : XO} (h : trOper P num N ops o = some x) : trOp P num o.op = some x.op ∧ trGuard ops o.guard = some x.guard ∧ x.dst = o.dst ∧ dstOk N o.dst = true ∧ ∀ (t : Nat) (b : Bool), x.guard = some (t, b) → t < N := by
 unfold trOper at h
 split at h
 ·rename_i y g h1 h2
  split at h
  ·cases h; rename_i hd; simp only [Bool.and_eq_true] at hd; exact ⟨h1, h2, rfl, hd.1, fun t b hg => by simp only at hg; subst hg; simpa [dstOk] using hd.2⟩
  ·cases h
 ·cases h
theorem zek {call : Calls'} {s : St} {o : XO} {s' : St} (h : exOne call s o = some s') :
  (∃ v s1, exOp call s o.op = some (v, s1) ∧ s' = s1.bind o.dst v ∧ (o.guard = none ∨ ∃ t b, o.guard = some (t, b) ∧ s.env.get t = .imm (.val (.bool b)))) ∨
  (s' = s.bind o.dst (.tup []) ∧ ∃ t b, o.guard = some (t, b) ∧ ((∃ c, s.env.get t = .imm (.val (.bool c)) ∧ c ≠ b) ∨ s.env.get t = .tup [])) := by
 unfold exOne at h
 dsimp only at h
 have go : ∀ {s'}, (exOp call s o.op).map (fun (v, s') => match o.dst with | some d => { s' with env := (d, v) :: s'.env } | none => s') = some s' → ∃ v s1, exOp call s o.op = some (v, s1) ∧ s' = s1.bind o.dst v := by
  intro s' h
  cases hx : exOp call s o.op with
  | none => rw [hx] at h; cases h
  | some p =>
   obtain ⟨v, s1⟩ := p
   rw [hx] at h
   refine ⟨v, s1, rfl, ?_⟩
   simp only [Option.map_some, Option.some.injEq] at h
   rw [← h]
   cases o.dst <;> rfl
 split at h
 ·rename_i hg
  obtain ⟨v, s1, h1, h2⟩ := go h
  exact .inl ⟨v, s1, h1, h2, .inl hg⟩
 ·rename_i t b hg
  split at h
  ·rename_i c hc
   split at h
   ·rename_i hcb
    obtain ⟨v, s1, h1, h2⟩ := go h
    exact .inl ⟨v, s1, h1, h2, .inr ⟨t, b, hg, by rw [hc, hcb]⟩⟩
   ·rename_i hcb
    refine .inr ⟨?_, t, b, hg, .inl ⟨c, hc, hcb⟩⟩
    simp only [Option.some.injEq] at h
    rw [← h]
    cases o.dst <;> rfl
  ·rename_i hc
   refine .inr ⟨?_, t, b, hg, .inr hc⟩
   simp only [Option.some.injEq] at h
   rw [← h]
   cases o.dst <;> rfl
  ·cases h
theorem zsu {ops : Array Oper} {o : Oper} {a : Act} {C : Cx} {s : St} (hs : SRep num C s a) {t : Nat} {b : Bool} {j : Nat} {c : Bool} (hg : o.guard = some (j, b)) (hj : (ops[j]?).bind (·.dst) = some t) (ht : t < a.tmps.size) (hc : s.env.get t = .imm (.val (.bool c))) :
  Region.wanted o (yielded ops a.tmps) = (c == b) := by
 have h1 := hs.env t
 rw [hc] at h1
 have h2 := znl h1
 have h3 : a.tmps[t]? = some (.bool c) := by
  simp only [Array.getD, ht, dite_true] at h2
  rw [Array.getElem?_eq_getElem ht]; exact congrArg some h2
 simp only [Region.wanted, hg, yielded, hj, Option.bind_some, h3]
 cases c <;> cases b <;> rfl
theorem zsf {ops : Array Oper} {o : Oper} {a : Act} {C : Cx} {s : St} (hs : SRep num C s a) {t : Nat} {b : Bool} {j : Nat} (hg : o.guard = some (j, b)) (hj : (ops[j]?).bind (·.dst) = some t) (ht : t < a.tmps.size) (hc : s.env.get t = .tup []) :
  Region.wanted o (yielded ops a.tmps) = false := by
 have h1 := hs.env t
 rw [hc] at h1
 have h3 : a.tmps[t]? = some (.tuple #[]) := by
  generalize hv : a.tmps.getD t undef = v at h1
  cases h1 with
  | tup _ vs hl _ =>
   have : vs = #[] := by simpa using hl.symm
   subst this
   simp only [Array.getD, ht, dite_true] at hv
   rw [Array.getElem?_eq_getElem ht]; exact congrArg some hv
 simp only [Region.wanted, hg, yielded, hj, Option.bind_some, h3]
 cases b <;> rfl
theorem zqh (C : Cx) : ARep num C (.tup []) undef := .tup [] #[] rfl fun j x u hx _ => by simp at hx
theorem one_wp {ro : Option Nat} {call : Calls'} (hcall : CallOK num P call) {N : Nat} {ops : Array Oper} {o : Oper} {x : XO} (htr : trOper P num N ops o = some x.wipe) {a : Act} {C : Cx} {s s' : St} (hs : SRep num C s a) (hN : N ≤ a.tmps.size) (h : exOne call s x = some s')
  {K : Act → World → Prop} {Q : Exit → Act → World → Prop} (hK : ∀ D a', Later num s.k C s.mem a D s' a' → (∃ v, a' = a.put o.dst v) → K a' D.w) :
  if Region.wanted o (yielded ops a.tmps) then o.wpIn (fz ro) 0 P a C.w K Q else (∀ f, o.about P C.w a.eval = some f → (fz ro).fn f) ∧ K (a.put o.dst undef) C.w := by
 obtain ⟨h1, h2, h3, h4, hgd⟩ := zrr htr
 have hguard : x.wipe.guard = x.guard := rfl
 have hdst : x.wipe.dst = x.dst := rfl
 rw [hguard] at h2
 rw [hdst] at h3
 have wgd : ∀ (t : Nat) (b : Bool), x.guard = some (t, b) → ∃ j, o.guard = some (j, b) ∧ (ops[j]?).bind (·.dst) = some t := by
  intro t b hx
  rw [hx] at h2
  unfold trGuard at h2
  split at h2
  ·cases h2
  ·rename_i j b' hjb
   split at h2
   ·rename_i t' ht
    simp only [Option.some.injEq, Prod.mk.injEq] at h2
    obtain ⟨rfl, rfl⟩ := h2
    exact ⟨_, hjb, ht⟩
   ·cases h2
 rcases zek h with ⟨v, s1, hx, rfl, hg⟩ | ⟨rfl, t, b, hg, hc⟩
 ·have hw : Region.wanted o (yielded ops a.tmps) = true := by
   rcases hg with hg | ⟨t, b, hg, hc⟩
   ·rw [hg] at h2
    unfold trGuard at h2
    split at h2
    ·simp [Region.wanted, *]
    ·split at h2 <;> simp at h2
   ·obtain ⟨j, hj, hd⟩ := wgd t b hg
    rw [zsu hs hj hd (Nat.lt_of_lt_of_le (hgd t b hg) hN) hc]; simp
  rw [if_pos hw]
  have := zds (ro := ro) hs.mem (zen (ty := o.type) (pos := o.pos) (after := o.after) hcall hs h1 hx) hN h4 o.guard (K := K) (Q := Q)
  obtain ⟨d, op, ty, pos, after, g⟩ := o
  dsimp only at *
  refine this fun D a' hl hp => hK D a' ?_ hp
  rw [h3]
  exact hl
 ·obtain ⟨j, hj, hd⟩ := wgd t b hg
  have hw : Region.wanted o (yielded ops a.tmps) = false := by
   rcases hc with ⟨c, hc, hne⟩ | hc
   ·rw [zsu hs hj hd (Nat.lt_of_lt_of_le (hgd t b hg) hN) hc]; simpa using hne
   ·exact zsf hs hj hd (Nat.lt_of_lt_of_le (hgd t b hg) hN) hc
  rw [hw]
  simp only [Bool.false_eq_true, if_false]
  refine ⟨fun _ _ => trivial, hK C _ ?_ ⟨_, rfl⟩⟩
  rw [h3]
  exact zbh hs.mem hN h4 (.refl hs.mem hs.k) hs.env (zqh C) rfl
theorem zih {ro : Option Nat} {call : Calls'} (hcall : CallOK num P call) {N : Nat} {ops : Array Oper} {Q : Exit → Act → World → Prop} : ∀ (l : List Oper) (xs : List XO) {a : Act} {C : Cx} {s s' : St}, trOps P num N ops l = xs.map XO.wipe → SRep num C s a → N ≤ a.tmps.size → exOps call s xs = some s' →
  (∀ D a', Later num s.k C s.mem a D s' a' → Q .normal a' D.w) → wpListIn (fz ro) 0 P ops Q l a C.w
 | [], xs, a, C, s, s', htr, hs, _, h, hQ => by
  cases xs with
  | nil => cases h; exact hQ C a (.refl hs)
  | cons x r => simp [trOps] at htr
 | o :: l, xs, a, C, s, s', htr, hs, hN, h, hQ => by
  simp only [trOps] at htr
  cases ho : trOper P num N ops o with
  | none =>
   rw [ho] at htr
   cases xs with
   | nil => simp at htr
   | cons x r =>
    simp only [List.map_cons, List.cons.injEq] at htr
    have hb : x.wipe = badOp := htr.1.symm
    have h1 : x.op = .callV (.c (.bool true)) [] ∧ x.guard = none := by
     obtain ⟨d, op, g⟩ := x
     simp only [XO.wipe, badOp, XO.mk.injEq] at hb
     obtain ⟨_, h2, h3⟩ := hb
     refine ⟨?_, h3⟩
     cases op <;> simp only [XOp.wipe, reduceCtorEq] at h2
     exact h2
    simp only [exOps] at h
    unfold exOne at h
    simp only [h1.1, h1.2, exOp, Env.ev, Option.map_none, Option.bind_none] at h
    cases h
  | some y =>
   rw [ho] at htr
   cases xs with
   | nil => simp at htr
   | cons x r =>
    simp only [List.map_cons, List.cons.injEq] at htr
    obtain ⟨h1, h2⟩ := htr
    subst h1
    simp only [exOps] at h
    cases hx : exOne call s x with
    | none => rw [hx] at h; cases h
    | some s1 =>
     rw [hx] at h
     simp only [Option.bind_some] at h
     have := one_wp hcall ho hs hN hx (ro := ro) (Q := Q) (K := wpListIn (fz ro) 0 P ops Q l) fun D a' hl _ =>
      zih hcall l r h2 hl.rep (by rw [hl.size]; exact hN) h fun E a'' hl' => hQ E a'' (hl.trans (by rw [hl.k] at hl'; exact hl'))
     unfold wpListIn
     exact this
theorem zs0 {F : Fence} {n : Nat} {md : Region.Mode} {ops : Array Oper} {Q' : Exit → Act → World → Prop} : ∀ (l : List Oper) (k : Nat) (listed : Array Bool) (a : Act) (w : World), (∀ j, l[j]? = ops[k + j]?) →
  Region.seqB md ops l.length k listed = true → wpListIn F n P ops Q' l a w → wpAnyIn F n P md ops Q' l.length listed a w
 | [], _, _, _, _, _, hB, h => ⟨by simpa [Region.seqB] using hB, h⟩
 | o :: l, k, listed, a, w, hl, hB, h => by
  have h0 : ops[k]? = some o := by simpa using (hl 0).symm
  simp only [List.length_cons, Region.seqB, Bool.and_eq_true, decide_eq_true_eq] at hB
  refine ⟨fun h1 => (by rw [hB.1] at h1; cases h1), fun i hi => ?_⟩
  rw [hB.1] at hi
  have hik : i = k := by simpa using hi
  subst hik
  have hw : wpOpIn F n P ops Q' i (wpListIn F n P ops Q' l) a w := by unfold wpOpIn; simp only [h0]; exact h
  exact wpOpIn_mono (fun a' w' h' => zs0 l (i + 1) _ a' w' (fun j => by have := hl (j + 1); simpa [Nat.add_assoc, Nat.add_comm 1 j] using this) hB.2 h') hw
end
end Go.EX


set_option linter.unusedVariables false
set_option linter.unusedSimpArgs false
namespace Go.EX
theorem zef {s t : Env} {y : Src} (he : ∀ n ∈ srcTmp y, t.get n = s.get n) : t.ev y = s.ev y := by
 cases y with
 | t n => exact he n (by simp [srcTmp])
 | c v => rfl
 | f n => rfl
theorem zed {s t : Env} {y : Option Src} (he : ∀ n ∈ srcTmpO y, t.get n = s.get n) : y.map t.ev = y.map s.ev := by
 cases y with
 | none => rfl
 | some y => exact congrArg some (zef he)
theorem zec {s t : Env} {l : List Src} (he : ∀ n ∈ l.flatMap srcTmp, t.get n = s.get n) : l.map t.ev = l.map s.ev :=
 List.map_congr_left fun y hy => zef fun n hn => he n (List.mem_flatMap.2 ⟨y, hy, hn⟩)
theorem zee {s t : Env} {l : List (Nat × Nat × Src)} (he : ∀ n ∈ l.flatMap (fun p => srcTmp p.2.2), t.get n = s.get n) : l.map (fun (o, n, x) => (o, n, t.ev x)) = l.map fun (o, n, x) => (o, n, s.ev x) :=
 List.map_congr_left fun y hy => by
  have := zef (s := s) (t := t) (y := y.2.2) fun n hn => he n (List.mem_flatMap.2 ⟨y, hy, hn⟩)
  simp only [this]
def In (K : Nat → Prop) (x : AV) : Prop := ∀ id ∈ x.refs, K id
def InL (K : Nat → Prop) (l : List AV) : Prop := ∀ x ∈ l, In K x
theorem in_agg {K : Nat → Prop} {l : List AV} : In K (.agg l) ↔ InL K l := by
 constructor
 ·intro h x hx id hid; exact h id (by simp only [AV.refs]; exact refsL_mem.2 ⟨x, hx, hid⟩)
 ·intro h id hid; simp only [AV.refs] at hid; obtain ⟨x, hx, hid⟩ := refsL_mem.1 hid; exact h x hx id hid
theorem in_tup {K : Nat → Prop} {l : List AV} : In K (.tup l) ↔ InL K l := by
 constructor
 ·intro h x hx id hid; exact h id (by simp only [AV.refs]; exact refsL_mem.2 ⟨x, hx, hid⟩)
 ·intro h id hid; simp only [AV.refs] at hid; obtain ⟨x, hx, hid⟩ := refsL_mem.1 hid; exact h x hx id hid
theorem in_clo {K : Nat → Prop} {n : Nat} {l : List AV} : In K (.clo n l) ↔ InL K l := by
 constructor
 ·intro h x hx id hid; exact h id (by simp only [AV.refs]; exact refsL_mem.2 ⟨x, hx, hid⟩)
 ·intro h id hid; simp only [AV.refs] at hid; obtain ⟨x, hx, hid⟩ := refsL_mem.1 hid; exact h x hx id hid
theorem in_imm {K : Nat → Prop} {x : IV} : In K (.imm x) := fun id hid => by simp [AV.refs] at hid
theorem zgw {K : Nat → Prop} : In K .junk := fun id hid => by simp [AV.refs] at hid
theorem in_optr {K : Nat → Prop} {i o : Nat} : In K (.optr i o) ↔ K i := by simp [In, AV.refs]
theorem in_osl {K : Nat → Prop} {i a b c : Nat} {d : Option Nat} : In K (.osl i a b c d) ↔ K i := by simp [In, AV.refs]
theorem in_omap {K : Nat → Prop} {i : Nat} : In K (.omap i) ↔ K i := by simp [In, AV.refs]
theorem in_ev {K : Nat → Prop} {e : Env} {y : Src} (h : ∀ n ∈ srcTmp y, In K (e.get n)) : In K (e.ev y) := by
 cases y with
 | t n => exact h n (by simp [srcTmp])
 | c v => exact in_imm
 | f n => exact in_clo.2 fun x hx => by cases hx
theorem InL.get {K : Nat → Prop} {l : List AV} (h : InL K l) {j : Nat} {x : AV} (hx : l[j]? = some x) : In K x := h x (List.mem_of_getElem? hx)
theorem InL.mapImm {K : Nat → Prop} {α : Type} (l : List α) (f : α → IV) : InL K (l.map fun x => .imm (f x)) := fun x hx => by obtain ⟨y, _, rfl⟩ := List.mem_map.1 hx; exact in_imm
theorem zg3 {K : Nat → Prop} : ∀ (xs l : List AV) (off : Nat), InL K l → InL K xs → InL K (setAll l off xs)
 | [], l, off, hl, _ => hl
 | x :: xs, l, off, hl, hx => by
  simp only [setAll]
  refine zg3 xs _ _ (fun y hy => ?_) (fun y hy => hx y (List.mem_cons_of_mem _ hy))
  rcases List.mem_or_eq_of_mem_set hy with h | h
  ·exact hl y h
  ·rw [h]; exact hx x (List.mem_cons_self ..)
theorem zgs {K : Nat → Prop} {x : AV} {cs : List AV} (h : In K x) (hc : x.cells = some cs) : InL K cs := by
 cases x <;> simp only [AV.cells, Option.some.injEq, reduceCtorEq] at hc <;> subst hc <;> first | exact in_agg.1 h | (intro y hy; rw [List.mem_singleton.1 hy]; exact h)
theorem zgt {K : Nat → Prop} : ∀ (ps : List (Nat × Nat × AV)) (cs r : List AV), InL K cs → (∀ p ∈ ps, In K p.2.2) → fillAll cs ps = some r → InL K r
 | [], cs, r, hc, _, h => by cases h; exact hc
 | (off, n, v) :: ps, cs, r, hc, hp, h => by
  simp only [fillAll] at h
  split at h
  ·rename_i vs hv
   split at h
   ·exact zgt ps _ _ (zg3 vs cs off hc (zgs (hp _ (List.mem_cons_self ..)) hv)) (fun p hp' => hp p (List.mem_cons_of_mem _ hp')) h
   ·cases h
  ·cases h
theorem in_cut {K : Nat → Prop} {l r : List AV} {off n : Nat} (hl : InL K l) (h : cut l off n = some r) : InL K r := by
 unfold cut at h
 dsimp only at h
 split at h
 ·cases h; exact fun x hx => hl x (List.mem_of_mem_drop (List.mem_of_mem_take hx))
 ·cases h
theorem zgu {K : Nat → Prop} {l : List AV} {agg : Option Nat} {off : Nat} {r : AV} (hl : InL K l) (h : getCells agg l off = some r) : In K r := by
 cases agg with
 | none => exact hl.get h
 | some n =>
  simp only [getCells, Option.map_eq_some_iff] at h
  obtain ⟨c, hc, rfl⟩ := h
  exact in_agg.2 (in_cut hl hc)
theorem zgv {K : Nat → Prop} {l : List IV} {agg : Option Nat} {off : Nat} {r : AV} (h : getCellsI agg l off = some r) : In K r := by
 cases agg with
 | none => simp only [getCellsI, Option.map_eq_some_iff] at h; obtain ⟨c, _, rfl⟩ := h; exact in_imm
 | some n =>
  simp only [getCellsI, Option.map_eq_some_iff] at h
  obtain ⟨c, hc, rfl⟩ := h
  exact in_agg.2 (InL.mapImm c id)
theorem in_imZ {K : Nat → Prop} (zs : List Value) : InL K (imZ zs) := InL.mapImm zs .val
structure Agree (K : Nat → Prop) (s t : Mem) : Prop where
 same : ∀ id, K id → t[id]? = s[id]?
 closed : ∀ id o, K id → s[id]? = some o → ∀ j ∈ o.refs, K j
theorem zg2 {K : Nat → Prop} {s t : Mem} (h : Agree K s t) {id : Nat} (hk : K id) {cs : List AV} (hc : s[id]? = some (.rich cs)) : InL K cs := fun x hx j hj => h.closed id _ hk hc j (by simp only [AObj.refs]; exact refsL_mem.2 ⟨x, hx, hj⟩)
theorem in_map {K : Nat → Prop} {s t : Mem} (h : Agree K s t) {id : Nat} (hk : K id) {es : List (AV × AV)} (hc : s[id]? = some (.map es)) : ∀ p ∈ es, In K p.1 ∧ In K p.2 := fun p hp =>
 ⟨fun j hj => h.closed id _ hk hc j (by simp only [AObj.refs, List.mem_append]; exact .inl (refsL_mem.2 ⟨p.1, List.mem_map.2 ⟨p, hp, rfl⟩, hj⟩)),
  fun j hj => h.closed id _ hk hc j (by simp only [AObj.refs, List.mem_append]; exact .inr (refsL_mem.2 ⟨p.2, List.mem_map.2 ⟨p, hp, rfl⟩, hj⟩))⟩
theorem ziy {α β : Type} {f g : α → Option β} : ∀ (l : List α), (∀ x ∈ l, f x = g x) → l.mapM f = l.mapM g
 | [], _ => rfl
 | x :: r, h => by
  rw [List.mapM_cons, List.mapM_cons, h x (List.mem_cons_self ..), ziy r fun y hy => h y (List.mem_cons_of_mem _ hy)]
theorem zfy {K : Nat → Prop} {s t : Mem} (h : Agree K s t) : ∀ (n : Nat) (x : AV), In K x → frzV t n x = frzV s n x
 | n, .imm x, _ => by cases n <;> rfl
 | 0, .osl .., _ => rfl
 | 0, .optr .., _ => rfl
 | n + 1, .osl id off sz len cap, hx => by
  have hk := in_osl.1 hx
  simp only [frzV, h.same id hk]
  cases hc : s[id]? with
  | none => rfl
  | some o =>
   cases o with
   | rich cs => simp only []; rw [ziy cs fun y hy => zfy h n y (zg2 h hk hc y hy)]
   | _ => rfl
 | n + 1, .optr id off, hx => by
  have hk := in_optr.1 hx
  simp only [frzV, h.same id hk]
  cases hc : s[id]? with
  | none => rfl
  | some o =>
   cases o with
   | rich cs => simp only []; rw [ziy cs fun y hy => zfy h n y (zg2 h hk hc y hy)]
   | _ => rfl
 | n, .omap _, _ => by cases n <;> rfl
 | n, .clo .., _ => by cases n <;> rfl
 | n, .agg _, _ => by cases n <;> rfl
 | n, .tup _, _ => by cases n <;> rfl
 | n, .yld _, _ => by cases n <;> rfl
 | n, .seat .., _ => by cases n <;> rfl
 | n, .junk, _ => by cases n <;> rfl
theorem zfw {K : Nat → Prop} {s t : Mem} (h : Agree K s t) (x : AV) (hx : In K x) : frz.frz1 t x = frz.frz1 s x := by
 cases x with
 | agg cs => simp only [frz.frz1]; rw [ziy cs fun y hy => zfy h 20 y (in_agg.1 hx y hy)]
 | _ => simp only [frz.frz1]; rw [zfy h 20 _ hx]
theorem zfx {K : Nat → Prop} {s t : Mem} (h : Agree K s t) (x : AV) (hx : In K x) : frz.frzC t x = frz.frzC s x := by
 cases x with
 | clo fn caps => rfl
 | _ => simp only [frz.frzC]; rw [zfy h 20 _ hx]
theorem zf1 {K : Nat → Prop} {s t : Mem} (h : Agree K s t) (x : AV) (hx : In K x) : frz t x = frz s x := by
 cases x with
 | agg cs => simp only [frz]; rw [ziy cs fun y hy => zfy h 20 y (in_agg.1 hx y hy)]
 | tup vs => simp only [frz]; rw [ziy vs fun y hy => zfw h y (in_tup.1 hx y hy)]
 | clo fn caps => simp only [frz]; rw [ziy caps fun y hy => zfx h y (in_clo.1 hx y hy)]
 | _ => simp only [frz]; rw [zfy h 20 _ hx]
theorem zgr {K : Nat → Prop} (l : List IV) : In K (.agg (l.map .imm)) := in_agg.2 (InL.mapImm l id)
mutual
theorem zm3 : ∀ (x : AV), (x.ren fun _ => none).refs = []
 | .imm _ => rfl
 | .osl .. => rfl
 | .optr .. => rfl
 | .omap _ => rfl
 | .clo fn caps => by simp only [AV.ren, AV.refs]; exact zm2 caps
 | .agg cells => by simp only [AV.ren, AV.refs]; exact zm2 cells
 | .tup vs => by simp only [AV.ren, AV.refs]; exact zm2 vs
 | .yld _ => rfl
 | .seat .. => rfl
 | .junk => rfl
theorem zm2 : ∀ (l : List AV), AV.refs.refsL (AV.ren.renL (fun _ => none) l) = []
 | [] => rfl
 | x :: r => by simp only [AV.ren.renL, AV.refs.refsL, zm3 x, zm2 r, List.append_nil]
end
theorem in_frz {K : Nat → Prop} {m : Mem} {x y : AV} (h : frz m x = some y) : In K y := by
 have one : ∀ {x y : AV}, frz.frz1 m x = some y → In K y := by
  intro x y h
  cases x <;> simp only [frz.frz1, Option.map_eq_some_iff] at h <;> obtain ⟨l, _, rfl⟩ := h <;> first | exact in_imm | exact zgr l
 cases x with
 | agg cs => simp only [frz, Option.map_eq_some_iff] at h; obtain ⟨l, _, rfl⟩ := h; exact zgr l
 | tup vs =>
  simp only [frz, Option.map_eq_some_iff] at h
  obtain ⟨l, hl, rfl⟩ := h
  refine in_tup.2 fun y hy => ?_
  obtain ⟨j, hj⟩ := List.getElem?_of_mem hy
  obtain ⟨x, _, hx⟩ := (ziz _ vs l hl).2 j y hj
  exact one hx
 | clo fn caps =>
  simp only [frz, Option.map_eq_some_iff] at h
  obtain ⟨l, hl, rfl⟩ := h
  refine in_clo.2 fun y hy => ?_
  obtain ⟨j, hj⟩ := List.getElem?_of_mem hy
  obtain ⟨x, _, hx⟩ := (ziz _ caps l hl).2 j y hj
  cases x with
  | clo g cs =>
   simp only [frz.frzC, Option.some.injEq] at hx
   subst hx
   intro id hid
   simp only [AV.refs, zm2] at hid
   cases hid
  | _ => simp only [frz.frzC, Option.map_eq_some_iff] at hx; obtain ⟨l, _, rfl⟩ := hx; exact in_imm
 | _ => simp only [frz, Option.map_eq_some_iff] at h; obtain ⟨l, _, rfl⟩ := h; exact in_imm
theorem zik {K : Nat → Prop} {s t : Mem} (h : Agree K s t) {agg : Option Nat} {x : AV} (hx : In K x) : loadAt t agg x = loadAt s agg x := by
 unfold loadAt
 cases x with
 | optr id off => simp only [h.same id (in_optr.1 hx)]
 | imm y => cases y <;> rfl
 | _ => rfl
theorem zgx {K : Nat → Prop} {s t : Mem} (h : Agree K s t) {agg : Option Nat} {x r : AV} (hx : In K x) (hr : loadAt s agg x = some r) : In K r := by
 unfold loadAt at hr
 split at hr
 ·exact zgv hr
 ·rename_i id off
  have hk := in_optr.1 hx
  split at hr
  ·exact zgv hr
  ·rename_i cs hc; exact zgu (zg2 h hk hc) hr
  ·exact zgv hr
  ·cases hr
 ·cases hr
theorem zdx {K : Nat → Prop} {s t : Mem} (h : Agree K s t) (sz : Nat) {x : AV} (hx : In K x) : elems t sz x = elems s sz x := by
 cases x with
 | osl id off sz' len cap => simp only [elems, h.same id (in_osl.1 hx)]
 | imm v =>
  cases v with
  | val u =>
   cases u with
   | slice b l c => cases b <;> cases l <;> cases c <;> rfl
   | _ => rfl
  | _ => rfl
 | _ => rfl
theorem zqw {K : Nat → Prop} {s t : Mem} (h : Agree K s t) {x : AV} (hx : In K x) : strOfV t x = strOfV s x := by
 unfold strOfV
 split
 ·rfl
 ·rw [zdx h 1 hx]
theorem zhm {K : Nat → Prop} {s t : Mem} (h : Agree K s t) (kind : Nat) {x y : AV} (hx : In K x) (hy : In K y) : keyEq t kind x y = keyEq s kind x y := by
 unfold keyEq
 split <;> first | rfl | skip
 rename_i i o j p
 rw [h.same i (in_optr.1 hx), h.same j (in_optr.1 hy)]
theorem zfg {K : Nat → Prop} {s t : Mem} (h : Agree K s t) (kind : Nat) {k : AV} (hk : In K k) : ∀ (es : List (AV × AV)) (i : Nat), (∀ p ∈ es, In K p.1) → findK t kind k es i = findK s kind k es i
 | [], _, _ => rfl
 | e :: es, i, he => by
  simp only [findK, zhm h kind hk (he e (List.mem_cons_self ..)), zfg h kind hk es (i + 1) fun p hp => he p (List.mem_cons_of_mem _ hp)]
theorem zg0 {K : Nat → Prop} {x : AV} (h : x.plain1 = true) : In K x := by
 unfold AV.plain1 at h
 split at h
 ·exact in_imm
 ·cases h
theorem zg1 {K : Nat → Prop} {x : AV} (h : x.plain2 = true) : In K x := by
 cases x with
 | agg cs => exact in_agg.2 fun y hy => zg0 (List.all_eq_true.1 h y hy)
 | _ => exact zg0 h
theorem zgz {K : Nat → Prop} {x : AV} (h : x.plain = true) : In K x := by
 cases x with
 | tup cs => exact in_tup.2 fun y hy => zg1 (List.all_eq_true.1 h y hy)
 | _ => exact zg1 h
end Go.EX


set_option linter.unusedVariables false
set_option linter.unusedSimpArgs false
namespace Go.EX
structure Makes (K : Nat → Prop) (len : Nat) (val : Nat → AV) (new : Nat → List AObj) : Prop where
 size : ∀ p, (new p).length = len
 inV : ∀ p, In (fun id => K id ∨ (p ≤ id ∧ id < p + len)) (val p)
 inN : ∀ p o, o ∈ new p → ∀ id ∈ o.refs, K id ∨ (p ≤ id ∧ id < p + len)
 ren : ∀ p q f, (∀ j, j < len → f (p + j) = some (q + j)) → (∀ id, K id → f id = some id) → (val p).ren f = val q ∧ (new p).map (AObj.ren f) = new q
theorem ziw {K : Nat → Prop} (o : AObj) (ho : ∀ id ∈ o.refs, K id) (val : Nat → AV) (hv : ∀ p, (val p).refs = [p]) (hr : ∀ p q f, f p = some q → (val p).ren f = val q) : Makes K 1 val fun _ => [o] := by
 refine ⟨fun _ => rfl, fun p id hid => ?_, fun p o' ho' id hid => ?_, fun p q f h1 h2 => ⟨hr p q f (by simpa using h1 0 (by omega)), ?_⟩⟩
 ·rw [hv] at hid; simp at hid; exact .inr (by omega)
 ·rw [List.mem_singleton.1 ho'] at hid; exact .inl (ho id hid)
 ·simp only [List.map_cons, List.map_nil]
  rw [zjw fun id hid => h2 id (ho id hid)]
theorem zix {K : Nat → Prop} (cs : List AV) (off : Nat) (hcs : InL K cs) : Makes K 1 (fun id => .optr id 0) fun p => [.rich (cs.set off (.seat p off))] := by
 have hin : ∀ p, ∀ x ∈ cs.set off (.seat p off), x = .seat p off ∨ In K x := by
  intro p x hx
  rcases List.mem_or_eq_of_mem_set hx with h | h
  ·exact .inr (hcs x h)
  ·exact .inl h
 refine ⟨fun _ => rfl, fun p id hid => ?_, fun p o' ho' id hid => ?_, fun p q f h1 h2 => ⟨by simp [AV.ren, show f p = some q by simpa using h1 0 (by omega)], ?_⟩⟩
 ·simp [AV.refs] at hid; exact .inr (by omega)
 ·rw [List.mem_singleton.1 ho'] at hid
  simp only [AObj.refs] at hid
  obtain ⟨x, hx, hid⟩ := refsL_mem.1 hid
  rcases hin p x hx with rfl | h
  ·simp [AV.refs] at hid; exact .inr (by omega)
  ·exact .inl (h id hid)
 ·simp only [List.map_cons, List.map_nil, AObj.ren, zm6, List.map_set, AV.ren, show f p = some q by simpa using h1 0 (by omega)]
  have : cs.map (AV.ren f) = cs := by
   conv => rhs; rw [← List.map_id cs]
   exact List.map_congr_left fun x hx => ren_id fun id hid => h2 id (hcs x hx id hid)
  rw [this]
theorem zgy {K : Nat → Prop} {cs : List AV} (h : InL K cs) : ∀ id ∈ (mkObj cs).refs, K id := by
 unfold mkObj
 split
 ·intro id hid; simp [AObj.refs] at hid
 ·intro id hid; simp only [AObj.refs] at hid; obtain ⟨x, hx, hid⟩ := refsL_mem.1 hid; exact h x hx id hid
theorem zmj {K : Nat → Prop} {s t : Mem} (h : Agree K s t) : ∀ (n : Nat) (todo acc : List Nat), (∀ x ∈ todo, K x) → (∀ x ∈ acc, K x) → reach t n todo acc = reach s n todo acc ∧ ∀ x ∈ reach s n todo acc, K x
 | 0, todo, acc, h1, h2 => by simp only [reach, true_and]; exact h2
 | n + 1, [], acc, h1, h2 => by simp only [reach, true_and]; exact h2
 | n + 1, id :: todo, acc, h1, h2 => by
  have hk := h1 id (by simp)
  have hs := h.same id hk
  have hlt : id < t.length ↔ id < s.length := by
   constructor
   ·intro hi; rw [List.getElem?_eq_getElem hi] at hs; exact (List.getElem?_eq_some_iff.1 hs.symm).1
   ·intro hi; rw [List.getElem?_eq_getElem hi] at hs; exact (List.getElem?_eq_some_iff.1 hs).1
  simp only [reach, hs, hlt]
  have ht : ∀ x ∈ todo, K x := fun x hx => h1 x (by simp [hx])
  split
  ·exact zmj h n todo acc ht h2
  ·split
   ·rename_i hi
    refine zmj h n _ _ (fun x hx => ?_) (fun x hx => ?_)
    ·rcases List.mem_append.1 hx with hx | hx
     ·exact ht x hx
     ·rw [List.getElem?_eq_getElem hi] at hx
      exact h.closed id _ hk (List.getElem?_eq_getElem hi) x hx
    ·rcases List.mem_append.1 hx with hx | hx
     ·exact h2 x hx
     ·rw [List.mem_singleton.1 hx]; exact hk
   ·exact zmj h n todo acc ht h2
theorem zk3 {K : Nat → Prop} {s t : Mem} (h : Agree K s t) {l : List Nat} (hl : ∀ x ∈ l, K x) : t.pickAll l = s.pickAll l := by
 unfold Mem.pickAll
 refine List.map_congr_left fun x hx => ?_
 rw [h.same x (hl x hx)]
theorem zki {K : Nat → Prop} {s t : Mem} (hm : Agree K s t) {as : List AV} (hk : InL K as) : order 0 (AV.refs.refsL as) t = order 0 (AV.refs.refsL as) s ∧ ∀ x ∈ order 0 (AV.refs.refsL as) s, K x := by
 have hroots : ∀ x ∈ AV.refs.refsL as, K x := fun x hx => by
  obtain ⟨y, hy, hxy⟩ := refsL_mem.1 hx
  exact hk y hy x hxy
 have h0 : ∀ m : Mem, order 0 (AV.refs.refsL as) m = reach m 1000000000000 (AV.refs.refsL as ++ Mem.refs (m.take 0)) (List.range 0) := fun _ => rfl
 rw [h0, h0]
 simp only [List.take_zero]
 refine zmj hm 1000000000000 _ _ (fun x hx => ?_) (fun x hx => ?_)
 ·rcases List.mem_append.1 hx with hx | hx
  ·exact hroots x hx
  ·simp [Mem.refs] at hx
 ·simp at hx
theorem zio {call : Calls'} {K : Nat → Prop} {s t : St} {fn : Nat} {as : List AV} (hm : Agree K s.mem t.mem) (hk : InL K as) {r : AV} {s' : St} (h : exLook call s fn as = some (r, s')) :
  ∃ (len : Nat) (val : Nat → AV) (new : Nat → List AObj), Makes K len val new ∧ r = val s.mem.length ∧ s' = { s with mem := s.mem ++ new s.mem.length } ∧ exLook call t fn as = some (val t.mem.length, { t with mem := t.mem ++ new t.mem.length }) := by
 have hord := zki hm hk
 unfold exLook at h ⊢
 dsimp only at h ⊢
 rw [hord.1, zk3 hm hord.2]
 have hK := hord.2
 clear hord
 generalize order 0 (AV.refs.refsL as) s.mem = l at *
 cases hc : call fn (AV.ren.renL (place l) as) (s.mem.pickAll l) with
 | none => simp [hc] at h
 | some rm =>
  obtain ⟨rv, mc⟩ := rm
  simp only [hc] at h ⊢
  split at h
  case isFalse => cases h
  rename_i hq
  obtain ⟨hmc, hall⟩ := hq
  rw [Bool.and_eq_true] at hall
  obtain ⟨ha1, ha2⟩ := hall
  rw [Bool.and_eq_true] at ha2
  have hb1 : ∀ i ∈ rv.refs, i < mc.length := fun i hi => by simpa using List.all_eq_true.1 ha2.1 i hi
  have hb2 : ∀ o ∈ mc.drop l.length, ∀ i ∈ o.refs, i < mc.length := fun o ho i hi => by
   have := List.all_eq_true.1 ha2.2 o (List.mem_of_mem_drop ho)
   simpa using List.all_eq_true.1 this i hi
  cases h
  have hback : ∀ (p i id : Nat), i < mc.length → (if i < l.length then l[i]? else some (p + (i - l.length))) = some id → K id ∨ (p ≤ id ∧ id < p + (mc.length - l.length)) := by
   intro p i id hi he
   split at he
   ·exact .inl (hK id (List.mem_of_getElem? he))
   ·cases he; right; omega
  have hbind : ∀ (p q : Nat) (f : Nat → Option Nat), (∀ j, j < mc.length - l.length → f (p + j) = some (q + j)) → (∀ id, K id → f id = some id) → ∀ i, i < mc.length → ((if i < l.length then l[i]? else some (p + (i - l.length))).bind f) = (if i < l.length then l[i]? else some (q + (i - l.length))) := by
   intro p q f h1 h2 i hi
   split
   ·rename_i hil
    rw [List.getElem?_eq_getElem hil, Option.bind_some]
    exact h2 _ (hK _ (List.getElem_mem hil))
   ·rw [Option.bind_some]; exact h1 _ (by omega)
  refine ⟨mc.length - l.length, fun p => rv.ren fun i => if i < l.length then l[i]? else some (p + (i - l.length)), fun p => (mc.drop l.length).map (AObj.ren fun i => if i < l.length then l[i]? else some (p + (i - l.length))), ⟨fun p => by simp, fun p id hid => ?_, fun p o ho id hid => ?_, fun p q f h1 h2 => ⟨?_, ?_⟩⟩, rfl, rfl, ?_⟩
  ·obtain ⟨i, hi, e⟩ := zng rv id hid
   exact hback p i id (hb1 i hi) e
  ·obtain ⟨o', ho', rfl⟩ := List.mem_map.1 ho
   obtain ⟨i, hi, e⟩ := zjx o' id hid
   exact hback p i id (hb2 o' ho' i hi) e
  ·rw [znh]
   exact znc rv fun i hi => hbind p q f h1 h2 i (hb1 i hi)
  ·rw [List.map_map]
   refine List.map_congr_left fun o ho => ?_
   simp only [Function.comp, zjy]
   exact zjv o fun i hi => hbind p q f h1 h2 i (hb2 o ho i hi)
  ·rw [if_pos]
   refine ⟨hmc, ?_⟩
   rw [Bool.and_eq_true, Bool.and_eq_true]
   refine ⟨?_, ha2⟩
   rw [List.all_eq_true] at ha1 ⊢
   intro id hid
   have := ha1 id hid
   rw [hm.same id (hK id hid)]
   exact this
theorem ziv {call : Calls'} {K : Nat → Prop} {x : XOp} (hc : makeOp x = true) {s t : St} (hm : Agree K s.mem t.mem) (he : ∀ n ∈ x.needs, t.env.get n = s.env.get n) (hk : ∀ n ∈ x.needs, In K (s.env.get n))
  (hb : ∀ fn l as r mc, x = .call .own fn l → (l.map s.env.ev).mapM (frz s.mem) = some as → call fn as [] = some (r, mc) → (∀ id ∈ r.refs, id < mc.length) ∧ ∀ o ∈ mc, ∀ id ∈ o.refs, id < mc.length) {r : AV} {s' : St} (h : exOp call s x = some (r, s')) :
  ∃ (len : Nat) (val : Nat → AV) (new : Nat → List AObj), Makes K len val new ∧ r = val s.mem.length ∧ s' = { s with mem := s.mem ++ new s.mem.length } ∧ exOp call t x = some (val t.mem.length, { t with mem := t.mem ++ new t.mem.length }) := by
 have e1 : ∀ y, (∀ n ∈ srcTmp y, n ∈ x.needs) → t.env.ev y = s.env.ev y := fun y hy => zef fun n hn => he n (hy n hn)
 have k1 : ∀ y, (∀ n ∈ srcTmp y, n ∈ x.needs) → In K (s.env.ev y) := fun y hy => in_ev fun n hn => hk n (hy n hn)
 cases x with
 | alloc zs =>
  cases h
  refine ⟨1, fun id => .optr id 0, fun _ => [.rich (imZ zs)], ziw _ (fun id hid => ?_) _ (fun _ => rfl) (fun p q f hf => by simp [AV.ren, hf]), rfl, rfl, rfl⟩
  simp only [AObj.refs] at hid; obtain ⟨x, hx, hid⟩ := refsL_mem.1 hid; exact in_imZ zs x hx id hid
 | box n y =>
  have ky := k1 y (by simp [XOp.needs])
  simp only [exOp] at h ⊢
  rw [e1 y (by simp [XOp.needs])]
  cases hcs : (s.env.ev y).cells with
  | none => rw [hcs] at h; cases h
  | some cs =>
   rw [hcs] at h
   cases h
   refine ⟨1, fun id => .optr id 0, fun _ => [.rich cs], ziw _ (fun id hid => ?_) _ (fun _ => rfl) (fun p q f hf => by simp [AV.ren, hf]), rfl, rfl, rfl⟩
   simp only [AObj.refs] at hid; obtain ⟨x, hx, hid⟩ := refsL_mem.1 hid; exact zgs ky hcs x hx id hid
 | allocB off zs =>
  cases h
  exact ⟨1, fun id => .optr id 0, fun p => [.rich ((imZ zs).set off (.seat p off))], zix _ off (in_imZ zs), rfl, rfl, rfl⟩
 | boxB off n y =>
  have ky := k1 y (by simp [XOp.needs])
  simp only [exOp] at h ⊢
  rw [e1 y (by simp [XOp.needs])]
  cases hcs : (s.env.ev y).cells with
  | none => rw [hcs] at h; cases h
  | some cs =>
   rw [hcs] at h
   dsimp only at h ⊢
   split at h
   ·rename_i hln
    split at h
    ·rename_i hnil
     cases h
     exact ⟨1, fun id => .optr id 0, fun p => [.rich (cs.set off (.seat p off))], zix _ off (zgs ky hcs), rfl, rfl, by rw [if_pos hln]; rfl⟩
    ·cases h
   ·cases h
 | buildSlice sz zs len ps =>
  simp only [exOp] at h ⊢
  rw [zee (s := s.env) (t := t.env) (by simpa [XOp.needs] using he)]
  cases hf : fillAll (imZ (copies len zs)) (ps.map fun (o, n, x) => (o, n, s.env.ev x)) with
  | none => rw [hf] at h; cases h
  | some cs =>
   rw [hf] at h
   cases h
   refine ⟨1, fun id => .osl id 0 sz len (some len), fun _ => [mkObj cs], ziw _ (zgy (zgt _ _ _ (in_imZ _) (fun p hp => ?_) hf)) _ (fun _ => rfl) (fun p q f hf => by simp [AV.ren, hf]), rfl, rfl, rfl⟩
   obtain ⟨q, hq, rfl⟩ := List.mem_map.1 hp
   exact k1 q.2.2 fun n hn => by simp only [XOp.needs]; exact List.mem_flatMap.2 ⟨q, hq, hn⟩
 | makeSlice sz bytes zs l c =>
  simp only [exOp] at h ⊢
  rw [e1 l (by simp [XOp.needs]; intros; simp [*]), e1 c (by simp [XOp.needs]; intros; simp [*])]
  split at h
  ·rename_i i j hi hj
   split at h
   ·rename_i hbd
    cases h
    refine ⟨1, fun id => .osl id 0 sz i.toNat (some j.toNat), fun _ => [.flat (copies j.toNat (zs.map .val)) false], ziw _ (fun id hid => by simp [AObj.refs] at hid) _ (fun _ => rfl) (fun p q f hf => by simp [AV.ren, hf]), rfl, rfl, ?_⟩
    simp only [hi, hj, hbd, and_self, if_true]
    rfl
   ·cases h
  ·cases h
 | makeMap hint =>
  have mk : Makes K 1 (fun id => .omap id) (fun _ => [.map []]) := ziw _ (fun id hid => by simp [AObj.refs, AV.refs.refsL] at hid) _ (fun _ => rfl) (fun p q f hf => by simp [AV.ren, hf])
  simp only [exOp] at h ⊢
  cases hint with
  | none => cases h; exact ⟨1, _, _, mk, rfl, rfl, rfl⟩
  | some y =>
   simp only at h ⊢
   rw [e1 y (by simp [XOp.needs, srcTmpO])]
   split at h
   ·rename_i i hi; cases h; exact ⟨1, _, _, mk, rfl, rfl, by rfl⟩
   ·cases h
 | call mode fn l =>
  cases mode with
  | own =>
   simp only [exOp, exOwn] at h ⊢
   have hin : InL K (l.map s.env.ev) := fun x hx => by
    obtain ⟨q, hq, rfl⟩ := List.mem_map.1 hx
    exact k1 q fun n hn => by simp only [XOp.needs]; exact List.mem_flatMap.2 ⟨q, hq, hn⟩
   rw [zec (s := s.env) (t := t.env) (by simpa [XOp.needs] using he), ziy _ fun x hx => zf1 hm x (hin x hx)]
   split at h
   ·cases h
   ·rename_i as has
    split at h
    ·cases h
    ·rename_i r0 mc hcall
     obtain ⟨hb1, hb2⟩ := hb fn l as r0 mc rfl has hcall
     split at h
     ·rename_i hcond
      cases h
      refine ⟨mc.length, fun p => r0.ren fun i => some (p + i), fun p => mc.map (AObj.ren fun i => some (p + i)), ⟨fun p => by simp, fun p id hid => ?_, fun p o ho id hid => ?_, fun p q f h1 h2 => ⟨?_, ?_⟩⟩, rfl, rfl, by simp only [hcall, hcond, if_true]⟩
      ·obtain ⟨i, hi, e⟩ := zng r0 id hid
       cases e
       exact .inr ⟨by omega, by have := hb1 i hi; omega⟩
      ·obtain ⟨o', ho', rfl⟩ := List.mem_map.1 ho
       obtain ⟨i, hi, e⟩ := zjx o' id hid
       cases e
       exact .inr ⟨by omega, by have := hb2 o' ho' i hi; omega⟩
      ·rw [znh]
       exact znc r0 fun id hid => by simpa using h1 id (hb1 id hid)
      ·rw [List.map_map]
       refine List.map_congr_left fun o ho => ?_
       simp only [Function.comp, zjy]
       exact zjv o fun id hid => by simpa using h1 id (hb2 o ho id hid)
     ·cases h
  | look =>
   simp only [exOp] at h ⊢
   have hin : InL K (l.map s.env.ev) := fun x hx => by
    obtain ⟨q, hq, rfl⟩ := List.mem_map.1 hx
    exact k1 q fun n hn => by simp only [XOp.needs]; exact List.mem_flatMap.2 ⟨q, hq, hn⟩
   rw [zec (s := s.env) (t := t.env) (by simpa [XOp.needs] using he)]
   exact zio hm hin h
  | view => cases hc
  | share => cases hc
  | peek => cases hc
 | _ => cases hc
end Go.EX


set_option linter.unusedVariables false
set_option linter.unusedSimpArgs false
namespace Go.EX
theorem zk1 {call : Calls'} {K : Nat → Prop} {s t : St} {fn : Nat} {as : List AV} (hm : Agree K s.mem t.mem) (hk : InL K as) {r : AV} {s' : St} (h : exPeek call s fn as = some (r, s')) :
  s' = s ∧ exPeek call t fn as = some (r, t) ∧ In K r := by
 have hroots : ∀ x ∈ AV.refs.refsL as, K x := fun x hx => by
  obtain ⟨y, hy, hxy⟩ := refsL_mem.1 hx
  exact hk y hy x hxy
 have hord : order 0 (AV.refs.refsL as) t.mem = order 0 (AV.refs.refsL as) s.mem ∧ ∀ x ∈ order 0 (AV.refs.refsL as) s.mem, K x := by
  have h0 : ∀ m : Mem, order 0 (AV.refs.refsL as) m = reach m 1000000000000 (AV.refs.refsL as ++ Mem.refs (m.take 0)) (List.range 0) := fun _ => rfl
  rw [h0, h0]
  simp only [List.take_zero]
  refine zmj hm 1000000000000 _ _ (fun x hx => ?_) (fun x hx => ?_)
  ·rcases List.mem_append.1 hx with hx | hx
   ·exact hroots x hx
   ·simp [Mem.refs] at hx
  ·simp at hx
 unfold exPeek at h ⊢
 dsimp only at h ⊢
 rw [hord.1, zk3 hm hord.2]
 cases hc : call fn (AV.ren.renL (place (order 0 (AV.refs.refsL as) s.mem)) as) (s.mem.pickAll (order 0 (AV.refs.refsL as) s.mem)) with
 | none => simp [hc] at h
 | some rm =>
  obtain ⟨rv, mc⟩ := rm
  simp only [hc] at h ⊢
  split at h
  case isFalse => cases h
  rename_i hq
  obtain ⟨hmc, hp, hall⟩ := hq
  cases h
  refine ⟨rfl, ?_, zgz hp⟩
  rw [if_pos]
  refine ⟨hmc, hp, ?_⟩
  rw [List.all_eq_true] at hall ⊢
  intro id hid
  have := hall id hid
  rw [hm.same id (hord.2 id hid)]
  exact this
end Go.EX


set_option linter.unusedVariables false
set_option linter.unusedSimpArgs false
namespace Go.EX
theorem zbt {call : Calls'} {K : Nat → Prop} {x : XOp} (hc : calmOp x = true) {s t : St} (hm : Agree K s.mem t.mem) (he : ∀ n ∈ x.reads, t.env.get n = s.env.get n) (hk : ∀ n ∈ x.reads, In K (s.env.get n)) {r : AV} {s' : St} (h : exOp call s x = some (r, s')) :
  s' = s ∧ exOp call t x = some (r, t) ∧ In K r := by
 have hmap : ∀ {α : Type} (o : Option α) (f : α → AV), o.map (fun v => (f v, s)) = some (r, s') → (∀ v, o = some v → In K (f v)) → s' = s ∧ o.map (fun v => (f v, t)) = some (r, t) ∧ In K r := by
  intro α o f ho hf
  cases o with
  | none => cases ho
  | some v => cases ho; exact ⟨rfl, rfl, hf v rfl⟩
 have e1 : ∀ y, (∀ n ∈ srcTmp y, n ∈ x.reads) → t.env.ev y = s.env.ev y := fun y hy => zef fun n hn => he n (hy n hn)
 have k1 : ∀ y, (∀ n ∈ srcTmp y, n ∈ x.reads) → In K (s.env.ev y) := fun y hy => in_ev fun n hn => hk n (hy n hn)
 have eO : ∀ y, (∀ n ∈ srcTmpO y, n ∈ x.reads) → y.map t.env.ev = y.map s.env.ev := fun y hy => zed fun n hn => he n (hy n hn)
 cases x with
 | mv y =>
  have ky := k1 y (by simp [XOp.reads])
  simp only [exOp] at h ⊢
  rw [e1 y (by simp [XOp.reads])]
  cases h; exact ⟨rfl, rfl, ky⟩
 | load agg y =>
  have ky := k1 y (by simp [XOp.reads])
  simp only [exOp] at h ⊢
  rw [e1 y (by simp [XOp.reads]), zik hm ky]
  exact hmap _ _ h fun v hv => zgx hm ky hv
 | nilCheck y =>
  have ky := k1 y (by simp [XOp.reads])
  simp only [exOp] at h ⊢
  rw [e1 y (by simp [XOp.reads])]
  revert h; split <;> intro h <;> first | (cases h; done) | (cases h; exact ⟨rfl, rfl, ky⟩)
 | extract y i =>
  have ky := k1 y (by simp [XOp.reads])
  simp only [exOp] at h ⊢
  rw [e1 y (by simp [XOp.reads])]
  revert h; split <;> intro h <;> first | (cases h; done) | skip
  rename_i vs hv
  rw [hv] at ky
  exact hmap _ _ h fun v hv => (in_tup.1 ky).get hv
 | field off agg y =>
  have ky := k1 y (by simp [XOp.reads])
  simp only [exOp] at h ⊢
  rw [e1 y (by simp [XOp.reads])]
  revert h; split <;> intro h <;> first | (cases h; done) | skip
  rename_i cs hv
  rw [hv] at ky
  exact hmap _ _ h fun v hv => zgu (in_agg.1 ky) hv
 | fieldA off y =>
  have ky := k1 y (by simp [XOp.reads])
  simp only [exOp] at h ⊢
  rw [e1 y (by simp [XOp.reads])]
  revert h; split <;> intro h <;> first | (cases h; done) | skip
  ·cases h; exact ⟨rfl, rfl, in_imm⟩
  ·rename_i id o hv
   rw [hv] at ky
   cases h; exact ⟨rfl, rfl, in_optr.2 (in_optr.1 ky)⟩
 | eqNil _ _ y | un _ y | conv _ y | convS y | len y | lenS y | cap y =>
  simp only [exOp] at h ⊢
  rw [e1 y (by simp [XOp.reads])]
  first
   | exact hmap _ _ h fun _ _ => in_imm
   | (revert h; split <;> intro h <;> first | (cases h; done) | (cases h; exact ⟨rfl, rfl, in_imm⟩) | exact hmap _ _ h fun _ _ => in_imm)
 | idxP n sz y z =>
  have ky := k1 y (by simp [XOp.reads]; intros; simp [*])
  simp only [exOp] at h ⊢
  rw [e1 y (by simp [XOp.reads]; intros; simp [*]), e1 z (by simp [XOp.reads]; intros; simp [*])]
  split at h
  ·cases h
  ·split at h
   ·rename_i hb
    split at h
    ·cases h; refine ⟨rfl, ?_, in_imm⟩; simp only [*, and_self, if_true]
    ·rename_i heq; cases h; rw [heq] at ky; refine ⟨rfl, ?_, in_optr.2 (in_optr.1 ky)⟩; simp only [*, and_self, if_true]
    ·cases h
   ·cases h
 | idxV n sz agg y z =>
  have ky := k1 y (by simp [XOp.reads]; intros; simp [*])
  simp only [exOp] at h ⊢
  rw [e1 y (by simp [XOp.reads]; intros; simp [*]), e1 z (by simp [XOp.reads]; intros; simp [*])]
  split at h
  ·cases h
  ·split at h
   ·rename_i hb
    split at h
    ·rename_i cs heq
     rw [heq] at ky
     simp only [hb, and_self, if_true]
     exact hmap _ _ h fun v hv => zgu (in_agg.1 ky) hv
    ·cases h
   ·cases h
 | strOf y =>
  have ky := k1 y (by simp [XOp.reads])
  simp only [exOp] at h ⊢
  rw [e1 y (by simp [XOp.reads]), zqw hm ky]
  exact hmap _ _ h fun _ _ => in_imm
 | bytesOf y =>
  simp only [exOp] at h ⊢
  rw [e1 y (by simp [XOp.reads])]
  revert h; split <;> intro h <;> first | (cases h; done) | (cases h; exact ⟨rfl, rfl, in_imm⟩)
 | minmax mn y z =>
  simp only [exOp] at h ⊢
  rw [e1 y (by simp [XOp.reads]; intros; simp [*]), e1 z (by simp [XOp.reads]; intros; simp [*])]
  revert h; split <;> intro h <;> first | (cases h; done) | (cases h; exact ⟨rfl, rfl, in_imm⟩)
 | pick a b c =>
  have kb := k1 b (by simp [XOp.reads]; intros; simp [*])
  have kc := k1 c (by simp [XOp.reads]; intros; simp [*])
  simp only [exOp] at h ⊢
  rw [e1 a (by simp [XOp.reads]; intros; simp [*]), e1 b (by simp [XOp.reads]; intros; simp [*]), e1 c (by simp [XOp.reads]; intros; simp [*])]
  revert h; split <;> intro h <;> first | (cases h; done) | skip
  cases h
  refine ⟨rfl, rfl, ?_⟩
  split
  ·exact kb
  ·exact kc
 | bin _ y z | binB _ y z | eqCells _ _ y z | idxS y z =>
  simp only [exOp] at h ⊢
  rw [e1 y (by simp [XOp.reads]; intros; simp [*]), e1 z (by simp [XOp.reads]; intros; simp [*])]
  repeat' (first | exact hmap _ _ h fun _ _ => in_imm | (cases h; done) | (cases h; exact ⟨rfl, rfl, in_imm⟩) | (revert h; split <;> intro h))
 | idxA _ y z =>
  have ky := k1 y (by simp [XOp.reads]; intros; simp [*])
  simp only [exOp] at h ⊢
  rw [e1 y (by simp [XOp.reads]; intros; simp [*]), e1 z (by simp [XOp.reads]; intros; simp [*])]
  split at h
  ·cases h
  ·split at h
   ·split at h
    ·rename_i hb; cases h; refine ⟨rfl, ?_, in_imm⟩; simp only [*, and_self, if_true]
    ·cases h
   ·rename_i heq
    split at h
    ·rename_i hb; cases h; rw [heq] at ky; refine ⟨rfl, ?_, in_optr.2 (in_osl.1 ky)⟩; simp only [*, and_self, if_true]
    ·cases h
   ·cases h
 | build zs ps =>
  simp only [exOp] at h ⊢
  rw [zee (s := s.env) (t := t.env) (by simpa [XOp.reads] using he)]
  refine hmap _ _ h fun v hv => in_agg.2 (zgt _ _ _ (in_imZ zs) (fun p hp => ?_) hv)
  obtain ⟨q, hq, rfl⟩ := List.mem_map.1 hp
  exact k1 q.2.2 fun n hn => by simp only [XOp.reads]; exact List.mem_flatMap.2 ⟨q, hq, hn⟩
 | slice sz y lo hi =>
  have ky := k1 y (by simp [XOp.reads]; intros; simp [*])
  simp only [exOp] at h ⊢
  rw [e1 y (by simp [XOp.reads]; intros; simp [*]), eO lo (by simp [XOp.reads]; intros; simp [*]), eO hi (by simp [XOp.reads]; intros; simp [*])]
  refine hmap _ _ h fun v hv => ?_
  generalize s.env.ev y = yv at hv ky
  unfold exSlice at hv
  split at hv
  ·simp only [Option.map_eq_some_iff] at hv; obtain ⟨_, _, rfl⟩ := hv; exact in_imm
  ·simp only [Option.map_eq_some_iff] at hv; obtain ⟨_, _, rfl⟩ := hv; exact in_imm
  ·split at hv
   ·simp only [Option.map_eq_some_iff] at hv; obtain ⟨_, _, rfl⟩ := hv; exact in_osl.2 (in_osl.1 ky)
   ·cases hv
  ·cases hv
 | slice3 sz y hi mx =>
  have ky := k1 y (by simp [XOp.reads]; intros; simp [*])
  simp only [exOp] at h ⊢
  rw [e1 y (by simp [XOp.reads]; intros; simp [*]), e1 hi (by simp [XOp.reads]; intros; simp [*]), e1 mx (by simp [XOp.reads]; intros; simp [*])]
  refine hmap _ _ h fun v hv => ?_
  generalize s.env.ev y = yv at hv ky
  unfold exSlice3 at hv
  split at hv
  ·split at hv
   ·split at hv
    ·cases hv; exact in_imm
    ·cases hv
   ·split at hv
    ·cases hv; exact in_imm
    ·cases hv
   ·split at hv
    ·cases hv; exact in_osl.2 (in_osl.1 ky)
    ·cases hv
   ·cases hv
  ·cases hv
 | sliceS y lo hi =>
  simp only [exOp] at h ⊢
  rw [e1 y (by simp [XOp.reads]; intros; simp [*]), eO lo (by simp [XOp.reads]; intros; simp [*]), eO hi (by simp [XOp.reads]; intros; simp [*])]
  revert h; split <;> intro h <;> first | (cases h; done) | exact hmap _ _ h fun _ _ => in_imm
 | mkClo _ l =>
  simp only [exOp] at h ⊢
  rw [zec (s := s.env) (t := t.env) (by simpa [XOp.reads] using he)]
  cases h
  refine ⟨rfl, rfl, in_clo.2 fun x hx => ?_⟩
  obtain ⟨q, hq, rfl⟩ := List.mem_map.1 hx
  exact k1 q fun n hn => by simp only [XOp.reads]; exact List.mem_flatMap.2 ⟨q, hq, hn⟩
 | lookup kind zs agg y z ok =>
  have ky := k1 y (by simp [XOp.reads]; intros; simp [*])
  have kz := k1 z (by simp [XOp.reads]; intros; simp [*])
  simp only [exOp] at h ⊢
  rw [e1 y (by simp [XOp.reads]; intros; simp [*]), e1 z (by simp [XOp.reads]; intros; simp [*])]
  generalize s.env.ev y = yv at h ky ⊢
  generalize s.env.ev z = zv at h kz ⊢
  have kzero : In K (zeroAV zs agg) := by
   unfold zeroAV
   split
   ·exact in_agg.2 (in_imZ zs)
   ·split
    ·exact in_imm
    ·exact zgw
  have kout : ∀ (v : AV) (b : Bool), In K v → In K (.tup [v, .imm (.val (.bool b))]) := fun v b hv => in_tup.2 fun x hx => by
   simp only [List.mem_cons, List.not_mem_nil, or_false] at hx
   rcases hx with rfl | rfl
   ·exact hv
   ·exact in_imm
  split at h
  ·rename_i hik
   rw [if_pos hik]
   split at h
   ·cases ok <;> cases h
    ·exact ⟨rfl, rfl, kzero⟩
    ·exact ⟨rfl, rfl, kout _ _ kzero⟩
   ·rename_i id
    have hid := in_omap.1 ky
    simp only [hm.same id hid]
    split at h
    ·rename_i es hes
     have hin := in_map hm hid hes
     rw [zfg hm kind kz es 0 fun p hp => (hin p hp).1]
     split at h
     ·cases ok <;> cases h
      ·exact ⟨rfl, rfl, kzero⟩
      ·exact ⟨rfl, rfl, kout _ _ kzero⟩
     ·rename_i i hi
      cases hp : es[i]? with
      | none => rw [hp] at h; cases h
      | some p =>
       rw [hp] at h
       have kp := (hin p (List.mem_of_getElem? hp)).2
       cases ok <;> cases h
       ·exact ⟨rfl, rfl, kp⟩
       ·exact ⟨rfl, rfl, kout _ _ kp⟩
     ·cases h
    ·cases h
   ·cases h
  ·cases h
 | lenM y =>
  have ky := k1 y (by simp [XOp.reads])
  simp only [exOp] at h ⊢
  rw [e1 y (by simp [XOp.reads])]
  generalize s.env.ev y = yv at h ky ⊢
  split at h
  ·cases h; exact ⟨rfl, rfl, in_imm⟩
  ·rename_i id
   simp only [hm.same id (in_omap.1 ky)]
   split at h
   ·cases h; exact ⟨rfl, rfl, in_imm⟩
   ·cases h
  ·cases h
 | call mode fn l =>
  cases mode with
  | view =>
   simp only [exOp, exView] at h ⊢
   have hin : InL K (l.map s.env.ev) := fun x hx => by
    obtain ⟨q, hq, rfl⟩ := List.mem_map.1 hx
    exact k1 q fun n hn => by simp only [XOp.reads]; exact List.mem_flatMap.2 ⟨q, hq, hn⟩
   rw [zec (s := s.env) (t := t.env) (by simpa [XOp.reads] using he), ziy _ fun x hx => zf1 hm x (hin x hx)]
   split at h
   ·cases h
   ·split at h
    ·cases h
    ·rename_i mc hcall
     split at h
     ·rename_i hp
      cases h
      refine ⟨rfl, by simp only [hcall, hp, if_true], ?_⟩
      exact zgz hp
     ·rename_i hp
      split at h
      ·rename_i hi
       simp only [hcall, hp, hi, Bool.false_eq_true, if_true, if_false]
       exact hmap _ _ h fun v hv => in_frz hv
      ·cases h
  | own => cases hc
  | share => cases hc
  | look => cases hc
  | peek =>
   simp only [exOp] at h ⊢
   have hin : InL K (l.map s.env.ev) := fun x hx => by
    obtain ⟨q, hq, rfl⟩ := List.mem_map.1 hx
    exact k1 q fun n hn => by simp only [XOp.reads]; exact List.mem_flatMap.2 ⟨q, hq, hn⟩
   rw [zec (s := s.env) (t := t.env) (by simpa [XOp.reads] using he)]
   exact zk1 hm hin h
 | alloc | allocB | box | boxB | buildSlice | store | frz | append | appendK | appendS | makeSlice | copy | clear | callV | makeMap | mapSet => cases hc
 | junk => cases h; exact ⟨rfl, rfl, zgw⟩
 | litA | litI | litM | litL => cases h
end Go.EX

