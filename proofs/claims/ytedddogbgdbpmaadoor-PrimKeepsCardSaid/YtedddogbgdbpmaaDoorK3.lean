import Derived.Test.YtedddogbgdbpmaaDoorK2
import Derived.Laws.StructEq
import Derived.CallsIn
set_option linter.unusedVariables false
set_option linter.unusedSimpArgs false
namespace Go.EX
section
variable {num : Names} {P : Program}
variable {ty : TypeId} {pos : String} {after : Array Edge} {a : Act} {C : Cx} {s : St}
def hide (id : Nat) : Nat → Option Nat := fun j => if j = id then none else some j
theorem zj4 {α β : Type} (f : α → β) (l : List α) (i : Nat) (p : β) (h : (l.map f)[i]? = some p) : ∃ q, l[i]? = some q ∧ p = f q := by
 rw [List.getElem?_map] at h
 cases hq : l[i]? with
 | none => simp [hq] at h
 | some q => simp [hq] at h; exact ⟨q, rfl, h.symm⟩
theorem zpq (f : Nat → Option Nat) (o : AObj) : (o.ren f).live = o.live := by cases o <;> rfl
theorem zpr (f : Nat → Option Nat) (o : AObj) : (o.ren f).moved = o.moved := by cases o <;> rfl
theorem zk5 {m : Mem} (hm : MRep num C m) {id : Nat} {o : AObj} (ho : m[id]? = some o) (hlo : o.live = true) {σ' : Nat → Nat} {w' : World} (hσ : ∀ j, j ≠ id → σ' j = C.σ j)
  (hw : ∀ b, b < C.w.heap.size → b ≠ C.σ id → w'.heap[b]? = C.w.heap[b]?) (hsz : ∀ n e, RowAt C.w (C.σ id) n e → RowAt (w') (C.σ id) n e) :
  Tr (hide id) C { C with σ := σ', w := w' } := by
 refine ⟨fun _ h => h, fun b hb => hw b (hm.bd b hb) fun e => hm.imm b ⟨id, o, ho, hlo, e.symm⟩ hb, fun i j hi hj => ?_⟩
 unfold hide at hj
 split at hj
 ·cases hj
 ·rename_i hne
  cases hj
  refine ⟨hi, hσ i hne, fun arr e h => ?_⟩
  by_cases hc : C.σ i = C.σ id
  ·rw [hc] at h ⊢; exact hsz arr e h
  ·exact h.same (hw _ h.lt hc)
theorem zk4 {m : Mem} (hm : MRep num C m) {id : Nat} {o : AObj} (ho : m[id]? = some o) (hlo : o.live = true) {σ' : Nat → Nat} {w' : World} (hσ : ∀ j, j ≠ id → σ' j = C.σ j)
  (hnew : σ' id = C.σ id ∨ C.w.heap.size ≤ σ' id)
  (hos : w'.os = C.w.os) (htp : w'.tape = C.w.tape) (hout : w'.output = C.w.output) (hsize : C.w.heap.size ≤ w'.heap.size)
  (hw : ∀ b, b < C.w.heap.size → b ≠ C.σ id → w'.heap[b]? = C.w.heap[b]?) (hsz : ∀ n e, RowAt C.w (C.σ id) n e → RowAt (w') (C.σ id) n e)
  {cs : List IV} {mb : Bool} (hr : ORep num { C with σ := σ', w := w' } id (.flat cs mb)) {k : Nat} (hk : k ≤ m.length) (hof : o.isFix = false := by rfl) (hmb : id < k → mb = true := by first | exact fun _ => rfl | (intro hmb; exfalso; omega)) :
  Step num k C m { C with σ := σ', w := w' } ((m.map (AObj.ren (hide id))).set id (.flat cs mb)) := by
 have ht := zk5 hm ho hlo hσ hw hsz
 have hid : id < m.length := (List.getElem?_eq_some_iff.1 ho).1
 have split : ∀ (i : Nat) (p : AObj), ((m.map (AObj.ren (hide id))).set id (.flat cs mb))[i]? = some p → (i = id ∧ p = .flat cs mb) ∨ (i ≠ id ∧ ∃ q, m[i]? = some q ∧ p = q.ren (hide id)) := by
  intro i p hp
  rw [zr1] at hp
  split at hp
  ·rename_i hi; exact .inl ⟨hi.1.symm, (Option.some.inj hp).symm⟩
  ·rename_i hi
   obtain ⟨q, hq, rfl⟩ := zj4 _ _ _ _ hp
   refine .inr ⟨fun e => hi ⟨e.symm, by rw [List.length_map, e]; exact hid⟩, q, hq, rfl⟩
 have hown : ∀ b, Own { C with σ := σ', w := w' } ((m.map (AObj.ren (hide id))).set id (.flat cs mb)) b → C.w.heap.size ≤ b ∨ Own C m b := by
  rintro b ⟨i, p, hp, hl, hb⟩
  rcases split i p hp with ⟨rfl, rfl⟩ | ⟨hne, q, hq, rfl⟩
  ·rcases hnew with h | h
   ·exact .inr ⟨i, o, ho, hlo, by rw [← h]; exact hb⟩
   ·exact .inl (by rw [← hb]; exact h)
  ·rw [zpq] at hl
   exact .inr ⟨i, q, hq, hl, by rw [← hσ i hne]; exact hb⟩
 have hlt : ∀ i q, m[i]? = some q → q.live = true → C.σ i < C.w.heap.size := fun i q hq hl => MRep.lt num hm ⟨i, q, hq, hl, rfl⟩
 refine ⟨⟨by simpa using hm.len, ?_, ?_, ?_, fun b hb => Nat.lt_of_lt_of_le (hm.bd b hb) hsize, num.up hm.glo ht.imm ht.keep⟩, hos, htp, hout, hsize, ?_, ?_, fun _ h => h, fun _ h => .inl h, hown, ?_, by simpa using hk⟩
 ·intro i p hp
  rcases split i p hp with ⟨rfl, rfl⟩ | ⟨hne, q, hq, rfl⟩
  ·exact hr
  ·by_cases hlq : q.live = true
   ·refine zmx ht (hσ i hne) (fun x h => ?_) (hm.obj i q hq)
    show w'.heap[C.σ i]? = _
    rw [hw _ (hlt i q hq hlq) fun e => hne (hm.inj2 num i id q o hq ho hlq hlo hof e)]
    exact h
   ·cases q with
    | dead => trivial
    | _ => exact absurd rfl hlq
 ·intro i j p q hp hq hlp hlq he
  rcases split i p hp with ⟨rfl, rfl⟩ | ⟨hne, p', hp', rfl⟩ <;> rcases split j q hq with ⟨rfl, rfl⟩ | ⟨hne2, q', hq', rfl⟩
  ·exact .inl rfl
  ·rw [zpq] at hlq
   have he' : σ' i = C.σ j := by rw [← hσ j hne2]; exact he
   rcases hnew with h | h
   ·exact .inl (hm.inj1 num i j o q' ho hq' hlo hlq hof (by rw [← h]; exact he'))
   ·have := hlt j q' hq' hlq; omega
  ·rw [zpq] at hlp
   have he' : C.σ i = σ' j := by rw [← hσ i hne]; exact he
   rcases hnew with h | h
   ·exact .inl (hm.inj2 num i j p' o hp' ho hlp hlo hof (by rw [← h]; exact he'))
   ·have := hlt i p' hp' hlp; omega
  ·rw [zpq] at hlp hlq
   have he' : C.σ i = C.σ j := by rw [← hσ i hne, ← hσ j hne2]; exact he
   rw [zub]; exact hm.inj i j p' q' hp' hq' hlp hlq he'
 ·intro b hb hI
  rcases hown b hb with h | h
  ·have := hm.bd b hI; omega
  ·exact hm.imm b h hI
 ·intro b hb hno
  exact hw b hb fun e => hno ⟨id, o, ho, hlo, e.symm⟩
 ·intro b arr e h
  by_cases hb : b = C.σ id
  ·subst hb; exact hsz arr e h
  ·exact h.same (hw b h.lt hb)
 ·intro i hik p hp hmp
  rcases split i p hp with ⟨rfl, rfl⟩ | ⟨hne, q, hq, rfl⟩
  ·have := hmb hik
   subst this
   cases hmp
  ·rw [zpr] at hmp
   exact ⟨q, hq, hmp, hσ i hne⟩
theorem zru (s : St) (id : Nat) : s.scrub id = { s with env := s.env.ren (hide id), mem := s.mem.map (AObj.ren (hide id)) } := rfl
theorem zg5 {w1 : World} (hw1 : w1.heap = C.w.heap) {m : Mem} (hm : MRep num C m) {olds us rest : Array Value} {ol nl : List IV} (ho : ∀ (j : Nat) x, ol[j]? = some x → ∃ u, olds[j]? = some u ∧ IRep C.I C.w x u) (hol : ol.length = olds.size)
  (hn : ∀ (j : Nat) x, nl[j]? = some x → ∃ u, us[j]? = some u ∧ IRep C.I C.w x u) (hnl : nl.length = us.size) (e : TypeId) :
  ∀ (j : Nat) x, (ol ++ nl)[j]? = some x → ∃ u, (olds ++ us ++ rest)[j]? = some u ∧ IRep C.I (w1.alloc (.cells (olds ++ us ++ rest) e (0, 0))) x u := by
 have hk : ∀ b, C.I b → (w1.alloc (.cells (olds ++ us ++ rest) e (0, 0))).heap[b]? = C.w.heap[b]? := by
  intro b hb
  rw [zal, hw1, if_neg (by have := hm.bd b hb; omega)]
 intro j x hx
 rcases Nat.lt_or_ge j ol.length with h | h
 ·rw [List.getElem?_append_left h] at hx
  obtain ⟨u, hu, hr⟩ := ho j x hx
  refine ⟨u, ?_, hr.mono (fun _ h => h) hk⟩
  rw [Array.append_assoc, Array.getElem?_append_left (by omega)]
  exact hu
 ·rw [List.getElem?_append_right h] at hx
  obtain ⟨u, hu, hr⟩ := hn _ x hx
  refine ⟨u, ?_, hr.mono (fun _ h => h) hk⟩
  have hj := (Array.getElem?_eq_some_iff.1 hu).1
  rw [Array.append_assoc, Array.getElem?_append_right (by omega), Array.getElem?_append_left (by omega), ← hol]
  exact hu
theorem zf5 {arr : Array Value} {cs : List IV} (h : ∀ (j : Nat) x, cs[j]? = some x → ∃ u, arr[j]? = some u ∧ IRep C.I C.w x u) : cs.length ≤ arr.size := by
 rcases Nat.eq_zero_or_pos cs.length with h0 | h0
 ·omega
 ·obtain ⟨u, hu, _⟩ := h (cs.length - 1) cs[cs.length - 1] (by rw [List.getElem?_eq_getElem (by omega)])
  have := (Array.getElem?_eq_some_iff.1 hu).1
  omega
theorem zg0 {sz n : Nat} {v : Value} {news : List IV} {us : Array Value} (h : Given num P C sz v n news us) : ∀ u ∈ us.toList, u.oneCell' = true := by
 intro u hu
 obtain ⟨j, hj⟩ := List.getElem?_of_mem hu
 rw [Array.getElem?_toList] at hj
 have hlt : j < news.length := by rw [h.count, ← h.size]; exact (Array.getElem?_eq_some_iff.1 hj).1
 obtain ⟨u', hu', hr⟩ := h.rep j news[j] (List.getElem?_eq_getElem hlt)
 rw [hj] at hu'
 cases hu'
 exact hr.one
theorem zvs (hs : SRep num C s a) {t u e : TypeId} {d : TypeDesc} {x y : Operand} {x' y' : Src} (ht : P.underlying t = some (.slice e)) (hu : P.underlying u = some d) (hd : notIntD d = true) (hk : known P e = true) (h0 : 0 < P.cellsOf e) (hb0 : 0 < P.bytesOf e)
  (hz : zeroOk P e = true) (hx : trSrc num x = some x') (hy : trSrc num y = some y') {r : AV} {s' : St} (h : exAppend s (P.cellsOf e) (P.bytesOf e) (s.env.ev x') (s.env.ev y') = some (r, s')) :
  Yields num P (.call { callee := .builtin .append, args := #[x, y], argTypes := #[t, u] }) ty pos after a C s r s' := by
 obtain ⟨i, dd, hi, _, hsz, hby⟩ := zim hk
 obtain ⟨z, hzi, hzs⟩ : ∃ z, i.zero = some z ∧ z.cells.size = P.cellsOf e := by
  unfold zeroOk zeroCellsOf at hz
  rw [hi] at hz
  cases hq : i.zero with
  | none => simp [hq] at hz
  | some z => simp [hq] at hz; exact ⟨z, rfl, hz⟩
 have hm := hs.mem
 have hlen := hm.len
 unfold exAppend at h
 cases hel : elems s.mem (P.cellsOf e) (s.env.ev y') with
 | none => simp [hel] at h
 | some nn =>
  obtain ⟨n, news⟩ := nn
  simp only [hel] at h
  obtain ⟨us, hg⟩ := zgz (P := P) hm (zsp hs hy) hel
  have hax := zsp hs hx
  have hexec : ∀ (b : Option Addr) (l c : Nat) (v : Value) (w' : World), a.eval x = .slice b l c → (Builtin.append_ #[t, u] ty #[.slice b l c, a.eval y]).run P C.w = .ok v w' →
    ∀ dst g, (execOp a.eval ⟨dst, .call { callee := .builtin .append, args := #[x, y], argTypes := #[t, u] }, ty, pos, after, g⟩).run P C.w = .ok (.value v) w' := by
   intro b l c v w' hb hr dst g
   simp [execOp, resolve, invoke, builtin, hb, hr]
  have grow : ∀ (b : Option Addr) (l c : Nat) (olds : Array Value) (ol : List IV), a.eval x = .slice b l c → (∀ w, w.heap = C.w.heap → (Builtin.firstCells (P.cellsOf e) l (.slice b l c)).run P w = .ok olds w) → ol.length = olds.size → olds.size = l * P.cellsOf e →
    (∀ (j : Nat) x, ol[j]? = some x → ∃ u, olds[j]? = some u ∧ IRep C.I C.w x u) → c < l + n → (l + n) * P.bytesOf e ≤ 140737488355328 →
    Yields num P (.call { callee := .builtin .append, args := #[x, y], argTypes := #[t, u] }) ty pos after a C s (.osl s.mem.length 0 (P.cellsOf e) (l + n) none) { s with mem := s.mem ++ [.flat (ol ++ news) false] } := by
   intro b l c olds ol hb hold hol hos hor hc hbd
   have hr := zqw (P := P) (ty := ty) ht hu hd hi hzi C.w b l c n (a.eval y) olds us (hg.len _) (by rw [← hsz]; exact hg.cells _ rfl) (by rw [← hsz]; exact hold _ rfl) hc (by rw [← hby]; exact hbd) (by rw [← hby]; exact hb0)
   generalize hrest : Builtin.zeroCells z.cells (grownCap C.w (l + n) c e - (l + n)) = rest at hr
   refine ⟨_, C.more C.w.drew (.cells (olds ++ us ++ rest) e (0, 0)), fun dst g => .inl (hexec b l c _ _ hb hr dst g), zk2 (w1 := C.w.drew) hm rfl rfl rfl rfl _ _ ?_ hs.k, hs.env.mono (zk3 (w1 := C.w.drew) hm rfl _), ?_, rfl⟩
   ·refine ⟨olds ++ us ++ rest, e, ?_, zg5 (w1 := C.w.drew) rfl hm hor hol hg.rep (by rw [hg.count, hg.size]) e⟩
    simp only [Cx.more, if_true]
    rw [zal, if_pos (show C.w.heap.size = C.w.drew.heap.size from rfl)]
   ·rw [hlen]
    refine zk1 (w1 := C.w.drew) rfl _ e (zg4 hbd hb0) (fun k hk => by cases hk) (.inr ?_)
    have hge := grownCap_ge C.w (l + n) c e
    have hrs : rest.size = (grownCap C.w (l + n) c e - (l + n)) * P.cellsOf e := by rw [← hrest, zwk, hzs]
    rw [Array.size_append, Array.size_append, hos, hg.size, hrs, ← Nat.add_mul, ← Nat.add_mul]
    exact Nat.le_of_eq (by congr 1; omega)
  have same : ∀ (b : Option Addr) (l c : Nat), a.eval x = .slice b l c → n = 0 → l ≤ c → Yields num P (.call { callee := .builtin .append, args := #[x, y], argTypes := #[t, u] }) ty pos after a C s (s.env.ev x') s := by
   intro b l c hb hn hlc
   subst hn
   have hus : us.toList = [] := List.eq_nil_of_length_eq_zero (by have := hg.size; simp at this; simpa using this)
   have hr := zqx (P := P) (ty := ty) ht hu hd hi C.w b l c 0 (a.eval y) us (hg.len _) (by rw [← hsz]; exact hg.cells _ rfl) (by omega) (w' := C.w) (fun ad _ => by rw [hus]; rfl) (fun _ => rfl)
   exact zwj hs (fun dst g => hexec b l c _ _ hb hr dst g) (by rw [Nat.add_zero, ← hb]; exact hax)
  split at h
  ·rename_i heq
   have hxv : a.eval x = .slice none 0 0 := by rw [heq] at hax; exact zpy hax
   split at h
   ·rename_i hn
    cases h
    exact same none 0 0 hxv hn (Nat.le_refl 0)
   ·rename_i hn
    split at h
    ·rename_i hbd
     simp only [fresh, Option.some.injEq, Prod.mk.injEq] at h
     obtain ⟨rfl, rfl⟩ := h
     have := grow none 0 0 #[] [] hxv (fun w _ => rfl) rfl (by simp) (fun j x hx => by simp at hx) (by omega) (by rw [Nat.zero_add]; exact hbd)
     rw [Nat.zero_add, List.nil_append] at this
     exact this
    ·cases h
  ·rename_i row off l c heq
   rw [heq] at hax
   generalize hxv : a.eval x = v at hax
   cases hax with | imm _ _ hax => cases hax with
    | slice _ _ _ _ b o c' ad u' hI hc hu' hl hk' ha =>
     have hcc := hk' c rfl
     subst hcc
     split at h
     ·rename_i hn
      cases h
      exact same _ l c' hxv hn hl
     ·rename_i hn
      split at h
      ·cases h
      ·rename_i hroom
       cases hcut : cut row off (l * P.cellsOf e) with
       | none => simp [hcut] at h
       | some old =>
        simp only [hcut] at h
        split at h
        ·rename_i hbd
         simp only [fresh, Option.some.injEq, Prod.mk.injEq] at h
         obtain ⟨rfl, rfl⟩ := h
         have hrl := zde hcut
         rcases ha with rfl | h00
         ·have hh : ∀ (j : Nat) x, old[j]? = some x → ∃ u'' : Value, C.w.cell? ⟨b, o + off + j, none⟩ = some u'' ∧ IRep C.I C.w x u'' := by
           intro j x hx
           have hj : j < l * P.cellsOf e := by rw [← hrl]; exact (List.getElem?_eq_some_iff.1 hx).1
           have h2 := zdd hcut j hj
           rw [hx] at h2
           exact ⟨u' (off + j), by rw [Nat.add_assoc]; exact hc _ x h2, hu' _ x h2⟩
          obtain ⟨olds, h1, h2, h3⟩ := zo5 (P := P) hh hrl
          exact grow _ l c' olds old hxv (fun w hw => by simp only [Builtin.firstCells]; exact h1 w hw) (by rw [hrl, h2]) h2 h3 (by omega) hbd
         ·have hl0 : l = 0 := by omega
          subst hl0
          have : old = [] := List.eq_nil_of_length_eq_zero (by omega)
          subst this
          exact grow _ 0 c' #[] [] hxv (fun w _ => by simp [Builtin.firstCells, loadCells, loadCellsFrom]) rfl (by simp) (fun j x hx => by simp at hx) (by omega) hbd
        ·cases h
    | vac _ _ ad =>
     split at h
     ·rename_i hn
      cases h
      exact same _ 0 0 hxv hn (Nat.le_refl 0)
     ·rename_i hn
      split at h
      ·cases h
      ·rename_i hroom
       cases hcut : cut row off (0 * P.cellsOf e) with
       | none => rw [hcut] at h; cases h
       | some old =>
        simp only [hcut] at h
        split at h
        ·rename_i hbd
         simp only [fresh, Option.some.injEq, Prod.mk.injEq] at h
         obtain ⟨rfl, rfl⟩ := h
         have hrl := zde hcut
         have : old = [] := List.eq_nil_of_length_eq_zero (by omega)
         subst this
         exact grow _ 0 0 #[] [] hxv (fun w _ => by simp [Builtin.firstCells, loadCells, loadCellsFrom]) rfl (by simp) (fun j x hx => by simp at hx) (by omega) hbd
        ·cases h
  ·rename_i id off sz' l c heq
   split at h
   ·rename_i hsz'
    subst hsz'
    have hax0 := hax
    rw [heq] at hax
    generalize hxv : a.eval x = v at hax
    cases hax with
    | osl _ _ _ _ _ c' ad arr e' hid hl hk' ha hw hss =>
     obtain ⟨arr, fz0, hw, rfl⟩ := hw
     have hcc := hk' c rfl
     subst hcc
     split at h
     ·rename_i cs mv ho
      obtain ⟨arr2, e2, hw2, hcs⟩ := hm.obj id _ ho
      rw [hw] at hw2
      obtain ⟨rfl, rfl, rfl⟩ : arr = arr2 ∧ e' = e2 ∧ fz0 = (0, 0) := by simpa using hw2
      split at h
      ·rename_i hroom
       split at h
       ·rename_i hfitc
        simp only [Option.some.injEq, Prod.mk.injEq] at h
        obtain ⟨rfl, rfl⟩ := h
        have hcl := zf5 hcs
        rcases ha with rfl | h00
        ·have hus : us.toList.length = n * P.cellsOf e := by rw [Array.length_toList, hg.size]
         have hfit : ad + l * P.cellsOf e + us.toList.length ≤ arr.size := by rw [hus, Nat.add_assoc, ← Nat.add_mul]; omega
         have hone : ∀ u ∈ us.toList, u.oneCell' = true := zg0 hg
         have hst := run_storeCells_at P (C.σ id) (ad + l * P.cellsOf e) e' us.toList 0 arr C.w hw (by rw [Nat.add_zero]; exact hfit) hone
         simp only [Nat.add_zero] at hst
         have hr := zqx (P := P) (ty := ty) ht hu hd hi C.w (some ⟨C.σ id, ad, none⟩) l c' n (a.eval y) us (hg.len _) (by rw [← hsz]; exact hg.cells _ rfl) hroom
          (fun ad' had => by cases had; rw [zai, ← hsz]; exact hst) (fun h => by cases h)
         have hsp := zsn arr (ad + l * P.cellsOf e) us.toList hfit
         have htr := zuh hm ho rfl hw hsp
         refine ⟨_, _, fun dst g => .inl (hexec _ l c' _ _ hxv hr dst g), zug (o' := .flat (setAll cs (ad + l * P.cellsOf e) news) mv) hm ho rfl hw hsp rfl (fun hmv => hmv) ?_ hs.k, hs.env.mono htr, ?_, rfl⟩
         ·refine ⟨_, e', by show (C.w.setRow _ _).heap[_]? = _; rw [zr0 _ _ _ _ _ hw, if_pos rfl], fun j x hx => ?_⟩
          have hnl : news.length = us.toList.length := by rw [hg.count, hus]
          rw [zrx] at hx
          rw [zsm arr _ us.toList hfit]
          split at hx
          ·rename_i hj
           rw [if_pos (by omega)]
           obtain ⟨u, hu', hr'⟩ := hg.rep _ x hx
           exact ⟨u, by rw [Array.getElem?_toList]; exact hu', hr'.mono htr.imm htr.keep⟩
          ·rename_i hj
           have hj2 : j < cs.length := (List.getElem?_eq_some_iff.1 hx).1
           rw [if_neg (by omega)]
           obtain ⟨u, hu', hr'⟩ := hcs j x hx
           exact ⟨u, hu', hr'.mono htr.imm htr.keep⟩
         ·refine .osl0 id ad _ _ _ c' ad _ e' hid (by omega) (fun k hk => by cases hk; rfl) (.inl rfl) (by show (C.w.setRow _ _).heap[_]? = _; rw [zr0 _ _ _ _ _ hw, if_pos rfl]) (by rw [hsp]; exact hss)
        ·have hn : n = 0 := by omega
         have hl0 : l = 0 := by omega
         have hnews : news = [] := List.eq_nil_of_length_eq_zero (by rw [hg.count, hn]; simp)
         have hset : s.mem.set id (.flat (setAll cs (off + l * P.cellsOf e) news) mv) = s.mem := by
          rw [hnews]
          simp only [setAll]
          apply List.ext_getElem?
          intro j
          rw [zr1]
          split
          ·rename_i hj; rw [← hj.1, ho]
          ·rfl
         rw [hset, hn, Nat.add_zero, ← heq]
         exact same _ l c' hxv hn hl.1
       ·cases h
      ·rename_i hroom
       cases hcut : cut cs off (l * P.cellsOf e) with
       | none => simp [hcut] at h
       | some old =>
        simp only [hcut] at h
        split at h
        ·rename_i hbd
         simp only [fresh, Option.some.injEq, Prod.mk.injEq] at h
         obtain ⟨rfl, rfl⟩ := h
         obtain ⟨olds, hg2⟩ := zgz (P := P) hm hax0 (sz := P.cellsOf e) (n := l) (news := old) (by rw [heq]; simp only [elems, ho, hcut]; rfl)
         rw [hxv] at hg2
         exact grow _ l c' olds old hxv hg2.cells (by rw [hg2.count, hg2.size]) hg2.size hg2.rep (by omega) hbd
        ·cases h
     ·cases h
   ·cases h
  ·rename_i id sz' l heq
   split at h
   ·rename_i hsk
    obtain ⟨hsz', hki⟩ := hsk
    subst hsz'
    have hax0 := hax
    rw [heq] at hax
    generalize hxv : a.eval x = v at hax
    cases hax with
    | osl _ _ _ _ _ c' ad arr e' hid hl hk' ha hw hss =>
     obtain ⟨arr, fz0, hw, rfl⟩ := hw
     split at h
     ·rename_i cs mv ho
      obtain ⟨arr2, e2, hw2, hcs⟩ := hm.obj id _ ho
      rw [hw] at hw2
      obtain ⟨rfl, rfl, rfl⟩ : arr = arr2 ∧ e' = e2 ∧ fz0 = (0, 0) := by simpa using hw2
      cases hcut : cut cs 0 (l * P.cellsOf e) with
      | none => simp [hcut] at h
      | some old =>
       simp only [hcut] at h
       split at h
       ·rename_i hbd
        simp only [Option.some.injEq, Prod.mk.injEq] at h
        obtain ⟨rfl, rfl⟩ := h
        rw [zru]
        obtain ⟨olds, hg2⟩ := zgz (P := P) hm hax0 (sz := P.cellsOf e) (n := l) (news := old) (by rw [heq]; simp only [elems, ho, hcut]; rfl)
        rw [hxv] at hg2
        rcases Nat.lt_or_ge c' (l + n) with hgt | hroom
        ·
         have hr := zqw (P := P) (ty := ty) ht hu hd hi hzi C.w (some ⟨C.σ id, ad, none⟩) l c' n (a.eval y) olds us (hg.len _) (by rw [← hsz]; exact hg.cells _ rfl) (by rw [← hsz]; exact hg2.cells _ rfl) hgt (by rw [← hby]; exact hbd) (by rw [← hby]; exact hb0)
         generalize hrest : Builtin.zeroCells z.cells (grownCap C.w (l + n) c' e - (l + n)) = rest at hr
         have hlt : C.σ id < C.w.heap.size := (Array.getElem?_eq_some_iff.1 hw).1
         have hwk : ∀ b, b < C.w.heap.size → (C.w.drew.alloc (.cells (olds ++ us ++ rest) e)).heap[b]? = C.w.heap[b]? := by
          intro b hb
          rw [zal, if_neg (show ¬ b = C.w.drew.heap.size by show ¬ b = C.w.heap.size; omega)]
          rfl
         have hnew : (C.w.drew.alloc (.cells (olds ++ us ++ rest) e)).heap[C.w.heap.size]? = some (.cells (olds ++ us ++ rest) e (0, 0)) := by
          rw [zal, if_pos (show C.w.heap.size = C.w.drew.heap.size from rfl)]
         let σ' : Nat → Nat := fun j => if j = id then C.w.heap.size else C.σ j
         have hσ : ∀ j, j ≠ id → σ' j = C.σ j := fun j hj => by simp [σ', hj]
         have hσi : σ' id = C.w.heap.size := by simp [σ']
         have htr := zk5 hm ho rfl (σ' := σ') (w' := C.w.drew.alloc (.cells (olds ++ us ++ rest) e)) hσ (fun b hb _ => hwk b hb) (fun _ _ h => h.same (hwk _ hlt))
         refine ⟨_, { C with σ := σ', w := C.w.drew.alloc (.cells (olds ++ us ++ rest) e) }, fun dst g => .inl (hexec _ l c' _ _ hxv hr dst g), zk4 hm ho rfl (w' := C.w.drew.alloc (.cells (olds ++ us ++ rest) e)) hσ (.inr (by rw [hσi]; exact Nat.le_refl _)) rfl rfl rfl (by rw [World.size_alloc]; exact Nat.le_succ C.w.heap.size) (fun b hb _ => hwk b hb) (fun _ _ h => h.same (hwk _ hlt)) ?_ hs.k, hs.env.tr htr, ?_, rfl⟩
         ·refine ⟨olds ++ us ++ rest, e, by show (C.w.drew.alloc _).heap[σ' id]? = _; rw [hσi]; exact hnew, zg5 (w1 := C.w.drew) rfl hm hg2.rep (by rw [hg2.count, hg2.size]) hg.rep (by rw [hg.count, hg.size]) e⟩
         ·have hrs : rest.size = (grownCap C.w (l + n) c' e - (l + n)) * P.cellsOf e := by rw [← hrest, zwk, hzs]
          have hge := grownCap_ge C.w (l + n) c' e
          rw [← hσi]
          refine .osl0 id 0 _ _ none _ 0 _ e hid (zg4 (by assumption) hb0) (fun k hk => by cases hk) (.inl rfl) (by show (C.w.drew.alloc _).heap[σ' id]? = _; rw [hσi]; exact hnew) (.inr ?_)
          rw [Array.size_append, Array.size_append, hg2.size, hg.size, hrs, ← Nat.add_mul, ← Nat.add_mul, Nat.zero_add]
          exact Nat.le_of_eq (by congr 1; omega)
        ·
         have hus : us.toList.length = n * P.cellsOf e := by rw [Array.length_toList, hg.size]
         have holdl := zde hcut
         rcases ha with rfl | h00
         ·have hfit : l * P.cellsOf e + us.toList.length ≤ arr.size := by
           rw [hus, ← Nat.add_mul]
           rcases hss with h0 | h0
           ·have : l + n = 0 := by omega
            rw [this]; simp
           ·have := Nat.mul_le_mul_right (P.cellsOf e) hroom
            omega
          have hone : ∀ u ∈ us.toList, u.oneCell' = true := zg0 hg
          have hst := run_storeCells_at P (C.σ id) (l * P.cellsOf e) e' us.toList 0 arr C.w hw (by rw [Nat.add_zero]; exact hfit) hone
          simp only [Nat.add_zero] at hst
          have hr := zqx (P := P) (ty := ty) ht hu hd hi C.w (some ⟨C.σ id, 0, none⟩) l c' n (a.eval y) us (hg.len _) (by rw [← hsz]; exact hg.cells _ rfl) hroom
           (fun ad' had => by cases had; rw [zai, ← hsz, Nat.zero_add]; exact hst) (fun h => by cases h)
          have hsp := zsn arr (l * P.cellsOf e) us.toList hfit
          have hwk : ∀ b, b < C.w.heap.size → b ≠ C.σ id → (C.w.setRow (C.σ id) (arr.toList.take (l * P.cellsOf e) ++ us.toList ++ arr.toList.drop (l * P.cellsOf e + us.toList.length)).toArray).heap[b]? = C.w.heap[b]? := by
           intro b _ hb
           rw [zr0 _ _ _ _ _ hw, if_neg hb]
          have hws : (C.w.setRow (C.σ id) (arr.toList.take (l * P.cellsOf e) ++ us.toList ++ arr.toList.drop (l * P.cellsOf e + us.toList.length)).toArray).heap[C.σ id]? = some (.cells (arr.toList.take (l * P.cellsOf e) ++ us.toList ++ arr.toList.drop (l * P.cellsOf e + us.toList.length)).toArray e' (0, 0)) := by
           rw [zr0 _ _ _ _ _ hw, if_pos rfl]
          have hsz3 : ∀ n9 e9, RowAt C.w (C.σ id) n9 e9 → RowAt (C.w.setRow (C.σ id) (arr.toList.take (l * P.cellsOf e) ++ us.toList ++ arr.toList.drop (l * P.cellsOf e + us.toList.length)).toArray) (C.σ id) n9 e9 := by
           intro n0 e0 h0'
           exact h0'.put hw hws hsp
          have htr := zk5 hm ho rfl (σ' := C.σ) (fun _ _ => rfl) hwk hsz3
          refine ⟨_, _, fun dst g => .inl (hexec _ l c' _ _ hxv hr dst g), zk4 hm ho rfl (σ' := C.σ) (w' := (C.w.setRow (C.σ id) (arr.toList.take (l * P.cellsOf e) ++ us.toList ++ arr.toList.drop (l * P.cellsOf e + us.toList.length)).toArray)) (fun _ _ => rfl) (.inl rfl) rfl rfl rfl (by rw [size_setRow]; exact Nat.le_refl _) hwk hsz3 ?_ hs.k, hs.env.tr htr, ?_, rfl⟩
          ·refine ⟨_, e', hws, fun j x hx => ?_⟩
           rw [zsm arr _ us.toList hfit]
           rcases Nat.lt_or_ge j old.length with hj | hj
           ·rw [List.getElem?_append_left hj] at hx
            rw [if_neg (by omega)]
            have h2 := zdd hcut j (by omega)
            rw [hx, Nat.zero_add] at h2
            obtain ⟨u, hu', hr'⟩ := hcs j x h2
            exact ⟨u, hu', hr'.mono htr.imm htr.keep⟩
           ·rw [List.getElem?_append_right hj] at hx
            have hjn : j - old.length < news.length := (List.getElem?_eq_some_iff.1 hx).1
            rw [if_pos (by rw [hus, ← hg.count]; omega)]
            obtain ⟨u, hu', hr'⟩ := hg.rep _ x hx
            exact ⟨u, by rw [Array.getElem?_toList, ← holdl]; exact hu', hr'.mono htr.imm htr.keep⟩
          ·exact .osl0 id 0 _ _ none c' 0 _ e' hid (by omega) (fun k hk => by cases hk) (.inl rfl) hws (by rw [hsp]; exact hss)
         ·have hn : n = 0 := by omega
          have hl0 : l = 0 := by omega
          have hnews : news = [] := List.eq_nil_of_length_eq_zero (by rw [hg.count, hn]; simp)
          have hold0 : old = [] := List.eq_nil_of_length_eq_zero (by rw [holdl, hl0]; simp)
          have hus0 : us.toList = [] := List.eq_nil_of_length_eq_zero (by rw [hus, hn]; simp)
          have hr := zqx (P := P) (ty := ty) ht hu hd hi C.w (some ⟨C.σ id, ad, none⟩) l c' n (a.eval y) us (hg.len _) (by rw [← hsz]; exact hg.cells _ rfl) hroom (w' := C.w) (fun ad _ => by rw [hus0]; rfl) (fun _ => rfl)
          have htr := zk5 hm ho rfl (σ' := C.σ) (w' := C.w) (fun _ _ => rfl) (fun _ _ _ => rfl) (fun _ _ h => h)
          refine ⟨_, _, fun dst g => .inl (hexec _ l c' _ _ hxv hr dst g), zk4 hm ho rfl (σ' := C.σ) (w' := C.w) (fun _ _ => rfl) (.inl rfl) rfl rfl rfl (Nat.le_refl _) (fun _ _ _ => rfl) (fun _ _ h => h) ?_ hs.k, hs.env.tr htr, ?_, rfl⟩
          ·refine ⟨arr, e', hw, fun j x hx => ?_⟩
           rw [hold0, hnews] at hx
           simp at hx
          ·exact .osl0 id 0 _ _ none c' ad arr e' hid (by omega) (fun k hk => by cases hk) (.inr h00) hw (.inl h00)
       ·cases h
     ·cases h
   ·cases h
  ·cases h
end
end Go.EX


namespace Go.EX
section
variable {num : Names} {P : Program}
variable {ty : TypeId} {pos : String} {after : Array Edge} {a : Act} {C : Cx} {s : St}
def Cx.claim (C : Cx) (nb : Nat) (w' : World) : Cx := { σ := fun i => if i = C.n then nb else C.σ i, I := C.I, n := C.n + 1, w := w' }
theorem zcm {m : Mem} (hm : MRep num C m) {id : Nat} {o : AObj} (ho : m[id]? = some o) (hlo : o.live = true) {w' : World} {nb : Nat}
  (hw : ∀ b, b < C.w.heap.size → b ≠ C.σ id → w'.heap[b]? = C.w.heap[b]?) (hsz : ∀ n e, RowAt C.w (C.σ id) n e → RowAt (w') (C.σ id) n e) :
  Tr some C (C.claim nb w') := by
 refine ⟨fun _ h => h, fun b hb => hw b (hm.bd b hb) fun e => hm.imm b ⟨id, o, ho, hlo, e.symm⟩ hb, fun i j hi hj => ?_⟩
 cases hj
 have hne : i ≠ C.n := by omega
 refine ⟨Nat.lt_succ_of_lt hi, by simp [Cx.claim, hne], fun arr e h => ?_⟩
 by_cases hc : C.σ i = C.σ id
 ·rw [hc] at h ⊢; exact hsz arr e h
 ·exact h.same (hw _ h.lt hc)
theorem zcl {m : Mem} (hm : MRep num C m) {id : Nat} {o : AObj} (ho : m[id]? = some o) (hlo : o.live = true) {w' : World} {nb : Nat} (hnb : nb = C.σ id ∨ (C.w.heap.size ≤ nb))
  (hos : w'.os = C.w.os) (htp : w'.tape = C.w.tape) (hout : w'.output = C.w.output) (hsize : C.w.heap.size ≤ w'.heap.size)
  (hw : ∀ b, b < C.w.heap.size → b ≠ C.σ id → w'.heap[b]? = C.w.heap[b]?) (hsz : ∀ n e, RowAt C.w (C.σ id) n e → RowAt (w') (C.σ id) n e)
  {p : AObj} (hr : ORep num (C.claim nb w') C.n p) {k : Nat} (hk : k ≤ m.length) (hof : o.isFix = false := by rfl) :
  Step num k C m (C.claim nb w') (m.set id .dead ++ [p]) := by
 have ht := zcm (nb := nb) hm ho hlo hw hsz
 have hid : id < m.length := (List.getElem?_eq_some_iff.1 ho).1
 have hlen := hm.len
 have hσ : ∀ i, i < m.length → (C.claim nb w').σ i = C.σ i := fun i hi => by simp only [Cx.claim]; rw [if_neg (by omega)]
 have hσn : (C.claim nb w').σ C.n = nb := by simp [Cx.claim]
 have split : ∀ (i : Nat) (q : AObj), (m.set id .dead ++ [p])[i]? = some q → (i < m.length ∧ i ≠ id ∧ m[i]? = some q) ∨ (i = id ∧ q = .dead) ∨ (i = C.n ∧ q = p) := by
  intro i q hq
  rcases Nat.lt_or_ge i m.length with h | h
  ·rw [List.getElem?_append_left (by rw [List.length_set]; exact h), zr1] at hq
   split at hq
   ·rename_i hi; exact .inr (.inl ⟨hi.1.symm, (Option.some.inj hq).symm⟩)
   ·rename_i hi; exact .inl ⟨h, fun e => hi ⟨e.symm, by rw [e]; exact hid⟩, hq⟩
  ·rw [List.getElem?_append_right (by rw [List.length_set]; exact h), List.length_set] at hq
   have h0 : i - m.length = 0 := by
    rcases Nat.eq_zero_or_pos (i - m.length) with h0 | h0
    ·exact h0
    ·rw [List.getElem?_eq_none (by simp; omega)] at hq; cases hq
   rw [h0] at hq
   exact .inr (.inr ⟨by omega, by simpa using hq.symm⟩)
 have hlt : ∀ i q, m[i]? = some q → q.live = true → C.σ i < C.w.heap.size := fun i q hq hl => MRep.lt num hm ⟨i, q, hq, hl, rfl⟩
 have hown : ∀ b, Own (C.claim nb w') (m.set id .dead ++ [p]) b → C.w.heap.size ≤ b ∨ Own C m b := by
  rintro b ⟨i, q, hq, hl, hb⟩
  rcases split i q hq with ⟨hi, hne, hq'⟩ | ⟨rfl, rfl⟩ | ⟨rfl, rfl⟩
  ·rw [hσ i hi] at hb; exact .inr ⟨i, q, hq', hl, hb⟩
  ·cases hl
  ·rw [hσn] at hb
   rcases hnb with h | h
   ·exact .inr ⟨id, o, ho, hlo, by rw [← hb, h]⟩
   ·exact .inl (by omega)
 refine ⟨⟨by simp [Cx.claim, hlen], ?_, ?_, ?_, fun b hb => Nat.lt_of_lt_of_le (hm.bd b hb) hsize, num.up hm.glo ht.imm ht.keep⟩, hos, htp, hout, hsize, ?_, ?_, fun _ h => h, fun _ h => .inl h, hown, ?_, by simp; omega⟩
 ·intro i q hq
  rcases split i q hq with ⟨hi, hne, hq'⟩ | ⟨rfl, rfl⟩ | ⟨rfl, rfl⟩
  ·by_cases hlq : q.live = true
   ·refine zmw ht (hσ i hi) (fun x h => ?_) (hm.obj i q hq')
    show w'.heap[C.σ i]? = _
    rw [hw _ (hlt i q hq' hlq) fun e => hne (hm.inj2 num i id q o hq' ho hlq hlo hof e)]
    exact h
   ·cases q with
    | dead => trivial
    | _ => exact absurd rfl hlq
  ·trivial
  ·exact hr
 ·intro i j q q2 hq hq2 hl1 hl2 he
  rcases split i q hq with ⟨hi, hne, hq'⟩ | ⟨rfl, rfl⟩ | ⟨rfl, rfl⟩ <;> rcases split j q2 hq2 with ⟨hj, hne2, hq2'⟩ | ⟨rfl, rfl⟩ | ⟨rfl, rfl⟩
  ·rw [hσ i hi, hσ j hj] at he; exact hm.inj i j q q2 hq' hq2' hl1 hl2 he
  ·cases hl2
  ·rw [hσ i hi, hσn] at he
   have hb := hlt i q hq' hl1
   rcases hnb with h | h
   ·exact absurd (hm.inj2 num i id q o hq' ho hl1 hlo hof (by rw [he, h])) hne
   ·omega
  ·cases hl1
  ·exact .inl rfl
  ·cases hl1
  ·rw [hσ j hj, hσn] at he
   have hb := hlt j q2 hq2' hl2
   rcases hnb with h | h
   ·exact absurd (hm.inj2 num j id q2 o hq2' ho hl2 hlo hof (by rw [← he, h])) hne2
   ·omega
  ·cases hl2
  ·exact .inl rfl
 ·intro b hb hI
  rcases hown b hb with h | h
  ·have := hm.bd b hI; omega
  ·exact hm.imm b h hI
 ·intro b hb hno
  exact hw b hb fun e => hno ⟨id, o, ho, hlo, e.symm⟩
 ·intro b arr e h
  by_cases hb : b = C.σ id
  ·subst hb; exact hsz arr e h
  ·exact h.same (hw b h.lt hb)
 ·intro i _ q hq hmq
  rcases split i q hq with ⟨hi, hne, hq'⟩ | ⟨rfl, rfl⟩ | ⟨rfl, rfl⟩
  ·exact ⟨q, hq', hmq, hσ i hi⟩
  ·cases hmq
  ·omega
structure GivenR (num : Names) (P : Program) (C : Cx) (sz : Nat) (v : Value) (n : Nat) (news : List AV) (us : Array Value) : Prop where
 len : ∀ w, (Builtin.lenOf v).run P w = .ok n w
 cells : ∀ w, w.heap = C.w.heap → (Builtin.firstCells sz n v).run P w = .ok us w
 size : us.size = n * sz
 count : news.length = n * sz
 rep : ∀ (j : Nat) x, news[j]? = some x → ∃ u : Value, us[j]? = some u ∧ u.oneCell' = true ∧ ARep num C x u
theorem zgy {m : Mem} (hm : MRep num C m) {sz : Nat} {x : AV} {v : Value} (hx : ARep num C x v) {n : Nat} {news : List AV} (h : elemsR m sz x = some (n, news)) :
  ∃ us, GivenR num P C sz v n news us := by
 unfold elemsR at h
 split at h
 ·rename_i id off sz' len cap
  have key : ∀ (l : List AV), CellsAt num C (C.σ id) 0 l → cut l off (len * sz) = some news → n = len → ∃ us, GivenR num P C sz v n news us := by
   rintro l hl hc rfl
   have hrl := zde hc
   have hcell : ∀ (j : Nat) x, news[j]? = some x → ∃ u : Value, C.w.cell? ⟨C.σ id, off + j, none⟩ = some u ∧ u.oneCell' = true ∧ ARep num C x u := by
    intro j x hx
    have hj : j < n * sz := by rw [← hrl]; exact (List.getElem?_eq_some_iff.1 hx).1
    have h2 := zdd hc j hj
    rw [hx] at h2
    obtain ⟨u, hu, ho, hr⟩ := hl _ _ h2
    exact ⟨u, by rw [Nat.zero_add] at hu; exact hu, ho, hr⟩
   cases hx with
   | osl _ _ _ _ _ c ad arr e hid hl' hk ha hw hs =>
    rcases ha with rfl | rfl
    ·let f : Nat → Value := fun j => (C.w.cell? ⟨C.σ id, ad + j, none⟩).getD undef
     refine ⟨((List.range (n * sz)).map f).toArray, ⟨fun w => rfl, fun w hw => ?_, by simp, hrl, fun j x hx => ?_⟩⟩
     ·simp only [Builtin.firstCells]
      refine run_loadCells w _ (n * sz) f fun j hj => ?_
      rw [zha hw]
      obtain ⟨u, hu, _⟩ := hcell j news[j] (List.getElem?_eq_getElem (by omega))
      rw [zai, hu]
      simp [f, hu]
     ·obtain ⟨u, hu, ho, hr⟩ := hcell j x hx
      have hj : j < n * sz := by rw [← hrl]; exact (List.getElem?_eq_some_iff.1 hx).1
      exact ⟨u, by simp [f, hu, hj], ho, hr⟩
    ·have hl0 : n = 0 := by omega
     subst hl0
     have hr0 : news = [] := List.eq_nil_of_length_eq_zero (by omega)
     subst hr0
     exact ⟨#[], ⟨fun w => rfl, fun w _ => by simp [Builtin.firstCells, loadCells, loadCellsFrom], by simp, by simp, fun j x hx => by simp at hx⟩⟩
  split at h
  ·rename_i cs ho
   cases hc : cut cs off (len * sz) with
   | none => simp [hc] at h
   | some r =>
    simp [hc] at h
    obtain ⟨rfl, rfl⟩ := h
    exact key _ (zbw (hm.obj id _ ho)) hc rfl
  ·rename_i cs mv ho
   cases hc : cut cs off (len * sz) with
   | none => simp [hc] at h
   | some r =>
    simp [hc] at h
    obtain ⟨rfl, rfl⟩ := h
    exact key _ (zbv (hm.obj id _ ho)) (by rw [zdf, hc]; rfl) rfl
  ·cases h
 ·rename_i row off len cap
  cases hc : cut row off (len * sz) with
  | none => simp [hc] at h
  | some r =>
   simp [hc] at h
   obtain ⟨rfl, rfl⟩ := h
   obtain ⟨us, hg⟩ := zgz (P := P) hm hx (sz := sz) (n := len) (news := r) (by unfold elems; simp [hc])
   refine ⟨us, ⟨hg.len, hg.cells, hg.size, by rw [List.length_map]; exact hg.count, fun j x hx => ?_⟩⟩
   rw [List.getElem?_map, Option.map_eq_some_iff] at hx
   obtain ⟨y, hy, rfl⟩ := hx
   obtain ⟨u, hu, hr⟩ := hg.rep j y hy
   exact ⟨u, hu, hr.one, .imm y _ hr⟩
 ·cases h
theorem zqd {D : Cx} (ht : Tr some C D) {olds us : Array Value} {rest : List Value} {ol nl : List AV} (ho : ∀ (j : Nat) x, ol[j]? = some x → ∃ u : Value, olds[j]? = some u ∧ u.oneCell' = true ∧ ARep num C x u) (hol : ol.length = olds.size)
  (hn : ∀ (j : Nat) x, nl[j]? = some x → ∃ u : Value, us[j]? = some u ∧ u.oneCell' = true ∧ ARep num C x u) {arr : Array Value} (h1 : ∀ j : Nat, j < olds.size → arr[j]? = olds[j]?) (h2 : ∀ j : Nat, j < us.size → arr[olds.size + j]? = us[j]?) :
  ∀ (j : Nat) x, (ol ++ nl)[j]? = some x → ∃ u : Value, arr[j]? = some u ∧ u.oneCell' = true ∧ ARep num D x u := by
 intro j x hx
 rcases Nat.lt_or_ge j ol.length with h | h
 ·rw [List.getElem?_append_left h] at hx
  obtain ⟨u, hu, hone, hr⟩ := ho j x hx
  exact ⟨u, by rw [h1 j (by omega)]; exact hu, hone, hr.mono ht⟩
 ·rw [List.getElem?_append_right h] at hx
  obtain ⟨u, hu, hone, hr⟩ := hn _ x hx
  have hj := (Array.getElem?_eq_some_iff.1 hu).1
  refine ⟨u, ?_, hone, hr.mono ht⟩
  have := h2 (j - ol.length) hj
  rw [← hol] at this
  have e : ol.length + (j - ol.length) = j := by omega
  rw [e] at this
  rw [this]; exact hu
theorem zvt (hs : SRep num C s a) {t u e : TypeId} {d : TypeDesc} {x y : Operand} {x' y' : Src} (ht : P.underlying t = some (.slice e)) (hu : P.underlying u = some d) (hd : notIntD d = true) (hk : known P e = true) (h0 : 0 < P.cellsOf e) (hb0 : 0 < P.bytesOf e)
  (hz : zeroOk P e = true) (hx : trSrc num x = some x') (hy : trSrc num y = some y') {r : AV} {s' : St} (h : exAppendR s (P.cellsOf e) (P.bytesOf e) (s.env.ev x') (s.env.ev y') = some (r, s')) :
  Yields num P (.call { callee := .builtin .append, args := #[x, y], argTypes := #[t, u] }) ty pos after a C s r s' := by
 obtain ⟨i, dd, hi, _, hsz, hby⟩ := zim hk
 obtain ⟨z, hzi, hzs⟩ : ∃ z, i.zero = some z ∧ z.cells.size = P.cellsOf e := by
  unfold zeroOk zeroCellsOf at hz
  rw [hi] at hz
  cases hq : i.zero with
  | none => simp [hq] at hz
  | some z => simp [hq] at hz; exact ⟨z, rfl, hz⟩
 have hm := hs.mem
 have hlen := hm.len
 unfold exAppendR at h
 cases hel : elemsR s.mem (P.cellsOf e) (s.env.ev y') with
 | none => simp [hel] at h
 | some nn =>
  obtain ⟨n, news⟩ := nn
  simp only [hel] at h
  split at h
  ·cases h
  rename_i hn0
  obtain ⟨us, hg⟩ := zgy (P := P) hm (zsp hs hy) hel
  have hax := zsp hs hx
  have hexec : ∀ (b : Option Addr) (l c : Nat) (v : Value) (w' : World), a.eval x = .slice b l c → (Builtin.append_ #[t, u] ty #[.slice b l c, a.eval y]).run P C.w = .ok v w' →
    ∀ dst g, (execOp a.eval ⟨dst, .call { callee := .builtin .append, args := #[x, y], argTypes := #[t, u] }, ty, pos, after, g⟩).run P C.w = .ok (.value v) w' := by
   intro b l c v w' hb hr dst g
   simp [execOp, resolve, invoke, builtin, hb, hr]
  split at h
  ·rename_i heq
   have hxv : a.eval x = .slice none 0 0 := by rw [heq] at hax; exact zpy hax
   split at h
   ·rename_i hbd
    simp only [fresh, Option.some.injEq, Prod.mk.injEq] at h
    obtain ⟨rfl, rfl⟩ := h
    have hr := zqw (P := P) (ty := ty) ht hu hd hi hzi C.w none 0 0 n (a.eval y) #[] us (hg.len _) (by rw [← hsz]; exact hg.cells _ rfl) rfl (by omega) (by rw [← hby, Nat.zero_add]; exact hbd) (by rw [← hby]; exact hb0)
    generalize hrest : Builtin.zeroCells z.cells (grownCap C.w (0 + n) 0 e - (0 + n)) = rest at hr
    have htr := zk3 (w1 := C.w.drew) hm rfl (.cells (#[] ++ us ++ rest) e (0, 0))
    refine ⟨_, C.more C.w.drew (.cells (#[] ++ us ++ rest) e (0, 0)), fun dst g => .inl (hexec none 0 0 _ _ hxv hr dst g), zk2 (w1 := C.w.drew) hm rfl rfl rfl rfl _ _ ?_ hs.k, hs.env.mono htr, ?_, rfl⟩
    ·refine ⟨#[] ++ us ++ rest, e, ?_, ?_⟩
     ·simp only [Cx.more, if_true]
      rw [zal, if_pos (show C.w.heap.size = C.w.drew.heap.size from rfl)]
     ·intro j x hx
      obtain ⟨u, hu, hone, hr'⟩ := hg.rep j x hx
      have hj := (Array.getElem?_eq_some_iff.1 hu).1
      refine ⟨u, ?_, hone, hr'.mono htr⟩
      rw [Array.getElem?_append_left (by simp; exact hj)]
      simpa using hu
    ·have hge := grownCap_ge C.w (0 + n) 0 e
     rw [hlen]
     rw [Nat.zero_add] at hge ⊢
     refine zk1 (w1 := C.w.drew) rfl _ e (zg4 (by assumption) hb0) (fun k hk => by cases hk) (.inr ?_)
     have hrs : rest.size = (grownCap C.w (0 + n) 0 e - (0 + n)) * P.cellsOf e := by rw [← hrest, zwk, hzs]
     rw [Nat.zero_add] at hrs
     rw [Array.size_append, Array.size_append, hg.size, hrs]
     simp only [List.size_toArray, List.length_nil, Nat.zero_add]
     rw [← Nat.add_mul]
     exact Nat.le_of_eq (by congr 1; omega)
   ·cases h
  ·rename_i id sz' l heq
   split at h
   ·rename_i hsz'
    subst hsz'
    cases hol : elemsR s.mem (P.cellsOf e) (.osl id 0 (P.cellsOf e) l none) with
    | none => simp [hol] at h
    | some pp =>
     obtain ⟨l', old⟩ := pp
     simp only [hol] at h
     split at h
     ·rename_i hbd
      simp only [Option.some.injEq, Prod.mk.injEq] at h
      obtain ⟨rfl, rfl⟩ := h
      have hax0 := hax
      rw [heq] at hax0
      have hll : l' = l := by
       unfold elemsR at hol
       dsimp only at hol
       split at hol
       ·simp only [Option.map_eq_some_iff] at hol; obtain ⟨_, _, h⟩ := hol; cases h; rfl
       ·simp only [Option.map_eq_some_iff] at hol; obtain ⟨_, _, h⟩ := hol; cases h; rfl
       ·cases hol
      subst hll
      obtain ⟨olds, hg2⟩ := zgy (P := P) hm hax0 hol
      obtain ⟨o, ho, hlo, hof, a2, e2, hw2⟩ : ∃ o, s.mem[id]? = some o ∧ o.live = true ∧ o.isFix = false ∧ ∃ a2 e2, C.w.heap[C.σ id]? = some (.cells a2 e2 (0, 0)) := by
       unfold elemsR at hol
       dsimp only at hol
       split at hol
       ·rename_i ho; obtain ⟨a2, e2, h2, _⟩ := hm.obj id _ ho; exact ⟨_, ho, rfl, rfl, a2, e2, h2⟩
       ·rename_i ho; obtain ⟨a2, e2, h2, _⟩ := hm.obj id _ ho; exact ⟨_, ho, rfl, rfl, a2, e2, h2⟩
       ·cases hol
      rw [heq] at hax
      generalize hxv : a.eval x = v at hax hg2
      cases hax with
      | osl _ _ _ _ _ c' ad arr e' hid hl hk' ha hw hss =>
       obtain ⟨arr, fz0, hw, rfl⟩ := hw
       rw [hw] at hw2
       obtain ⟨rfl, rfl, rfl⟩ : arr = a2 ∧ e' = e2 ∧ fz0 = (0, 0) := by simpa using hw2
       rcases Nat.lt_or_ge c' (l' + n) with hgt | hroom
       ·
        have hr := zqw (P := P) (ty := ty) ht hu hd hi hzi C.w (some ⟨C.σ id, ad, none⟩) l' c' n (a.eval y) olds us (hg.len _) (by rw [← hsz]; exact hg.cells _ rfl) (by rw [← hsz]; exact hg2.cells _ rfl) hgt (by rw [← hby]; exact hbd) (by rw [← hby]; exact hb0)
        generalize hrest : Builtin.zeroCells z.cells (grownCap C.w (l' + n) c' e - (l' + n)) = rest at hr
        have hlt : C.σ id < C.w.heap.size := (Array.getElem?_eq_some_iff.1 hw).1
        have hwk : ∀ b, b < C.w.heap.size → (C.w.drew.alloc (.cells (olds ++ us ++ rest) e)).heap[b]? = C.w.heap[b]? := by
         intro b hb
         rw [zal, if_neg (show ¬ b = C.w.drew.heap.size by show ¬ b = C.w.heap.size; omega)]
         rfl
        have hnew : (C.w.drew.alloc (.cells (olds ++ us ++ rest) e)).heap[C.w.heap.size]? = some (.cells (olds ++ us ++ rest) e (0, 0)) := by
         rw [zal, if_pos (show C.w.heap.size = C.w.drew.heap.size from rfl)]
        have hsz3 : ∀ n9 e9, RowAt C.w (C.σ id) n9 e9 → RowAt (C.w.drew.alloc (.cells (olds ++ us ++ rest) e)) (C.σ id) n9 e9 := fun _ _ h => h.same (hwk _ hlt)
        have htr := zcm (nb := C.w.heap.size) hm ho hlo (w' := C.w.drew.alloc (.cells (olds ++ us ++ rest) e)) (fun b hb _ => hwk b hb) hsz3
        refine ⟨_, C.claim C.w.heap.size (C.w.drew.alloc (.cells (olds ++ us ++ rest) e)), fun dst g => .inl (hexec _ l' c' _ _ hxv hr dst g), zcl (w' := C.w.drew.alloc (.cells (olds ++ us ++ rest) e)) hm ho hlo (.inr (Nat.le_refl _)) rfl rfl rfl (by rw [World.size_alloc]; exact Nat.le_succ C.w.heap.size) (fun b hb _ => hwk b hb) hsz3 ?_ hs.k hof, hs.env.mono htr, ?_, rfl⟩
        ·refine ⟨olds ++ us ++ rest, e, by simp only [Cx.claim, if_true]; exact hnew, zqd htr (rest := []) hg2.rep (by rw [hg2.count, hg2.size]) hg.rep (fun j hj => ?_) (fun j hj => ?_)⟩
         ·rw [Array.append_assoc, Array.getElem?_append_left hj]
         ·rw [Array.append_assoc, Array.getElem?_append_right (by omega), Array.getElem?_append_left (by omega)]
          congr 1; omega
        ·have hrs : rest.size = (grownCap C.w (l' + n) c' e - (l' + n)) * P.cellsOf e := by rw [← hrest, zwk, hzs]
         have hge := grownCap_ge C.w (l' + n) c' e
         have hσn : (C.claim C.w.heap.size (C.w.drew.alloc (.cells (olds ++ us ++ rest) e))).σ C.n = C.w.heap.size := by simp [Cx.claim]
         rw [hlen]
         conv => arg 4; rw [← hσn]
         refine .osl0 C.n 0 _ _ none _ 0 _ e (by simp [Cx.claim]) (zg4 (by assumption) hb0) (fun k hk => by cases hk) (.inl rfl) (by rw [hσn]; exact hnew) (.inr ?_)
         rw [Array.size_append, Array.size_append, hg2.size, hg.size, hrs, ← Nat.add_mul, ← Nat.add_mul, Nat.zero_add]
         exact Nat.le_of_eq (by congr 1; omega)
       ·
        have hus : us.toList.length = n * P.cellsOf e := by rw [Array.length_toList, hg.size]
        have hc0 : c' ≠ 0 := by omega
        rcases ha with rfl | h00
        ·have hfit : l' * P.cellsOf e + us.toList.length ≤ arr.size := by
          rw [hus, ← Nat.add_mul]
          rcases hss with h0 | h0
          ·omega
          ·have := Nat.mul_le_mul_right (P.cellsOf e) hroom
           omega
         have hone : ∀ u ∈ us.toList, u.oneCell' = true := by
          intro u hu
          obtain ⟨j, hj⟩ := List.getElem?_of_mem hu
          rw [Array.getElem?_toList] at hj
          have hlt : j < news.length := by rw [hg.count, ← hg.size]; exact (Array.getElem?_eq_some_iff.1 hj).1
          obtain ⟨u', hu', h1, _⟩ := hg.rep j news[j] (List.getElem?_eq_getElem hlt)
          rw [hj] at hu'
          cases hu'
          exact h1
         have hst := run_storeCells_at P (C.σ id) (l' * P.cellsOf e) e' us.toList 0 arr C.w hw (by rw [Nat.add_zero]; exact hfit) hone
         simp only [Nat.add_zero] at hst
         have hr := zqx (P := P) (ty := ty) ht hu hd hi C.w (some ⟨C.σ id, 0, none⟩) l' c' n (a.eval y) us (hg.len _) (by rw [← hsz]; exact hg.cells _ rfl) hroom
          (fun ad' had => by cases had; rw [zai, ← hsz, Nat.zero_add]; exact hst) (fun h => by cases h)
         have hsp := zsn arr (l' * P.cellsOf e) us.toList hfit
         generalize hnr : (arr.toList.take (l' * P.cellsOf e) ++ us.toList ++ arr.toList.drop (l' * P.cellsOf e + us.toList.length)).toArray = narr at hr hsp hst
         have hwk : ∀ b, b < C.w.heap.size → b ≠ C.σ id → (C.w.setRow (C.σ id) narr).heap[b]? = C.w.heap[b]? := by
          intro b _ hb
          rw [zr0 _ _ _ _ _ hw, if_neg hb]
         have hws : (C.w.setRow (C.σ id) narr).heap[C.σ id]? = some (.cells narr e' (0, 0)) := by
          rw [zr0 _ _ _ _ _ hw, if_pos rfl]
         have hsz3 : ∀ n9 e9, RowAt C.w (C.σ id) n9 e9 → RowAt (C.w.setRow (C.σ id) narr) (C.σ id) n9 e9 := by
          intro n0 e0 h0'
          exact h0'.put hw hws hsp
         have htr := zcm (nb := C.σ id) hm ho hlo (w' := C.w.setRow (C.σ id) narr) hwk hsz3
         have hσn : (C.claim (C.σ id) (C.w.setRow (C.σ id) narr)).σ C.n = C.σ id := by simp [Cx.claim]
         have holds : ∀ j : Nat, j < olds.size → arr[j]? = olds[j]? := by
          intro j hj
          obtain ⟨u, hu⟩ : ∃ u, olds[j]? = some u := ⟨_, Array.getElem?_eq_getElem hj⟩
          have h3 := hg2.cells C.w rfl
          simp only [Builtin.firstCells] at h3
          rw [hu]
          have hl2 : l' * P.cellsOf e ≤ arr.size := by omega
          have h4 := run_loadCells (P := P) C.w ⟨C.σ id, 0, none⟩ (l' * P.cellsOf e) (fun j => arr.getD j undef) (fun j hj => by
           rw [zai, cell_of_row C.w _ _ arr e' _ hw]
           have : 0 + j < arr.size := by omega
           simp [Array.getD, this, show j < arr.size by omega])
          rw [h4] at h3
          simp only [Result.ok.injEq] at h3
          have h5 := h3.1
          rw [← h5] at hu
          have hj2 : j < l' * P.cellsOf e := by rw [← hg2.size]; exact hj
          simp [hj2] at hu
          have hja : j < arr.size := by omega
          simp [Array.getD, hja] at hu
          rw [Array.getElem?_eq_getElem hja, hu]
         refine ⟨_, C.claim (C.σ id) (C.w.setRow (C.σ id) narr), fun dst g => .inl (hexec _ l' c' _ _ hxv hr dst g), zcl (w' := C.w.setRow (C.σ id) narr) hm ho hlo (.inl rfl) rfl rfl rfl (by rw [size_setRow]; exact Nat.le_refl _) hwk hsz3 ?_ hs.k hof, hs.env.mono htr, ?_, rfl⟩
         ·refine ⟨narr, e', by simp only [Cx.claim, if_true]; exact hws, zqd htr (rest := []) hg2.rep (by rw [hg2.count, hg2.size]) hg.rep (fun j hj => ?_) (fun j hj => ?_)⟩
          ·rw [← hnr, zsm arr _ us.toList hfit, if_neg (by rw [← hg2.size]; omega)]
           exact holds j hj
          ·rw [← hnr, zsm arr _ us.toList hfit, if_pos (by rw [hg2.size, hus, ← hg.size]; omega), Array.getElem?_toList]
           congr 1; rw [hg2.size]; omega
         ·rw [hlen]
          conv => arg 4; rw [← hσn]
          exact .osl0 C.n 0 _ _ none c' 0 _ e' (by simp [Cx.claim]) (by omega) (fun k hk => by cases hk) (.inl rfl) (by rw [hσn]; exact hws) (by rw [hsp]; exact hss)
        ·omega
     ·cases h
   ·cases h
  ·rename_i id off sz' l c heq
   split at h
   ·rename_i hsr
    obtain ⟨rfl, hroom⟩ := hsr
    rw [heq] at hax
    generalize hxv : a.eval x = v at hax
    cases hax with
    | osl _ _ _ _ _ c' ad arr e' hid hl hk' ha hw hss =>
     obtain ⟨arr, fz0, hw, rfl⟩ := hw
     have hcc := hk' c rfl
     subst hcc
     split at h
     ·rename_i cs hrich
      split at h
      ·rename_i hfitc
       simp only [Option.some.injEq, Prod.mk.injEq] at h
       obtain ⟨rfl, rfl⟩ := h
       obtain ⟨o, ho, hlo, hmo, hof, rfl, hcs⟩ : ∃ o, s.mem[id]? = some o ∧ o.live = true ∧ o.moved = false ∧ o.isFix = false ∧ fz0 = (0, 0) ∧ ∀ (j : Nat) x, cs[j]? = some x → ∃ u : Value, arr[j]? = some u ∧ u.oneCell' = true ∧ ARep num C x u := by
        unfold richOf at hrich
        split at hrich
        ·rename_i ho
         cases hrich
         obtain ⟨arr2, e2, hw2, hcs⟩ := hm.obj id _ ho
         rw [hw] at hw2
         obtain ⟨rfl, rfl, rfl⟩ : arr = arr2 ∧ e' = e2 ∧ fz0 = (0, 0) := by simpa using hw2
         exact ⟨_, ho, rfl, rfl, rfl, rfl, hcs⟩
        ·rename_i cs0 ho
         cases hrich
         obtain ⟨arr2, e2, hw2, hcs⟩ := hm.obj id _ ho
         rw [hw] at hw2
         obtain ⟨rfl, rfl, rfl⟩ : arr = arr2 ∧ e' = e2 ∧ fz0 = (0, 0) := by simpa using hw2
         refine ⟨_, ho, rfl, rfl, rfl, rfl, fun j x hx => ?_⟩
         rw [List.getElem?_map] at hx
         cases hq : cs0[j]? with
         | none => simp [hq] at hx
         | some y =>
          simp [hq] at hx; subst hx
          obtain ⟨u, hu, hr'⟩ := hcs j y hq
          exact ⟨u, hu, hr'.one, .imm y _ hr'⟩
        ·cases hrich
       have hcl : cs.length ≤ arr.size := by
        rcases Nat.lt_or_ge arr.size cs.length with h1 | h1
        ·obtain ⟨u, hu, _⟩ := hcs arr.size _ (List.getElem?_eq_getElem h1)
         rw [Array.getElem?_eq_none (Nat.le_refl _)] at hu; cases hu
        ·exact h1
       rcases ha with rfl | h00
       ·have hus : us.toList.length = n * P.cellsOf e := by rw [Array.length_toList, hg.size]
        have hfit : ad + l * P.cellsOf e + us.toList.length ≤ arr.size := by rw [hus, Nat.add_assoc, ← Nat.add_mul]; omega
        have hone : ∀ u ∈ us.toList, u.oneCell' = true := by
         intro u hu
         obtain ⟨j, hj⟩ := List.getElem?_of_mem hu
         rw [Array.getElem?_toList] at hj
         have hlt : j < news.length := by rw [hg.count, ← hg.size]; exact (Array.getElem?_eq_some_iff.1 hj).1
         obtain ⟨u', hu', h1, _⟩ := hg.rep j news[j] (List.getElem?_eq_getElem hlt)
         rw [hj] at hu'
         cases hu'
         exact h1
        have hst := run_storeCells_at P (C.σ id) (ad + l * P.cellsOf e) e' us.toList 0 arr C.w hw (by rw [Nat.add_zero]; exact hfit) hone
        simp only [Nat.add_zero] at hst
        have hr := zqx (P := P) (ty := ty) ht hu hd hi C.w (some ⟨C.σ id, ad, none⟩) l c' n (a.eval y) us (hg.len _) (by rw [← hsz]; exact hg.cells _ rfl) hroom
         (fun ad' had => by cases had; rw [zai, ← hsz]; exact hst) (fun h => by cases h)
        have hsp := zsn arr (ad + l * P.cellsOf e) us.toList hfit
        have htr := zuh hm ho hlo hw hsp
        refine ⟨_, _, fun dst g => .inl (hexec _ l c' _ _ hxv hr dst g), zug (o' := .rich (setAll cs (ad + l * P.cellsOf e) news)) hm ho hlo hw hsp rfl (fun _ => hmo) ?_ hs.k hof, hs.env.mono htr, ?_, rfl⟩
        ·refine ⟨_, e', by show (C.w.setRow _ _).heap[_]? = _; rw [zr0 _ _ _ _ _ hw, if_pos rfl], fun j x hx => ?_⟩
         have hnl : news.length = us.toList.length := by rw [hg.count, hus]
         rw [zrx] at hx
         rw [zsm arr _ us.toList hfit]
         split at hx
         ·rename_i hj
          rw [if_pos (by omega)]
          obtain ⟨u, hu', h1, hr'⟩ := hg.rep _ x hx
          exact ⟨u, by rw [Array.getElem?_toList]; exact hu', h1, hr'.mono htr⟩
         ·rename_i hj
          have hj2 : j < cs.length := (List.getElem?_eq_some_iff.1 hx).1
          rw [if_neg (by omega)]
          obtain ⟨u, hu', h1, hr'⟩ := hcs j x hx
          exact ⟨u, hu', h1, hr'.mono htr⟩
        ·refine .osl0 id ad _ _ _ c' ad _ e' hid (by omega) (fun k hk => by cases hk; rfl) (.inl rfl) (by show (C.w.setRow _ _).heap[_]? = _; rw [zr0 _ _ _ _ _ hw, if_pos rfl]) (by rw [hsp]; exact hss)
       ·exfalso; omega
      ·cases h
     ·cases h
   ·rename_i hno
    split at h
    ·rename_i hsz'
     subst hsz'
     have hgt : c < l + n := by
      rcases Nat.lt_or_ge c (l + n) with h1 | h1
      ·exact h1
      ·exact absurd ⟨rfl, h1⟩ hno
     cases hol : elemsR s.mem (P.cellsOf e) (.osl id off (P.cellsOf e) l (some c)) with
     | none => simp [hol] at h
     | some pp =>
      obtain ⟨l', old⟩ := pp
      simp only [hol] at h
      split at h
      ·rename_i hbd
       simp only [fresh, Option.some.injEq, Prod.mk.injEq] at h
       obtain ⟨rfl, rfl⟩ := h
       have hax0 := hax
       rw [heq] at hax0
       have hll : l' = l := by
        unfold elemsR at hol
        dsimp only at hol
        split at hol
        ·simp only [Option.map_eq_some_iff] at hol; obtain ⟨_, _, h⟩ := hol; cases h; rfl
        ·simp only [Option.map_eq_some_iff] at hol; obtain ⟨_, _, h⟩ := hol; cases h; rfl
        ·cases hol
       subst hll
       obtain ⟨olds, hg2⟩ := zgy (P := P) hm hax0 hol
       rw [heq] at hax
       generalize hxv : a.eval x = v at hax hg2
       cases hax with
       | osl _ _ _ _ _ c' ad arr e' hid hl hk' ha hw hss =>
        have hcc := hk' c rfl
        subst hcc
        have hr := zqw (P := P) (ty := ty) ht hu hd hi hzi C.w (some ⟨C.σ id, ad, none⟩) l' c' n (a.eval y) olds us (hg.len _) (by rw [← hsz]; exact hg.cells _ rfl) (by rw [← hsz]; exact hg2.cells _ rfl) hgt (by rw [← hby]; exact hbd) (by rw [← hby]; exact hb0)
        generalize hrest : Builtin.zeroCells z.cells (grownCap C.w (l' + n) c' e - (l' + n)) = rest at hr
        have htr := zk3 (w1 := C.w.drew) hm rfl (.cells (olds ++ us ++ rest) e (0, 0))
        refine ⟨_, C.more C.w.drew (.cells (olds ++ us ++ rest) e), fun dst g => .inl (hexec _ l' c' _ _ hxv hr dst g), zk2 (w1 := C.w.drew) hm rfl rfl rfl rfl _ _ ?_ hs.k, hs.env.mono htr, ?_, rfl⟩
        ·refine ⟨olds ++ us ++ rest, e, ?_, zqd htr (rest := []) hg2.rep (by rw [hg2.count, hg2.size]) hg.rep (fun j hj => ?_) (fun j hj => ?_)⟩
         ·simp only [Cx.more, if_true]
          rw [zal, if_pos (show C.w.heap.size = C.w.drew.heap.size from rfl)]
         ·rw [Array.append_assoc, Array.getElem?_append_left hj]
         ·rw [Array.append_assoc, Array.getElem?_append_right (by omega), Array.getElem?_append_left (by omega)]
          congr 1; omega
        ·have hge := grownCap_ge C.w (l' + n) c' e
         rw [hlen]
         refine zk1 (w1 := C.w.drew) rfl _ e (zg4 (by assumption) hb0) (fun k hk => by cases hk) (.inr ?_)
         have hrs : rest.size = (grownCap C.w (l' + n) c' e - (l' + n)) * P.cellsOf e := by rw [← hrest, zwk, hzs]
         rw [Array.size_append, Array.size_append, hg2.size, hg.size, hrs, ← Nat.add_mul, ← Nat.add_mul]
         exact Nat.le_of_eq (by congr 1; omega)
      ·cases h
    ·cases h
  ·cases h
theorem zvv (hs : SRep num C s a) {t u e : TypeId} {d : TypeDesc} {x y : Operand} {x' y' : Src} (ht : P.underlying t = some (.slice e)) (hu : P.underlying u = some d) (hd : notIntD d = true) (hk : known P e = true) (h0 : 0 < P.cellsOf e) (hb0 : 0 < P.bytesOf e)
  (hz : zeroOk P e = true) (hx : trSrc num x = some x') (hy : trSrc num y = some y') {r : AV} {s' : St} (h : exAppendX s (P.cellsOf e) (P.bytesOf e) (s.env.ev x') (s.env.ev y') = some (r, s')) :
  Yields num P (.call { callee := .builtin .append, args := #[x, y], argTypes := #[t, u] }) ty pos after a C s r s' := by
 unfold exAppendX at h
 split at h
 ·rename_i q hq
  cases h
  exact zvs hs ht hu hd hk h0 hb0 hz hx hy hq
 ·exact zvt hs ht hu hd hk h0 hb0 hz hx hy h
end
end Go.EX


namespace Go.EX
section
variable {num : Names} {P : Program}
variable {ty : TypeId} {pos : String} {after : Array Edge} {a : Act} {C : Cx} {s : St}
theorem zf6 {t : TypeId} {ks : List Nat} (h : flatStruct P t = some ks) : ∃ fs, P.underlying t = some (.struct fs) ∧ P.stoodInHeld t = false ∧ P.eqGuardType P.depth t = false ∧ (∀ f ∈ fs.toList, f.name ≠ "_") ∧ fs.toList.map (·.offset) = List.range fs.size ∧ fs.toList.mapM (fun f => kindOf (P.underlying f.type)) = some ks := by
 unfold flatStruct at h
 split at h
 ·rename_i fs ht
  split at h
  ·rename_i hc
   simp only [Bool.and_eq_true, Bool.not_eq_true', beq_iff_eq] at hc
   obtain ⟨⟨⟨h1, h2⟩, h3⟩, h4⟩ := hc
   refine ⟨fs, ht, h1, h2, fun f hf => ?_, h4, h⟩
   rw [Array.all_eq_true_iff_forall_mem] at h3
   have := h3 f (by simpa using hf)
   simpa using this
  ·cases h
 ·cases h
theorem zrb {t : TypeId} {k0 : Nat} (ht : kindOf (P.underlying t) = some k0) {us : Array Value} {k : Nat} {u : Value} (hu : us[k]? = some u) (w : World) : (part t us k).run P w = .ok u w := by
 have : (isAgg t).run P w = .ok false w := by
  unfold kindOf at ht
  split at ht <;> first | (rename_i h; simp [isAgg, run_underlying h]) | cases ht
 simp [part, this, hu]
theorem zrt (d : Nat) {us vs : Array Value} (w : World) : ∀ (fs : List Field) (ks : List Nat) (k : Nat) (xs ys : List AV) (b : Bool), fs.map (·.offset) = List.range' k fs.length → (∀ f ∈ fs, f.name ≠ "_") → fs.mapM (fun f => kindOf (P.underlying f.type)) = some ks →
  (∀ (j : Nat) x, xs[j]? = some x → ∃ u, us[k + j]? = some u ∧ ARep num C x u) → (∀ (j : Nat) x, ys[j]? = some x → ∃ u, vs[k + j]? = some u ∧ ARep num C x u) →
  sameCells ks xs ys = some b → (Op.eqFields (d + 1) us vs fs).run P w = .ok b w
 | [], ks, k, xs, ys, b, _, _, hk, _, _, h => by
  simp at hk
  subst hk
  unfold sameCells at h
  split at h <;> simp_all
  rfl
 | f :: fs, ks, k, xs, ys, b, ho, hp, hk, hx, hy, h => by
  simp only [List.mapM_cons, Option.bind_eq_bind, Option.bind_eq_some_iff, Option.pure_def, Option.some.injEq] at hk
  obtain ⟨k0, hk0, ks', hks, rfl⟩ := hk
  have hoff : f.offset = k := by
   simp only [List.map_cons, List.length_cons, List.range'_succ, List.cons.injEq] at ho
   exact ho.1
  have ho' : fs.map (·.offset) = List.range' (k + 1) fs.length := by
   simp only [List.map_cons, List.length_cons, List.range'_succ, List.cons.injEq] at ho
   exact ho.2
  have hn := hp f (by simp)
  have go : ∀ x xs' y ys' q b', xs = x :: xs' → ys = y :: ys' → (∀ u v, ARep num C x u → ARep num C y v → (Op.equalIn (d + 1) f.type u v).run P w = .ok q w) → sameCells ks' xs' ys' = some b' → (Op.eqFields (d + 1) us vs (f :: fs)).run P w = .ok (q && b') w := by
   rintro x xs' y ys' q b' rfl rfl hq hb'
   obtain ⟨u, hu, hur⟩ := hx 0 x rfl
   obtain ⟨v, hv, hvr⟩ := hy 0 y rfl
   simp only [Nat.add_zero] at hu hv
   have e := zrt d w fs ks' (k + 1) xs' ys' b' ho' (fun g hg => hp g (by simp [hg])) hks
    (fun j z hz => by have := hx (j + 1) z (by simpa using hz); rwa [show k + (j + 1) = k + 1 + j by omega] at this)
    (fun j z hz => by have := hy (j + 1) z (by simpa using hz); rwa [show k + (j + 1) = k + 1 + j by omega] at this) hb'
   simp only [Op.eqFields]
   rw [if_pos hn]
   simp only [hoff, Sem.run_bind, zrb hk0 hu, zrb hk0 hv, Result.andThen_ok, hq u v hur hvr]
   cases q
   ·simp
   ·simp [e]
  unfold sameCells at h
  split at h
  ·simp_all
  ·rename_i ks2 k1 i1 xs2 k2 j1 ys2 heq
   cases heq
   split at h
   ·rename_i hkk
    subst hkk
    cases hs : sameCells ks' xs2 ys2 with
    | none => simp [hs] at h
    | some b' =>
     simp [hs] at h
     subst h
     refine go _ _ _ _ _ b' rfl rfl (fun u v hur hvr => ?_) hs
     have := zpy hur; subst this
     have := zpy hvr; subst this
     unfold kindOf at hk0
     split at hk0 <;> first | (cases hk0; done) | skip
     rename_i kk hk
     exact run_equalIn_int w d f.type k1 kk i1 j1 hk
   ·cases h
  ·rename_i ks2 i1 xs2 j1 ys2 heq
   cases heq
   cases hs : sameCells ks' xs2 ys2 with
   | none => simp [hs] at h
   | some b' =>
    simp [hs] at h
    subst h
    refine go _ _ _ _ _ b' rfl rfl (fun u v hur hvr => ?_) hs
    have := zpy hur; subst this
    have := zpy hvr; subst this
    unfold kindOf at hk0
    split at hk0 <;> first | (cases hk0; done) | skip
    rename_i hk
    exact Go.run_equalIn_bool w d f.type i1 j1 hk
  ·rename_i ks2 i1 xs2 j1 ys2 heq
   cases heq
   cases hs : sameCells ks' xs2 ys2 with
   | none => simp [hs] at h
   | some b' =>
    simp [hs] at h
    subst h
    refine go _ _ _ _ _ b' rfl rfl (fun u v hur hvr => ?_) hs
    have := zpy hur; subst this
    have := zpy hvr; subst this
    unfold kindOf at hk0
    split at hk0 <;> first | (cases hk0; done) | skip
    rename_i hk
    rw [run_equalIn_string w d f.type i1 j1 hk, ← beq_toListBytes]
  ·cases h
theorem zv1 (hs : SRep num C s a) {t yt : TypeId} {ks : List Nat} {x y : Operand} {x' y' : Src} {neg : Bool} (hx : trSrc num x = some x') (hy : trSrc num y = some y') (hf : flatStruct P t = some ks) {xs ys : List AV} (h1 : s.env.ev x' = .agg xs) (h2 : s.env.ev y' = .agg ys) {b : Bool} (hb : sameCells ks xs ys = some b) :
  Yields num P (.binOp (if neg then .neq else .eql) t x y yt) ty pos after a C s (.imm (.val (.bool (if neg then !b else b)))) s := by
 obtain ⟨fs, ht, hst, hg, hn, ho, hk⟩ := zf6 hf
 have hax := zsp hs hx
 have hay := zsp hs hy
 rw [h1] at hax
 rw [h2] at hay
 generalize hu : a.eval x = u at hax
 generalize hv : a.eval y = v at hay
 cases hax with
 | agg _ us hul hu1 hur =>
  cases hay with
  | agg _ vs hvl hv1 hvr =>
   have hfo : P.fieldsOf t = fs := by simp [Program.fieldsOf, ht]
   have get : ∀ (l : List AV) (arr : Array Value), l.length = arr.size → (∀ (j : Nat) (x : AV) (u : Value), l[j]? = some x → arr[j]? = some u → ARep num C x u) → ∀ (j : Nat) x, l[j]? = some x → ∃ u, arr[0 + j]? = some u ∧ ARep num C x u := by
    intro l arr hl hr j x hx
    have hj : j < arr.size := by rw [← hl]; exact (List.getElem?_eq_some_iff.1 hx).1
    exact ⟨arr[j], by simp [hj], hr j x _ hx (by simp [hj])⟩
   have hrun : (Op.equalIn 10000 t (.agg us) (.agg vs)).run P C.w = .ok b C.w := by
    rw [show (10000 : Nat) = 9999 + 1 from rfl, run_equalIn_struct C.w 9999 t us vs (by rw [hfo]; exact ht) hst, hfo]
    refine zrt 9998 C.w fs.toList ks 0 xs ys b ?_ hn hk (get xs us hul hur) (get ys vs hvl hvr) hb
    rw [ho, List.range_eq_range', Array.length_toList]
   refine zwj (v := .bool (if neg then !b else b)) hs (fun _ _ => ?_) (.imm _ _ (.val _ rfl))
   cases neg
   ·simp only [execOp, hu, hv, Sem.run_bind, Bool.false_eq_true, if_false, run_eqGuard_agg C.w _ t x y us vs hg, Result.andThen_ok, run_eql_struct, hrun]
    rfl
   ·simp only [execOp, hu, hv, Sem.run_bind, if_true, run_eqGuard_agg C.w _ t x y us vs hg, Result.andThen_ok, run_neq_struct, hrun]
    rfl
end
end Go.EX


namespace Go.EX
section
variable {num : Names} {P : Program}
variable {ty : TypeId} {pos : String} {after : Array Edge} {a : Act} {C : Cx} {s : St}
def Callable (P : Program) (f : FuncId) : Prop := ∃ fn, P.funcs[f]? = some fn ∧ fn.name ≠ "runtime.NumGoroutine" ∧ fn.body.isSome = true
def ExtOK (num : Names) (P : Program) (call : Calls') : Prop :=
 ∀ f args m r m' C (vals : Array Value), call (num f) args m = some (r, m') → MRep num C m → args.length = vals.size → (∀ (j : Nat) (x : AV) (u : Value), args[j]? = some x → vals[j]? = some u → ARep num C x u) →
  Callable P f ∧ Calls P f vals C.w (fun e w' => ∃ v D, e = .returned v ∧ D.w = w' ∧ Step num m.length C m D m' ∧ ARep num D r v)
structure CallOK (num : Names) (P : Program) (call : Calls') : Prop where
 fn : ExtOK num P call
 yld : ∀ args m r m' C (l : Nat) (vals : Array Value), call yieldNo args m = some (r, m') → MRep num C m → args.length = vals.size + 1 → (∀ x, args[0]? = some x → ARep num C x (.func (.yield l) #[] #[])) →
  (∀ (j : Nat) (x : AV) (u : Value), args[j + 1]? = some x → vals[j]? = some u → ARep num C x u) →
  ∃ fn tmps assign body, (Instr.yield l vals).run P C.w = .ok (.round l fn tmps assign body) C.w ∧
   RoundIn Fence.wide 0 P l fn tmps assign body C.w (fun e w' => ∃ v D, e = .returned v ∧ D.w = w' ∧ Step num m.length C m D m' ∧ ARep num D r v)
 seat : ∀ e n off, liesB P e n off = true → num.B e n off
 byte : ∀ e, isU8 P e = true → P.cellsOf e = 1 → num.U e
def CallsTo (num : Names) (P : Program) (op : Op) (ty : TypeId) (pos : String) (after : Array Edge) (a : Act) (C : Cx) (s : St) (x : AV) (s' : St) : Prop :=
 ∃ f vals, (∀ dst g, (execOp a.eval ⟨dst, op, ty, pos, after, g⟩).run P C.w = .ok (.enter f vals) C.w) ∧
  Calls P f vals C.w (fun e w' => ∃ v D, e = .returned v ∧ D.w = w' ∧ Step num s.k C s.mem D s'.mem ∧ ERep num D s'.env a.tmps ∧ ARep num D x v ∧ s'.k = s.k)
def GoesRound (num : Names) (P : Program) (op : Op) (ty : TypeId) (pos : String) (after : Array Edge) (a : Act) (C : Cx) (s : St) (x : AV) (s' : St) : Prop :=
 ∃ l fn tmps assign body, (∀ dst g, (execOp a.eval ⟨dst, op, ty, pos, after, g⟩).run P C.w = .ok (.round l fn tmps assign body) C.w) ∧
  RoundIn Fence.wide 0 P l fn tmps assign body C.w (fun e w' => ∃ v D, e = .returned v ∧ D.w = w' ∧ Step num s.k C s.mem D s'.mem ∧ ERep num D s'.env a.tmps ∧ ARep num D x v ∧ s'.k = s.k)
theorem ext_tr {m : Mem} (hm : MRep num C m) {w' : World} {J : Nat → Prop} (hk : ∀ b, b < C.w.heap.size → w'.heap[b]? = C.w.heap[b]?) (hI : ∀ b, C.I b → J b) : Tr some C { σ := C.σ, I := J, n := C.n, w := w' } := by
 refine ⟨hI, fun b hb => hk b (hm.bd b hb), fun i j hi hj => ?_⟩
 cases hj
 exact ⟨hi, rfl, fun _ _ h => h.same (hk _ h.lt)⟩
theorem zfq {m : Mem} (hm : MRep num C m) {w' : World} {J : Nat → Prop} (hos : w'.os = C.w.os) (htp : w'.tape = C.w.tape) (hout : w'.output = C.w.output) (hsize : C.w.heap.size ≤ w'.heap.size) (hk : ∀ b, b < C.w.heap.size → w'.heap[b]? = C.w.heap[b]?)
  (hI : ∀ b, C.I b → J b) (hI' : ∀ b, J b → C.I b ∨ C.w.heap.size ≤ b) (hbd : ∀ b, J b → b < w'.heap.size) {k : Nat} (hkm : k ≤ m.length) : Step num k C m { σ := C.σ, I := J, n := C.n, w := w' } m := by
 have ht := ext_tr hm hk hI
 have hown : ∀ b, Own { σ := C.σ, I := J, n := C.n, w := w' } m b → Own C m b := fun b h => h
 refine ⟨⟨hm.len, fun i o ho => ?_, hm.inj, fun b hb hJ => ?_, hbd, num.up hm.glo ht.imm ht.keep⟩, hos, htp, hout, hsize, fun b hb _ => hk b hb, fun _ _ _ h => h.same (hk _ h.lt), hI, fun b hb => ?_, fun b hb => .inr (hown b hb), fun i _ o' ho hmv => ⟨o', ho, hmv, rfl⟩, hkm⟩
 ·have hob := hm.obj i o ho
  exact zmw ht rfl (fun x h => by show w'.heap[_]? = _; rw [hk _ (Array.getElem?_eq_some_iff.1 h).1]; exact h) hob
 ·rcases hI' b hJ with h | h
  ·exact hm.imm b hb h
  ·have := MRep.lt num hm hb; omega
 ·rcases hI' b hb with h | h
  ·exact .inl h
  ·exact .inr (.inl h)
theorem zgk (m : Mem) (n : Nat) (x : IV) : frzV m n (.imm x) = some x := by cases n <;> rfl
theorem zj1 {α β : Type} (f : α → Option β) : ∀ (l : List α) (r : List β), l.mapM f = some r → r.length = l.length ∧ ∀ (j : Nat) y, r[j]? = some y → ∃ x, l[j]? = some x ∧ f x = some y
 | [], r, h => by simp at h; subst h; exact ⟨rfl, fun j y hy => by simp at hy⟩
 | x :: l, r, h => by
  simp only [List.mapM_cons, Option.bind_eq_bind, Option.bind_eq_some_iff, Option.pure_def, Option.some.injEq] at h
  obtain ⟨y, hy, r', hr, rfl⟩ := h
  obtain ⟨h1, h2⟩ := zj1 f l r' hr
  refine ⟨by simp [h1], fun j z hz => ?_⟩
  cases j with
  | zero => simp at hz; subst hz; exact ⟨x, rfl, hy⟩
  | succ j => simp at hz; obtain ⟨q, h3, h4⟩ := h2 j z hz; exact ⟨q, by simpa using h3, h4⟩
def Cx.view (C : Cx) (m : Mem) (num : Names) : Cx := { σ := C.σ, I := fun b => C.I b ∨ Own C m b, n := 0, w := C.w }
theorem zus {m : Mem} (hm : MRep num C m) : MRep num (C.view m num) [] :=
 ⟨rfl, fun i o h => by simp at h, fun i j o p h => by simp at h, fun b ⟨i, o, h, _⟩ => by simp at h, fun b hb => by
  rcases hb with h | h
  ·exact hm.bd b h
  ·exact MRep.lt num hm h, num.up hm.glo (fun b h => .inl h) fun _ _ => rfl⟩
theorem zgh {m : Mem} (hm : MRep num C m) : ∀ (n : Nat) (x : AV) (y : IV) (v : Value), frzV m n x = some y → ARep num C x v → IRep (C.view m num).I C.w y v
 | n, .imm x, y, v, h, hx => by
  rw [zgk] at h
  cases h
  cases hx with | imm _ _ hx => exact hx.mono (fun _ h => .inl h) (fun _ _ => rfl)
 | 0, .osl .., y, v, h, hx => by cases h
 | 0, .optr .., y, v, h, hx => by cases h
 | n, .omap .., y, v, h, hx => by cases n <;> cases h
 | n, .clo .., y, v, h, hx => by cases n <;> cases h
 | n, .agg .., y, v, h, hx => by cases n <;> cases h
 | n, .tup .., y, v, h, hx => by cases n <;> cases h
 | n, .yld .., y, v, h, hx => by cases n <;> cases h
 | n, .seat .., y, v, h, hx => by cases n <;> cases h
 | n, .tag b a x, y, v, h, hx => by
  have : frzV m n (.tag b a x) = some x := by cases n <;> rfl
  rw [this] at h
  cases h
  cases hx with | tag _ _ _ _ hx ha => exact hx.mono (fun _ h => .inl h) (fun _ _ => rfl)
 | n, .err, y, v, h, hx => by cases n <;> cases h
 | n, .junk, y, v, h, hx => by cases n <;> cases h
 | n + 1, .osl id off sz len cap, y, v, h, hx => by
  simp only [frzV] at h
  cases hx with
  | osl _ _ _ _ _ c ad arr0 e0 hid hl hk ha hw hs =>
   split at h
   ·rename_i cs mv ho
    cases h
    obtain ⟨arr, e, h1, h2⟩ := hm.obj id _ ho
    have hget : ∀ (j : Nat) x, cs[j]? = some x → C.w.cell? ⟨C.σ id, 0 + j, none⟩ = some (arr.getD j undef) ∧ IRep C.I C.w x (arr.getD j undef) := by
     intro j x hx
     obtain ⟨u, hu, hr⟩ := h2 j x hx
     have : arr.getD j undef = u := by simp [Array.getD_eq_getD_getElem?, hu]
     rw [this]
     exact ⟨by rw [cell_of_row C.w _ _ arr e _ h1, Nat.zero_add]; exact hu, hr⟩
    exact .slice cs off len cap (C.σ id) 0 c ad (fun j => arr.getD j undef) (.inr ⟨id, _, ho, rfl, rfl⟩) (fun j x hx => (hget j x hx).1) (fun j x hx => (hget j x hx).2.mono (fun _ h => .inl h) (fun _ _ => rfl)) hl.1 hk (by rw [Nat.zero_add]; exact ha)
   ·rename_i cs ho
    simp only [Option.map_eq_some_iff] at h
    obtain ⟨row, hrow, rfl⟩ := h
    obtain ⟨arr, e, h1, h2⟩ := hm.obj id _ ho
    obtain ⟨_, h4⟩ := zj1 _ _ _ hrow
    have hget : ∀ (j : Nat) x, row[j]? = some x → C.w.cell? ⟨C.σ id, 0 + j, none⟩ = some (arr.getD j undef) ∧ IRep (C.view m num).I C.w x (arr.getD j undef) := by
     intro j x hx
     obtain ⟨q, hq, hf⟩ := h4 j x hx
     obtain ⟨u, hu, _, hr⟩ := h2 j q hq
     have : arr.getD j undef = u := by simp [Array.getD_eq_getD_getElem?, hu]
     rw [this]
     exact ⟨by rw [cell_of_row C.w _ _ arr e _ h1, Nat.zero_add]; exact hu, zgh hm n q x u hf hr⟩
    exact .slice row off len cap (C.σ id) 0 c ad (fun j => arr.getD j undef) (.inr ⟨id, _, ho, rfl, rfl⟩) (fun j x hx => (hget j x hx).1) (fun j x hx => (hget j x hx).2) hl.1 hk (by rw [Nat.zero_add]; exact ha)
   ·cases h
 | n + 1, .optr id off, y, v, h, hx => by
  simp only [frzV] at h
  cases hx with
  | optr _ _ hid =>
   split at h
   ·rename_i cs mv ho
    cases h
    obtain ⟨arr, e, h1, h2⟩ := hm.obj id _ ho
    have hget : ∀ (j : Nat) x, cs[j]? = some x → C.w.cell? ⟨C.σ id, 0 + j, none⟩ = some (arr.getD j undef) ∧ IRep C.I C.w x (arr.getD j undef) := by
     intro j x hx
     obtain ⟨u, hu, hr⟩ := h2 j x hx
     have : arr.getD j undef = u := by simp [Array.getD_eq_getD_getElem?, hu]
     rw [this]
     exact ⟨by rw [cell_of_row C.w _ _ arr e _ h1, Nat.zero_add]; exact hu, hr⟩
    have := IRep.ptr (I := (C.view m num).I) (w := C.w) cs off (C.σ id) 0 (fun j => arr.getD j undef) (.inr ⟨id, _, ho, rfl, rfl⟩) (fun j x hx => (hget j x hx).1) (fun j x hx => (hget j x hx).2.mono (fun _ h => .inl h) (fun _ _ => rfl))
    rwa [Nat.zero_add] at this
   ·rename_i cs ho
    simp only [Option.map_eq_some_iff] at h
    obtain ⟨row, hrow, rfl⟩ := h
    obtain ⟨arr, e, h1, h2⟩ := hm.obj id _ ho
    obtain ⟨_, h4⟩ := zj1 _ _ _ hrow
    have hget : ∀ (j : Nat) x, row[j]? = some x → C.w.cell? ⟨C.σ id, 0 + j, none⟩ = some (arr.getD j undef) ∧ IRep (C.view m num).I C.w x (arr.getD j undef) := by
     intro j x hx
     obtain ⟨q, hq, hf⟩ := h4 j x hx
     obtain ⟨u, hu, _, hr⟩ := h2 j q hq
     have : arr.getD j undef = u := by simp [Array.getD_eq_getD_getElem?, hu]
     rw [this]
     exact ⟨by rw [cell_of_row C.w _ _ arr e _ h1, Nat.zero_add]; exact hu, zgh hm n q x u hf hr⟩
    have := IRep.ptr (I := (C.view m num).I) (w := C.w) row off (C.σ id) 0 (fun j => arr.getD j undef) (.inr ⟨id, _, ho, rfl, rfl⟩) (fun j x hx => (hget j x hx).1) (fun j x hx => (hget j x hx).2)
    rwa [Nat.zero_add] at this
   ·cases h
theorem zgi {m : Mem} (hm : MRep num C m) {k : Nat} {cells : List AV} {l : List IV} {v : Value} (h : cells.mapM (frzV m k) = some l) (hx : ARep num C (.agg cells) v) (D : Cx) (hI : ∀ b, (C.view m num).I b → D.I b) (hw : D.w = C.w) : ARep num D (.agg (l.map .imm)) v := by
 cases hx with
 | agg _ vs hl h1 hr =>
  obtain ⟨h2, h3⟩ := zj1 _ _ _ h
  refine .agg _ vs (by rw [List.length_map, h2]; exact hl) h1 fun j x u hx hu => ?_
  rw [List.getElem?_map] at hx
  cases hq : l[j]? with
  | none => simp [hq] at hx
  | some y =>
   simp [hq] at hx
   subst hx
   obtain ⟨q, h4, h5⟩ := h3 j y hq
   exact .imm _ _ ((zgh hm k q y u h5 (hr j q u h4 hu)).mono hI (fun b _ => by rw [hw]))
theorem zgm {m : Mem} (hm : MRep num C m) {x y : AV} {v : Value} (h : frz m x = some y) (hx : ARep num C x v) (D : Cx) (hI : ∀ b, (C.view m num).I b → D.I b) (hw : D.w = C.w) : ARep num D y v := by
 have one : ∀ z, (frzV m 20 x).map AV.imm = some z → ARep num D z v := by
  intro z hz
  simp only [Option.map_eq_some_iff] at hz
  obtain ⟨i, hi, rfl⟩ := hz
  exact .imm _ _ ((zgh hm 20 x i v hi hx).mono hI (fun b _ => by rw [hw]))
 unfold frz at h
 split at h
 ·rename_i cells
  simp only [Option.map_eq_some_iff] at h
  obtain ⟨l, hl, rfl⟩ := h
  exact zgi hm hl hx D hI hw
 ·rename_i vs
  simp only [Option.map_eq_some_iff] at h
  obtain ⟨l, hl, rfl⟩ := h
  cases hx with
  | tup _ us hlen hr =>
   obtain ⟨h2, h3⟩ := zj1 _ _ _ hl
   refine .tup _ us (by rw [h2]; exact hlen) fun j x u hx hu => ?_
   obtain ⟨q, h4, h5⟩ := h3 j x hx
   have hq := hr j q u h4 hu
   unfold frz.frz1 at h5
   split at h5
   ·simp only [Option.map_eq_some_iff] at h5
    obtain ⟨l', hl', rfl⟩ := h5
    exact zgi hm hl' hq D hI hw
   ·simp only [Option.map_eq_some_iff] at h5
    obtain ⟨i, hi, rfl⟩ := h5
    exact .imm _ _ ((zgh hm 20 q i u hi hq).mono hI (fun b _ => by rw [hw]))
 ·rename_i fn caps
  simp only [Option.map_eq_some_iff] at h
  obtain ⟨l, hl, rfl⟩ := h
  cases hx with
  | clo g _ us hlen hr =>
   obtain ⟨h2, h3⟩ := zj1 _ _ _ hl
   refine .clo g _ us (by rw [h2]; exact hlen) fun j x u hx hu => ?_
   obtain ⟨q, h4, h5⟩ := h3 j x hx
   have hq := hr j q u h4 hu
   unfold frz.frzC at h5
   split at h5
   ·cases h5
    exact hq.tr (f := fun _ => none) ⟨fun b hb => hI b (.inl hb), fun b _ => by rw [hw], fun id j _ hj => by cases hj⟩
   ·simp only [Option.map_eq_some_iff] at h5
    obtain ⟨i, hi, rfl⟩ := h5
    exact .imm _ _ ((zgh hm 20 q i u hi hq).mono hI (fun b _ => by rw [hw]))
 ·exact one _ h
theorem zgl {m : Mem} {x y : AV} (hi : x.isImm = true) (h : frz m x = some y) : y = x := by
 unfold AV.isImm at hi
 split at hi
 ·rename_i z
  simp [frz, zgk] at h
  exact h.symm
 ·rename_i cells
  obtain ⟨xs, hxs⟩ := Option.isSome_iff_exists.1 hi
  have := zhj cells xs hxs
  subst this
  simp only [frz] at h
  have hm : ∀ l : List IV, (l.map AV.imm).mapM (frzV m 20) = some l := by
   intro l
   induction l with
   | nil => rfl
   | cons z l ih => simp [zgk, ih]
  rw [hm] at h
  exact (Option.some.inj h).symm
 ·cases hi
theorem zhg {x : AV} (hi : x.isImm = true) {v : Value} (hx : ARep num C x v) (D : Cx) (hI : ∀ b, C.I b → D.I b) (hw : D.w = C.w) : ARep num D x v := by
 unfold AV.isImm at hi
 split at hi
 ·cases hx with | imm _ _ h => exact .imm _ _ (h.mono hI (fun b _ => by rw [hw]))
 ·rename_i cells
  obtain ⟨xs, hxs⟩ := Option.isSome_iff_exists.1 hi
  have := zhj cells xs hxs
  subst this
  cases hx with
  | agg _ vs hl h1 hr =>
   refine .agg _ vs hl h1 fun j x u hx hu => ?_
   have hr' := hr j x u hx hu
   rw [List.getElem?_map] at hx
   cases hq : xs[j]? with
   | none => simp [hq] at hx
   | some y => simp [hq] at hx; subst hx; cases hr' with | imm _ _ h => exact .imm _ _ (h.mono hI (fun b _ => by rw [hw]))
 ·cases hi
theorem znu {x : AV} (hp : x.plain1 = true) {v : Value} (hx : ARep num C x v) (D : Cx) : ARep num D x v := by
 unfold AV.plain1 at hp
 split at hp
 ·cases hx with | imm _ _ h => cases h with | val _ h => exact .imm _ _ (.val _ h)
 ·cases hx with | err t v => exact .err t v
 ·cases hp
theorem znw {x : AV} (hp : x.plain2 = true) {v : Value} (hx : ARep num C x v) (D : Cx) : ARep num D x v := by
 unfold AV.plain2 at hp
 split at hp
 ·rename_i cells
  cases hx with
  | agg _ vs hl h1 hr => exact .agg _ vs hl h1 fun j x u hx hu => znu (List.all_eq_true.1 hp x (List.mem_of_getElem? hx)) (hr j x u hx hu) D
 ·exact znu hp hx D
theorem zn0 {x : AV} (hp : x.plain = true) {v : Value} (hx : ARep num C x v) (D : Cx) : ARep num D x v := by
 unfold AV.plain at hp
 split at hp
 ·rename_i xs
  cases hx with
  | tup _ vs hl hr => exact .tup _ vs hl fun j x u hx hu => znw (List.all_eq_true.1 hp x (List.mem_of_getElem? hx)) (hr j x u hx hu) D
 ·exact znw hp hx D
theorem zay {m : Mem} (hm : MRep num C m) {args bs : List AV} (h : args.mapM (frz m) = some bs) {vals : Array Value} (hl : args.length = vals.size) (hr : ∀ (j : Nat) (x : AV) (u : Value), args[j]? = some x → vals[j]? = some u → ARep num C x u)
  (D : Cx) (hI : ∀ b, (C.view m num).I b → D.I b) (hw : D.w = C.w) : bs.length = vals.size ∧ ∀ (j : Nat) (x : AV) (u : Value), bs[j]? = some x → vals[j]? = some u → ARep num D x u := by
 obtain ⟨h1, h2⟩ := zj1 _ _ _ h
 refine ⟨by rw [h1]; exact hl, fun j x u hx hu => ?_⟩
 obtain ⟨q, h3, h4⟩ := h2 j x hx
 exact zgm hm h4 (hr j q u h3 hu) D hI hw
theorem za0 (hs : SRep num C s a) : ∀ (xs : List Operand) (ys : List Src), xs.mapM (trSrc num) = some ys → (ys.map s.env.ev).length = (xs.map a.eval).toArray.size ∧ ∀ (j : Nat) (x : AV) (u : Value), (ys.map s.env.ev)[j]? = some x → (xs.map a.eval).toArray[j]? = some u → ARep num C x u := by
 intro xs ys h
 obtain ⟨h1, h2⟩ := zj1 _ _ _ h
 refine ⟨by simp [h1], fun j x u hx hu => ?_⟩
 obtain ⟨y, hy, rfl⟩ := zj4 _ _ _ _ hx
 obtain ⟨o, ho, ht⟩ := h2 j y hy
 have : u = a.eval o := by simp [ho] at hu; exact hu.symm
 rw [this]
 exact zsp hs ht
theorem zq1 {f : FuncId} (hc : Callable P f) (args : Array Operand) (ats : Array TypeId) (w : World) (dst : Option Tmp) (g : Option (Nat × Bool)) :
  (execOp a.eval ⟨dst, .call { callee := .value (.func f), args := args, argTypes := ats }, ty, pos, after, g⟩).run P w = .ok (.enter f (args.toList.map a.eval).toArray) w := by
 obtain ⟨fn, h1, h2, h3⟩ := hc
 obtain ⟨body, hb⟩ := Option.isSome_iff_exists.1 h3
 have harr : args.map a.eval = (args.toList.map a.eval).toArray := by apply Array.ext'; simp
 simp [execOp, resolve, Deferred.ofValue, Act.eval, invoke, callFunc, h1, h2, hb, harr]
theorem y_view {call : Calls'} (hcall : CallOK num P call) (hs : SRep num C s a) {f : FuncId} {args : Array Operand} {ats : Array TypeId} {ys : List Src} (hy : args.toList.mapM (trSrc num) = some ys) {r : AV} {s' : St} (h : exView call s (num f) (ys.map s.env.ev) = some (r, s')) :
  CallsTo num P (.call { callee := .value (.func f), args := args, argTypes := ats }) ty pos after a C s r s' := by
 have hm := hs.mem
 obtain ⟨hl, hr⟩ := za0 hs args.toList ys hy
 unfold exView at h
 cases hf : (ys.map s.env.ev).mapM (frz s.mem) with
 | none => simp [hf] at h
 | some bs =>
  simp only [hf] at h
  cases hc : call (num f) bs [] with
  | none => simp [hc] at h
  | some rm =>
   obtain ⟨rv, mc⟩ := rm
   simp only [hc] at h
   split at h
   ·rename_i hp
    cases h
    have hvr := zus hm
    obtain ⟨h1, h2⟩ := zay hm hf hl hr (C.view s.mem num) (fun _ h => h) rfl
    obtain ⟨hcb, hcs⟩ := hcall.fn f bs [] r mc _ _ hc hvr h1 h2
    refine ⟨f, _, fun dst g => zq1 hcb args ats C.w dst g, hcs.mono ?_⟩
    rintro e w' ⟨v, D, rfl, rfl, hst, hrv⟩
    have hk : ∀ b, b < C.w.heap.size → D.w.heap[b]? = C.w.heap[b]? := fun b hb => hst.keep b hb fun ⟨i, o, h, _⟩ => by simp at h
    have htr := ext_tr (J := C.I) hm hk (fun _ h => h)
    have hext := zfq (J := C.I) hm hst.os hst.tape hst.out hst.size hk (fun _ h => h) (fun _ h => .inl h) (fun b hb => Nat.lt_of_lt_of_le (hm.bd b hb) hst.size) hs.k
    exact ⟨v, { σ := C.σ, I := C.I, n := C.n, w := D.w }, rfl, rfl, hext, hs.env.mono htr, zn0 hp hrv _, rfl⟩
   ·split at h
    ·rename_i _ himm
     simp only [Option.map_eq_some_iff, Prod.mk.injEq] at h
     obtain ⟨r', hr', rfl, rfl⟩ := h
     let C0 : Cx := { σ := C.σ, I := C.I, n := 0, w := C.w }
     have hC0 : MRep num C0 [] := ⟨rfl, fun i o h => by simp at h, fun i j o p h => by simp at h, fun b ⟨i, o, h, _⟩ => by simp at h, hm.bd, hm.glo⟩
     obtain ⟨h1, h2⟩ := zj1 _ _ _ hf
     have h3 : ∀ (j : Nat) (x : AV) (u : Value), bs[j]? = some x → (args.toList.map a.eval).toArray[j]? = some u → ARep num C0 x u := by
      intro j x u hx hu
      obtain ⟨q, hq, hfq⟩ := h2 j x hx
      have hqi := List.all_eq_true.1 himm q (List.mem_of_getElem? hq)
      have := zgl hqi hfq
      subst this
      exact zhg hqi (hr j x u hq hu) C0 (fun _ h => h) rfl
     obtain ⟨hcb, hcs⟩ := hcall.fn f bs [] rv mc C0 _ hc hC0 (by rw [h1]; exact hl) h3
     refine ⟨f, _, fun dst g => zq1 hcb args ats C.w dst g, hcs.mono ?_⟩
     rintro e w' ⟨v, D, rfl, rfl, hst, hrv⟩
     have hk : ∀ b, b < C.w.heap.size → D.w.heap[b]? = C.w.heap[b]? := fun b hb => hst.keep b hb fun ⟨i, o, h, _⟩ => by simp at h
     have hJ1 : ∀ b, C.I b → (D.view mc num).I b := fun b hb => .inl (hst.imm b hb)
     have hJ2 : ∀ b, (D.view mc num).I b → C.I b ∨ C.w.heap.size ≤ b := by
      intro b hb
      rcases hb with hb | hb
      ·rcases hst.imm' b hb with h | h | ⟨i, o, h, _⟩
       ·exact .inl h
       ·exact .inr h
       ·simp at h
      ·rcases hst.own b hb with h | ⟨i, o, h, _⟩
       ·exact .inr h
       ·simp at h
     have hJ3 : ∀ b, (D.view mc num).I b → b < D.w.heap.size := (zus hst.rep).bd
     exact ⟨v, { σ := C.σ, I := (D.view mc num).I, n := C.n, w := D.w }, rfl, rfl, zfq hm hst.os hst.tape hst.out hst.size hk hJ1 hJ2 hJ3 hs.k, hs.env.mono (ext_tr hm hk hJ1), zgm hst.rep hr' hrv _ (fun _ h => h) rfl, rfl⟩
    ·cases h
end
end Go.EX


namespace Go.EX
section
variable {num : Names} {P : Program}
variable {ty : TypeId} {pos : String} {after : Array Edge} {a : Act} {C : Cx} {s : St}
theorem zo3 (m : Mem) : ∀ (n : Nat) (todo acc : List Nat), acc.Nodup → (∀ x ∈ acc, x < m.length) → (reach m n todo acc).Nodup ∧ (∀ x ∈ reach m n todo acc, x < m.length) ∧ ∃ r, reach m n todo acc = acc ++ r
 | 0, todo, acc, h1, h2 => ⟨h1, h2, [], by simp [reach]⟩
 | n + 1, [], acc, h1, h2 => ⟨h1, h2, [], by simp [reach]⟩
 | n + 1, id :: todo, acc, h1, h2 => by
  simp only [reach]
  split
  ·exact zo3 m n todo acc h1 h2
  ·rename_i hid
   split
   ·rename_i hlt
    obtain ⟨h3, h4, r, hr⟩ := zo3 m n (todo ++ ((m[id]?).getD .dead).refs) (acc ++ [id]) (by rw [List.nodup_append]; exact ⟨h1, by simp, by intro x hx y hy; simp at hy; subst hy; intro e; subst e; exact hid hx⟩) (by
     intro x hx
     rw [List.mem_append] at hx
     rcases hx with hx | hx
     ·exact h2 x hx
     ·simp at hx; subst hx; exact hlt)
    exact ⟨h3, h4, id :: r, by rw [hr]; simp⟩
   ·exact zo3 m n todo acc h1 h2
theorem zmu {k : Nat} {roots : List Nat} {m : Mem} (hk : k ≤ m.length) : (order k roots m).Nodup ∧ (∀ x ∈ order k roots m, x < m.length) ∧ ∃ r, order k roots m = List.range k ++ r :=
 zo3 m 1000000000000 _ _ List.nodup_range (fun x hx => by rw [List.mem_range] at hx; omega)
theorem znq : ∀ (l : List Nat) (id i : Nat), place l id = some i → l[i]? = some id
 | [], id, i, h => by cases h
 | x :: l, id, i, h => by
  simp only [place] at h
  split at h
  ·rename_i e; cases h; simp [e]
  ·simp only [Option.map_eq_some_iff] at h
   obtain ⟨j, hj, rfl⟩ := h
   simp [znq l id j hj]
theorem zns : ∀ (l : List Nat) (id i : Nat), l.Nodup → l[i]? = some id → place l id = some i
 | [], id, i, _, h => by simp at h
 | x :: l, id, i, hn, h => by
  rw [List.nodup_cons] at hn
  simp only [place]
  cases i with
  | zero => simp at h; rw [if_pos h.symm]
  | succ i =>
   simp at h
   have : id ≠ x := fun e => hn.1 (e ▸ List.mem_of_getElem? h)
   rw [if_neg this, zns l id i hn.2 h]
   rfl
theorem znr {l : List Nat} {id : Nat} (h : id ∉ l) : place l id = none := by
 cases hp : place l id with
 | none => rfl
 | some i => exact absurd (List.mem_of_getElem? (znq l id i hp)) h
def Cx.pick (C : Cx) (l : List Nat) : Cx := { σ := fun i => C.σ (l.getD i 0), I := C.I, n := l.length, w := C.w }
theorem pick_σ {l : List Nat} {i id : Nat} (h : l[i]? = some id) : (C.pick l).σ i = C.σ id := by simp [Cx.pick, List.getD, h]
theorem znn (l : List Nat) : Tr (place l) C (C.pick l) := by
 refine ⟨fun _ h => h, fun _ _ => rfl, fun id j _ hj => ?_⟩
 have := znq l id j hj
 exact ⟨(List.getElem?_eq_some_iff.1 this).1, pick_σ this, fun _ _ h => h⟩
theorem znh {m : Mem} {l : List Nat} {i : Nat} {p : AObj} (h : (m.pickAll l)[i]? = some p) : ∃ id, l[i]? = some id ∧ p = ((m[id]?).getD .dead).ren (place l) := by
 obtain ⟨id, h1, h2⟩ := zj4 _ _ _ _ h
 exact ⟨id, h1, h2⟩
theorem zgr {m : Mem} {id : Nat} (h : ((m[id]?).getD .dead).live = true) : ∃ o, m[id]? = some o ∧ (m[id]?).getD .dead = o := by
 cases hq : m[id]? with
 | none => rw [hq] at h; cases h
 | some o => exact ⟨o, rfl, rfl⟩
theorem zgs {m : Mem} {id : Nat} (h : ((m[id]?).getD .dead).moved = false) : ∃ o, m[id]? = some o ∧ (m[id]?).getD .dead = o := by
 cases hq : m[id]? with
 | none => rw [hq] at h; cases h
 | some o => exact ⟨o, rfl, rfl⟩
theorem znj {m : Mem} {l : List Nat} {b : Nat} (h : Own (C.pick l) (m.pickAll l) b) : ∃ id o, id ∈ l ∧ m[id]? = some o ∧ o.live = true ∧ C.σ id = b := by
 obtain ⟨i, p, hp, hl, hb⟩ := h
 obtain ⟨id, h1, rfl⟩ := znh hp
 rw [zpq] at hl
 obtain ⟨o, ho, he⟩ := zgr hl
 rw [he] at hl
 exact ⟨id, o, List.mem_of_getElem? h1, ho, hl, by rw [← pick_σ h1]; exact hb⟩
theorem znk {m : Mem} (hm : MRep num C m) {l : List Nat} (hn : l.Nodup) : MRep num (C.pick l) (m.pickAll l) := by
 refine ⟨by simp [Mem.pickAll, Cx.pick], fun i p hp => ?_, fun i j p q hp hq hlp hlq he => ?_, fun b hb hI => ?_, hm.bd, hm.glo⟩
 ·obtain ⟨id, h1, rfl⟩ := znh hp
  cases hq : m[id]? with
  | none => trivial
  | some o => exact zmx (znn l) (pick_σ h1) (fun _ h => h) (hm.obj id o hq)
 ·obtain ⟨id, h1, rfl⟩ := znh hp
  obtain ⟨id2, h2, rfl⟩ := znh hq
  rw [zpq] at hlp hlq
  obtain ⟨o, ho, he1⟩ := zgr hlp
  obtain ⟨o2, ho2, he2⟩ := zgr hlq
  rw [he1] at hlp
  rw [he2] at hlq
  rw [pick_σ h1, pick_σ h2] at he
  rcases hm.inj id id2 o o2 ho ho2 hlp hlq he with this | htw
  ·subst this
   have e1 := zns l id i hn h1
   have e2 := zns l id j hn h2
   rw [e1] at e2
   exact .inl (Option.some.inj e2)
  ·rw [zub, he1, he2]
   exact .inr htw
 ·obtain ⟨id, o, _, ho, hl, hb⟩ := znj hb
  exact hm.imm b ⟨id, o, ho, hl, hb⟩ hI
theorem znl {m : Mem} (hm : MRep num C m) {k : Nat} (hk : k ≤ m.length) (roots : List Nat) : Step num k C m (C.pick (order k roots m)) (m.pickAll (order k roots m)) := by
 obtain ⟨h1, h2, r, hr⟩ := zmu (roots := roots) hk
 have hk' : ∀ i, i < k → (order k roots m)[i]? = some i := by
  intro i hi
  rw [hr, List.getElem?_append_left (by simpa using hi), List.getElem?_range hi]
 have hown : ∀ b, Own (C.pick (order k roots m)) (m.pickAll (order k roots m)) b → Own C m b := by
  intro b hb
  obtain ⟨id, o, _, ho, hl, hb⟩ := znj hb
  exact ⟨id, o, ho, hl, hb⟩
 refine ⟨znk hm h1, rfl, rfl, rfl, Nat.le_refl _, fun _ _ _ => rfl, fun _ _ _ h => h, fun _ h => h, fun _ h => .inl h, fun b hb => .inr (hown b hb), fun i hi p hp hmv => ?_, by rw [Mem.pickAll, List.length_map, hr]; simp⟩
 obtain ⟨id, h3, rfl⟩ := znh hp
 rw [hk' i hi] at h3
 cases h3
 rw [zpr] at hmv
 obtain ⟨o, ho, he⟩ := zgs hmv
 rw [he] at hmv
 exact ⟨o, ho, hmv, pick_σ (hk' i hi)⟩
theorem ztr (hs : SRep num C s a) (keep : List Nat) : ∃ D, D.w = C.w ∧ SRep num D (s.tidy keep) a ∧ Step num s.k C s.mem D (s.tidy keep).mem ∧ (s.tidy keep).k = s.k := by
 unfold St.tidy
 split
 ·exact ⟨C, rfl, ⟨hs.mem, hs.env.keep keep, hs.k⟩, .refl hs.mem hs.k, rfl⟩
 ·have hst := znl hs.mem hs.k (Env.roots (s.env.keep keep))
  exact ⟨C.pick (order s.k (Env.roots (s.env.keep keep)) s.mem), rfl, ⟨hst.rep, (hs.env.keep keep).tr (znn _), hst.len⟩, hst, rfl⟩
theorem zaz {f : Nat → Option Nat} {D : Cx} (t : Tr f C D) {args : List AV} {vals : Array Value} (hl : args.length = vals.size) (hr : ∀ (j : Nat) (x : AV) (u : Value), args[j]? = some x → vals[j]? = some u → ARep num C x u) :
  (AV.ren.renL f args).length = vals.size ∧ ∀ (j : Nat) (x : AV) (u : Value), (AV.ren.renL f args)[j]? = some x → vals[j]? = some u → ARep num D x u := by
 refine ⟨by rw [zpk]; exact hl, fun j x u hx hu => ?_⟩
 rw [zpi] at hx
 cases hq : args[j]? with
 | none => simp [hq] at hx
 | some y => simp [hq] at hx; subst hx; exact (hr j y u hq hu).tr t
theorem zmp (o : AObj) (b : Bool) : (o.orMoved b).live = o.live := by cases o <;> rfl
theorem zmq (o : AObj) (b : Bool) (h : (o.orMoved b).moved = false) : o.moved = false := by
 cases o with
 | flat cs m => simp [AObj.orMoved, AObj.moved] at h ⊢; exact h.1
 | rich => rfl
 | map => rfl
 | dead => cases h
 | fix cs m op => simp [AObj.orMoved, AObj.moved] at h ⊢; exact h.1
 | loop => rfl
 | text => rfl
 | iter => rfl
theorem zms {D : Cx} {id : Nat} {o : AObj} (b : Bool) (h : ORep num D id o) : ORep num D id (o.orMoved b) := by cases o <;> exact h
theorem zmr (o : AObj) : o.orMoved false = o := by cases o <;> simp [AObj.orMoved]
theorem zkx {l : List Nat} (hn : l.Nodup) {id : Nat} (h : id ∈ l) : ∃ i, place l id = some i := by
 obtain ⟨i, hi⟩ := List.getElem?_of_mem h
 exact ⟨i, zns l id i hn hi⟩
theorem zr4 {m : Mem} {l : List Nat} (h : shareOk m l = true) {i j : Nat} (hi : i ∈ l) (hj : j ∉ l) {o p : AObj} (ho : m[i]? = some o) (hp : m[j]? = some p) (ht : o.twin p) : False := by
 simp only [shareOk, Bool.or_eq_true, List.all_eq_true, Bool.not_eq_true', List.mem_range, List.contains_iff_mem] at h
 rcases h with h | h
 ·have := h i hi
  rw [ho, Option.getD_some, (zt9 ht).1] at this; cases this
 ·rcases h j (List.getElem?_eq_some_iff.1 hp).1 with h' | h'
  ·exact hj h'
  ·rw [hp, Option.getD_some, (zt9 ht).2] at h'; cases h'
def Cx.back (C D : Cx) (l : List Nat) (n' : Nat) : Cx :=
 { σ := fun id => match place l id with | some i => D.σ i | none => if id < C.n then C.σ id else D.σ (l.length + (id - C.n)), I := D.I, n := C.n + (n' - l.length), w := D.w }
theorem zr5 {call : Calls'} (hs : SRep num C s a) {fn : Nat} {args : List AV} {vals : Array Value} (hl : args.length = vals.size) (hr : ∀ (j : Nat) (x : AV) (u : Value), args[j]? = some x → vals[j]? = some u → ARep num C x u)
  {r : AV} {s' : St} (h : exShare call s fn args = some (r, s')) :
  ∃ l rv mc, call fn (AV.ren.renL (place l) args) (s.mem.pickAll l) = some (rv, mc) ∧ MRep num (C.pick l) (s.mem.pickAll l) ∧ (AV.ren.renL (place l) args).length = vals.size ∧
   (∀ (j : Nat) (x : AV) (u : Value), (AV.ren.renL (place l) args)[j]? = some x → vals[j]? = some u → ARep num (C.pick l) x u) ∧
   ∀ v D, Step num (s.mem.pickAll l).length (C.pick l) (s.mem.pickAll l) D mc → ARep num D rv v → ∃ E, E.w = D.w ∧ Step num s.k C s.mem E s'.mem ∧ ERep num E s'.env a.tmps ∧ ARep num E r v ∧ s'.k = s.k := by
 have hm := hs.mem
 have hlen := hm.len
 unfold exShare at h
 dsimp only at h
 obtain ⟨hnd, hlt, _⟩ := zmu (k := 0) (roots := AV.refs.refsL args) (m := s.mem) (Nat.zero_le _)
 generalize hlo : order 0 (AV.refs.refsL args) s.mem = l at h hnd hlt
 split at h
 ·cases h
 rename_i hokn
 have hok : shareOk s.mem l = true := by simpa using hokn
 have notin : ∀ {id : Nat}, place l id = none → id ∉ l := fun hp hmem => by
  obtain ⟨i, hi⟩ := zkx hnd hmem
  rw [hi] at hp; cases hp
 cases hc : call fn (AV.ren.renL (place l) args) (s.mem.pickAll l) with
 | none => simp [hc] at h
 | some rm =>
  obtain ⟨rv, mc⟩ := rm
  simp only [hc, Option.some.injEq, Prod.mk.injEq] at h
  obtain ⟨hrr, hss⟩ := h
  obtain ⟨hl1, hr1⟩ := zaz (znn l) hl hr
  refine ⟨l, rv, mc, hc, znk hm hnd, hl1, hr1, fun v D hst hrv => ?_⟩
  have hpl : (s.mem.pickAll l).length = l.length := by simp [Mem.pickAll]
  rw [hpl] at hst
  have hDn := hst.rep.len
  have hkl := hst.len
  let E := C.back D l mc.length
  have hEn : E.n = C.n + (mc.length - l.length) := rfl
  have hEI : E.I = D.I := rfl
  have hEw : E.w = D.w := rfl
  let back : Nat → Option Nat := fun i => if i < l.length then l[i]? else some (s.mem.length + (i - l.length))
  let stay : Nat → Option Nat := fun id => match place l id with
   | some i => if ((mc[i]?).getD .dead).moved then none else some id
   | none => some id
  have hEσ1 : ∀ id i, place l id = some i → E.σ id = D.σ i := by
   intro id i hp
   show (match place l id with | some i => D.σ i | none => _) = _
   rw [hp]
  have hEσ2 : ∀ id, place l id = none → id < C.n → E.σ id = C.σ id := by
   intro id hp hid
   show (match place l id with | some i => D.σ i | none => if id < C.n then C.σ id else _) = _
   rw [hp]
   simp [hid]
  have hnew : ∀ i, l.length ≤ i → place l (s.mem.length + (i - l.length)) = none := fun i _ => znr fun hmem => by have := hlt _ hmem; omega
  have hEσ3 : ∀ i, l.length ≤ i → E.σ (s.mem.length + (i - l.length)) = D.σ i := by
   intro i hi
   show (match place l (s.mem.length + (i - l.length)) with | some i => D.σ i | none => if _ < C.n then _ else D.σ (l.length + (s.mem.length + (i - l.length) - C.n))) = _
   rw [hnew i hi]
   have : ¬ (s.mem.length + (i - l.length) < C.n) := by omega
   simp only [this, if_false]
   congr 1
   omega
  have tback : Tr back D E := by
   refine ⟨fun _ h => h, fun _ _ => rfl, fun i j hi hj => ?_⟩
   simp only [back] at hj
   split at hj
   ·rename_i hil
    have hp := zns l j i hnd hj
    have hjm := hlt j (List.mem_of_getElem? hj)
    exact ⟨by rw [hEn]; omega, hEσ1 j i hp, fun _ _ h => h⟩
   ·rename_i hil
    cases hj
    exact ⟨by rw [hEn]; omega, hEσ3 i (by omega), fun _ _ h => h⟩
  have tstay : Tr stay C E := by
   refine ⟨hst.imm, fun b hb => ?_, fun id j hid hj => ?_⟩
   ·exact hst.keep b (hm.bd b hb) fun ho => by
     obtain ⟨id, o, _, ho, hlv, hb'⟩ := znj ho
     exact hm.imm b ⟨id, o, ho, hlv, hb'⟩ hb
   ·have hsz : ∀ n e, RowAt C.w (C.σ id) n e → RowAt (E.w) (C.σ id) n e := hst.sz _
    simp only [stay] at hj
    split at hj
    ·rename_i i hp
     split at hj
     ·cases hj
     ·rename_i hmv
      cases hj
      have hmv' : ((mc[i]?).getD .dead).moved = false := by simpa using hmv
      obtain ⟨o', ho', he⟩ := zgs hmv'
      rw [he] at hmv'
      have hil : i < l.length := (List.getElem?_eq_some_iff.1 (znq l id i hp)).1
      obtain ⟨_, _, _, hσ⟩ := hst.same i hil o' ho' hmv'
      exact ⟨by rw [hEn]; omega, by rw [hEσ1 id i hp, hσ, pick_σ (znq l id i hp)], hsz⟩
    ·rename_i hp
     cases hj
     exact ⟨by rw [hEn]; omega, hEσ2 id hp hid, hsz⟩
  have hmem : s'.mem = (List.range (s.mem.length + (mc.length - l.length))).map (shareAt s l mc back stay) := congrArg St.mem hss.symm
  have hget : ∀ (id : Nat) p, s'.mem[id]? = some p → id < s.mem.length + (mc.length - l.length) ∧ p = shareAt s l mc back stay id := by
   intro id p hp
   rw [hmem] at hp
   obtain ⟨q, hq, rfl⟩ := zj4 _ _ _ _ hp
   have hlt' : id < s.mem.length + (mc.length - l.length) := by have := (List.getElem?_eq_some_iff.1 hq).1; simpa using this
   rw [List.getElem?_range hlt'] at hq
   cases hq
   exact ⟨hlt', rfl⟩
  have hcase : ∀ (id : Nat) p, s'.mem[id]? = some p → (∃ i, place l id = some i ∧ p = (((mc[i]?).getD .dead).ren back).orMoved (((s.mem[id]?).getD .dead).moved)) ∨
    (place l id = none ∧ id < s.mem.length ∧ p = ((s.mem[id]?).getD .dead).ren stay) ∨ (∃ i, l.length ≤ i ∧ i < mc.length ∧ id = s.mem.length + (i - l.length) ∧ p = ((mc[i]?).getD .dead).ren back) := by
   intro id p hp
   obtain ⟨h1, rfl⟩ := hget id p hp
   unfold shareAt
   cases hpl : place l id with
   | some i => exact .inl ⟨i, rfl, rfl⟩
   | none =>
    by_cases hid : id < s.mem.length
    ·exact .inr (.inl ⟨rfl, hid, by simp [hid]⟩)
    ·refine .inr (.inr ⟨l.length + (id - s.mem.length), by omega, by omega, by omega, by simp [hid]⟩)
  have hobj : ∀ (id : Nat) p, s'.mem[id]? = some p → ORep num E id p := by
   intro id p hp
   rcases hcase id p hp with ⟨i, hpl', rfl⟩ | ⟨hpl', hid, rfl⟩ | ⟨i, hi, hi2, rfl, rfl⟩
   ·refine zms _ ?_
    cases hq : mc[i]? with
    | none => trivial
    | some o => exact zmx tback (hEσ1 id i hpl') (fun _ h => h) (hst.rep.obj i o hq)
   ·cases hq : s.mem[id]? with
    | none => trivial
    | some o =>
     by_cases hlv : o.live = true
     ·refine zmx tstay (hEσ2 id hpl' (by omega)) (fun x h => ?_) (hm.obj id o hq)
      show D.w.heap[C.σ id]? = _
      rw [hst.keep _ (Array.getElem?_eq_some_iff.1 h).1 fun ho => ?_]
      ·exact h
      ·obtain ⟨id2, o2, hmem2, ho2, hlv2, hb⟩ := znj ho
       rcases hm.inj id2 id o2 o ho2 hq hlv2 hlv hb with this | htw
       ·subst this
        exact notin hpl' hmem2
       ·exact zr4 hok hmem2 (notin hpl') ho2 hq htw
     ·cases o with
      | dead => trivial
      | _ => exact absurd rfl hlv
   ·cases hq : mc[i]? with
    | none => trivial
    | some o => exact zmx tback (hEσ3 i hi) (fun _ h => h) (hst.rep.obj i o hq)
  have hblock : ∀ (id : Nat) p, s'.mem[id]? = some p → p.live = true → (∃ i o, mc[i]? = some o ∧ o.live = true ∧ E.σ id = D.σ i ∧ (place l id = some i ∨ (l.length ≤ i ∧ id = s.mem.length + (i - l.length))) ∧ ∃ f b, p = (o.ren f).orMoved b) ∨ (∃ o, place l id = none ∧ s.mem[id]? = some o ∧ o.live = true ∧ E.σ id = C.σ id ∧ ∃ f b, p = (o.ren f).orMoved b) := by
   intro id p hp hlv
   rcases hcase id p hp with ⟨i, hpl', rfl⟩ | ⟨hpl', hid, rfl⟩ | ⟨i, hi, hi2, rfl, rfl⟩
   ·rw [zmp, zpq] at hlv
    obtain ⟨o, ho, he⟩ := zgr hlv
    rw [he] at hlv
    exact .inl ⟨i, o, ho, hlv, hEσ1 id i hpl', .inl hpl', _, _, by rw [he]⟩
   ·rw [zpq] at hlv
    obtain ⟨o, ho, he⟩ := zgr hlv
    rw [he] at hlv
    exact .inr ⟨o, hpl', ho, hlv, hEσ2 id hpl' (by omega), stay, false, by rw [he, zmr]⟩
   ·rw [zpq] at hlv
    obtain ⟨o, ho, he⟩ := zgr hlv
    rw [he] at hlv
    exact .inl ⟨i, o, ho, hlv, hEσ3 i hi, .inr ⟨hi, rfl⟩, back, false, by rw [he, zmr]⟩
  have hold : ∀ id o, place l id = none → s.mem[id]? = some o → o.live = true → ¬ Own D mc (C.σ id) := by
   intro id o hp ho hlv hown
   rcases hst.own _ hown with h | h
   ·have := MRep.lt num hm ⟨id, o, ho, hlv, rfl⟩
    have : (C.pick l).w.heap.size = C.w.heap.size := rfl
    omega
   ·obtain ⟨id2, o2, hmem2, ho2, hlv2, hb⟩ := znj h
    rcases hm.inj id2 id o2 o ho2 ho hlv2 hlv hb with this | htw
    ·subst this
     exact notin hp hmem2
    ·exact zr4 hok hmem2 (notin hp) ho2 ho htw
  have hownE : ∀ b, Own E s'.mem b → Own D mc b ∨ Own C s.mem b := by
   rintro b ⟨id, p, hp, hlv, hb⟩
   rcases hblock id p hp hlv with ⟨i, o, ho, hlo, hσ, _⟩ | ⟨o, _, ho, hlo, hσ, _⟩
   ·exact .inl ⟨i, o, ho, hlo, by rw [← hσ]; exact hb⟩
   ·exact .inr ⟨id, o, ho, hlo, by rw [← hσ]; exact hb⟩
  have hpick : ∀ b, Own (C.pick l) (s.mem.pickAll l) b → Own C s.mem b := by
   intro b hb
   obtain ⟨id, o, _, ho, hlv, hb⟩ := znj hb
   exact ⟨id, o, ho, hlv, hb⟩
  refine ⟨E, rfl, ⟨⟨by rw [hmem, hEn]; simp [hlen], hobj, ?_, ?_, hst.rep.bd, hst.rep.glo⟩, hst.os, hst.tape, hst.out, hst.size, fun b hb hno => hst.keep b hb fun ho => hno (hpick b ho), hst.sz, hst.imm, ?_, ?_, ?_, ?_⟩, ?_, ?_, by rw [← hss]⟩
  ·intro i j p q hp hq hlp hlq he
   rcases hblock i p hp hlp with ⟨i', o, ho, hlo, hσ, hw1, f1, b1, hpe⟩ | ⟨o, hpn, ho, hlo, hσ, f1, b1, hpe⟩ <;> rcases hblock j q hq hlq with ⟨j', o2, ho2, hlo2, hσ2, hw2, f2, b2, hqe⟩ | ⟨o2, hpn2, ho2, hlo2, hσ2, f2, b2, hqe⟩
   ·rw [hσ, hσ2] at he
    rcases hst.rep.inj i' j' o o2 ho ho2 hlo hlo2 he with this | htw
    case inr => right; rw [hpe, hqe, zua, zub]; exact htw
    subst this
    left
    rcases hw1 with h1 | ⟨h1, rfl⟩ <;> rcases hw2 with h2 | ⟨h2, rfl⟩
    ·have e1 := znq l i i' h1
     have e2 := znq l j i' h2
     rw [e1] at e2
     exact Option.some.inj e2
    ·have := (List.getElem?_eq_some_iff.1 (znq l i i' h1)).1; omega
    ·have := (List.getElem?_eq_some_iff.1 (znq l j i' h2)).1; omega
    ·rfl
   ·exact absurd ⟨i', o, ho, hlo, by rw [← hσ, ← hσ2]; exact he⟩ (hold j o2 hpn2 ho2 hlo2)
   ·exact absurd ⟨j', o2, ho2, hlo2, by rw [← hσ2, ← hσ]; exact he.symm⟩ (hold i o hpn ho hlo)
   ·rw [hσ, hσ2] at he
    rcases hm.inj i j o o2 ho ho2 hlo hlo2 he with this | htw
    ·exact .inl this
    ·right; rw [hpe, hqe, zua, zub]; exact htw
  ·intro b hb hI
   rcases hownE b hb with h | h
   ·exact hst.rep.imm b h hI
   ·rcases hst.imm' b hI with h' | h' | h'
    ·exact hm.imm b h h'
    ·have := MRep.lt num hm h
     have : (C.pick l).w.heap.size = C.w.heap.size := rfl
     omega
    ·
     obtain ⟨id, p, hp, hlv, hbq⟩ := hb
     rcases hblock id p hp hlv with ⟨i, o, ho, hlo, hσ, _⟩ | ⟨o, hpn, ho, hlo, hσ, _⟩
     ·exact hst.rep.imm b ⟨i, o, ho, hlo, by rw [← hσ]; exact hbq⟩ hI
     ·obtain ⟨id2, o2, hmem2, ho2, hlv2, hb2⟩ := znj h'
      rcases hm.inj id2 id o2 o ho2 ho hlv2 hlo (by rw [hb2, ← hσ]; exact hbq.symm) with this | htw
      ·subst this
       exact notin hpn hmem2
      ·exact zr4 hok hmem2 (notin hpn) ho2 ho htw
  ·intro b hb
   rcases hst.imm' b hb with h | h | h
   ·exact .inl h
   ·exact .inr (.inl h)
   ·exact .inr (.inr (hpick b h))
  ·intro b hb
   rcases hownE b hb with h | h
   ·rcases hst.own b h with h | h
    ·exact .inl h
    ·exact .inr (hpick b h)
   ·exact .inr h
  ·intro id hid p hp hmv
   have hk := hs.k
   rcases hcase id p hp with ⟨i, hpl', rfl⟩ | ⟨hpl', hid', rfl⟩ | ⟨i, hi, hi2, rfl, rfl⟩
   ·have h1 := zmq _ _ hmv
    rw [zpr] at h1
    obtain ⟨o', ho', he⟩ := zgs h1
    rw [he] at h1
    have hil : i < l.length := (List.getElem?_eq_some_iff.1 (znq l id i hpl')).1
    obtain ⟨o2, ho2, hmv2, hσ⟩ := hst.same i hil o' ho' h1
    obtain ⟨id2, hid2, hq2⟩ := znh ho2
    rw [znq l id i hpl'] at hid2
    cases hid2
    rw [hq2, zpr] at hmv2
    obtain ⟨o3, ho3, he3⟩ := zgs hmv2
    rw [he3] at hmv2
    exact ⟨o3, ho3, hmv2, by rw [hEσ1 id i hpl', hσ, pick_σ (znq l id i hpl')]⟩
   ·rw [zpr] at hmv
    obtain ⟨o, ho, he⟩ := zgs hmv
    rw [he] at hmv
    exact ⟨o, ho, hmv, hEσ2 id hpl' (by omega)⟩
   ·omega
  ·rw [hmem]; simp; have := hs.k; omega
  ·have : s'.env = s.env.ren stay := congrArg St.env hss.symm
   rw [this]
   exact hs.env.tr tstay
  ·rw [← hrr]
   exact hrv.tr tback
theorem zr7 {call : Calls'} (hcall : CallOK num P call) (hs : SRep num C s a) {f : FuncId} {args : List AV} {vals : Array Value} (hl : args.length = vals.size) (hr : ∀ (j : Nat) (x : AV) (u : Value), args[j]? = some x → vals[j]? = some u → ARep num C x u)
  {r : AV} {s' : St} (h : exShare call s (num f) args = some (r, s')) :
  Callable P f ∧ Calls P f vals C.w (fun e w' => ∃ v D, e = .returned v ∧ D.w = w' ∧ Step num s.k C s.mem D s'.mem ∧ ERep num D s'.env a.tmps ∧ ARep num D r v ∧ s'.k = s.k) := by
 obtain ⟨l, rv, mc, hc, hm, hl1, hr1, hback⟩ := zr5 hs hl hr h
 obtain ⟨hcb, hcs⟩ := hcall.fn f _ _ rv mc (C.pick l) vals hc hm hl1 hr1
 refine ⟨hcb, hcs.mono ?_⟩
 rintro e w' ⟨v, D, rfl, rfl, hst, hrv⟩
 obtain ⟨E, h1, h2, h3, h4, h5⟩ := hback v D hst hrv
 exact ⟨v, E, rfl, h1, h2, h3, h4, h5⟩
end
end Go.EX

