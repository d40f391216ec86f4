/-
  EX: data of Go's types as plain Lean data: how they stand in cells; that what can be read of arguments is such data.
-/
import Derived.Test.YtbomedbbgfcncaaLaw
import Derived.ChangeOld
import Derived.WideShapes
import Derived.OpenShut
set_option linter.unusedVariables false
set_option linter.unusedSimpArgs false
namespace Go.EX
open Go.RowKit

/-- How data of a type stand in cells. -/
structure Ty (α : Type) where
  sz : Nat
  agg : Bool
  enc : α → List IV
  wf : α → Prop
  len : ∀ x, (enc x).length = sz

def tInt (k : IntKind) : Ty Int := ⟨1, false, fun n => [.val (.int k n)], fun n => (Lit.int k n).wf = true, fun _ => rfl⟩
def tBool : Ty Bool := ⟨1, false, fun b => [.val (.bool b)], fun _ => True, fun _ => rfl⟩
def tStr : Ty ByteArray := ⟨1, false, fun s => [.val (.string s)], fun s => s.size ≤ 140737488355328, fun _ => rfl⟩

/-- 'iv' reads as the slice of the 'xs'. -/
def Reads {α : Type} (t : Ty α) (iv : IV) (xs : List α) : Prop :=
  (∀ x ∈ xs, t.wf x) ∧ xs.length ≤ 140737488355328 ∧ ((iv = .val (.slice none 0 0) ∧ xs = []) ∨
    ∃ row off cap, iv = .slice row off xs.length cap ∧ (∀ c, cap = some c → xs.length ≤ c) ∧ cut row off (xs.length * t.sz) = some (xs.flatMap t.enc))

structure Sl {α : Type} (t : Ty α) where
  iv : IV
  xs : List α
  ok : Reads t iv xs

def tSl {α : Type} (t : Ty α) : Ty (Sl t) := ⟨1, false, fun s => [s.iv], fun _ => True, fun _ => rfl⟩

def tNil : Ty Unit := ⟨0, true, fun _ => [], fun _ => True, fun _ => rfl⟩
def tPair {α β : Type} (a : Ty α) (b : Ty β) : Ty (α × β) := ⟨a.sz + b.sz, true, fun x => a.enc x.1 ++ b.enc x.2, fun x => a.wf x.1 ∧ b.wf x.2, fun x => by simp [a.len, b.len]⟩

/-- Data as a value at work. -/
def Ty.av {α : Type} (t : Ty α) (x : α) : AV := if t.agg then .agg ((t.enc x).map .imm) else match t.enc x with
  | [y] => .imm y
  | _ => .junk

/-- What can be read of cells of type t is data of 'τ'. -/
def ReadsAs {α : Type} (P : Program) (t : TypeId) (τ : Ty α) : Prop :=
  ∀ {H : Type} (enc : TypeId × Value → H) (w : World) (spare : Nat → Bool) (_ : ∀ b, spare b = true) (fuel : Nat) (cs : List Value) (x : DataW H × List MemPlace), DataW.trod enc P w 0 spare true fuel t cs = some x → (DataW.weights P t x.1).all (· ≤ reachBytes) = true →
    ∃ d : α, τ.wf d ∧ cs.length = τ.sz ∧ ∀ (j : Nat) (y : IV) (u : Value), (τ.enc d)[j]? = some y → cs[j]? = some u → IRep (fun b => b < w.heap.size) w y u

section
variable {P : Program} {t : TypeId}

theorem readsInt {k : IntKind} (ht : P.underlying t = some (.int k)) : ReadsAs P t (tInt k) := by
  intro H enc w spare hsp fuel cs x h hwt
  obtain ⟨n, rfl, _, hw⟩ := DataW.trod_int ht h
  refine ⟨n, hw, rfl, fun j y u hy hu => ?_⟩
  cases j with
  | zero => simp [tInt] at hy hu; subst hy; subst hu; exact .val _ rfl
  | succ j => simp [tInt] at hy

theorem readsBool (ht : P.underlying t = some .bool) : ReadsAs P t tBool := by
  intro H enc w spare hsp fuel cs x h hwt
  obtain ⟨n, rfl, _⟩ := DataW.trod_bool ht h
  refine ⟨n, trivial, rfl, fun j y u hy hu => ?_⟩
  cases j with
  | zero => simp [tBool] at hy hu; subst hy; subst hu; exact .val _ rfl
  | succ j => simp [tBool] at hy

theorem readsStr (ht : P.underlying t = some .string) : ReadsAs P t tStr := by
  intro H enc w spare hsp fuel cs x h hwt
  obtain ⟨s, rfl, rfl, hs⟩ := DataW.trod_string ht h
  refine ⟨s, by
    have h2 : s.data.toList.length ≤ reachBytes := by simpa [DataW.weights] using hwt
    have e : s.data.toList.length = s.size := Array.length_toList
    have e2 : reachBytes = 140737488351232 := rfl
    show s.size ≤ 140737488355328
    omega, rfl, fun j y u hy hu => ?_⟩
  cases j with
  | zero => simp [tStr] at hy hu; subst hy; subst hu; exact .val _ rfl
  | succ j => simp [tStr] at hy

theorem cells?_get {w : World} {base : Nat} {a : Addr} {n : Nat} {cs : List Value} (h : w.cells? base a n = some cs) : cs.length = n ∧ ∀ j, j < n → w.cell? (a.add j) = cs[j]? := by
  unfold World.cells? at h
  split at h
  · refine ⟨by simpa using mapM_some_length h, fun j hj => ?_⟩
    exact mapM_some_get h j j (by simp [hj])
  · cases h

theorem flatMap_get {α β : Type} (f : α → List β) (n : Nat) (hn : 0 < n) (hf : ∀ x, (f x).length = n) : ∀ (l : List α) (j : Nat), (l.flatMap f)[j]? = (l[j / n]?).bind fun x => (f x)[j % n]?
  | [], j => by simp
  | x :: r, j => by
    rw [List.flatMap_cons, List.getElem?_append, hf x]
    by_cases h : j < n
    · rw [if_pos h, Nat.div_eq_of_lt h, Nat.mod_eq_of_lt h]; rfl
    · rw [if_neg h, flatMap_get f n hn hf r (j - n)]
      have h1 : j / n = (j - n) / n + 1 := by
        rw [← Nat.div_eq_sub_div hn (by omega)]
      have h2 : j % n = (j - n) % n := Nat.mod_eq_sub_mod (by omega)
      rw [h1, h2]; rfl

theorem flatMap_len {α β : Type} (f : α → List β) (n : Nat) (hf : ∀ x, (f x).length = n) : ∀ (l : List α), (l.flatMap f).length = l.length * n
  | [] => by simp
  | x :: r => by rw [List.flatMap_cons, List.length_append, hf x, flatMap_len f n hf r, List.length_cons, Nat.add_mul, Nat.one_mul, Nat.add_comm]

theorem cut_all {α : Type} (l : List α) {n : Nat} (h : l.length = n) : cut l 0 n = some l := by
  subst h
  simp [cut]

/-- A choice for each number below n, as a list. -/
theorem choose_list {α : Type} (n : Nat) (p : Nat → α → Prop) (h : ∀ i, i < n → ∃ x, p i x) : ∃ l : List α, l.length = n ∧ ∀ i x, l[i]? = some x → p i x := by
  induction n with
  | zero => exact ⟨[], rfl, fun i x hx => by simp at hx⟩
  | succ n ih =>
    obtain ⟨l, h1, h2⟩ := ih fun i hi => h i (by omega)
    obtain ⟨x, hx⟩ := h n (by omega)
    refine ⟨l ++ [x], by simp [h1], fun i y hy => ?_⟩
    rw [List.getElem?_append] at hy
    split at hy
    · exact h2 i y hy
    · have : i = n := by
        have := (List.getElem?_eq_some_iff.1 hy).1
        simp at this; omega
      subst this
      simp [h1] at hy
      subst hy; exact hx

theorem weightsAll_get {H : Type} {e : TypeId} : ∀ (l : List (DataW H)), (DataW.weightsAll P e l).all (· ≤ reachBytes) = true → ∀ (i : Nat) (d : DataW H), l[i]? = some d → (DataW.weights P e d).all (· ≤ reachBytes) = true
  | [], _, i, d, h => by simp at h
  | x :: l, hw, i, d, h => by
    simp only [DataW.weightsAll, List.all_append, Bool.and_eq_true] at hw
    cases i with
    | zero => simp at h; subst h; exact hw.1
    | succ i => exact weightsAll_get l hw.2 i d (by simpa using h)

theorem weightsEach_get {H : Type} : ∀ (ts : List TypeId) (l : List (DataW H)), (DataW.weightsEach P ts l).all (· ≤ reachBytes) = true → ∀ (i : Nat) (t : TypeId) (d : DataW H), ts[i]? = some t → l[i]? = some d → (DataW.weights P t d).all (· ≤ reachBytes) = true
  | [], _, _, i, t, d, h, _ => by simp at h
  | _ :: _, [], _, i, t, d, _, h => by simp at h
  | t0 :: ts, x :: l, hw, i, t, d, ht, h => by
    simp only [DataW.weightsEach, List.all_append, Bool.and_eq_true] at hw
    cases i with
    | zero => simp at h ht; subst h; subst ht; exact hw.1
    | succ i => exact weightsEach_get ts l hw.2 i t d (by simpa using ht) (by simpa using h)

theorem readsSl {α : Type} {e : TypeId} {τ : Ty α} (ht : P.underlying t = some (.slice e)) (he : ReadsAs P e τ) (hc : P.cellsOf e = τ.sz) (h0 : 0 < τ.sz) (hby : 0 < P.bytesOf e) : ReadsAs P t (tSl τ) := by
  intro H enc w spare hsp fuel cs x h hwt
  have hlt := DataW.trod_lt _ _ _ _ h
  rcases DataW.trod_slice ht h with ⟨rfl, _⟩ | ⟨a, len, cap, elems, rest, n, _, rfl, rfl, hb, hl, hm, hel, h1, h2, _⟩
  · refine ⟨⟨.val (.slice none 0 0), [], fun x hx => (by cases hx), by simp, .inl ⟨rfl, rfl⟩⟩, trivial, rfl, fun j y u hy hu => ?_⟩
    cases j with
    | zero => simp [tSl] at hy hu; subst hy; subst hu; exact .val _ rfl
    | succ j => simp [tSl] at hy
  · obtain ⟨hr, h3⟩ := h2 (hsp _)
    simp only [DataW.weights, ht, List.all_cons, List.all_append, Bool.and_eq_true, decide_eq_true_eq, List.length_map] at hwt
    have hlong : elems.length + rest.length ≤ reachBytes := Nat.le_trans (Nat.le_mul_of_pos_right _ hby) hwt.1
    have hwe := hwt.2.1
    have hone : ∀ i, i < len → ∃ d : α, τ.wf d ∧ ∀ j y, (τ.enc d)[j]? = some y → ∃ u, w.cell? ((a.add (i * τ.sz)).add j) = some u ∧ IRep (fun b => b < w.heap.size) w y u := by
      intro i hi
      have h4 := h1 i hi
      have hei : ∃ z, elems[i]? = some z := by
        have hie : i < elems.length := by omega
        exact ⟨_, List.getElem?_eq_getElem hie⟩
      obtain ⟨z, hz⟩ := hei
      rw [hz] at h4
      rw [Option.bind_eq_some_iff] at h4
      obtain ⟨cs, h5, h6⟩ := h4
      obtain ⟨d, hd, hlen, hrep⟩ := he enc w spare hsp n cs z h6 (weightsAll_get _ hwe i z.1 (by rw [List.getElem?_map, hz]; rfl))
      obtain ⟨h7, h8⟩ := cells?_get h5
      refine ⟨d, hd, fun j y hy => ?_⟩
      have hj : j < cs.length := by
        rw [hlen]
        have := (List.getElem?_eq_some_iff.1 hy).1
        rw [τ.len] at this; exact this
      refine ⟨cs[j], ?_, hrep j y _ hy (List.getElem?_eq_getElem hj)⟩
      have := h8 j (by rw [← h7]; exact hj)
      rw [hc] at this
      rw [this]; exact List.getElem?_eq_getElem hj
    obtain ⟨xs, hxl, hxs⟩ := choose_list len _ hone
    have hmax : xs.length ≤ 140737488355328 := by have e : reachBytes = 140737488351232 := rfl; omega
    refine ⟨⟨.slice (xs.flatMap τ.enc) 0 xs.length (some cap), xs, fun x hx => ?_, by omega, .inr ⟨_, 0, some cap, rfl, fun c hc => by cases hc; omega, cut_all _ (flatMap_len _ _ τ.len xs)⟩⟩, trivial, rfl, fun j y u hy hu => ?_⟩
    · obtain ⟨i, hi, rfl⟩ := List.mem_iff_getElem.1 hx
      exact (hxs i _ (List.getElem?_eq_getElem hi)).1
    cases j with
    | succ j => simp [tSl] at hy
    | zero =>
      simp [tSl] at hy hu; subst hy; subst hu
      by_cases hcap : cap = 0
      · subst hcap
        have : len = 0 := by omega
        subst this
        rw [hxl]
        exact .vac _ 0 a
      · have hblk : a.block < w.heap.size := by
          have hin : MemPlace.cell a.block a.off ∈ MemPlace.row a ((elems.length + rest.length) * P.cellsOf e) := by
            simp only [MemPlace.row, List.mem_map, List.mem_range]
            refine ⟨0, ?_, by simp⟩
            exact Nat.mul_pos (by omega) (by omega)
          exact hlt _ (List.mem_append_left _ hin)
        have hspot : a.spot = none := by
          have : ∃ z cs, w.cells? 0 a (P.cellsOf e) = some cs ∧ z = cs := by
            by_cases hl0 : 0 < len
            · have h4 := h1 0 hl0
              have hie : 0 < elems.length := by omega
              rw [List.getElem?_eq_getElem hie, Option.bind_eq_some_iff] at h4
              obtain ⟨cs, h5, _⟩ := h4
              simp [Addr.add] at h5
              exact ⟨cs, cs, h5, rfl⟩
            · have h4 := h3 0 (by omega)
              have hie : 0 < rest.length := by omega
              rw [List.getElem?_eq_getElem hie, Option.bind_eq_some_iff] at h4
              obtain ⟨cs, h5, _⟩ := h4
              have : len = 0 := by omega
              subst this
              simp [Addr.add] at h5
              exact ⟨cs, cs, h5, rfl⟩
          obtain ⟨_, cs, h5, _⟩ := this
          obtain ⟨h7, h8⟩ := cells?_get h5
          have h9 := h8 0 (by omega)
          have hj : 0 < cs.length := by omega
          rw [List.getElem?_eq_getElem hj] at h9
          have := World.cell?_spot h9
          simpa [Addr.add] using this
        obtain ⟨b, o, sp⟩ := a
        simp only at hspot
        subst hspot
        have hcell : ∀ j y, (xs.flatMap τ.enc)[j]? = some y → ∃ u, w.cell? ⟨b, o + j, none⟩ = some u ∧ IRep (fun b => b < w.heap.size) w y u := by
          intro j y hy
          rw [flatMap_get _ _ h0 τ.len, Option.bind_eq_some_iff] at hy
          obtain ⟨d, hd, hy⟩ := hy
          obtain ⟨u, hu, hr⟩ := (hxs _ _ hd).2 _ _ hy
          refine ⟨u, ?_, hr⟩
          rw [addr_add, addr_add] at hu
          rw [← hu]
          congr 2
          have := Nat.div_add_mod j τ.sz
          rw [Nat.mul_comm] at this
          omega
        rw [← hxl]
        refine IRep.slice (I := fun b => b < w.heap.size) (xs.flatMap τ.enc) 0 xs.length (some cap) b o cap o (fun j => (w.cell? ⟨b, o + j, none⟩).getD undef) hblk (fun j y hy => ?_) (fun j y hy => ?_) (by omega) (fun k hk => by cases hk; rfl) (.inl rfl)
        · obtain ⟨u, hu, _⟩ := hcell j y hy
          simp only [hu]; rfl
        · obtain ⟨u, hu, hr⟩ := hcell j y hy
          simp only [hu]; exact hr

/-- The cells of some of a struct's fields, from 'at' on. -/
def ReadsRow {α : Type} (P : Program) (fs : List Field) (at' : Nat) (τ : Ty α) : Prop :=
  ∀ {H : Type} (enc : TypeId × Value → H) (w : World) (spare : Nat → Bool) (_ : ∀ b, spare b = true) (fuel : Nat) (cs : List Value), (∀ f ∈ fs, ∃ x, DataW.trod enc P w 0 spare true fuel f.type ((cs.drop f.offset).take (P.cellsOf f.type)) = some x ∧ (DataW.weights P f.type x.1).all (· ≤ reachBytes) = true) →
    ∃ d : α, τ.wf d ∧ ∀ (j : Nat) (y : IV) (u : Value), (τ.enc d)[j]? = some y → cs[at' + j]? = some u → IRep (fun b => b < w.heap.size) w y u

theorem readsNil (n : Nat) : ReadsRow P [] n tNil := by
  intro H enc w spare hsp fuel cs h
  exact ⟨(), trivial, fun j y u hy => by simp [tNil] at hy⟩

theorem readsCons {α β : Type} {f : Field} {fs : List Field} {n : Nat} {τ : Ty α} {σ : Ty β} (h1 : ReadsAs P f.type τ) (ho : f.offset = n) (hc : P.cellsOf f.type = τ.sz) (h2 : ReadsRow P fs (n + τ.sz) σ) : ReadsRow P (f :: fs) n (tPair τ σ) := by
  intro H enc w spare hsp fuel cs h
  obtain ⟨x, hx, hxw⟩ := h f (List.mem_cons_self ..)
  obtain ⟨d, hd, hl, hr⟩ := h1 enc w spare hsp fuel _ _ hx hxw
  obtain ⟨d', hd', hr'⟩ := h2 enc w spare hsp fuel cs fun g hg => h g (List.mem_cons_of_mem _ hg)
  refine ⟨(d, d'), ⟨hd, hd'⟩, fun j y u hy hu => ?_⟩
  simp only [tPair] at hy
  rw [List.getElem?_append, τ.len] at hy
  split at hy
  · rename_i hj
    refine hr j y u hy ?_
    rw [List.getElem?_take, hc, if_pos hj, List.getElem?_drop, ho]
    exact hu
  · rename_i hj
    refine hr' _ y u hy ?_
    rw [← hu]
    congr 1
    omega

theorem readsStruct {α : Type} {fs : Array Field} {τ : Ty α} (ht : P.underlying t = some (.struct fs)) (hf : ReadsRow P fs.toList 0 τ) (hc : P.cellsOf t = τ.sz) : ReadsAs P t τ := by
  intro H enc w spare hsp fuel cs x h hwt
  obtain ⟨xs, n, _, rfl, hl, hxl, hg⟩ := DataW.trod_struct ht h
  simp only [DataW.weights, ht] at hwt
  obtain ⟨d, hd, hr⟩ := hf enc w spare hsp n cs fun f hmem => by
    obtain ⟨i, hi, rfl⟩ := List.mem_iff_getElem.1 hmem
    have hi' : i < fs.size := by simpa using hi
    have := hg i fs[i] (by simp [hi'])
    have hie : i < xs.length := by omega
    rw [List.getElem?_eq_getElem hie] at this
    exact ⟨_, by simpa using this, weightsEach_get _ _ hwt i _ _ (by simp [hi']) (by rw [List.getElem?_map, List.getElem?_eq_getElem hie]; rfl)⟩
  exact ⟨d, hd, by rw [hl, hc], fun j y u hy hu => hr j y u hy (by simpa using hu)⟩

theorem readsVia {α β : Type} {τ : Ty α} {σ : Ty β} (h : ReadsAs P t τ) (f : α → β) (he : ∀ x, σ.enc (f x) = τ.enc x) (hw : ∀ x, τ.wf x → σ.wf (f x)) (hs : σ.sz = τ.sz) : ReadsAs P t σ := by
  intro H enc w spare hsp fuel cs x hx hwt
  obtain ⟨d, hd, hl, hr⟩ := h enc w spare hsp fuel cs x hx hwt
  exact ⟨f d, hw d hd, by rw [hl, hs], fun j y u hy hu => hr j y u (by rw [← he]; exact hy) hu⟩

end
end Go.EX
