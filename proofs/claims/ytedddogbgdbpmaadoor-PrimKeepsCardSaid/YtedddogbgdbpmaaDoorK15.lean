import Derived.Test.YtedddogbgdbpmaaDoorK14
import Derived.Test.YtedddogbgdbpmaaDoorK12
import Derived.Test.YtedddogbgdbpmaaDoorK13
import Derived.Test.YtedddogbgdbpmaaDoorK11
import Derived.Test.YtedddogbgdbpmaaDoorK9
set_option linter.unusedVariables false
set_option linter.unusedSimpArgs false
namespace Go.EX
open Classical
structure SameO (o u : Obj) : Prop where
 k : u.k = o.k
 s : u.s = o.s
 l : u.l.xs = o.l.xs
 room : u.room = o.room
 fn : u.fn = o.fn
theorem SameO.symm {o u : Obj} (h : SameO o u) : SameO u o := ⟨h.k.symm, h.s.symm, h.l.symm, h.room.symm, h.fn.symm⟩
theorem SameO.refl (o : Obj) : SameO o o := ⟨rfl, rfl, rfl, rfl, rfl⟩
theorem SameO.trans {a b c : Obj} (h : SameO a b) (g : SameO b c) : SameO a c := ⟨g.k.trans h.k, g.s.trans h.s, g.l.trans h.l, g.room.trans h.room, g.fn.trans h.fn⟩
theorem zrs (o : Obj) : SameO o (cloneObj o) := by
 refine ⟨rfl, rfl, ?_, rfl, rfl⟩
 unfold cloneObj cloneL
 dsimp only
 split <;> rfl
structure Like (S T : List Obj) : Prop where
 len : T.length = S.length
 at_ : ∀ (i : Nat) o u, S[i]? = some o → T[i]? = some u → SameO o u
theorem Like.symm {S T : List Obj} (h : Like S T) : Like T S := ⟨h.len.symm, fun i o u ho hu => (h.at_ i u o hu ho).symm⟩
theorem Like.get {S T : List Obj} (h : Like S T) {i : Nat} {o : Obj} (ho : S[i]? = some o) : ∃ u, T[i]? = some u ∧ SameO o u := by
 have hl := (List.getElem?_eq_some_iff.1 ho).1
 have hlt : i < T.length := by have := h.len; omega
 have : T[i]? = some T[i] := List.getElem?_eq_getElem hlt
 exact ⟨_, this, h.at_ i o _ ho this⟩
theorem zjc (S B : List Obj) : Like (S ++ B) ((S.map cloneObj ++ B).map cloneObj) := by
 refine ⟨by simp, fun i o u ho hu => ?_⟩
 rw [List.getElem?_map, Option.map_eq_some_iff] at hu
 obtain ⟨w, hw, rfl⟩ := hu
 by_cases hi : i < S.length
 ·rw [List.getElem?_append_left (by simpa using hi), List.getElem?_map, Option.map_eq_some_iff] at hw
  obtain ⟨z, hz, rfl⟩ := hw
  rw [List.getElem?_append_left hi, hz] at ho
  cases ho
  exact (zrs o).trans (zrs _)
 ·rw [List.getElem?_append_right (by simpa using hi), List.length_map] at hw
  rw [List.getElem?_append_right (by omega), hw] at ho
  cases ho
  exact zrs o
theorem zi0 {S T : List Obj} (h : Like S T) (v : Val) : leadsOf T v = leadsOf S v := by
 unfold leadsOf
 rw [h.len]
 split
 ·rfl
 ·split
  ·rfl
  ·split
   ·rfl
   ·split
    ·rfl
    ·cases hs : S[(v.n - 1).toNat]? with
     | none =>
      have : T[(v.n - 1).toNat]? = none := by
       rw [List.getElem?_eq_none_iff] at hs ⊢
       have := h.len; omega
      rw [this]
     | some o =>
      obtain ⟨u, hu, hs'⟩ := h.get hs
      rw [hu]
      simp only [hs'.k]
theorem zoz {S T : List Obj} (h : Like S T) {r : List Val} {k : Nat} (hr : Reach S r k) : Reach T r k := by
 induction hr with
 | root hv hl => exact .root hv (by rw [zi0 h]; exact hl)
 | step _ ho hv hl ih =>
  obtain ⟨u, hu, hs⟩ := h.get ho
  exact .step ih hu (by rw [hs.l]; exact hv) (by rw [zi0 h]; exact hl)
theorem zuj {S T : List Obj} (h : Like S T) (v : Val) : valOf T v = valOf S v := by unfold valOf; rw [zi0 h]
theorem zhb {S T : List Obj} (h : Like S T) (l : List Val) (c : Bool) : heldOf T l c = heldOf S l c := by
 unfold heldOf
 congr 1
 funext v
 rw [zuj h]
theorem zri {S T : List Obj} (h : Like S T) {i : Nat} (hi : i < S.length) : sAt T i = sAt S i := by
 obtain ⟨u, hu, hs⟩ := h.get (List.getElem?_eq_getElem hi)
 unfold sAt
 rw [hu, List.getElem?_eq_getElem hi]
 exact hs.s
theorem zrl {S T : List Obj} (h : Like S T) (a b : Val) : sameOf T a b = sameOf S a b := by
 unfold sameOf
 rw [zi0 h, zi0 h]
 cases ha : leadsOf S a with
 | none => rfl
 | some i =>
  cases hb : leadsOf S b with
  | none => rfl
  | some j =>
   simp only [zri h (ziy ha).1, zri h (ziy hb).1]
theorem zik {S T : List Obj} (h : Like S T) {l : List Val} (hk : KeysOk S l) : KeysOk T l := fun i k a b h1 h2 h3 h4 h5 => by
 rw [zrl h]; exact hk i k a b h1 h2 h3 h4 h5
theorem zl6 {S T : List Obj} (h : Like S T) {o u : Obj} (hs : SameO o u) (hk : ObjOk S o) : ObjOk T u := by
 unfold ObjOk at hk ⊢
 rw [hs.k, hs.s, hs.l, hs.room, hs.fn, zhb h, zhb h]
 split at hk
 ·rename_i h3; rw [if_pos h3]; exact hk
 ·rename_i h3
  rw [if_neg h3]
  split at hk
  ·rename_i h4; rw [if_pos h4]; exact hk
  ·rename_i h4
   rw [if_neg h4]
   split at hk
   ·rename_i h5
    rw [if_pos h5]
    obtain ⟨h1, h2, h3, h4, h5, h6, h7, h8⟩ := hk
    exact ⟨h1, h2, h3, h4, h5, h6, h7, zik h h8⟩
   ·rename_i h5
    rw [if_neg h5]
    split at hk
    ·rename_i h6; rw [if_pos h6]; exact hk
    ·rename_i h6; rw [if_neg h6]; exact hk
theorem zca {S T : List Obj} (h : Like S T) {v : Val} (hc : CheckOk S v) : CheckOk T v := by
 refine ⟨by rw [zuj h]; exact hc.1, fun k o hr ho => ?_⟩
 obtain ⟨u, hu, hs⟩ := h.symm.get ho
 exact zl6 h hs.symm (hc.2 k u (zoz h.symm hr) hu)
theorem zu9 {o u : Obj} (h : SameO o u) : wordsOf u = wordsOf o := by
 unfold wordsOf
 rw [h.k, h.s, h.l, h.room]
theorem zu8 {S T : List Obj} (h : Like S T) (k : Nat) : wordsAt T k = wordsAt S k := by
 unfold wordsAt
 cases hs : S[k]? with
 | none =>
  have : T[k]? = none := by
   rw [List.getElem?_eq_none_iff] at hs ⊢
   have := h.len; omega
  rw [this]
 | some o =>
  obtain ⟨u, hu, hs'⟩ := h.get hs
  rw [hu]
  exact zu9 hs'
theorem zvd {S T : List Obj} (h : Like S T) (r : List Val) : wordsN T r = wordsN S r := by
 unfold wordsN
 rw [h.len]
 congr 1
 apply List.map_congr_left
 intro k _
 rw [zu8 h]
 by_cases hr : Reach S r k
 ·rw [if_pos hr, if_pos (zoz h hr)]
 ·rw [if_neg hr, if_neg fun hc => hr (zoz h.symm hc)]
theorem zi5 {S : List Obj} {v : Val} {j : Nat} (o : Obj) (h : leadsOf S v = some j) : leadsOf (S ++ [o]) v = some j := by
 obtain ⟨h1, h2, h3, h4, u, hu, hk⟩ := ziy h
 have e : (v.n - 1).toNat = j := by omega
 unfold leadsOf
 rw [if_neg (by omega), if_neg (by omega), if_neg (by omega), if_neg (by rw [List.length_append]; omega), e, List.getElem?_append_left h1, hu]
 simp only [hk, if_true]
theorem zi4 {S : List Obj} {v : Val} (o : Obj) (h : valOf S v = true) : leadsOf (S ++ [o]) v = leadsOf S v := by
 unfold valOf at h
 by_cases hk : v.k < 3
 ·unfold leadsOf
  rw [if_pos hk, if_pos hk]
 ·rw [if_neg (by omega), if_neg (by omega), if_neg (by omega)] at h
  obtain ⟨j, hj⟩ := Option.isSome_iff_exists.1 h
  rw [hj, zi5 o hj]
theorem zuk {S : List Obj} {v : Val} (o : Obj) (h : valOf S v = true) : valOf (S ++ [o]) v = true := by
 have := zi4 o h
 unfold valOf at h ⊢
 rw [this]
 exact h
theorem zhe {S : List Obj} {l : List Val} {c : Bool} (h : heldOf S l c = true) : ∀ v ∈ l, valOf S v = true := by
 intro v hv
 have := List.all_eq_true.1 h v hv
 simp only [Bool.and_eq_true] at this
 exact this.1
theorem zl8 {S : List Obj} {o : Obj} (h : ObjOk S o) : ∀ v ∈ o.l.xs, valOf S v = true := by
 unfold ObjOk at h
 split at h
 ·rw [h.2.1]; simp
 ·split at h
  ·exact zhe h.2.2.2.2.2
  ·split at h
   ·exact zhe h.2.2.2.2.2.2.1
   ·split at h
    ·exact zhe h.2.2.2.2
    ·exact zhe h.2.2.2.2
theorem zo2 {S : List Obj} {r : List Val} {k : Nat} (h : Reach S r k) : ∃ v ∈ r, Reach S [v] k := by
 induction h with
 | root hv hl => exact ⟨_, hv, .root (List.mem_singleton_self _) hl⟩
 | step _ ho hv hl ih =>
  obtain ⟨w, hw, hr⟩ := ih
  exact ⟨w, hw, .step hr ho hv hl⟩
theorem zci {S : List Obj} {r : List Val} (hc : ∀ v ∈ r, CheckOk S v) {k : Nat} (h : Reach S r k) {o : Obj} (ho : S[k]? = some o) : ObjOk S o := by
 obtain ⟨v, hv, hr⟩ := zo2 h
 exact (hc v hv).2 k o hr ho
theorem zrj {S : List Obj} (o : Obj) {i : Nat} (hi : i < S.length) : sAt (S ++ [o]) i = sAt S i := by
 unfold sAt
 rw [List.getElem?_append_left hi]
theorem zrm {S : List Obj} (o : Obj) {a b : Val} (ha : valOf S a = true) (hb : valOf S b = true) : sameOf (S ++ [o]) a b = sameOf S a b := by
 unfold sameOf
 rw [zi4 o ha, zi4 o hb]
 cases ha : leadsOf S a with
 | none => rfl
 | some i =>
  cases hb : leadsOf S b with
  | none => rfl
  | some j => simp only [zrj o (ziy ha).1, zrj o (ziy hb).1]
theorem zhd {S : List Obj} (o : Obj) {l : List Val} {c : Bool} (h : heldOf S l c = true) : heldOf (S ++ [o]) l c = true := by
 rw [heldOf, List.all_eq_true] at h ⊢
 intro v hv
 have := h v hv
 simp only [Bool.and_eq_true] at this ⊢
 exact ⟨zuk o this.1, this.2⟩
theorem zl7 {S : List Obj} (u : Obj) {o : Obj} (h : ObjOk S o) : ObjOk (S ++ [u]) o := by
 have hv := zl8 h
 unfold ObjOk at h ⊢
 split at h
 ·rename_i h3; rw [if_pos h3]; exact h
 ·rename_i h3
  rw [if_neg h3]
  split at h
  ·rename_i h4
   rw [if_pos h4]
   obtain ⟨a1, a2, a3, a4, a5, a6⟩ := h
   exact ⟨a1, a2, a3, a4, a5, zhd u a6⟩
  ·rename_i h4
   rw [if_neg h4]
   split at h
   ·rename_i h5
    rw [if_pos h5]
    obtain ⟨a1, a2, a3, a4, a5, a6, a7, a8⟩ := h
    refine ⟨a1, a2, a3, a4, a5, a6, zhd u a7, fun i k a b b1 b2 b3 b4 b5 => ?_⟩
    rw [zrm u (hv a (List.mem_of_getElem? b4)) (hv b (List.mem_of_getElem? b5))]
    exact a8 i k a b b1 b2 b3 b4 b5
   ·rename_i h5
    rw [if_neg h5]
    split at h
    ·rename_i h6
     rw [if_pos h6]
     obtain ⟨a1, a2, a3, a4, a5⟩ := h
     exact ⟨a1, a2, a3, a4, zhd u a5⟩
    ·rename_i h6
     rw [if_neg h6]
     obtain ⟨a1, a2, a3, a4, a5⟩ := h
     exact ⟨a1, a2, a3, a4, zhd u a5⟩
theorem zi1 {S : List Obj} {o : Obj} {j : Nat} (hl : leadsOf (S ++ [o]) ⟨o.k, ((S.length + 1 : Nat) : Int)⟩ = some j) : j = S.length := by
 have := (ziy hl).2.1
 simp only at this
 omega
theorem zo1 {S : List Obj} {o : Obj} {r : List Val} (hc : ∀ v ∈ r, CheckOk S v) (hx : ∀ x ∈ o.l.xs, x ∈ r) {k : Nat} (h : Reach (S ++ [o]) (⟨o.k, ((S.length + 1 : Nat) : Int)⟩ :: r) k) : k = S.length ∨ Reach S r k := by
 induction h with
 | root hv hl =>
  rcases List.mem_cons.1 hv with rfl | hv
  ·exact .inl (zi1 hl)
  ·exact .inr (.root hv (by rw [← zi4 o (hc _ hv).1]; exact hl))
 | step _ ho hv hl ih =>
  rcases ih with rfl | ih
  ·rw [List.getElem?_append_right (Nat.le_refl _), Nat.sub_self] at ho
   cases ho
   exact .inr (.root (hx _ hv) (by rw [← zi4 o (hc _ (hx _ hv)).1]; exact hl))
  ·rw [List.getElem?_append_left ih.lt] at ho
   exact .inr (.step ih ho hv (by rw [← zi4 o (zl8 (zci hc ih ho) _ hv)]; exact hl))
theorem zve {S : List Obj} {o : Obj} {r : List Val} (hc : ∀ v ∈ r, CheckOk S v) (hx : ∀ x ∈ o.l.xs, x ∈ r) : wordsN (S ++ [o]) (⟨o.k, ((S.length + 1 : Nat) : Int)⟩ :: r) ≤ wordsN S r + wordsOf o := by
 unfold wordsN
 rw [List.length_append, List.length_singleton, List.range_succ, List.map_append, List.sum_append]
 have h1 : ((List.range S.length).map fun k => if Reach (S ++ [o]) (⟨o.k, ((S.length + 1 : Nat) : Int)⟩ :: r) k then wordsAt (S ++ [o]) k else 0).sum ≤ ((List.range S.length).map fun k => if Reach S r k then wordsAt S k else 0).sum := by
  have key : ∀ l : List Nat, (∀ k ∈ l, k < S.length) → (l.map fun k => if Reach (S ++ [o]) (⟨o.k, ((S.length + 1 : Nat) : Int)⟩ :: r) k then wordsAt (S ++ [o]) k else 0).sum ≤ (l.map fun k => if Reach S r k then wordsAt S k else 0).sum := by
   intro l
   induction l with
   | nil => intro _; exact Nat.le_refl _
   | cons x t ih =>
    intro hl
    have := ih fun k hk => hl k (List.mem_cons_of_mem _ hk)
    have hx := hl x (List.mem_cons_self ..)
    have hw : wordsAt (S ++ [o]) x = wordsAt S x := by unfold wordsAt; rw [List.getElem?_append_left hx]
    simp only [List.map_cons, List.sum_cons, hw]
    by_cases hr : Reach (S ++ [o]) (⟨o.k, ((S.length + 1 : Nat) : Int)⟩ :: r) x
    ·have : Reach S r x := by
      rcases zo1 hc ‹_› hr with h | h
      ·omega
      ·exact h
     rw [if_pos hr, if_pos this]
     omega
    ·rw [if_neg hr]; omega
  exact key _ fun k hk => List.mem_range.1 hk
 have h2 : (([S.length].map fun k => if Reach (S ++ [o]) (⟨o.k, ((S.length + 1 : Nat) : Int)⟩ :: r) k then wordsAt (S ++ [o]) k else 0).sum) ≤ wordsOf o := by
  simp only [List.map_cons, List.map_nil, List.sum_cons, List.sum_nil, Nat.add_zero]
  split
  ·unfold wordsAt
   rw [List.getElem?_append_right (Nat.le_refl _), Nat.sub_self]
   exact Nat.le_refl _
  ·exact Nat.zero_le _
 omega
theorem zcc {S : List Obj} {o : Obj} (hk : 3 ≤ o.k) (hk7 : o.k ≤ 7) (ho : ObjOk (S ++ [o]) o) (hx : ∀ x ∈ o.l.xs, CheckOk S x) : CheckOk (S ++ [o]) ⟨o.k, ((S.length + 1 : Nat) : Int)⟩ := by
 have hg : (S ++ [o])[S.length]? = some o := by rw [List.getElem?_append_right (Nat.le_refl _), Nat.sub_self]; rfl
 have hl : leadsOf (S ++ [o]) ⟨o.k, ((S.length + 1 : Nat) : Int)⟩ = some S.length := by
  have e : (((S.length + 1 : Nat) : Int) - 1).toNat = S.length := by omega
  unfold leadsOf
  simp only [e, hg]
  rw [if_neg (by omega), if_neg (by omega), if_neg (by omega), if_neg (by rw [List.length_append]; simp)]
  simp
 refine ⟨?_, fun k u hr hu => ?_⟩
 ·unfold valOf
  rw [if_neg (by show ¬ o.k = 0; omega), if_neg (by show ¬ o.k = 1; omega), if_neg (by show ¬ o.k = 2; omega), hl]
  rfl
 ·have hr' : Reach (S ++ [o]) (⟨o.k, ((S.length + 1 : Nat) : Int)⟩ :: o.l.xs) k := zo0 (fun v hv => List.mem_cons.2 (.inl (List.mem_singleton.1 hv))) hr
  rcases zo1 hx (fun x h => h) hr' with rfl | h
  ·rw [hg] at hu; cases hu; exact ho
  ·rw [List.getElem?_append_left h.lt] at hu
   exact zl7 o (zci hx h hu)
theorem zvf {S : List Obj} {v : Val} {r : List Val} (h : ∀ j, leadsOf S v = some j → Reach S r j) : wordsN S (v :: r) ≤ wordsN S r := by
 refine zs5 _ _ (fun k => ?_) _
 by_cases h1 : Reach S (v :: r) k
 ·have h2 : Reach S r k := by
   induction h1 with
   | root hv hl =>
    rcases List.mem_cons.1 hv with rfl | hv
    ·exact h _ hl
    ·exact .root hv hl
   | step _ ho hv hl ih => exact .step ih ho hv hl
  rw [if_pos h1, if_pos h2]; exact Nat.le_refl _
 ·rw [if_neg h1]; exact Nat.zero_le _
theorem zb8 {S : List Obj} {v x : Val} {q : Nat} {o : Obj} (h : CheckOk S v) (hq : leadsOf S v = some q) (ho : S[q]? = some o) (hx : x ∈ o.l.xs) : CheckOk S x := by
 have h0 : Reach S [v] q := .root (List.mem_singleton_self _) hq
 refine ⟨zl8 (h.2 q o h0 ho) x hx, fun k u hr hu => h.2 k u ?_ hu⟩
 clear hu
 induction hr with
 | root hv hl =>
  rw [List.mem_singleton.1 hv] at hl
  exact .step h0 ho hx hl
 | step _ ho' hv hl ih => exact .step ih ho' hv hl
end Go.EX


namespace Go.EX
structure FineT (T : List Obj) : Prop where
 len : T.length ≤ 60000
 s : ∀ o ∈ T, o.s.size ≤ 60000
 l : ∀ o ∈ T, o.l.xs.length ≤ 60000
theorem FineT.like {S T : List Obj} (h : FineT S) (hl : Like S T) : FineT T := by
 refine ⟨by rw [hl.len]; exact h.len, fun u hu => ?_, fun u hu => ?_⟩
 ·obtain ⟨i, hi⟩ := List.getElem?_of_mem hu
  obtain ⟨o, ho, hs⟩ := hl.symm.get hi
  rw [← hs.s]
  exact h.s o (List.mem_of_getElem? ho)
 ·obtain ⟨i, hi⟩ := List.getElem?_of_mem hu
  obtain ⟨o, ho, hs⟩ := hl.symm.get hi
  rw [← hs.l]
  exact h.l o (List.mem_of_getElem? ho)
inductive OutN (S : List Obj) (r : List Val) : IV → Int → Int → ByteArray → Int → Prop
 | thr {x : IV} {t : ByteArray} {T : List Obj} (hx : Reads tObj x T) (hl : Like S T) (ht : t ≠ .empty) : OutN S r x 0 0 t 0
 | ok {x : IV} {k n : Int} {T : List Obj} {w : Nat} (hx : Reads tObj x T) (hf : FineT T) (hv : tVal.wf ⟨k, n⟩) (hc : CheckOk T ⟨k, n⟩) (hw : wordsN T ((⟨k, n⟩ : Val) :: r) ≤ wordsN S r + w) (hw2 : w ≤ 1000000000000) : OutN S r x k n .empty w
def stIV (nl : Bool) (T : List Obj) : IV := if nl = true then .val (.slice none 0 0) else .slice (tObj.row T) 0 T.length (some T.length)
theorem zsr {nl : Bool} {T : List Obj} (hn : nl = true → T = []) (hw : ∀ o ∈ T, tObj.wf o) (hl : T.length ≤ 140737488355328) : Reads tObj (stIV nl T) T := by
 unfold stIV
 cases nl with
 | true =>
  rw [hn rfl]
  exact ⟨by simp, by simp, .inl ⟨rfl, rfl⟩⟩
 | false => exact zo8 tObj T hw hl fun c h => by cases h; exact Nat.le_refl _
theorem zeh (base : Nat) (nl : Bool) (T : List Obj) (N : Nat) (hN : N = T.length) : Ends base (if nl = true then nilS else .osl base 0 5 N (some N)) (if nl = true then [] else [.flat (tObj.row T) false]) (stIV nl T) := by
 subst hN
 unfold stIV
 cases nl with
 | true => exact .inl ⟨rfl, rfl, rfl⟩
 | false => exact .inr ⟨_, _, rfl, .inl rfl, rfl⟩
theorem zeg (base : Nat) (T : List Obj) (N : Nat) (hN : N = T.length) : Ends base (.osl base 0 5 N (some N)) [.flat (tObj.row T) false] (stIV false T) := by
 subst hN
 exact .inr ⟨_, _, rfl, .inl rfl, rfl⟩
theorem zei (base : Nat) (T : List Obj) (N : Nat) (hN : N = T.length) : Ends base (.osl base 0 5 N (some N)) [.rich ((tObj.row T).map .imm)] (stIV false T) := by
 subst hN
 exact .inr ⟨_, _, rfl, .inr rfl, rfl⟩
theorem zc1 {S B : List Obj} (hS : ∀ o ∈ S, tObj.wf o) (hB : ∀ o ∈ B, tObj.wf o) : ∀ o ∈ (S.map cloneObj ++ B).map cloneObj, tObj.wf o := by
 refine zj2 fun o ho => ?_
 rcases List.mem_append.1 ho with ho | ho
 ·exact zj2 hS o ho
 ·exact hB o ho
theorem zje (S : List Obj) : Like S ((S.map cloneObj).map cloneObj) := by
 have := zjc S []
 rwa [List.append_nil, List.append_nil] at this
section
variable {S : List Obj} {r : List Val} {nl : Bool}
theorem zm2 (hn : nl = true → S = []) (hwf : ∀ o ∈ S, tObj.wf o) (hf : FineT S) {t : ByteArray} (ht : t ≠ .empty) : OutN S r (stIV nl ((S.map cloneObj).map cloneObj)) 0 0 t 0 := by
 refine .thr (zsr (fun h => by rw [hn h]; rfl) ?_ (by have := hf.len; simp; omega)) (zje S) ht
 exact zj2 (zj2 hwf)
theorem zmz (hn : nl = true → S = []) (hwf : ∀ o ∈ S, tObj.wf o) (hf : FineT S) (hc : ∀ v ∈ r, CheckOk S v) {k n : Int} (hv : tVal.wf ⟨k, n⟩) (hk : CheckOk S ⟨k, n⟩) (hr : ∀ j, leadsOf S ⟨k, n⟩ = some j → Reach S r j) :
  OutN S r (stIV nl ((S.map cloneObj).map cloneObj)) k n .empty 0 := by
 have hl := zje S
 have := OutN.ok (S := S) (r := r) (k := k) (n := n) (w := 0) (zsr (nl := nl) (T := (S.map cloneObj).map cloneObj) (fun h => by rw [hn h]; rfl) (zj2 (zj2 hwf)) (by have := hf.len; simp; omega)) (hf.like hl) hv (zca hl hk) (by rw [zvd hl]; have := zvf hr; omega) (by omega)
 exact this
theorem zmy (hwf : ∀ o ∈ S, tObj.wf o) (hf : FineT S) (hl50 : S.length ≤ 50000) (hc : ∀ v ∈ r, CheckOk S v) {o : Obj} (how : tObj.wf o) (hk : 3 ≤ o.k) (hk7 : o.k ≤ 7) (hs : o.s.size ≤ 60000) (hl : o.l.xs.length ≤ 60000) (ho : ObjOk (S ++ [o]) o) (hx : ∀ x ∈ o.l.xs, x ∈ r) (hw2 : wordsOf o ≤ 1000000000) :
  OutN S r (stIV false ((S.map cloneObj ++ [o]).map cloneObj)) o.k ((S.length + 1 : Nat) : Int) .empty (wordsOf o) := by
 have hlk := zjc S [o]
 have hf2 : FineT (S ++ [o]) := by
  refine ⟨by rw [List.length_append]; simp; omega, fun u hu => ?_, fun u hu => ?_⟩
  ·rcases List.mem_append.1 hu with hu | hu
   ·exact hf.s u hu
   ·rw [List.mem_singleton.1 hu]; exact hs
  ·rcases List.mem_append.1 hu with hu | hu
   ·exact hf.l u hu
   ·rw [List.mem_singleton.1 hu]; exact hl
 have hck := zcc hk hk7 ho fun x hx' => hc x (hx x hx')
 refine OutN.ok (S := S) (r := r) (zsr (fun h => by cases h) (zc1 hwf fun u hu => by rw [List.mem_singleton.1 hu]; exact how) (by simp; omega)) (hf2.like hlk) ⟨wfU8.2 ⟨by show (0 : Int) ≤ o.k; omega, by show o.k ≤ 255; omega⟩, wfI64.2 ⟨by show (-9223372036854775808 : Int) ≤ ((S.length + 1 : Nat) : Int); omega, by show ((S.length + 1 : Nat) : Int) ≤ 9223372036854775807; omega⟩⟩ (zca hlk hck) ?_ (by omega)
 ·rw [zvd hlk]
  exact zve hc hx
end
end Go.EX


namespace Go.EX
theorem zvl (n : Int) : (tInt .i64).wf (IntKind.wrap .i64 n) := by
 have e : IntKind.wrap .i64 n = if n % 18446744073709551616 ≥ 9223372036854775808 then n % 18446744073709551616 - 18446744073709551616 else n % 18446744073709551616 := by
  simp [IntKind.wrap, IntKind.signed, IntKind.bits]
 rw [wfI64, e]
 by_cases h : n % 18446744073709551616 ≥ 9223372036854775808
 ·rw [if_pos h]; omega
 ·rw [if_neg h]; omega
theorem zjd (S : List Obj) : Like S (S.map cloneObj) := by
 refine ⟨by simp, fun i o u ho hu => ?_⟩
 rw [List.getElem?_map, ho] at hu
 cases hu
 exact zrs o
theorem zcg {S : List Obj} {v : Val} (h : CheckOk S v) (h3 : v.k = 3) : ∃ p o, leadsOf S v = some p ∧ S[p]? = some o ∧ o.s.size ≤ 4096 ∧ o.l.xs = [] := by
 have h1 := h.1
 unfold valOf at h1
 rw [if_neg (by omega), if_neg (by omega), if_neg (by omega)] at h1
 obtain ⟨p, hp⟩ := Option.isSome_iff_exists.1 h1
 obtain ⟨q1, q2, q3, q4, o, ho, hok⟩ := ziy hp
 have := h.2 p o (.root (List.mem_singleton_self _) hp) ho
 unfold ObjOk at this
 rw [if_pos (by omega)] at this
 exact ⟨p, o, hp, ho, this.1, this.2.1⟩
theorem zb9 {S : List Obj} {v : Val} (h : CheckOk S v) (h3 : 3 ≤ v.k) : ∃ p o, leadsOf S v = some p ∧ S[p]? = some o ∧ o.k = v.k ∧ ObjOk S o := by
 have h1 := h.1
 unfold valOf at h1
 rw [if_neg (by omega), if_neg (by omega), if_neg (by omega)] at h1
 obtain ⟨p, hp⟩ := Option.isSome_iff_exists.1 h1
 obtain ⟨q1, q2, q3, q4, o, ho, hok⟩ := ziy hp
 exact ⟨p, o, hp, ho, hok, h.2 p o (.root (List.mem_singleton_self _) hp) ho⟩
theorem ztk {S T : List Obj} (hl : Like S T) {v : Val} (h : valOf S v = true) : TextOk T v := by
 intro h3
 unfold valOf at h
 rw [if_neg (by omega), if_neg (by omega), if_neg (by omega)] at h
 obtain ⟨p, hp⟩ := Option.isSome_iff_exists.1 h
 exact ⟨p, by rw [zi0 hl]; exact hp⟩
theorem zcb {S : List Obj} {v : Val} (h3 : v.k < 3) (h : valOf S v = true) : CheckOk S v := by
 refine ⟨h, fun k o hr ho => ?_⟩
 exfalso
 clear ho
 induction hr with
 | root hv hl =>
  rw [List.mem_singleton.1 hv] at hl
  have := (ziy hl).2.2.1
  omega
 | step _ _ _ _ ih => exact ih
theorem zju {S : List Obj} {v : Val} (h3 : v.k < 3) (j : Nat) (h : leadsOf S v = some j) : False := by
 have := (ziy h).2.2.1
 omega
theorem za3 {t : ByteArray} (ht : t.size ≤ 4096) : askSum [textN t] = (wordsOf (textN t) : Nat) ∧ wordsOf (textN t) ≤ 1000 := by
 have hb : wordsOf (textN t) ≤ 1000 := by simp [wordsOf, textN]; omega
 refine ⟨?_, hb⟩
 have e1 : IntKind.wrap .i64 ((t.size : Int) + 7) = (t.size : Int) + 7 := wrapI64 (by omega) (by omega)
 have e2 : ((t.size : Int) + 7).tdiv 8 = ((t.size : Int) + 7) / 8 := Int.tdiv_eq_ediv_of_nonneg (by omega)
 have e3 : IntKind.wrap .i64 (((t.size : Int) + 7) / 8) = ((t.size : Int) + 7) / 8 := wrapI64 (by omega) (by omega)
 have e4 : IntKind.wrap .i64 (2 + ((t.size : Int) + 7) / 8) = 2 + ((t.size : Int) + 7) / 8 := wrapI64 (by omega) (by omega)
 have hw : wordsObj (textN t) = 2 + ((t.size : Int) + 7) / 8 := by
  unfold wordsObj
  rw [if_pos (show (textN t).k = 3 from rfl)]
  show IntKind.wrap .i64 (2 + IntKind.wrap .i64 ((IntKind.wrap .i64 ((t.size : Int) + 7)).tdiv 8)) = _
  rw [e1, e2, e3, e4]
 have hn : wordsOf (textN t) = 2 + (t.size + 7) / 8 := by simp [wordsOf, textN]
 show IntKind.wrap .i64 (0 + wordsObj (textN t)) = _
 rw [hw, hn, Int.zero_add, e4]
 omega
theorem za2 (kk : Int) (hk : kk = 4 ∨ kk = 5) (l : Sl tVal) (room : Nat) (h0 : 0 < room) (h1 : room ≤ 1000) : askSum [rowN kk l room] = (wordsOf (rowN kk l room) : Nat) ∧ wordsOf (rowN kk l room) ≤ 10000 := by
 have hw := zvg kk hk l room (by omega) (by omega)
 have hn : wordsOf (rowN kk l room) = 4 + 2 * room := by
  unfold wordsOf rowN
  dsimp only
  rcases hk with rfl | rfl
  ·rw [if_neg (by decide), if_pos (.inl rfl), if_pos (by omega)]; rfl
  ·rw [if_neg (by decide), if_pos (.inr rfl), if_pos (by omega)]; rfl
 refine ⟨?_, by omega⟩
 show IntKind.wrap .i64 (0 + wordsObj (rowN kk l room)) = _
 rw [hw, hn, Int.zero_add]
 exact (wrapI64 (by omega) (by omega)).trans (by omega)
structure KeepN (code : Nat → Option XFun) (ext : Calls') (nl : Bool) (sv : IV) (S : List Obj) (idx : Nat) (r : List Val) : Prop where
 st : StoreN nl sv S idx
 fn : FineT S
 len : S.length ≤ 50000
 ck : ∀ v ∈ r, CheckOk S v
 wf : ∀ v ∈ r, tVal.wf v
 may : FineN code ext sv r
section
variable {code : Nat → Option XFun} {ext : Calls'} {nl : Bool} {sv : IV} {S : List Obj} {idx : Nat} {r : List Val}
theorem KeepN.nil (h : KeepN code ext nl sv S idx r) : nl = true → S = [] := fun e => (h.st.nil e).2
theorem KeepN.sub (h : KeepN code ext nl sv S idx r) {l : List Val} (hl : ∀ v ∈ l, v ∈ r) : FineN code ext sv l := fun v hv => h.may v (hl v hv)
def Own640 (code : Nat → Option XFun) (ext : Calls') (sv : IV) (S : List Obj) (r : List Val) (op n0 : Int) (xs : List Val) : Prop :=
 ∃ A M x k n t w, Ends 1 A M x ∧ OutN S r x k n t w ∧
  callW code ext 640 [.imm sv, .imm (.val (.int .u8 op)), int64 n0, .osl 0 0 2 xs.length (some xs.length)] [.flat (tVal.row xs) false] = some (.agg [A, .imm (.val (.int .u8 k)), int64 n, strV t, int64 w], [.flat (tVal.row xs) false] ++ M)
theorem znb (c : DoCode code idx) (h : KeepN code ext nl sv S idx r) {op n0 : Int} {xs : List Val} (hl : xs.length ≤ 1000) (hm : ∀ v ∈ xs, v ∈ r) {t : ByteArray} (ht : t ≠ .empty)
  (hd : callW code ext 206 [.optr 0 0, .agg [.imm (.val (.int .u8 op)), int64 n0, .osl 1 0 2 xs.length (some xs.length), nilS]] (sL nl (S.map cloneObj) (tVal.row xs) 0) = some (didP 0 0 t, sL nl (S.map cloneObj) (tVal.row xs) 0)) : Own640 code ext sv S r op n0 xs :=
 ⟨_, _, _, _, _, _, _, zeh 1 nl _ _ (by simp), zm2 h.nil h.st.rd.1 h.fn ht, zdv (ext := ext) c h.st hl (h.sub hm) op n0 0 0 t hd⟩
theorem zm8 (c : DoCode code idx) (h : KeepN code ext nl sv S idx r) {op n0 : Int} {xs : List Val} (hl : xs.length ≤ 1000) (hm : ∀ v ∈ xs, v ∈ r) {k n : Int} (hv : tVal.wf ⟨k, n⟩) (hk : CheckOk S ⟨k, n⟩) (hr : ∀ j, leadsOf S ⟨k, n⟩ = some j → Reach S r j)
  (hd : callW code ext 206 [.optr 0 0, .agg [.imm (.val (.int .u8 op)), int64 n0, .osl 1 0 2 xs.length (some xs.length), nilS]] (sL nl (S.map cloneObj) (tVal.row xs) 0) = some (didP k n .empty, sL nl (S.map cloneObj) (tVal.row xs) 0)) : Own640 code ext sv S r op n0 xs :=
 ⟨_, _, _, _, _, _, _, zeh 1 nl _ _ (by simp), zmz h.nil h.st.rd.1 h.fn h.ck hv hk hr, zdv (ext := ext) c h.st hl (h.sub hm) op n0 k n .empty hd⟩
theorem zna (c : DoCode code idx) (h : KeepN code ext nl sv S idx r) {op n0 : Int} {xs : List Val} (hl : xs.length ≤ 1000) (hm : ∀ v ∈ xs, v ∈ r) {t : ByteArray} (ht : t.size ≤ 4096)
  (hd : callW code ext 206 [.optr 0 0, .agg [.imm (.val (.int .u8 op)), int64 n0, .osl 1 0 2 xs.length (some xs.length), nilS]] (sL nl (S.map cloneObj) (tVal.row xs) 0) = some (didP 3 (((S.map cloneObj).length + 1 : Nat) : Int) .empty, sKM nl (S.map cloneObj) (tVal.row xs) (textN t) (wordsObj (textN t)))) : Own640 code ext sv S r op n0 xs := by
 rw [List.length_map] at hd
 have h1 := zdz (ext := ext) c h.st hl (h.sub hm) op n0 3 ((S.length + 1 : Nat) : Int) .empty (zto ht) rfl _ hd
 obtain ⟨h2, h3⟩ := za3 ht
 rw [h2] at h1
 have h4 := zmy (S := S) (r := r) (o := textN t) h.st.rd.1 h.fn h.len h.ck (zto ht) (show (3 : Int) ≤ 3 by decide) (show (3 : Int) ≤ 7 by decide) (by show t.size ≤ _; omega) (by simp [textN]) (by unfold ObjOk; rw [if_pos (show (textN t).k = 3 from rfl)]; exact ⟨ht, rfl, rfl, rfl⟩) (by simp [textN]) (by omega)
 exact ⟨_, _, _, _, _, _, _, zeg 1 ((S.map cloneObj ++ [textN t]).map cloneObj) (S.length + 1) (by simp), h4, h1⟩
theorem zil : kindT ≠ .empty := by decide
theorem zg2 : greatN ≠ .empty := by decide
theorem zbj : boundsN ≠ .empty := by decide
theorem zlh (hn : nl = true → S = []) {v : Val} {p : Nat} (h : leadsOf S v = some p) : nl = false := by
 cases nl with
 | false => rfl
 | true =>
  rw [hn rfl] at h
  exact (zi2 h).elim
theorem zgu {p : Nat} {o : Obj} (h : S[p]? = some o) : (S.map cloneObj)[p]? = some (cloneObj o) := by rw [List.getElem?_map, h]; rfl
theorem zc0 (o : Obj) : (cloneObj o).l.xs = o.l.xs := (zrs o).l
theorem zbe (c : DoCode code idx) {a b : Val} (ha : a ∈ r) (hb : b ∈ r) (h : KeepN code ext nl sv S idx r) : Own640 code ext sv S r 14 1 [a, b] := by
 have hm : ∀ v ∈ [a, b], v ∈ r := by
  intro v hv
  simp only [List.mem_cons, List.not_mem_nil, or_false] at hv
  rcases hv with rfl | rfl
  ·exact ha
  ·exact hb
 have hw : ∀ x ∈ [a, b], tVal.wf x := fun x hx => h.wf x (hm x hx)
 have hlen := h.len
 cases h7 : [a, b].any fun v => decide (v.k = 7) with
 | true => exact znb c h (by simp) hm zil (zd0 (ext := ext) c.toPlainFns nl _ 14 1 (by decide) (by decide) (by simp) hw h7)
 | false =>
  by_cases h2 : a.k = 2 ∧ b.k = 2
  ·have h1 := zk6 (ext := ext) c.toPlainFns nl (S.map cloneObj) a.n b.n
   have h3 := (do_two (ext := ext) c.toPlainFns nl (S.map cloneObj) hw h7 2 (IntKind.wrap .i64 (a.n + b.n)) .empty).1 (by rw [h2.1, h2.2]; exact h1)
   exact zm8 c h (by simp) hm ⟨(wfU8.2 ⟨by decide, by decide⟩ : (tInt IntKind.u8).wf (2 : Int)), zvl _⟩ (zcb (show (2 : Int) < 3 by decide) rfl) (fun j hj => (zju (show (2 : Int) < 3 by decide) j hj).elim) h3
  ·by_cases h3 : a.k = 3 ∧ b.k = 3
   ·obtain ⟨p, o, p1, p2, p3, p4⟩ := zcg (h.ck a ha) h3.1
    obtain ⟨q, u, q1, q2, q3, q4⟩ := zcg (h.ck b hb) h3.2
    have hnl := zlh h.nil p1
    subst hnl
    have h1 := zk8 (ext := ext) c.toPlainFns (T := S.map cloneObj) (by rw [List.length_map]; omega) h3.1 h3.2 (by rw [zi0 (zjd S)]; exact p1) (by rw [zi0 (zjd S)]; exact q1) (zgu p2) (zgu q2) p3 q3
    unfold putT at h1
    by_cases ht : ((cloneObj o).s ++ (cloneObj u).s).size ≤ 4096
    ·rw [if_pos ht] at h1
     exact zna c h (by simp) hm ht ((zd8 (ext := ext) c.toPlainFns false (S.map cloneObj) hw h7 _ _ _ _ _).1 h1)
    ·rw [if_neg ht] at h1
     exact znb c h (by simp) hm zg2 ((do_two (ext := ext) c.toPlainFns false (S.map cloneObj) hw h7 _ _ _).1 h1)
   ·exact znb c h (by simp) hm zil ((do_two (ext := ext) c.toPlainFns nl (S.map cloneObj) hw h7 _ _ _).1 (zk7 (ext := ext) c.toPlainFns nl _ h2 h3))
theorem zgw (c : DoCode code idx) {a b : Val} (ha : a ∈ r) (hb : b ∈ r) (h : KeepN code ext nl sv S idx r) : Own640 code ext sv S r 24 0 [a, b] := by
 have hm : ∀ v ∈ [a, b], v ∈ r := by
  intro v hv
  simp only [List.mem_cons, List.not_mem_nil, or_false] at hv
  rcases hv with rfl | rfl
  ·exact ha
  ·exact hb
 have hw : ∀ x ∈ [a, b], tVal.wf x := fun x hx => h.wf x (hm x hx)
 have hlen := h.len
 have item : ∀ {q : Nat} {o : Obj} {x : Val}, leadsOf S a = some q → S[q]? = some o → x ∈ o.l.xs → tVal.wf x ∧ CheckOk S x ∧ ∀ j, leadsOf S x = some j → Reach S r j := fun {q o x} hq ho hx =>
  ⟨o.l.ok.1 x hx, zb8 (h.ck a ha) hq ho hx, fun j hj => .step (.root ha hq) ho hx hj⟩
 cases h7 : [a, b].any fun v => decide (v.k = 7) with
 | true => exact znb c h (by simp) hm zil (zd0 (ext := ext) c.toPlainFns nl _ 24 0 (by decide) (by decide) (by simp) hw h7)
 | false =>
  by_cases h5 : a.k = 5
  ·obtain ⟨q, o, q1, q2, q3, q4⟩ := zb9 (h.ck a ha) (by omega)
   have hnl := zlh h.nil q1
   subst hnl
   unfold ObjOk at q4
   rw [if_neg (by omega), if_neg (by omega), if_pos (by omega)] at q4
   obtain ⟨_, _, a3, a4, _, _, a7, _⟩ := q4
   have a3 : ((o.l.xs.length % 2 : Nat) : Int) = 0 := a3
   obtain ⟨x, hx, h1⟩ := zle (ext := ext) c.toPlainFns (T := S.map cloneObj) (k := b) (by rw [List.length_map]; omega) h5 (by rw [zi0 (zjd S)]; exact q1) (zgu q2) (by rw [zc0]; omega) (by rw [zc0]; omega) (ztk (zjd S) (h.ck b hb).1) (fun j y hy => by
    rw [zc0] at hy
    exact ztk (zjd S) (zhe a7 y (List.mem_of_getElem? hy)))
   rw [zc0] at hx
   have hd := (do_two (ext := ext) c.toPlainFns false (S.map cloneObj) hw h7 _ _ _).2 h1
   rcases hx with rfl | hx
   ·exact zm8 c h (by simp) hm ⟨wfU8.2 ⟨by decide, by decide⟩, wfI64.2 ⟨by decide, by decide⟩⟩ (zcb (by decide) rfl) (fun j hj => (zju (by decide) j hj).elim) hd
   ·obtain ⟨i1, i2, i3⟩ := item q1 q2 hx
    exact zm8 c h (by simp) hm i1 i2 i3 hd
  ·by_cases h4 : a.k = 4 ∧ b.k = 2
   ·obtain ⟨q, o, q1, q2, q3, q4⟩ := zb9 (h.ck a ha) (by omega)
    have hnl := zlh h.nil q1
    subst hnl
    unfold ObjOk at q4
    rw [if_neg (by omega), if_pos (by omega)] at q4
    obtain ⟨a1, _, a3, _, _, _⟩ := q4
    rcases zld (ext := ext) c.toPlainFns (T := S.map cloneObj) (k := b) (by rw [List.length_map]; omega) h4.1 h4.2 (by rw [zi0 (zjd S)]; exact q1) (zgu q2) (by rw [zc0]; omega) a1 with ⟨x, hx, h1⟩ | h1
    ·rw [zc0] at hx
     obtain ⟨i1, i2, i3⟩ := item q1 q2 hx
     exact zm8 c h (by simp) hm i1 i2 i3 ((do_two (ext := ext) c.toPlainFns false (S.map cloneObj) hw h7 _ _ _).2 h1)
    ·exact znb c h (by simp) hm zbj ((do_two (ext := ext) c.toPlainFns false (S.map cloneObj) hw h7 _ _ _).2 h1)
   ·by_cases h3 : a.k = 3 ∧ b.k = 2
    ·obtain ⟨q, o, q1, q2, q3, q4⟩ := zcg (h.ck a ha) h3.1
     have hnl := zlh h.nil q1
     subst hnl
     rcases zlf (ext := ext) c.toPlainFns (T := S.map cloneObj) (k := b) (by rw [List.length_map]; omega) h3.1 h3.2 (by rw [zi0 (zjd S)]; exact q1) (zgu q2) (by rw [zc0]; exact q4) q3 with ⟨t, ht, h1⟩ | h1
     ·exact zna c h (by simp) hm ht ((zd8 (ext := ext) c.toPlainFns false (S.map cloneObj) hw h7 _ _ _ _ _).2 h1)
     ·exact znb c h (by simp) hm zbj ((do_two (ext := ext) c.toPlainFns false (S.map cloneObj) hw h7 _ _ _).2 h1)
    ·exact znb c h (by simp) hm zil ((do_two (ext := ext) c.toPlainFns nl (S.map cloneObj) hw h7 _ _ _).2 (zlc (ext := ext) c.toPlainFns nl _ (by omega)))
theorem zsb (c : DoCode code idx) {a : Val} (ha : a ∈ r) (h : KeepN code ext nl sv S idx r) {t : ByteArray} {is : Bool}
  (hx : ∃ m, callW code ext 648 [.imm (stIV nl (S.map cloneObj)), .agg [.imm (.val (.int .u8 a.k)), int64 a.n]] [] = some (.tup [strV t, avb is], m)) : Own640 code ext sv S r 18 0 [a] := by
 have hm : ∀ v ∈ [a], v ∈ r := fun v hv => by rw [List.mem_singleton.1 hv]; exact ha
 have hw : ∀ x ∈ [a], tVal.wf x := fun x hx => h.wf x (hm x hx)
 have hlen := h.len
 by_cases h7 : a.k = 7
 ·exact znb c h (by simp) hm zil (zd0 (ext := ext) c.toPlainFns nl _ 18 0 (by decide) (by decide) (by simp) hw (by simpa using h7))
 ·have h1 := zd7 (ext := ext) c.toPlainFns (nl := nl) (T := S.map cloneObj) (fun e => by rw [h.nil e]; rfl) (by rw [List.length_map]; omega) (h.wf a ha) h7 (t := t) (is := is) hx
  cases is with
  | false => rw [if_pos rfl] at h1; exact znb c h (by simp) hm zg2 h1
  | true =>
   rw [if_neg (by decide)] at h1
   by_cases ht : t.size ≤ 4096
   ·rw [if_pos ht] at h1; exact zna c h (by simp) hm ht h1
   ·rw [if_neg ht] at h1; exact znb c h (by simp) hm zg2 h1
end
end Go.EX


namespace Go.EX
theorem zl4 {T : List Obj} {o : Obj} (h : o.k = 4) : ObjOk T o ↔ o.s = .empty ∧ o.fn = 0 ∧ (o.l.xs.length : Int) ≤ 65536 ∧ (o.l.xs.length : Int) ≤ o.room ∧ o.room ≤ 262144 ∧ heldOf T o.l.xs false = true := by
 unfold ObjOk
 rw [if_neg (by omega), if_pos h]
theorem zl5 {T : List Obj} {o : Obj} (h : o.k = 5) : ObjOk T o ↔ o.s = .empty ∧ o.fn = 0 ∧ (o.l.xs.length : Int).tmod 2 = 0 ∧ (o.l.xs.length : Int) ≤ 131072 ∧ (o.l.xs.length : Int) ≤ o.room ∧ o.room ≤ 262144 ∧ heldOf T o.l.xs false = true ∧ KeysOk T o.l.xs := by
 unfold ObjOk
 rw [if_neg (by omega), if_neg (by omega), if_pos h]
section
variable {code : Nat → Option XFun} {ext : Calls'} {nl : Bool} {sv : IV} {S : List Obj} {idx : Nat} {r : List Val}
def Imm640 (code : Nat → Option XFun) (ext : Calls') (sv lv : IV) (S : List Obj) (r : List Val) (op : Int) : Prop :=
 ∃ A M x k n t w, Ends 0 A M x ∧ OutN S r x k n t w ∧
  callW code ext 640 [.imm sv, .imm (.val (.int .u8 op)), int64 0, .imm lv] [] = some (.agg [A, .imm (.val (.int .u8 k)), int64 n, strV t, int64 w], M)
theorem zhi (c : DoCode code idx) (h : KeepN code ext nl sv S idx r) {op : Int} {lv : IV} {xs : List Val} (hr : Reads tVal lv xs) (hl : xs.length ≤ 1000) (hm : ∀ v ∈ xs, v ∈ r) {t : ByteArray} (ht : t ≠ .empty)
  (hd : callW code ext 206 [.optr 0 0, .agg [.imm (.val (.int .u8 op)), int64 0, .imm lv, nilS]] (sM nl (S.map cloneObj)) = some (didP 0 0 t, sM nl (S.map cloneObj))) : Imm640 code ext sv lv S r op :=
 ⟨_, _, _, _, _, _, _, zeh 0 nl _ _ (by simp), zm2 h.nil h.st.rd.1 h.fn ht, zdw (ext := ext) c h.st hr hl (h.sub hm) op 0 0 0 t hd⟩
theorem zhc {l : List Val} (u : Obj) (hc : ∀ v ∈ l, CheckOk S v) (h7 : (l.any fun v => decide (v.k = 7)) = false) : heldOf (S ++ [u]) l false = true := by
 rw [heldOf, List.all_eq_true]
 intro v hv
 have h1 := zuk u (hc v hv).1
 have h2 := List.any_eq_false.1 h7 v hv
 rw [h1]
 simp only [decide_eq_true_eq] at h2
 simp [h2]
theorem zhh (c : DoCode code idx) (h : KeepN code ext nl sv S idx r) {op kk : Int} (hkk : kk = 4 ∨ kk = 5) {lv : IV} {xs : List Val} (hr : Reads tVal lv xs) (hl0 : 0 < xs.length) (hl : xs.length ≤ 1000) (hm : ∀ v ∈ xs, v ∈ r) (l : Sl tVal) (hlx : l.xs = xs) (hiv : l.iv = .slice (tVal.row xs) 0 xs.length none)
  (hob : ObjOk (S ++ [rowN kk l xs.length]) (rowN kk l xs.length))
  (hd : callW code ext 206 [.optr 0 0, .agg [.imm (.val (.int .u8 op)), int64 0, .imm lv, nilS]] (sM nl (S.map cloneObj)) = some (didP kk (((S.map cloneObj).length + 1 : Nat) : Int) .empty, sKP nl (S.map cloneObj) (rowN kk l xs.length) (tVal.row xs) xs.length none (wordsObj (rowN kk l xs.length)))) : Imm640 code ext sv lv S r op := by
 have hox : (rowN kk l xs.length).l.xs = xs := hlx
 rw [List.length_map] at hd
 have h1 := zdy (ext := ext) c h.st hr hl (h.sub hm) op 0 kk ((S.length + 1 : Nat) : Int) .empty (o := rowN kk l xs.length) (by show isNilIV l.iv = false; rw [hiv]; rfl) (by rw [hox]; omega) _ none (by rw [hox]; exact hiv) (by rw [hox]; exact hd)
 obtain ⟨h2, h3⟩ := za2 kk hkk l xs.length hl0 hl
 rw [h2] at h1
 have hk2 : (3 : Int) ≤ kk ∧ kk ≤ 7 := by rcases hkk with rfl | rfl <;> omega
 have how : tObj.wf (rowN kk l xs.length) := by
  refine ⟨wfU8.2 ⟨by show (0 : Int) ≤ kk; omega, by show kk ≤ 255; omega⟩, ?_, wfI64.2 ⟨?_, ?_⟩, (wfI64.2 ⟨by decide, by decide⟩ : (tInt IntKind.i64).wf (0 : Int))⟩
  ·exact (by decide : (ByteArray.empty : ByteArray).size ≤ 140737488355328)
  ·show (-9223372036854775808 : Int) ≤ (xs.length : Int); omega
  ·show (xs.length : Int) ≤ 9223372036854775807; omega
 have h4 := zmy (S := S) (r := r) (o := rowN kk l xs.length) h.st.rd.1 h.fn h.len h.ck how hk2.1 hk2.2 (by simp [rowN]) (by rw [hox]; omega) hob (by rw [hox]; exact hm) (by omega)
 exact ⟨_, _, _, _, _, _, _, zei 0 ((S.map cloneObj ++ [rowN kk l xs.length]).map cloneObj) (S.length + 1) (by simp), h4, h1⟩
theorem zjh (c : DoCode code idx) (h : KeepN code ext nl sv S idx r) {lv : IV} (hr : Reads tVal lv r) (h0 : 0 < r.length) (hl : r.length ≤ 1000) : Imm640 code ext sv lv S r 22 := by
 have hlen := h.len
 cases h7 : r.any fun v => decide (v.k = 7) with
 | true => exact zhi c h hr hl (fun v hv => hv) zil (zd1 (ext := ext) c.toPlainFns nl _ 22 0 (by decide) (by decide) hr hl h7)
 | false =>
  have hd := zd2 (ext := ext) c.toPlainFns (nl := nl) (T := S.map cloneObj) (fun e => by rw [h.nil e]; rfl) (by rw [List.length_map]; omega) hr h0 hl h7 (slOf r none h.wf (by omega) (fun c h => by cases h)) rfl
  refine zhh c h (.inl rfl) hr h0 hl (fun v hv => hv) _ rfl rfl ?_ hd
  refine (zl4 rfl).2 ?_
  refine ⟨rfl, rfl, ?_, ?_, ?_, zhc _ h.ck h7⟩
  ·show (r.length : Int) ≤ 65536; omega
  ·show (r.length : Int) ≤ (r.length : Int); omega
  ·show (r.length : Int) ≤ 262144; omega
theorem zj5 (c : DoCode code idx) (h : KeepN code ext nl sv S idx r) {a b : Val} (ha : a ∈ r) (hb : b ∈ r) {lv : IV} (hr : Reads tVal lv [a, b]) : Imm640 code ext sv lv S r 23 := by
 have hm : ∀ v ∈ [a, b], v ∈ r := by
  intro v hv
  simp only [List.mem_cons, List.not_mem_nil, or_false] at hv
  rcases hv with rfl | rfl
  ·exact ha
  ·exact hb
 have hlen := h.len
 cases h7 : [a, b].any fun v => decide (v.k = 7) with
 | true => exact zhi c h hr (by simp) hm zil (zd1 (ext := ext) c.toPlainFns nl _ 23 0 (by decide) (by decide) hr (by simp) h7)
 | false =>
  have hd := do_map (ext := ext) c.toPlainFns (nl := nl) (T := S.map cloneObj) (fun e => by rw [h.nil e]; rfl) (by rw [List.length_map]; omega) hr (ztk (zjd S) (h.ck a ha).1) h7 (slOf [a, b] none (fun x hx => h.wf x (hm x hx)) (by simp) (fun c h => by cases h)) rfl
  refine zhh c h (.inr rfl) hr (by simp) (by simp) hm _ rfl rfl ?_ hd
  refine (zl5 rfl).2 ?_
  refine ⟨rfl, rfl, show ((2 : Nat) : Int).tmod 2 = 0 by decide, ?_, ?_, ?_, zhc _ (fun v hv => h.ck v (hm v hv)) h7, ?_⟩
  ·show ((2 : Nat) : Int) ≤ 131072; omega
  ·show ((2 : Nat) : Int) ≤ ((2 : Nat) : Int); omega
  ·show ((2 : Nat) : Int) ≤ 262144; omega
  ·intro i k x y hi hk hlt hx hy
   exfalso
   have : i < 2 := (List.getElem?_eq_some_iff.1 hx).1
   omega
def View (code : Nat → Option XFun) (ext : Calls') (S : List Obj) (r : List Val) (f : Nat) (args : List AV) : Prop :=
 ∃ x k n t w, OutN S r x k n t w ∧ ∀ s, exView (callW code ext) s f args = some (outA x k n t w, s)
theorem zbf (c : DoCode code idx) (h627 : code 627 = some x627) {a b : Val} (ha : a ∈ r) (hb : b ∈ r) (h : KeepN code ext nl sv S idx r) : View code ext S r 627 [.imm sv, .imm (.val (.int .u8 1)), .agg [.imm (.val (.int .u8 a.k)), int64 a.n], .agg [.imm (.val (.int .u8 b.k)), int64 b.n]] := by
 obtain ⟨A, M, x, k, n, t, w, he, ho, hd⟩ := zbe (ext := ext) c ha hb h
 exact ⟨x, k, n, t, w, ho, fun s => zbd h627 sv a b he k n t w hd s⟩
theorem zgx (c : DoCode code idx) (h630 : code 630 = some x630) {a b : Val} (ha : a ∈ r) (hb : b ∈ r) (h : KeepN code ext nl sv S idx r) : View code ext S r 630 [.imm sv, .agg [.imm (.val (.int .u8 a.k)), int64 a.n], .agg [.imm (.val (.int .u8 b.k)), int64 b.n]] := by
 obtain ⟨A, M, x, k, n, t, w, he, ho, hd⟩ := zgw (ext := ext) c ha hb h
 exact ⟨x, k, n, t, w, ho, fun s => zgv h630 sv a b he k n t w hd s⟩
theorem zsc (c : DoCode code idx) (h637 : code 637 = some x637) {a : Val} (ha : a ∈ r) (h : KeepN code ext nl sv S idx r) {t : ByteArray} {is : Bool}
  (hx : ∃ m, callW code ext 648 [.imm (stIV nl (S.map cloneObj)), .agg [.imm (.val (.int .u8 a.k)), int64 a.n]] [] = some (.tup [strV t, avb is], m)) : View code ext S r 637 [.imm sv, .agg [.imm (.val (.int .u8 a.k)), int64 a.n]] := by
 obtain ⟨A, M, x, k, n, t, w, he, ho, hd⟩ := zsb (ext := ext) c ha h hx
 exact ⟨x, k, n, t, w, ho, fun s => zsa h637 sv a he k n t w hd s⟩
theorem zut {f : Nat} {y z : IV} {R : AV} (h : (callW code ext f [.imm y, .imm z] []).bind (fun r => (if r.1.plain then some r.1 else frz r.2 r.1)) = some R) (s : St) : exView (callW code ext) s f [.imm y, .imm z] = some (R, s) := by
 obtain ⟨⟨q, m⟩, h1, h2⟩ := Option.bind_eq_some_iff.1 h
 unfold exView
 have ha : ([.imm y, .imm z] : List AV).mapM (frz s.mem) = some [.imm y, .imm z] := by simp [frz, zgk]
 rw [ha]
 simp only [h1]
 dsimp only at h2
 split at h2
 ·rename_i hp
  cases h2
  rw [if_pos hp]
 ·rename_i hp
  rw [if_neg hp, if_pos (show ([.imm y, .imm z] : List AV).all AV.isImm = true from rfl), h2]
  rfl
theorem zji (c : DoCode code idx) (h632 : code 632 = some x632) (h : KeepN code ext nl sv S idx r) {lv : IV} (hr : Reads tVal lv r) (h0 : 0 < r.length) (hl : r.length ≤ 1000) : View code ext S r 632 [.imm sv, .imm lv] := by
 obtain ⟨A, M, x, k, n, t, w, he, ho, hd⟩ := zjh (ext := ext) c h hr h0 hl
 exact ⟨x, k, n, t, w, ho, fun s => zut (zjg h632 sv lv he k n t w hd) s⟩
theorem zj6 (c : DoCode code idx) (h633 : code 633 = some x633) {a b : Val} (ha : a ∈ r) (hb : b ∈ r) (h : KeepN code ext nl sv S idx r) {lv : IV} (hr : Reads tVal lv [a, b]) : View code ext S r 633 [.imm sv, .imm lv] := by
 obtain ⟨A, M, x, k, n, t, w, he, ho, hd⟩ := zj5 (ext := ext) c h ha hb hr
 exact ⟨x, k, n, t, w, ho, fun s => zut (zj3 h633 sv lv he k n t w hd) s⟩
end
end Go.EX


namespace Go.EX
open Classical
theorem zi3 {S : List Obj} {q : Nat} {o u : Obj} (ho : S[q]? = some o) (hk : u.k = o.k) (v : Val) : leadsOf (S.set q u) v = leadsOf S v := by
 unfold leadsOf
 rw [List.length_set]
 split
 ·rfl
 ·split
  ·rfl
  ·split
   ·rfl
   ·split
    ·rfl
    ·by_cases h : q = (v.n - 1).toNat
     ·subst h
      rw [List.getElem?_set_self (List.getElem?_eq_some_iff.1 ho).1, ho]
      simp only [hk]
     ·rw [List.getElem?_set_ne h]
theorem zo4 {S : List Obj} {q : Nat} {o u : Obj} (ho : S[q]? = some o) (hk : u.k = o.k) {r r2 : List Val} (hq : Reach S r q) (hx : ∀ x ∈ u.l.xs, x ∈ o.l.xs ∨ x ∈ r) (hr2 : ∀ v ∈ r2, v ∈ r ∨ v.k < 3) {k : Nat} (h : Reach (S.set q u) r2 k) : Reach S r k := by
 induction h with
 | root hv hl =>
  rw [zi3 ho hk] at hl
  rcases hr2 _ hv with h | h
  ·exact .root h hl
  ·exact (zju h _ hl).elim
 | @step k j z v _ hz hv hl ih =>
  rw [zi3 ho hk] at hl
  by_cases hkq : q = k
  ·subst hkq
   rw [List.getElem?_set_self (List.getElem?_eq_some_iff.1 ho).1] at hz
   cases hz
   rcases hx v hv with h | h
   ·exact .step ih ho h hl
   ·exact .root h hl
  ·rw [List.getElem?_set_ne hkq] at hz
   exact .step ih hz hv hl
theorem zs7 (q d : Nat) : ∀ n : Nat, ((List.range n).map fun k => if k = q then d else 0).sum ≤ d
 | 0 => by simp
 | n + 1 => by
  rw [List.range_succ, List.map_append, List.sum_append]
  by_cases h : n = q
  ·subst h
   have hz : ((List.range n).map fun k => if k = n then d else 0).sum = 0 := by
    have : ((List.range n).map fun k => if k = n then d else 0) = (List.range n).map fun _ => 0 := by
     apply List.map_congr_left
     intro k hk
     have := List.mem_range.1 hk
     rw [if_neg (by omega)]
    rw [this]
    clear this
    induction (List.range n) with
    | nil => rfl
    | cons x r ih => simpa using ih
   rw [hz]
   simp
  ·have := zs7 q d n
   simp only [List.map_cons, List.map_nil, List.sum_cons, List.sum_nil, if_neg h]
   omega
theorem zvh {S : List Obj} {q : Nat} {o u : Obj} (ho : S[q]? = some o) (hk : u.k = o.k) {r r2 : List Val} (hq : Reach S r q) (hx : ∀ x ∈ u.l.xs, x ∈ o.l.xs ∨ x ∈ r) (hr2 : ∀ v ∈ r2, v ∈ r ∨ v.k < 3) {d : Nat} (hd : wordsOf u ≤ wordsOf o + d) : wordsN (S.set q u) r2 ≤ wordsN S r + d := by
 unfold wordsN
 rw [List.length_set]
 have h1 := zs6 (fun k => if Reach (S.set q u) r2 k then wordsAt (S.set q u) k else 0) (fun k => if Reach S r k then wordsAt S k else 0) (fun k => if k = q then d else 0) (fun k => by
  by_cases h : Reach (S.set q u) r2 k
  ·have h2 := zo4 ho hk hq hx hr2 h
   simp only [if_pos h, if_pos h2]
   unfold wordsAt
   by_cases hkq : q = k
   ·subst hkq
    rw [List.getElem?_set_self (List.getElem?_eq_some_iff.1 ho).1, ho, if_pos rfl]
    exact hd
   ·rw [List.getElem?_set_ne hkq]
    omega
  ·simp only [if_neg h]
   exact Nat.zero_le _) (List.range S.length)
 have h2 := zs7 q d S.length
 omega
theorem za4 {o u : Obj} (hk : u.k = o.k) (h45 : o.k = 4 ∨ o.k = 5) (ho : 0 ≤ o.room ∧ o.room ≤ 262144) (hu : 0 ≤ u.room ∧ u.room ≤ 262144) : 0 ≤ askP o u ∧ askP o u ≤ 1000000 ∧ (wordsOf u : Int) ≤ wordsOf o + askP o u := by
 have key : ∀ z : Obj, z.k = o.k → 0 ≤ z.room ∧ z.room ≤ 262144 → wordsObj z = (wordsOf z : Nat) ∧ 3 ≤ wordsOf z ∧ (wordsOf z : Int) ≤ 4 + 2 * z.room := by
  intro z hz hr
  unfold wordsObj wordsOf
  have n3 : ¬ z.k = 3 := by omega
  have n6 : ¬ z.k = 6 := by omega
  have h4 : z.k = 4 ∨ z.k = 5 := by omega
  simp only [if_neg n3, if_neg n6, if_pos h4]
  by_cases h0 : 0 < z.room
  ·rw [if_pos ⟨h4, h0⟩, if_pos h0, wrapI64 (x := 2 * z.room) (by omega) (by omega), wrapI64 (x := 4 + 2 * z.room) (by omega) (by omega)]
   omega
  ·rw [if_neg (fun h => h0 h.2), if_neg h0]
   omega
 obtain ⟨a1, a2, a3⟩ := key o rfl ho
 obtain ⟨b1, b2, b3⟩ := key u hk hu
 unfold askP
 split
 ·rename_i h
  rw [a1, b1] at h
  omega
 ·omega
section
variable {code : Nat → Option XFun} {ext : Calls'}
theorem zoc (h : code 636 = some x636) (sv : IV) (a b x : Val) (k n : Int) (t : ByteArray) (w : Int) {A : AV} {M : Mem} {y : IV} (he : Ends 1 A M y)
  (hd : callW code ext 640 [.imm sv, .imm (.val (.int .u8 25)), int64 0, .osl 0 0 2 3 (some 3)] [.flat (tVal.row [a, b, x]) false] = some (.agg [A, .imm (.val (.int .u8 k)), int64 n, strV t, int64 w], [.flat (tVal.row [a, b, x]) false] ++ M)) (s : St) :
  exView (callW code ext) s 636 [.imm sv, valA a, valA b, valA x] = some (outA y k n t w, s) := by
 have hrow : tVal.row [a, b, x] = [.val (.int .u8 a.k), .val (.int .i64 a.n), .val (.int .u8 b.k), .val (.int .i64 b.n), .val (.int .u8 x.k), .val (.int .i64 x.n)] := rfl
 have p2 := zpj
 have p3 := zgf
 unfold valA
 rw [hrow] at hd
 rcases he with ⟨rfl, rfl, rfl⟩ | ⟨N, R, rfl, rfl | rfl, rfl⟩
 ·have h1 : callW code ext 636 [.imm sv, .agg [.imm (.val (.int .u8 a.k)), int64 a.n], .agg [.imm (.val (.int .u8 b.k)), int64 b.n], .agg [.imm (.val (.int .u8 x.k)), int64 x.n]] [] = some (outA (.val (.slice none 0 0)) k n t w, []) := by
   rw [zbs code ext h]
   simp -implicitDefEqProofs [x636, hd]
  simp -implicitDefEqProofs [h1]
 ·have h1 : callW code ext 636 [.imm sv, .agg [.imm (.val (.int .u8 a.k)), int64 a.n], .agg [.imm (.val (.int .u8 b.k)), int64 b.n], .agg [.imm (.val (.int .u8 x.k)), int64 x.n]] [] = some (.agg [.osl 0 0 5 N (some N), .imm (.val (.int .u8 k)), int64 n, strV t, int64 w], [.flat R false]) := by
   rw [zbs code ext h]
   simp -implicitDefEqProofs [x636, hd]
  simp -implicitDefEqProofs [h1]
 ·have hri := zpa R
  have h1 : callW code ext 636 [.imm sv, .agg [.imm (.val (.int .u8 a.k)), int64 a.n], .agg [.imm (.val (.int .u8 b.k)), int64 b.n], .agg [.imm (.val (.int .u8 x.k)), int64 x.n]] [] = some (.agg [.osl 0 0 5 N (some N), .imm (.val (.int .u8 k)), int64 n, strV t, int64 w], [.rich (R.map .imm)]) := by
   rw [zbs code ext h]
   simp -implicitDefEqProofs [x636, hd, hri, p2]
  simp -implicitDefEqProofs [h1, p3]
theorem zod (h : code 636 = some x636) (sv : IV) (a b x : Val) (w : Int) {N q n : Nat} {R W : List IV} (hR : R[q * 5 + 2]? = some (.slice W 0 n (some n)))
  (hd : callW code ext 640 [.imm sv, .imm (.val (.int .u8 25)), int64 0, .osl 0 0 2 3 (some 3)] [.flat (tVal.row [a, b, x]) false] = some (.agg [.osl 1 0 5 N (some N), .imm (.val (.int .u8 0)), int64 0, strV .empty, int64 w], [.flat (tVal.row [a, b, x]) false, .rich (richRow R (q * 5 + 2) (.osl 2 0 2 n (some n))), .flat W false])) (s : St) :
  exView (callW code ext) s 636 [.imm sv, valA a, valA b, valA x] = some (outA (.slice R 0 N (some N)) 0 0 .empty w, s) := by
 have hrow : tVal.row [a, b, x] = [.val (.int .u8 a.k), .val (.int .i64 a.n), .val (.int .u8 b.k), .val (.int .i64 b.n), .val (.int .u8 x.k), .val (.int .i64 x.n)] := rfl
 have p1 := zpu
 have hlt := (List.getElem?_eq_some_iff.1 hR).1
 have hrf : ∀ v : AV, AV.refs.refsL (richRow R (q * 5 + 2) v) = v.refs := fun v => zpe hlt
 have hfz := fun m id (hm : m[id]? = some (AObj.flat W false)) => zgo m (id := id) (n := n) (cap := some n) (R := R) (p := q * 5 + 2) hR hm
 unfold valA
 rw [hrow] at hd
 have h1 : callW code ext 636 [.imm sv, .agg [.imm (.val (.int .u8 a.k)), int64 a.n], .agg [.imm (.val (.int .u8 b.k)), int64 b.n], .agg [.imm (.val (.int .u8 x.k)), int64 x.n]] [] = some (.agg [.osl 0 0 5 N (some N), .imm (.val (.int .u8 0)), int64 0, strV .empty, int64 w], [.rich (richRow R (q * 5 + 2) (.osl 1 0 2 n (some n))), .flat W false]) := by
  rw [zbs code ext h]
  simp -implicitDefEqProofs [x636, hd, hrf, p1]
 simp -implicitDefEqProofs [h1, hfz]
end
end Go.EX


namespace Go.EX
theorem zjf {S T : List Obj} (h : Like S T) {q : Nat} {u w : Obj} (hs : SameO u w) : Like (S.set q u) (T.set q w) := by
 refine ⟨by simp [h.len], fun i o z ho hz => ?_⟩
 by_cases hi : q = i
 ·subst hi
  have hlt : q < S.length := by
   have := (List.getElem?_eq_some_iff.1 ho).1
   simpa using this
  rw [List.getElem?_set_self hlt] at ho
  rw [List.getElem?_set_self (by rw [h.len]; exact hlt)] at hz
  cases ho; cases hz
  exact hs
 ·rw [List.getElem?_set_ne hi] at ho hz
  exact h.at_ i o z ho hz
theorem Like.trans {A B C : List Obj} (h : Like A B) (g : Like B C) : Like A C := ⟨g.len.trans h.len, fun i o u ho hu => by
 obtain ⟨w, hw, hs⟩ := h.get ho
 exact hs.trans (g.at_ i w u hw hu)⟩
section
variable {code : Nat → Option XFun} {ext : Calls'} {sv : IV} {S : List Obj} {r : List Val}
theorem zm0 {q : Nat} {o0 : Obj} (ho : S[q]? = some o0) (hwf : ∀ o ∈ S, tObj.wf o) (hf : FineT S) (hl50 : ∀ o ∈ S, o.l.xs.length ≤ 50000) (hq : Reach S r q) (h45 : o0.k = 4 ∨ o0.k = 5) (hrm : 0 ≤ o0.room ∧ o0.room ≤ 262144) (room : Int) (hr : 0 ≤ room ∧ room ≤ 262144) (l2 : Sl tVal) (hx : ∀ x ∈ l2.xs, x ∈ o0.l.xs ∨ x ∈ r) (hl : l2.xs.length ≤ 60000) (hok : tObj.wf o0) :
  OutN S r (.slice (tObj.row (((S.map cloneObj).set q { cloneObj o0 with room := room, l := l2 }).map cloneObj)) 0 S.length (some S.length)) 0 0 .empty (askP (cloneObj o0) { cloneObj o0 with room := room, l := l2 }) := by
 have hlk : Like (S.set q { o0 with room := room, l := l2 }) (((S.map cloneObj).set q { cloneObj o0 with room := room, l := l2 }).map cloneObj) := (zjf (zjd S) (u := { o0 with room := room, l := l2 }) (w := { cloneObj o0 with room := room, l := l2 }) ⟨rfl, rfl, rfl, rfl, rfl⟩).trans (zjd _)
 have hlen : (((S.map cloneObj).set q { cloneObj o0 with room := room, l := l2 }).map cloneObj).length = S.length := by simp
 obtain ⟨a1, a2, a3⟩ := za4 (o := cloneObj o0) (u := { cloneObj o0 with room := room, l := l2 }) rfl h45 hrm hr
 have hw0 : wordsOf (cloneObj o0) = wordsOf o0 := zu9 (zrs o0)
 have hw1 : wordsOf { cloneObj o0 with room := room, l := l2 } = wordsOf { o0 with room := room, l := l2 } := rfl
 rw [hw0, hw1] at a3
 generalize askP (cloneObj o0) { cloneObj o0 with room := room, l := l2 } = ask at *
 obtain ⟨d, rfl⟩ : ∃ d : Nat, ask = d := ⟨ask.toNat, by omega⟩
 have hfl := hf.len
 have hws := zvh (S := S) (q := q) (o := o0) (u := { o0 with room := room, l := l2 }) ho rfl (r := r) (r2 := (⟨0, 0⟩ : Val) :: r) hq hx (fun v hv => by
  rcases List.mem_cons.1 hv with rfl | hv
  ·exact .inr (show (0 : Int) < 3 by decide)
  ·exact .inl hv) (d := d) (by omega)
 have hf2 : FineT (S.set q { o0 with room := room, l := l2 }) := by
  refine ⟨by rw [List.length_set]; exact hf.len, fun z hz => ?_, fun z hz => ?_⟩
  ·rcases List.mem_or_eq_of_mem_set hz with hz | rfl
   ·exact hf.s z hz
   ·exact hf.s o0 (List.mem_of_getElem? ho)
  ·rcases List.mem_or_eq_of_mem_set hz with hz | rfl
   ·exact hf.l z hz
   ·exact hl
 have hrd : Reads tObj (.slice (tObj.row (((S.map cloneObj).set q { cloneObj o0 with room := room, l := l2 }).map cloneObj)) 0 S.length (some S.length)) (((S.map cloneObj).set q { cloneObj o0 with room := room, l := l2 }).map cloneObj) := by
  have := zo8 tObj (((S.map cloneObj).set q { cloneObj o0 with room := room, l := l2 }).map cloneObj) (cap := some S.length) (zj2 fun z hz => by
   rcases List.mem_or_eq_of_mem_set hz with hz | rfl
   ·exact zj2 hwf z hz
   ·exact ⟨hok.1, hok.2.1, wfI64.2 ⟨by show (-9223372036854775808 : Int) ≤ room; omega, by show room ≤ 9223372036854775807; omega⟩, hok.2.2.2⟩) (by rw [hlen]; omega) (fun c h => by cases h; rw [hlen]; exact Nat.le_refl _)
  rwa [hlen] at this
 exact OutN.ok hrd (hf2.like hlk) ⟨wfU8.2 ⟨by decide, by decide⟩, wfI64.2 ⟨by decide, by decide⟩⟩ (zcb (show (0 : Int) < 3 by decide) rfl) (by rw [zvd hlk]; exact hws) (by omega)
structure KeepP (nl : Bool) (sv : IV) (S : List Obj) (r : List Val) : Prop where
 rd : Reads tObj sv S
 nil : nl = true → sv = .val (.slice none 0 0) ∧ S = []
 some : nl = false → isNilIV sv = false
 fn : FineT S
 len : S.length ≤ 50000
 l : ∀ o ∈ S, o.l.xs.length ≤ 50000
 ck : ∀ v ∈ r, CheckOk S v
 wf : ∀ v ∈ r, tVal.wf v
theorem KeepP.keep {nl : Bool} (h : KeepP nl sv S r) {idx : Nat} (hi : S.length + 1 < idx) (hm : FineN code ext sv r) : KeepN code ext nl sv S idx r :=
 ⟨⟨h.rd, h.nil, h.some, hi, fun o ho => Nat.le_trans (h.l o ho) (by decide), Nat.le_trans h.len (by decide)⟩, h.fn, h.len, h.ck, h.wf, hm⟩
theorem zob {q : Nat} (c : PutCode code q) (c636 : code 636 = some x636) {nl : Bool} {v k x : Val} (h : KeepP nl sv S [v, k, x]) (hm : FineN code ext sv [v, k, x]) {o0 : Obj} (hlead : leadsOf S v = some q) (ho : S[q]? = some o0) (h45 : o0.k = 4 ∨ o0.k = 5) (hrm : 0 ≤ o0.room ∧ o0.room ≤ 262144)
  (ha : callW code ext 749 [.osl 0 0 2 3 (some 3), .clo 641 [.optr 1 0]] [.flat (tVal.row [v, k, x]) false, .rich [.imm sv]] = some (avb false, [.flat (tVal.row [v, k, x]) false, .rich [.imm sv]]))
  (xs2 : List Val) (hx2 : xs2.length ≤ 60000) (hw2 : ∀ y ∈ xs2, tVal.wf y) (cap2 : Option Nat) (hc2 : ∀ c, cap2 = some c → xs2.length ≤ c) (hx : ∀ y ∈ xs2, y ∈ o0.l.xs ∨ y ∈ [v, k, x]) (room u : Int) (hr : 0 ≤ room ∧ room ≤ 262144)
  (hd : (isNilIV o0.l.iv = false ∧ (callW code ext 206 [.optr 0 0, .agg [.imm (.val (.int .u8 25)), int64 0, .osl 1 0 2 3 (some 3), nilS]] (rL (tObj.row (S.map cloneObj)) S.length q (tVal.row [v, k, x]) (tVal.row o0.l.xs) o0.l.xs.length (some o0.l.xs.length) 0) = some (didP 0 0 .empty, rL (roomAt (tObj.row (S.map cloneObj)) q room) S.length q (tVal.row [v, k, x]) (tVal.row xs2) xs2.length cap2 u) ∨
    callW code ext 206 [.optr 0 0, .agg [.imm (.val (.int .u8 25)), int64 0, .osl 1 0 2 3 (some 3), nilS]] (rL (tObj.row (S.map cloneObj)) S.length q (tVal.row [v, k, x]) (tVal.row o0.l.xs) o0.l.xs.length (some o0.l.xs.length) 0) = some (didP 0 0 .empty, rLV (roomAt (tObj.row (S.map cloneObj)) q room) S.length q (tVal.row [v, k, x]) (tVal.row o0.l.xs) (tVal.row xs2) xs2.length cap2 u))) ∨
   (isNilIV o0.l.iv = true ∧ callW code ext 206 [.optr 0 0, .agg [.imm (.val (.int .u8 25)), int64 0, .osl 1 0 2 3 (some 3), nilS]] [.rich [.osl 2 0 5 S.length (some S.length), int64 1152921504606846976, int64 0], .flat (tVal.row [v, k, x]) false, .flat (tObj.row (S.map cloneObj)) false] = some (didP 0 0 .empty, rL (roomAt (tObj.row (S.map cloneObj)) q room) S.length q (tVal.row [v, k, x]) (tVal.row xs2) xs2.length cap2 u))) :
  View code ext S [v, k, x] 636 [.imm sv, valA v, valA k, valA x] := by
 have hnl := zlh (fun e => (h.nil e).2) hlead
 have hq := (List.getElem?_eq_some_iff.1 ho).1
 have h1 := zdx (ext := ext) c h.rd (h.some hnl) (fun o ho => Nat.le_trans (h.l o ho) (by decide)) (Nat.le_trans h.len (by decide)) ho (tVal.row [v, k, x]) ha xs2 (by omega) cap2 (slOf xs2 cap2 hw2 (by omega) hc2) rfl rfl room u hr.1 (by omega) hd
 have hcell : (tObj.row (((S.map cloneObj).set q { cloneObj o0 with room := room, l := slOf xs2 cap2 hw2 (by omega) hc2 }).map cloneObj))[q * 5 + 2]? = some (.slice (tVal.row xs2) 0 xs2.length (some xs2.length)) := by
  have hg : (((S.map cloneObj).set q { cloneObj o0 with room := room, l := slOf xs2 cap2 hw2 (by omega) hc2 }).map cloneObj)[q]? = some (cloneObj { cloneObj o0 with room := room, l := slOf xs2 cap2 hw2 (by omega) hc2 }) := by
   rw [List.getElem?_map, List.getElem?_set_self (by rw [List.length_map]; exact hq)]
   rfl
  have := zqm hg
  rw [this]
  rfl
 have h2 := zm0 (r := [v, k, x]) ho h.rd.1 h.fn h.l (.root (by simp) hlead) h45 hrm room hr (slOf xs2 cap2 hw2 (by omega) hc2) hx hx2 (h.rd.1 o0 (List.mem_of_getElem? ho))
 exact ⟨_, _, _, _, _, h2, fun s => zod c636 sv v k x _ hcell h1 s⟩
end
end Go.EX


namespace Go.EX
section
variable {ext : Calls'} {sv : IV} {S : List Obj}
theorem DoCode.put {code : Nat → Option XFun} {i : Nat} (c : DoCode code i) (p : PutFns code) : PutCode code i := ⟨p, c.toTwinCode, c.c578, c.c639, c.c640, c.c641, c.c642, c.c749, c.c759⟩
theorem sL_len (T : List Obj) (W : List IV) (N : Nat) (h : T.length = N) : sL false T W 0 = [.rich [.osl 2 0 5 N (some N), int64 1152921504606846976, int64 0], .flat W false, .flat (tObj.row T) false] := by
 subst h; rfl
theorem zex {n : Nat} (h : (n : Int).tmod 2 = 0) : n % 2 = 0 := by
 have : ((n % 2 : Nat) : Int) = 0 := h
 omega
theorem zg3 (step : Int) (hs : step = 1 ∨ step = 2) (n : Nat) (room : Int) (h0 : (n : Int) ≤ room) (h1 : room ≤ 262144) (hn : n ≤ 50000) : 0 ≤ growR step n room ∧ growR step n room ≤ 262144 := by
 unfold growR
 split
 ·split
  ·rcases hs with rfl | rfl <;> omega
  ·rcases hs with rfl | rfl <;> omega
 ·omega
set_option maxHeartbeats 1000000 in
theorem zoh (codeF : Nat → Nat → Option XFun) (hD : ∀ i, DoCode (codeF i) i) (hP : ∀ i, PutFns (codeF i)) (h636 : ∀ i, codeF i 636 = some x636) {nl : Bool} {v k x : Val} (h : KeepP nl sv S [v, k, x]) (hm : ∀ i, FineN (codeF i) ext sv [v, k, x]) :
  ∃ i, View (codeF i) ext S [v, k, x] 636 [.imm sv, valA v, valA k, valA x] := by
 have hSl := h.len
 have hw : ∀ y ∈ [v, k, x], tVal.wf y := h.wf
 have hnilT : nl = true → S.map cloneObj = [] := fun e => by rw [(h.nil e).2]; rfl
 have thr : ∀ {t : ByteArray}, t ≠ .empty → callW (codeF (S.length + 2)) ext 206 [.optr 0 0, .agg [.imm (.val (.int .u8 25)), int64 0, .osl 1 0 2 3 (some 3), nilS]] (sL nl (S.map cloneObj) (tVal.row [v, k, x]) 0) = some (didP 0 0 t, sL nl (S.map cloneObj) (tVal.row [v, k, x]) 0) →
   ∃ i, View (codeF i) ext S [v, k, x] 636 [.imm sv, valA v, valA k, valA x] := by
  intro t ht hd
  have hk := h.keep (code := codeF (S.length + 2)) (ext := ext) (idx := S.length + 2) (by omega) (hm _)
  obtain ⟨A, M, y, k', n', t', w', he, ho, hd'⟩ := znb (op := 25) (n0 := 0) (xs := [v, k, x]) (hD (S.length + 2)) hk (by simp) (fun _ hv => hv) ht hd
  exact ⟨_, y, k', n', t', w', ho, fun s => zoc (h636 _) sv v k x k' n' t' w' he hd' s⟩
 cases h7 : [v, k, x].any fun v => decide (v.k = 7) with
 | true => exact thr zil (zd0 (ext := ext) (hD _).toPlainFns nl _ 25 0 (by decide) (by decide) (by simp) hw h7)
 | false =>
  by_cases hkey : v.k = 5 ∨ (v.k = 4 ∧ k.k = 2)
  ·have hv45 : v.k = 4 ∨ v.k = 5 := by omega
   obtain ⟨q, o0, q1, q2, q3, q4⟩ := zb9 (h.ck v (by simp)) (by omega)
   have hnl := zlh (fun e => (h.nil e).2) q1
   subst hnl
   obtain ⟨l1, l2, _⟩ := ziy q1
   have hT : (S.map cloneObj)[q]? = some (cloneObj o0) := zgu q2
   have hTl : (S.map cloneObj).length = S.length := List.length_map ..
   have hqT : q < (S.map cloneObj).length := by omega
   have hxc : (cloneObj o0).l.xs = o0.l.xs := zc0 o0
   have h50 := h.l o0 (List.mem_of_getElem? q2)
   have hxw := o0.l.ok.1
   have hP1 := hP (S.length + 2)
   have ha := zaq (ext := ext) (hD q) sv [v, k, x] (by simp) (hm q)
   have hsz : (o0.l.xs.length : Int) ≤ o0.room ∧ o0.room ≤ 262144 := by
    rcases hv45 with v4 | v5
    ·have := (zl4 (by omega)).1 q4
     exact ⟨this.2.2.2.1, this.2.2.2.2.1⟩
    ·have := (zl5 (by omega)).1 q4
     exact ⟨this.2.2.2.2.1, this.2.2.2.2.2.1⟩
   have hnilx : isNilIV o0.l.iv = true → o0.l.xs = [] ∧ (cloneObj o0).l.iv = .val (.slice none 0 0) := by
    intro e
    rcases o0.l.ok.2.2 with ⟨hiv, b⟩ | ⟨row, off, cap, b, _⟩
    ·refine ⟨b, ?_⟩
     unfold cloneObj cloneL
     dsimp only
     rw [if_pos e]
     exact hiv
    ·rw [b] at e; cases e
   by_cases v4 : v.k = 4
   ·have k2 : k.k = 2 := by omega
    by_cases hb : k.n < 0 ∨ (o0.l.xs.length : Int) < k.n
    ·exact thr zbj (zd6 hP1.c206 hP1.c580 false _ hw h7 boundsN (zn9 (ext := ext) hP1 (by omega) hqT v4 k2 l2 hT (by rw [hxc]; omega) (by rw [hxc]; exact hb)))
    ·by_cases hlt : k.n < o0.l.xs.length
     ·
      refine ⟨q, ?_⟩
      have hnz : isNilIV o0.l.iv = false := by
       cases hz : isNilIV o0.l.iv with
       | false => rfl
       | true => rw [(hnilx hz).1] at hlt; simp at hlt; omega
      obtain ⟨i, hi⟩ : ∃ i : Nat, k.n = i := ⟨k.n.toNat, by omega⟩
      have h1 := zom (ext := ext) (hP q) (T := S.map cloneObj) (by omega) hqT v4 k2 l2 o0.l.xs (by omega) (some o0.l.xs.length) hi (by omega) (x := x)
      have h2 := zd5 (hP q).c206 (hP q).c580 hqT hw h7 _ _ _ _ h1
      have hsame := zqf (R := tObj.row (S.map cloneObj)) (q := q) (room := o0.room) (zdd (zf4 (t := tObj) hT) 3 (by decide))
      rw [hTl] at h2
      refine zob ((hD q).put (hP q)) (h636 q) h (hm q) q1 q2 (by omega) ⟨by omega, hsz.2⟩ ha (o0.l.xs.set i x) (by rw [List.length_set]; omega) (fun y hy => ?_) (some o0.l.xs.length) (fun c hc => by cases hc; rw [List.length_set]; exact Nat.le_refl _) (fun y hy => ?_) o0.room 0 ⟨by omega, hsz.2⟩ (.inl ⟨hnz, .inl ?_⟩)
      ·rcases List.mem_or_eq_of_mem_set hy with hy | rfl
       ·exact hxw y hy
       ·exact hw _ (by simp)
      ·rcases List.mem_or_eq_of_mem_set hy with hy | rfl
       ·exact .inl hy
       ·exact .inr (by simp)
      ·rw [hsame, List.length_set]
       exact h2
     ·
      refine ⟨q, ?_⟩
      have hkn : k.n = o0.l.xs.length := by omega
      have hxm : ∀ y ∈ o0.l.xs ++ [x], y ∈ o0.l.xs ∨ y ∈ [v, k, x] := fun y hy => by
       rcases List.mem_append.1 hy with hy | hy
       ·exact .inl hy
       ·exact .inr (by rw [List.mem_singleton.1 hy]; simp)
      have hxw2 : ∀ y ∈ o0.l.xs ++ [x], tVal.wf y := fun y hy => by
       rcases List.mem_append.1 hy with hy | hy
       ·exact hxw y hy
       ·rw [List.mem_singleton.1 hy]; exact hw _ (by simp)
      have hgl := zg3 1 (.inl rfl) o0.l.xs.length o0.room hsz.1 hsz.2 h50
      cases hz : isNilIV o0.l.iv with
      | false =>
       have h1 := zoi (ext := ext) (hP q) (T := S.map cloneObj) (by omega) hqT v4 k2 l2 o0.l.xs (by omega) hkn hT hsz.1 hsz.2 (x := x)
       have h2 := zd3 (hP q).c206 (hP q).c580 hqT hw h7 _ _ _ _ _ _ _ h1
       rw [hTl] at h2
       refine zob ((hD q).put (hP q)) (h636 q) h (hm q) q1 q2 (by omega) ⟨by omega, hsz.2⟩ ha (o0.l.xs ++ [x]) (by simp; omega) hxw2 none (fun c hc => by cases hc) hxm (growR 1 o0.l.xs.length o0.room) (growU 1 o0.l.xs.length o0.room) hgl (.inl ⟨hz, .inr ?_⟩)
       rw [List.length_append]
       exact h2
      | true =>
       obtain ⟨e1, e2⟩ := hnilx hz
       rw [e1] at hkn hsz hgl
       have h1 := zol (ext := ext) (hP q) (T := S.map cloneObj) (by omega) hqT v4 k2 l2 hkn hT e2 hsz.1 hsz.2 (x := x)
       have h2 := zd4 (hP q).c206 (hP q).c580 hqT hw h7 _ _ _ _ h1
       rw [sL_len _ _ _ hTl, hTl] at h2
       refine zob ((hD q).put (hP q)) (h636 q) h (hm q) q1 q2 (by omega) ⟨hsz.1, hsz.2⟩ ha [x] (by simp) (fun y hy => hw y (by rw [List.mem_singleton.1 hy]; simp)) none (fun c hc => by cases hc) (fun y hy => .inr (by rw [List.mem_singleton.1 hy]; simp)) _ _ hgl (.inr ⟨hz, h2⟩)
   ·have v5 : v.k = 5 := by omega
    have hob := (zl5 (by omega)).1 q4
    have hev := zex hob.2.2.1
    have hkt : TextOk (S.map cloneObj) k := ztk (zjd S) (h.ck k (by simp)).1
    have hxt : ∀ (j : Nat) a, o0.l.xs[2 * j]? = some a → TextOk (S.map cloneObj) a := fun j a hy => ztk (zjd S) (zhe hob.2.2.2.2.2.2.1 a (List.mem_of_getElem? hy))
    have hgl := zg3 2 (.inr rfl) o0.l.xs.length o0.room hsz.1 hsz.2 h50
    refine ⟨q, ?_⟩
    have hxm : ∀ y ∈ o0.l.xs ++ [k, x], y ∈ o0.l.xs ∨ y ∈ [v, k, x] := fun y hy => by
     rcases List.mem_append.1 hy with hy | hy
     ·exact .inl hy
     ·exact .inr (List.mem_cons_of_mem _ hy)
    have hxw2 : ∀ y ∈ o0.l.xs ++ [k, x], tVal.wf y := fun y hy => by
     rcases List.mem_append.1 hy with hy | hy
     ·exact hxw y hy
     ·exact hw _ (List.mem_cons_of_mem _ hy)
    cases hz : isNilIV o0.l.iv with
    | true =>
     obtain ⟨e1, e2⟩ := hnilx hz
     obtain ⟨r, hr, hat⟩ := zla (ext := ext) (hD q).toPlainFns (nl := false) (T := S.map cloneObj) (fun e => by cases e) (by omega) (iv := .val (.slice none 0 0)) (xs := []) ⟨by simp, by simp, .inl ⟨rfl, rfl⟩⟩ (by simp) hkt (fun j a h => by simp at h)
     have hrm : r = -1 := by
      rcases hr with ⟨hh, _⟩ | ⟨j, a, _, hh, _⟩
      ·exact hh
      ·simp at hh
     subst hrm
     rw [e1] at hsz hgl
     have h1 := zok (ext := ext) (hP q) (T := S.map cloneObj) (by omega) hqT v5 l2 hT e2 hsz.1 hsz.2 hat (x := x)
     have h2 := zd4 (hP q).c206 (hP q).c580 hqT hw h7 _ _ _ _ h1
     rw [sL_len _ _ _ hTl, hTl] at h2
     exact zob ((hD q).put (hP q)) (h636 q) h (hm q) q1 q2 (by omega) ⟨hsz.1, hsz.2⟩ ha [k, x] (by simp) (fun y hy => hw y (List.mem_cons_of_mem _ hy)) none (fun c hc => by cases hc) (fun y hy => .inr (List.mem_cons_of_mem _ hy)) _ _ hgl (.inr ⟨hz, h2⟩)
    | false =>
     obtain ⟨r, hr, hat⟩ := zos (ext := ext) (hP q).c209 (hP q).c216 (hP q).c213 (T := S.map cloneObj) (by omega) hqT (xs := o0.l.xs) (some o0.l.xs.length) (by omega) hkt hxt
     rcases hr with ⟨rfl, _⟩ | ⟨j, a, rfl, hja, _⟩
     ·have h1 := zoj (ext := ext) (hP q) (T := S.map cloneObj) (by omega) hqT v5 l2 o0.l.xs (by omega) hev hT hsz.1 hsz.2 hat (x := x)
      have h2 := zd3 (hP q).c206 (hP q).c580 hqT hw h7 _ _ _ _ _ _ _ h1
      rw [hTl] at h2
      refine zob ((hD q).put (hP q)) (h636 q) h (hm q) q1 q2 (by omega) ⟨by omega, hsz.2⟩ ha (o0.l.xs ++ [k, x]) (by simp; omega) hxw2 none (fun c hc => by cases hc) hxm (growR 2 o0.l.xs.length o0.room) (growU 2 o0.l.xs.length o0.room) hgl (.inl ⟨hz, .inr ?_⟩)
      rw [List.length_append]
      exact h2
     ·have hjl := (List.getElem?_eq_some_iff.1 hja).1
      have h1 := zoe (ext := ext) (hP q) (T := S.map cloneObj) (by omega) hqT v5 l2 o0.l.xs (by omega) (some o0.l.xs.length) (j := j) (by omega) hat (x := x)
      have h2 := zd5 (hP q).c206 (hP q).c580 hqT hw h7 _ _ _ _ h1
      have hsame := zqf (R := tObj.row (S.map cloneObj)) (q := q) (room := o0.room) (zdd (zf4 (t := tObj) hT) 3 (by decide))
      rw [hTl] at h2
      refine zob ((hD q).put (hP q)) (h636 q) h (hm q) q1 q2 (by omega) ⟨by omega, hsz.2⟩ ha (o0.l.xs.set (2 * j + 1) x) (by rw [List.length_set]; omega) (fun y hy => ?_) (some o0.l.xs.length) (fun c hc => by cases hc; rw [List.length_set]; exact Nat.le_refl _) (fun y hy => ?_) o0.room 0 ⟨by omega, hsz.2⟩ (.inl ⟨hz, .inl ?_⟩)
      ·rcases List.mem_or_eq_of_mem_set hy with hy | rfl
       ·exact hxw y hy
       ·exact hw _ (by simp)
      ·rcases List.mem_or_eq_of_mem_set hy with hy | rfl
       ·exact .inl hy
       ·exact .inr (by simp)
      ·rw [hsame, List.length_set]
       exact h2
  ·exact thr zil (zd6 (hP _).c206 (hP _).c580 nl _ hw h7 kindT (zog (ext := ext) (hP _) nl _ hkey))
end
end Go.EX


namespace Go.EX
section
variable {code : Nat → Option XFun} {ext : Calls'}
theorem nsameVals (h : code 357 = some x357) {iv jv : IV} {xs : List Val} (hr : Reads tVal iv xs) (hs : Reads tVal jv xs) : callW code ext 357 [.imm iv, .imm jv] [] = some (avb true, []) := by
 have hl := zo6 hr
 have hl2 := zo6 hs
 have hb := hr.2.1
 have loop : ∃ e s', den code ext (.loop [0, 1, 5] x357L1) ⟨0, [(0, .imm iv), (1, .imm jv), (5, int64 0)], []⟩ = some (e, s') ∧ e ≠ .normal ∧ (e = .exit 0 ∧ s' = ⟨0, [(0, .imm iv), (1, .imm jv), (5, int64 xs.length), (14, avb false)], []⟩) := by
  refine zjt (fun n s => ∃ i, i + n = xs.length ∧ s = ⟨0, [(0, .imm iv), (1, .imm jv), (5, int64 (i : Nat))], []⟩) _ ?_ xs.length _ ⟨0, by simp, rfl⟩
  rintro n _ ⟨i, hi, rfl⟩
  by_cases hlt : i < xs.length
  ·have hx := List.getElem?_eq_getElem hlt
   obtain ⟨r1, o1, c1, rfl, _, _, g1⟩ := zo7 hr hx
   obtain ⟨r2, o2, c2, rfl, _, _, g2⟩ := zo7 hs hx
   generalize xs[i] = v at g1 g2
   simp only [tVal] at g1 g2
   have e1 : IntKind.wrap .i64 ((i : Int) + 1) = (i : Int) + 1 := wrapI64 (by omega) (by omega)
   have hlt' : (i : Int) < xs.length := by omega
   refine ⟨.normal, ⟨0, [(0, .imm (.slice r1 o1 xs.length c1)), (1, .imm (.slice r2 o2 xs.length c2)), (5, int64 ((i : Int) + 1))], []⟩, ?_, .inl ⟨rfl, n - 1, by omega, i + 1, by omega, rfl⟩⟩
   simp -implicitDefEqProofs [x357L1, hlt, hlt', g1, g2, e1]
  ·have : i = xs.length := by omega
   subst this
   refine ⟨.exit 0, ⟨0, [(0, .imm iv), (1, .imm jv), (5, int64 xs.length), (14, avb false)], []⟩, ?_, .inr ⟨by simp, rfl, rfl⟩⟩
   simp -implicitDefEqProofs [x357L1, hl]
 obtain ⟨e, s', l1, _, rfl, rfl⟩ := loop
 rw [zbs code ext h]
 unfold x357
 generalize x357L1 = L at *
 simp -implicitDefEqProofs [hl, hl2, l1]
def LikeN (a b : Obj) : Prop := a.k = b.k ∧ a.s = b.s ∧ a.l.xs = b.l.xs ∧ a.room = b.room ∧ a.fn = b.fn
theorem nsameObj (h : code 351 = some x351) (h1 : code 357 = some x357) {a b : Obj} (hab : LikeN a b) :
  ∃ m, callW code ext 351 [.agg [.imm (.val (.int .u8 a.k)), .imm (.val (.string a.s)), .imm a.l.iv, int64 a.room, int64 a.fn], .agg [.imm (.val (.int .u8 b.k)), .imm (.val (.string b.s)), .imm b.l.iv, int64 b.room, int64 b.fn]] [] = some (avb true, m) := by
 obtain ⟨e1, e2, e3, e4, e5⟩ := hab
 have hb := b.l.ok
 rw [← e3] at hb
 have hv := nsameVals (ext := ext) h1 a.l.ok hb
 refine mem_of ?_
 rw [zbs code ext h, ← e1, ← e2, ← e4, ← e5]
 simp -implicitDefEqProofs [x351, hv]
theorem nsameObjs (h : code 352 = some x352) (h1 : code 351 = some x351) (h2 : code 357 = some x357) {iv jv : IV} {A B : List Obj} (hr : Reads tObj iv A) (hs : Reads tObj jv B) (hl : A.length = B.length) (hab : ∀ (i : Nat) (a b : Obj), A[i]? = some a → B[i]? = some b → LikeN a b) : callW code ext 352 [.imm iv, .imm jv] [] = some (avb true, []) := by
 have hlA := zo6 hr
 have hlB := zo6 hs
 rw [← hl] at hlB
 have hb := hr.2.1
 have loop : ∃ e s', den code ext (.loop [0, 1, 5] x352L1) ⟨0, [(0, .imm iv), (1, .imm jv), (5, int64 0)], []⟩ = some (e, s') ∧ e ≠ .normal ∧ (e = .exit 0 ∧ s' = ⟨0, [(0, .imm iv), (1, .imm jv), (5, int64 A.length), (14, avb false)], []⟩) := by
  refine zjt (fun n s => ∃ i, i + n = A.length ∧ s = ⟨0, [(0, .imm iv), (1, .imm jv), (5, int64 (i : Nat))], []⟩) _ ?_ A.length _ ⟨0, by simp, rfl⟩
  rintro n _ ⟨i, hi, rfl⟩
  by_cases hlt : i < A.length
  ·have hx := List.getElem?_eq_getElem hlt
   have hy := List.getElem?_eq_getElem (l := B) (i := i) (by omega)
   obtain ⟨r1, o1, c1, rfl, _, _, g1⟩ := zo7 hr hx
   obtain ⟨r2, o2, c2, rfl, _, _, g2⟩ := zo7 hs hy
   obtain ⟨m, hso⟩ := nsameObj (ext := ext) h1 h2 (hab i _ _ hx hy)
   generalize A[i] = a at *
   generalize B[i]'(by omega) = b at *
   simp only [tObj] at g1 g2
   rw [← hl]
   have e1 : IntKind.wrap .i64 ((i : Int) + 1) = (i : Int) + 1 := wrapI64 (by omega) (by omega)
   have hlt' : (i : Int) < A.length := by omega
   refine ⟨.normal, ⟨0, [(0, .imm (.slice r1 o1 A.length c1)), (1, .imm (.slice r2 o2 A.length c2)), (5, int64 ((i : Int) + 1))], []⟩, ?_, .inl ⟨rfl, n - 1, by omega, i + 1, by omega, rfl⟩⟩
   simp -implicitDefEqProofs [x352L1, hlt, hlt', g1, g2, e1, hso]
  ·have : i = A.length := by omega
   subst this
   refine ⟨.exit 0, ⟨0, [(0, .imm iv), (1, .imm jv), (5, int64 A.length), (14, avb false)], []⟩, ?_, .inr ⟨by simp, rfl, rfl⟩⟩
   simp -implicitDefEqProofs [x352L1, hlA]
 obtain ⟨e, s', l1, _, rfl, rfl⟩ := loop
 rw [zbs code ext h]
 unfold x352
 generalize x352L1 = L at *
 simp -implicitDefEqProofs [hlA, hlB, l1]
theorem nsameStore (h0 : code 355 = some x355) (h : code 352 = some x352) (h1 : code 351 = some x351) (h2 : code 357 = some x357) {iv jv : IV} {A B : List Obj} (hr : Reads tObj iv A) (hs : Reads tObj jv B) (hl : A.length = B.length) (hab : ∀ (i : Nat) (a b : Obj), A[i]? = some a → B[i]? = some b → LikeN a b) : callW code ext 355 [.imm iv, .imm jv] [] = some (avb true, []) := by
 have hv := nsameObjs (ext := ext) h h1 h2 hr hs hl hab
 rw [zbs code ext h0]
 simp -implicitDefEqProofs [x355, hv]
theorem nbeyond (h : code 487 = some x487) (h1 : code 380 = some x380) (h2 : code 338 = some x338) (h3 : code 339 = some x339) (h4 : code 361 = some x361) {iv : IV} {S : List Obj} (hr : Reads tObj iv S) :
  ∃ m, callW code ext 487 [.imm iv] [] = some (avb (decide (50000 < sizeGo S.length S)), m) := by
 have hs := zsx (ext := ext) h1 h2 h3 h4 hr
 refine mem_of ?_
 rw [zbs code ext h]
 simp -implicitDefEqProofs [x487, hs]
end
theorem zlz : ∀ (S : List Obj) (n : Int), (∀ o ∈ S, tObj.wf o) → 0 ≤ n → sizeGo n S ≤ 50000 → n + S.length ≤ 50000 ∧ ∀ o ∈ S, objSize o ≤ 50000
 | [], n, _, h0, hz => ⟨by unfold sizeGo at hz; simpa using hz, fun o ho => by cases ho⟩
 | o :: r, n, hw, h0, hz => by
  unfold sizeGo at hz
  have hb := zl9 o (hw o (List.mem_cons_self ..))
  have hr := fun x hx => hw x (List.mem_cons_of_mem o hx)
  split at hz
  ·obtain ⟨h2, h3⟩ := zlz r (n + objSize o) hr (by omega) hz
   have hlow := (zse r (n + objSize o) hr (by omega) (by omega)).1
   have ho : objSize o ≤ 50000 := by omega
   refine ⟨by rw [List.length_cons]; omega, fun x hx => ?_⟩
   rcases List.mem_cons.1 hx with rfl | hx
   ·exact ho
   ·exact h3 x hx
  ·omega
theorem zly {S : List Obj} (hw : ∀ o ∈ S, tObj.wf o) (h : sizeGo S.length S ≤ 50000) : S.length ≤ 50000 ∧ (∀ o ∈ S, o.s.size ≤ 50000) ∧ ∀ o ∈ S, o.l.xs.length ≤ 50000 := by
 obtain ⟨h2, h3⟩ := zlz S S.length hw (by omega) h
 refine ⟨by omega, fun o ho => ?_, fun o ho => ?_⟩ <;>
 ·have := h3 o ho
  unfold objSize at this
  split at this <;> omega
end Go.EX


namespace Go.EX
section
variable {code : Nat → Option XFun} {ext : Calls'}
abbrev stK (sv rv : IV) (W0 : Int) (R : List IV) (i : Int) : St := ⟨0, [(0, .imm sv), (5, .imm rv), (6, int64 W0), (7, .imm (.slice R 0 6 (some 6))), (8, int64 i)], []⟩
theorem ziu {sv rv x : IV} {W0 : Int} {R : List IV} {i : Nat} (hi : i < 6) {t : ByteArray} (ht : t ≠ .empty) (hR : cut R (i * 5) 5 = some [x, .val (.int .u8 0), .val (.int .i64 0), .val (.string t), .val (.int .i64 0)])
  (hs : callW code ext 355 [.imm x, .imm sv] [] = some (avb true, [])) :
  ∃ s', den code ext x480WL1 (stK sv rv W0 R i) = some (.normal, s') ∧ s'.tidy [0, 5, 6, 7, 8] = stK sv rv W0 R ((i : Int) + 1) := by
 have g0 := zdd hR 0 (by decide)
 have g1 := zdd hR 1 (by decide)
 have g3 := zdd hR 3 (by decide)
 have g4 := zdd hR 4 (by decide)
 have g12 : cut R (i * 5 + 1) 2 = some [.val (.int .u8 0), .val (.int .i64 0)] := by
  have := zdc hR (a := 1) (b := 2) (by omega)
  rw [this]; rfl
 have hlt : (i : Int) < 6 := by omega
 have e1 : IntKind.wrap .i64 ((i : Int) + 1) = (i : Int) + 1 := wrapI64 (by omega) (by omega)
 have hne : (t == ByteArray.empty) = false := by rw [zbl]; simpa using ht
 simp only [List.getElem?_cons_zero, List.getElem?_cons_succ, Nat.add_zero] at g0 g1 g3 g4
 refine stepN ?_
 simp -implicitDefEqProofs [x480WL1, stK, hi, hlt, g0, g1, g3, g4, g12, hs, e1, hne, ht]
 done
theorem law_ok {sv rv x : IV} {W0 w W1 : Int} {R : List IV} {i : Nat} (hi : i < 6) {k n : Int} (hR : cut R (i * 5) 5 = some [x, .val (.int .u8 k), .val (.int .i64 n), .val (.string .empty), .val (.int .i64 w)])
  {v0 v1 v2 : Val} {cap : Option Nat} (hrv : rv = .slice (tVal.row [v0, v1, v2]) 0 3 cap)
  (hw : ∀ y, Reads tVal y [⟨k, n⟩, v0, v1, v2] → callW code ext 649 [.imm x, .imm y] [] = some (int64 W1, [])) (hle : W1 ≤ W0 + w) (h0 : 0 ≤ W0 + w) (h1 : W0 + w ≤ 9223372036854775807) (hwf : ∀ y ∈ [(⟨k, n⟩ : Val), v0, v1, v2], tVal.wf y)
  (hc : callW code ext 646 [.imm x, .agg [.imm (.val (.int .u8 k)), int64 n]] [] = some (avb true, [])) :
  ∃ s', den code ext x480WL1 (stK sv rv W0 R i) = some (.normal, s') ∧ s'.tidy [0, 5, 6, 7, 8] = stK sv rv W0 R ((i : Int) + 1) := by
 have g0 := zdd hR 0 (by decide)
 have g1 := zdd hR 1 (by decide)
 have g3 := zdd hR 3 (by decide)
 have g4 := zdd hR 4 (by decide)
 have g12 : cut R (i * 5 + 1) 2 = some [.val (.int .u8 k), .val (.int .i64 n)] := by
  have := zdc hR (a := 1) (b := 2) (by omega)
  rw [this]; rfl
 have hlt : (i : Int) < 6 := by omega
 have e1 : IntKind.wrap .i64 ((i : Int) + 1) = (i : Int) + 1 := wrapI64 (by omega) (by omega)
 have e2 : IntKind.wrap .i64 (W0 + w) = W0 + w := wrapI64 (by omega) (by omega)
 have e3 : ¬ W0 + w < W1 := by omega
 have hrow : tVal.row [v0, v1, v2] = [.val (.int .u8 v0.k), .val (.int .i64 v0.n), .val (.int .u8 v1.k), .val (.int .i64 v1.n), .val (.int .u8 v2.k), .val (.int .i64 v2.n)] := rfl
 have hw' := hw (.slice (tVal.row [⟨k, n⟩, v0, v1, v2]) 0 4 none) (zo8 tVal [⟨k, n⟩, v0, v1, v2] hwf (by simp) (fun c h => by cases h))
 have hrow4 : tVal.row [⟨k, n⟩, v0, v1, v2] = [.val (.int .u8 k), .val (.int .i64 n), .val (.int .u8 v0.k), .val (.int .i64 v0.n), .val (.int .u8 v1.k), .val (.int .i64 v1.n), .val (.int .u8 v2.k), .val (.int .i64 v2.n)] := rfl
 rw [hrow4] at hw'
 rw [hrow] at hrv
 simp only [List.getElem?_cons_zero, List.getElem?_cons_succ, Nat.add_zero] at g0 g1 g3 g4
 refine stepN ?_
 simp -implicitDefEqProofs [x480WL1, stK, hrv, hi, hlt, g0, g1, g3, g4, g12, hw', hc, e1, e2, e3, exAppendR, elemsR]
 done
end
end Go.EX


namespace Go.EX
structure DidC where
 x : IV
 k : Int
 n : Int
 t : ByteArray
 w : Int
def tDid : Ty DidC := ⟨5, true, fun d => [d.x, .val (.int .u8 d.k), .val (.int .i64 d.n), .val (.string d.t), .val (.int .i64 d.w)], fun _ => True, fun _ => rfl⟩
section
variable {code : Nat → Option XFun} {ext : Calls'}
def GoodD (code : Nat → Option XFun) (ext : Calls') (sv : IV) (W0 : Int) (v0 v1 v2 : Val) (d : DidC) : Prop :=
 (d.t ≠ .empty ∧ d.k = 0 ∧ d.n = 0 ∧ d.w = 0 ∧ callW code ext 355 [.imm d.x, .imm sv] [] = some (avb true, [])) ∨
 (d.t = .empty ∧ ∃ W1, (∀ y, Reads tVal y [⟨d.k, d.n⟩, v0, v1, v2] → callW code ext 649 [.imm d.x, .imm y] [] = some (int64 W1, [])) ∧ W1 ≤ W0 + d.w ∧ 0 ≤ W0 + d.w ∧ W0 + d.w ≤ 9223372036854775807 ∧ (∀ y ∈ [(⟨d.k, d.n⟩ : Val), v0, v1, v2], tVal.wf y) ∧ callW code ext 646 [.imm d.x, .agg [.imm (.val (.int .u8 d.k)), int64 d.n]] [] = some (avb true, []))
theorem zit {sv rv : IV} {W0 : Int} {v0 v1 v2 : Val} {cap : Option Nat} (hrv : rv = .slice (tVal.row [v0, v1, v2]) 0 3 cap) (ds : List DidC) (hd : ds.length = 6) (hg : ∀ d ∈ ds, GoodD code ext sv W0 v0 v1 v2 d) (s0 : St) (hs0 : s0.tidy [0, 5, 6, 7, 8] = stK sv rv W0 (tDid.row ds) 0) :
  ∃ e s', den code ext (.loop [0, 5, 6, 7, 8] x480WL1) s0 = some (e, s') ∧ e ≠ .normal ∧ (e = .exit 0 ∧ ∃ env m, s' = ⟨0, env, m⟩) := by
 refine zjt (fun n s => ∃ i : Nat, i + n = 6 ∧ s.tidy [0, 5, 6, 7, 8] = stK sv rv W0 (tDid.row ds) i) _ ?_ 6 _ ⟨0, by simp, hs0⟩
 rintro n s ⟨i, hi, hst⟩
 rw [hst]
 by_cases hlt : i < 6
 ·obtain ⟨d, hdi⟩ : ∃ d, ds[i]? = some d := ⟨_, List.getElem?_eq_getElem (by omega)⟩
  have hcut : cut (tDid.row ds) (i * 5) 5 = some [d.x, .val (.int .u8 d.k), .val (.int .i64 d.n), .val (.string d.t), .val (.int .i64 d.w)] := zf4 (t := tDid) hdi
  rcases hg d (List.mem_of_getElem? hdi) with ⟨ht, h1, h2, h3, h4⟩ | ⟨ht, W1, h1, h2, h3, h4, h5, h6⟩
  ·rw [h1, h2, h3] at hcut
   obtain ⟨s', g1, g2⟩ := ziu (rv := rv) (W0 := W0) hlt ht hcut h4
   exact ⟨.normal, s', g1, .inl ⟨rfl, n - 1, by omega, i + 1, by omega, by rw [g2, Int.natCast_add]; rfl⟩⟩
  ·rw [ht] at hcut
   obtain ⟨s', g1, g2⟩ := law_ok (sv := sv) (W0 := W0) hlt hcut hrv h1 h2 h3 h4 h5 h6
   exact ⟨.normal, s', g1, .inl ⟨rfl, n - 1, by omega, i + 1, by omega, by rw [g2, Int.natCast_add]; rfl⟩⟩
 ·have : i = 6 := by omega
  subst this
  refine ⟨.exit 0, ⟨0, [(0, .imm sv), (5, .imm rv), (6, int64 W0), (7, .imm (.slice (tDid.row ds) 0 6 (some 6))), (8, int64 6), (78, avb false)], []⟩, ?_, .inr ⟨by simp, rfl, _, _, rfl⟩⟩
  generalize tDid.row ds = R
  simp -implicitDefEqProofs [x480WL1, stK]
theorem law_no (c480 : code 480 = some x480W) {sv : IV} {v0 v1 v2 : Val} {b b0 b1 b2 : Bool} {m : Mem} (hb : callW code ext 487 [.imm sv] [] = some (avb b, m)) (h0 : callW code ext 646 [.imm sv, valA v0] [] = some (avb b0, [])) (h1 : callW code ext 646 [.imm sv, valA v1] [] = some (avb b1, [])) (h2 : callW code ext 646 [.imm sv, valA v2] [] = some (avb b2, []))
  (hl : callW code ext 489 [] [] = some (avb true, [])) (hno : (b || !b0 || !b1 || !b2) = true) :
  ∃ m, callW code ext 480 [.imm sv, .agg [.imm (.val (.int .u8 v0.k)), int64 v0.n, .imm (.val (.int .u8 v1.k)), int64 v1.n, .imm (.val (.int .u8 v2.k)), int64 v2.n]] [] = some (avb true, m) := by
 refine mem_of ?_
 unfold valA at *
 rw [zbs code ext c480]
 cases b
 ·cases b0
  ·simp -implicitDefEqProofs [x480W, hb, h0, hl]
  ·cases b1
   ·simp -implicitDefEqProofs [x480W, hb, h0, h1, hl]
   ·cases b2
    ·simp -implicitDefEqProofs [x480W, hb, h0, h1, h2, hl]
    ·cases hno
 ·simp -implicitDefEqProofs [x480W, hb, hl]
set_option maxHeartbeats 4000000 in
theorem ziv (c480 : code 480 = some x480W) {sv : IV} {v0 v1 v2 : Val} {m : Mem} (hb : callW code ext 487 [.imm sv] [] = some (avb false, m)) (h0 : callW code ext 646 [.imm sv, valA v0] [] = some (avb true, [])) (h1 : callW code ext 646 [.imm sv, valA v1] [] = some (avb true, [])) (h2 : callW code ext 646 [.imm sv, valA v2] [] = some (avb true, []))
  (hl : callW code ext 489 [] [] = some (avb true, [])) {W0 : Int} {cap3 : Option Nat} (hw : callW code ext 649 [.imm sv, .imm (.slice (tVal.row [v0, v1, v2]) 0 3 (some 3))] [] = some (int64 W0, []))
  {d0 d1 d2 d3 d4 d5 : DidC} (hg : ∀ d ∈ [d0, d1, d2, d3, d4, d5], GoodD code ext sv W0 v0 v1 v2 d)
  (q0 : ∀ s, exView (callW code ext) s 627 [.imm sv, .imm (.val (.int .u8 1)), valA v0, valA v1] = some (outA d0.x d0.k d0.n d0.t d0.w, s))
  (q1 : ∀ s, exView (callW code ext) s 636 [.imm sv, valA v0, valA v1, valA v2] = some (outA d1.x d1.k d1.n d1.t d1.w, s))
  (q2 : ∀ s, exView (callW code ext) s 632 [.imm sv, .imm (.slice (tVal.row [v0, v1, v2]) 0 3 (some 3))] = some (outA d2.x d2.k d2.n d2.t d2.w, s))
  (q3 : ∀ s, exView (callW code ext) s 633 [.imm sv, .imm (.slice (tVal.row [v0, v1, v2]) 0 2 (some 3))] = some (outA d3.x d3.k d3.n d3.t d3.w, s))
  (q4 : ∀ s, exView (callW code ext) s 637 [.imm sv, valA v0] = some (outA d4.x d4.k d4.n d4.t d4.w, s))
  (q5 : ∀ s, exView (callW code ext) s 630 [.imm sv, valA v0, valA v1] = some (outA d5.x d5.k d5.n d5.t d5.w, s)) :
  ∃ m, callW code ext 480 [.imm sv, .agg [.imm (.val (.int .u8 v0.k)), int64 v0.n, .imm (.val (.int .u8 v1.k)), int64 v1.n, .imm (.val (.int .u8 v2.k)), int64 v2.n]] [] = some (avb true, m) := by
 have hrow : tVal.row [v0, v1, v2] = [.val (.int .u8 v0.k), .val (.int .i64 v0.n), .val (.int .u8 v1.k), .val (.int .i64 v1.n), .val (.int .u8 v2.k), .val (.int .i64 v2.n)] := rfl
 have loop := zit (code := code) (ext := ext) (sv := sv) (W0 := W0) (rv := .slice (tVal.row [v0, v1, v2]) 0 3 (some 3)) rfl [d0, d1, d2, d3, d4, d5] rfl hg ⟨0, [(0, .imm sv), (5, .imm (.slice (tVal.row [v0, v1, v2]) 0 3 (some 3))), (6, int64 W0), (7, .imm (.slice (tDid.row [d0, d1, d2, d3, d4, d5]) 0 6 (some 6))), (8, int64 0)], [.rich [.imm (.val (.int .u8 v0.k)), int64 v0.n, .imm (.val (.int .u8 v1.k)), int64 v1.n, .imm (.val (.int .u8 v2.k)), int64 v2.n], .dead, .dead]⟩ (by
  generalize tDid.row [d0, d1, d2, d3, d4, d5] = R
  generalize tVal.row [v0, v1, v2] = Q
  simp -implicitDefEqProofs [stK])
 obtain ⟨e, s', l1, _, rfl, env, mm, rfl⟩ := loop
 have hR : tDid.row [d0, d1, d2, d3, d4, d5] = [d0.x, .val (.int .u8 d0.k), .val (.int .i64 d0.n), .val (.string d0.t), .val (.int .i64 d0.w), d1.x, .val (.int .u8 d1.k), .val (.int .i64 d1.n), .val (.string d1.t), .val (.int .i64 d1.w), d2.x, .val (.int .u8 d2.k), .val (.int .i64 d2.n), .val (.string d2.t), .val (.int .i64 d2.w), d3.x, .val (.int .u8 d3.k), .val (.int .i64 d3.n), .val (.string d3.t), .val (.int .i64 d3.w), d4.x, .val (.int .u8 d4.k), .val (.int .i64 d4.n), .val (.string d4.t), .val (.int .i64 d4.w), d5.x, .val (.int .u8 d5.k), .val (.int .i64 d5.n), .val (.string d5.t), .val (.int .i64 d5.w)] := rfl
 refine mem_of ?_
 unfold valA at *
 rw [hR] at l1
 rw [hrow] at hw l1
 simp only [hrow] at q2 q3
 rw [zbs code ext c480]
 have y0 : ∀ s, exView (callW code ext) s 487 [.imm sv] = some (avb false, s) := fun s => by simp -implicitDefEqProofs [hb]
 have y1 : ∀ s, exView (callW code ext) s 646 [.imm sv, .agg [.imm (.val (.int .u8 v0.k)), int64 v0.n]] = some (avb true, s) := fun s => by simp -implicitDefEqProofs [h0]
 have y2 : ∀ s, exView (callW code ext) s 646 [.imm sv, .agg [.imm (.val (.int .u8 v1.k)), int64 v1.n]] = some (avb true, s) := fun s => by simp -implicitDefEqProofs [h1]
 have y3 : ∀ s, exView (callW code ext) s 646 [.imm sv, .agg [.imm (.val (.int .u8 v2.k)), int64 v2.n]] = some (avb true, s) := fun s => by simp -implicitDefEqProofs [h2]
 have y4 : ∀ s, exView (callW code ext) s 489 [] = some (avb true, s) := fun s => by simp -implicitDefEqProofs [hl]
 have y5 : ∀ s, exView (callW code ext) s 649 [.imm sv, .imm (.slice [.val (.int .u8 v0.k), .val (.int .i64 v0.n), .val (.int .u8 v1.k), .val (.int .i64 v1.n), .val (.int .u8 v2.k), .val (.int .i64 v2.n)] 0 3 (some 3))] = some (int64 W0, s) := fun s => by simp -implicitDefEqProofs [hw]
 have hcp : copies 6 [Value.slice none 0 0, Value.int IntKind.u8 0, Value.int IntKind.i64 0, Value.string ByteArray.empty, Value.int IntKind.i64 0] = [Value.slice none 0 0, Value.int IntKind.u8 0, Value.int IntKind.i64 0, Value.string ByteArray.empty, Value.int IntKind.i64 0, Value.slice none 0 0, Value.int IntKind.u8 0, Value.int IntKind.i64 0, Value.string ByteArray.empty, Value.int IntKind.i64 0, Value.slice none 0 0, Value.int IntKind.u8 0, Value.int IntKind.i64 0, Value.string ByteArray.empty, Value.int IntKind.i64 0, Value.slice none 0 0, Value.int IntKind.u8 0, Value.int IntKind.i64 0, Value.string ByteArray.empty, Value.int IntKind.i64 0, Value.slice none 0 0, Value.int IntKind.u8 0, Value.int IntKind.i64 0, Value.string ByteArray.empty, Value.int IntKind.i64 0, Value.slice none 0 0, Value.int IntKind.u8 0, Value.int IntKind.i64 0, Value.string ByteArray.empty, Value.int IntKind.i64 0] := rfl
 unfold x480W
 generalize x480WL1 = L at *
 simp -implicitDefEqProofs [-exView, y0, y1, y2, y3, y4, y5, exIce, exSlice, hcp, q0, q1, q2, q3, q4, q5, l1]
 split <;> rfl
end
end Go.EX


namespace Go.EX
section
variable {code : Nat → Option XFun} {ext : Calls'}
theorem zva {sA : AV} {t : TP} {T : List Obj} (hT : StoreT code ext sA t T) (h : code 657 = some x657) (k : Nat) (o : Obj) (ho : T[k]? = some o) (hs : o.s.size ≤ 1048576) (hL : o.l.xs.length ≤ 1000000) :
  callW code ext 657 [t.at k] [] = some (int64 (IntKind.wrap .i64 ((wordsOf o : Nat) : Int)), []) := by
 have hsm : (¬ (o.k = 4 ∨ o.k = 5) ∨ ¬ 0 < o.room) → IntKind.wrap .i64 ((wordsOf o : Nat) : Int) = ((wordsOf o : Nat) : Int) := fun hc => by
  have hb : wordsOf o ≤ 3000000 := by
   unfold wordsOf
   split
   ·omega
   ·split
    ·rename_i h45
     rcases hc with hc | hc
     ·exact absurd h45 hc
     ·rw [if_neg hc]; omega
    ·split <;> omega
  exact wrapI64 (by omega) (by omega)
 rw [zbs code ext h]
 have hget := hT.obj k o ho
 have g0 : t.row[t.off + k * 5]? = some (.val (.int .u8 o.k)) := zdd hget 0 (by omega)
 have g1 : t.row[t.off + k * 5 + 1]? = some (.val (.string o.s)) := zdd hget 1 (by omega)
 have g2 : t.row[t.off + k * 5 + 2]? = some o.l.iv := zdd hget 2 (by omega)
 have g3 : t.row[t.off + k * 5 + 3]? = some (.val (.int .i64 o.room)) := zdd hget 3 (by omega)
 by_cases c3 : o.k = 3
 ·have hw : wordsOf o = 2 + (o.s.size + 7) / 8 := by simp [wordsOf, c3]
  have w2 : IntKind.wrap .i64 ((o.s.size : Int) + 7) = (o.s.size : Int) + 7 := wrapI64 (by omega) (by omega)
  have w3 : IntKind.wrap .i64 ((((o.s.size + 7) / 8 : Nat) : Int)) = (((o.s.size + 7) / 8 : Nat) : Int) := wrapI64 (by omega) (by omega)
  have w4 : IntKind.wrap .i64 (2 + (((o.s.size + 7) / 8 : Nat) : Int)) = 2 + (((o.s.size + 7) / 8 : Nat) : Int) := wrapI64 (by omega) (by omega)
  have hd := tdiv8T o.s.size
  generalize hqq : (o.s.size + 7) / 8 = q at *
  rw [hsm (.inl (by omega)), hw]
  simp -implicitDefEqProofs [x657, TP.at, g0, g1, c3, w2, w3, w4, hd]
 by_cases c45 : o.k = 4 ∨ o.k = 5
 ·by_cases c0 : 0 < o.room
  ·have hw : wordsOf o = 4 + 2 * o.room.toNat := by simp [wordsOf, c3, c45, c0]
   obtain ⟨r, hr⟩ : ∃ r : Nat, o.room = r := ⟨o.room.toNat, by omega⟩
   have hr2 : o.room.toNat = r := by omega
   have w4 : IntKind.wrap .i64 (4 + IntKind.wrap .i64 (2 * (r : Int))) = IntKind.wrap .i64 (4 + 2 * (r : Int)) := by
    rw [Int.add_comm, zvm, Int.add_comm]
   have hr0 : 0 < r := by omega
   rw [hw, hr2]
   rw [hr] at g3
   rcases c45 with c4 | c5
   ·simp -implicitDefEqProofs [x657, TP.at, g0, g3, c4, w4, hr0]
   ·simp -implicitDefEqProofs [x657, TP.at, g0, g3, c5, w4, hr0]
  ·have hw : wordsOf o = 3 := by simp [wordsOf, c3, c45, c0]
   rw [hsm (.inr c0), hw]
   rcases c45 with c4 | c5
   ·simp -implicitDefEqProofs [x657, TP.at, g0, g3, c4, c0]
   ·simp -implicitDefEqProofs [x657, TP.at, g0, g3, c5, c0]
 ·have c4 : ¬ o.k = 4 := fun e => c45 (.inl e)
  have c5 : ¬ o.k = 5 := fun e => c45 (.inr e)
  by_cases c6 : o.k = 6
  ·have hw : wordsOf o = 2 + 2 * o.l.xs.length := by simp [wordsOf, c6]
   have hll := zo6 o.l.ok
   have w2 : IntKind.wrap .i64 (2 * (o.l.xs.length : Int)) = 2 * (o.l.xs.length : Int) := wrapI64 (by omega) (by omega)
   have w3 : IntKind.wrap .i64 (2 + 2 * (o.l.xs.length : Int)) = 2 + 2 * (o.l.xs.length : Int) := wrapI64 (by omega) (by omega)
   rw [hsm (.inl c45), hw]
   simp -implicitDefEqProofs [x657, TP.at, g0, g2, c6, w2, w3, hll]
  ·have hw : wordsOf o = 3 := by simp [wordsOf, c3, c4, c5, c6]
   rw [hsm (.inl c45), hw]
   simp -implicitDefEqProofs [x657, TP.at, g0, c3, c4, c5, c6]
theorem zr9 {sA : AV} {t : TP} {T : List Obj} (hT : StoreT code ext sA t T) (h' : code 655 = some x655) (h2 : code 654 = some x654) (h3 : code 657 = some x657) (h4 : code 649 = some x649) (hb : T.length ≤ 1048576) {rv : IV} {roots : List Val} (hr : Reads tVal rv roots)
  (hs : ∀ o ∈ T, o.s.size ≤ 1048576) (hL : ∀ o ∈ T, o.l.xs.length ≤ 1000000) :
  ∃ out, Grown T roots out out.length ∧ callW code ext 649 [sA, .imm rv] [] = some (int64 (IntKind.wrap .i64 (((out.map (wordsAt T)).sum : Nat) : Int)), []) := by
 obtain ⟨out, hG, hre⟩ := zou (ext := ext) hT h' h2 hb hr
 refine ⟨out, hG, ?_⟩
 rw [zbs code ext h4]
 have hsh := hG.short
 have hsr := hT.refs
 have hsn := hT.ren
 by_cases hne : out = []
 ·subst hne
  simp only [reachOutT, if_true] at hre
  have hl : den code ext (.loop [4, 9, 10, 11] x649L1) ⟨0, [(4, int64 0), (9, nilS), (10, int64 0), (11, int64 0)], []⟩ = some (.exit 0, ⟨0, [(4, int64 0), (9, nilS), (10, int64 0), (11, int64 0), (12, avb false)], []⟩) := by
   rw [zdn]
   simp -implicitDefEqProofs [x649L1]
  have e0 : IntKind.wrap .i64 0 = 0 := by decide
  simp -implicitDefEqProofs [x649, hsr, hsn, hre, hl, e0]
 ·simp only [reachOutT, if_neg hne] at hre
  have loop : ∃ e s', den code ext (.loop [4, 9, 10, 11] x649L1) ⟨0, [(4, int64 0), (9, .osl 0 0 1 out.length none), (10, int64 out.length), (11, int64 0)], [.rich (ptrsT t out)]⟩ = some (e, s') ∧ e ≠ .normal ∧
    (e = .exit 0 ∧ s' = ⟨0, [(4, int64 (IntKind.wrap .i64 (((out.map (wordsAt T)).sum : Nat) : Int))), (9, .osl 0 0 1 out.length none), (10, int64 out.length), (11, int64 out.length), (12, avb false)], [.rich (ptrsT t out)]⟩) := by
   refine zjt (fun n s => ∃ (i : Nat), i + n = out.length ∧ s = ⟨0, [(4, int64 (IntKind.wrap .i64 ((((out.take i).map (wordsAt T)).sum : Nat) : Int))), (9, .osl 0 0 1 out.length none), (10, int64 out.length), (11, int64 (i : Nat))], [.rich (ptrsT t out)]⟩) _ ?_ out.length _ ⟨0, by simp, by simp; rfl⟩
   rintro n _ ⟨i, hi, rfl⟩
   by_cases hlt : i < out.length
   ·have hk := List.getElem?_eq_getElem hlt
    have hkT := (hG.reach _ (List.getElem_mem hlt)).lt
    have htk : out.take (i + 1) = out.take i ++ [out[i]] := by rw [List.take_add_one, hk]; rfl
    generalize out[i] = k at hk hkT htk
    have hTk := List.getElem?_eq_getElem hkT
    have hmem := List.getElem_mem hkT
    have hp : (ptrsT t out)[i]? = some (t.at k) := by simp [ptrsT, hk]
    have hw := zva (ext := ext) hT h3 k _ hTk (hs _ hmem) (hL _ hmem)
    have hwa : wordsAt T k = wordsOf T[k] := by simp [wordsAt, hTk]
    have hsum : ((out.take (i + 1)).map (wordsAt T)).sum = ((out.take i).map (wordsAt T)).sum + wordsOf T[k] := by rw [htk, List.map_append, List.sum_append]; simp [hwa]
    have e1 : IntKind.wrap .i64 ((i : Int) + 1) = (i : Int) + 1 := wrapI64 (by omega) (by omega)
    generalize ((out.take i).map (wordsAt T)).sum = m at *
    generalize wordsOf T[k] = w at *
    have e2 : IntKind.wrap .i64 (IntKind.wrap .i64 (m : Int) + IntKind.wrap .i64 (w : Int)) = IntKind.wrap .i64 ((m : Int) + (w : Int)) := by
     rw [zvm, Int.add_comm, zvm, Int.add_comm]
    refine ⟨.normal, ⟨0, [(4, int64 (IntKind.wrap .i64 ((m : Int) + (w : Int)))), (9, .osl 0 0 1 out.length none), (10, int64 out.length), (11, int64 ((i : Int) + 1))], [.rich (ptrsT t out)]⟩, ?_, .inl ⟨rfl, n - 1, by omega, i + 1, by omega, ?_⟩⟩
    ·simp -implicitDefEqProofs [x649L1, hlt, hp, hw, e1, e2]
    ·rw [hsum, Int.natCast_add]; rfl
   ·have : i = out.length := by omega
    subst this
    rw [List.take_length]
    refine ⟨.exit 0, _, ?_, .inr ⟨by simp, rfl, rfl⟩⟩
    simp -implicitDefEqProofs [x649L1]
  obtain ⟨e, s', l1, _, rfl, rfl⟩ := loop
  simp -implicitDefEqProofs [x649, hsr, hsn, hre, l1]
end
end Go.EX


namespace Go.EX
section
variable {code : Nat → Option XFun} {ext : Calls'}
theorem zui {sA : AV} {t : TP} {T : List Obj} (hT : StoreT code ext sA t T) (h' : code 656 = some x656) (hb : T.length ≤ 1048576) (v : Val) (hv : (tInt .i64).wf v.n) :
  callW code ext 656 [sA, .agg [.imm (.val (.int .u8 v.k)), int64 v.n]] [] = some (avb (valOf T v), []) := by
 rw [zbs code ext h']
 have hl := hT.lead v hv
 by_cases k0 : v.k = 0
 ·simp -implicitDefEqProofs [x656, hT.refs, hT.ren, TP.at, valOf, k0]
 by_cases k1 : v.k = 1
 ·by_cases n0 : v.n = 0
  ·simp -implicitDefEqProofs [x656, hT.refs, hT.ren, TP.at, valOf, k1, n0]
  ·simp -implicitDefEqProofs [x656, hT.refs, hT.ren, TP.at, valOf, k1, n0]
 by_cases k2 : v.k = 2
 ·simp -implicitDefEqProofs [x656, hT.refs, hT.ren, TP.at, valOf, k2]
 cases hq : leadsOf T v with
 | none =>
  rw [hq, leadT] at hl
  try simp only [TP.at] at hl
  simp -implicitDefEqProofs [x656, hT.refs, hT.ren, TP.at, valOf, k0, k1, k2, hq, hl]
 | some q =>
  rw [hq, leadT] at hl
  try simp only [TP.at] at hl
  simp -implicitDefEqProofs [x656, hT.refs, hT.ren, TP.at, valOf, k0, k1, k2, hq, hl]
def mayMemT (sA : AV) (t : TP) (k : Nat) : Mem := [.rich [sA], .rich [t.at k]]
theorem zbb {sA : AV} {t : TP} {T : List Obj} (hT : StoreT code ext sA t T) (h' : code 656 = some x656) (h2 : code 653 = some x653) (hb : T.length ≤ 1048576) (k : Nat) (o : Obj) (ho : T[k]? = some o) (v : Val) (hv : (tInt .i64).wf v.n) :
  callW code ext 653 [.agg [.imm (.val (.int .u8 v.k)), int64 v.n], .optr 0 0, .optr 1 0] (mayMemT sA t k) = some (avb (badOf T o v), mayMemT sA t k) := by
 rw [zbs code ext h2]
 have hval := zui (ext := ext) hT h' hb v hv
 have g0 : t.row[t.off + k * 5]? = some (.val (.int .u8 o.k)) := zdd (hT.obj k o ho) 0 (by omega)
 cases hvv : valOf T v with
 | false =>
  rw [hvv] at hval
  simp -implicitDefEqProofs [x653, mayMemT, hT.refs, hT.ren, TP.at,  hval, badOf, hvv]
 | true =>
  rw [hvv] at hval
  by_cases c7 : v.k = 7
  ·have hval7 := hval
   rw [c7] at hval7
   have hvv7 := hvv
   by_cases c6 : o.k = 6
   ·simp -implicitDefEqProofs [x653, mayMemT, hT.refs, hT.ren, TP.at,  hval7, badOf, hvv, g0, c7, c6]
   ·simp -implicitDefEqProofs [x653, mayMemT, hT.refs, hT.ren, TP.at,  hval7, badOf, hvv, g0, c7, c6]
  ·by_cases c6 : o.k = 6
   ·simp -implicitDefEqProofs [x653, mayMemT, hT.refs, hT.ren, TP.at,  hval, badOf, hvv, g0, c7, c6]
   ·simp -implicitDefEqProofs [x653, mayMemT, hT.refs, hT.ren, TP.at,  hval, badOf, hvv, g0, c7, c6]
theorem zam {sA : AV} {t : TP} {T : List Obj} (hT : StoreT code ext sA t T) (h' : code 656 = some x656) (h2 : code 653 = some x653) (h3 : code 759 = some x759) (h4 : code 749 = some x749) (hb : T.length ≤ 1048576) (k : Nat) (o : Obj) (ho : T[k]? = some o) {lv : IV} {l : List Val} (hl : Reads tVal lv l) :
  callW code ext 749 [.imm lv, .clo 653 [.optr 0 0, .optr 1 0]] (mayMemT sA t k) = some (avb (l.any (badOf T o)), mayMemT sA t k) := by
 have hlen := zo6 hl
 have hbl := hl.2.1
 have loop : ∃ e s', den code ext (.loop [0, 1, 7, 8] x759L1) ⟨2, [(0, .imm lv), (1, .clo 653 [.optr 0 0, .optr 1 0]), (7, int64 l.length), (8, int64 0)], mayMemT sA t k⟩ = some (e, s') ∧ e ≠ .normal ∧
   ((e = .exit 0 ∧ l.any (badOf T o) = false ∧ s' = ⟨2, [(0, .imm lv), (1, .clo 653 [.optr 0 0, .optr 1 0]), (7, int64 l.length), (8, int64 l.length), (9, avb false)], mayMemT sA t k⟩) ∨ (e = .ret ∧ l.any (badOf T o) = true ∧ ∃ i : Nat, s' = ⟨2, [(4, int64 (i : Nat))], mayMemT sA t k⟩)) := by
  refine zjt (fun n s => ∃ (i : Nat), i + n = l.length ∧ (l.take i).any (badOf T o) = false ∧ s = ⟨2, [(0, .imm lv), (1, .clo 653 [.optr 0 0, .optr 1 0]), (7, int64 l.length), (8, int64 (i : Nat))], mayMemT sA t k⟩) _ ?_ l.length _ ⟨0, by simp, by simp, rfl⟩
  rintro n _ ⟨i, hi, hall, rfl⟩
  by_cases hlt : i < l.length
  ·obtain ⟨row, off, cap, rfl, hc, hcut, hget⟩ := zo7 hl (List.getElem?_eq_getElem hlt)
   have e1 : IntKind.wrap .i64 ((i : Int) + 1) = (i : Int) + 1 := wrapI64 (by omega) (by omega)
   have htk : l.take (i + 1) = l.take i ++ [l[i]] := by rw [List.take_add_one, List.getElem?_eq_getElem hlt]; rfl
   have hmem := List.getElem_mem hlt
   have hw := (hl.1 _ hmem).2
   generalize l[i] = v at hget htk hmem hw
   simp only [tVal] at hget
   have hs := zbb (ext := ext) hT h' h2 hb k o ho v hw
   simp only [mayMemT, TP.at] at hs
   cases hbv : badOf T o v with
   | true =>
    rw [hbv] at hs
    refine ⟨.ret, ⟨2, [(4, int64 (i : Nat))], mayMemT sA t k⟩, ?_, .inr ⟨by simp, .inr ⟨rfl, List.any_eq_true.2 ⟨v, hmem, hbv⟩, i, rfl⟩⟩⟩
    simp -implicitDefEqProofs [x759L1, mayMemT, hT.refs, hT.ren, TP.at,  hlt, hget, hs]
   | false =>
    rw [hbv] at hs
    refine ⟨.normal, ⟨2, [(0, .imm (.slice row off l.length cap)), (1, .clo 653 [.optr 0 0, .optr 1 0]), (7, int64 l.length), (8, int64 ((i : Int) + 1))], mayMemT sA t k⟩, ?_, .inl ⟨rfl, n - 1, by omega, i + 1, by omega, by rw [htk, List.any_append, hall]; simp [hbv], rfl⟩⟩
    simp -implicitDefEqProofs [x759L1, mayMemT, hT.refs, hT.ren, TP.at,  hlt, hget, hs, e1]
  ·have : i = l.length := by omega
   subst this
   rw [List.take_length] at hall
   refine ⟨.exit 0, _, ?_, .inr ⟨by simp, .inl ⟨rfl, hall, rfl⟩⟩⟩
   simp -implicitDefEqProofs [x759L1, mayMemT, hT.refs, hT.ren, TP.at]
 have hidx : ∃ r : Int, callW code ext 759 [.imm lv, .clo 653 [.optr 0 0, .optr 1 0]] (mayMemT sA t k) = some (int64 r, mayMemT sA t k) ∧ ((0 ≤ r) ↔ l.any (badOf T o) = true) := by
  obtain ⟨e, s', g1, _, ⟨rfl, ha, rfl⟩ | ⟨rfl, ha, i, rfl⟩⟩ := loop
  ·refine ⟨-1, ?_, by rw [ha]; simp⟩
   rw [zbs code ext h3]
   simp only [mayMemT, TP.at] at g1 ⊢
   simp -implicitDefEqProofs [x759, hT.refs, hT.ren, TP.at, hlen, g1]
  ·refine ⟨i, ?_, by rw [ha]; simp⟩
   rw [zbs code ext h3]
   simp only [mayMemT, TP.at] at g1 ⊢
   simp -implicitDefEqProofs [x759, hT.refs, hT.ren, TP.at, hlen, g1]
 obtain ⟨r, hr, hri⟩ := hidx
 rw [zbs code ext h4]
 have hdec : decide (0 ≤ r) = l.any (badOf T o) := by
  cases ha : l.any (badOf T o) with
  | true => simpa using hri.2 ha
  | false => simp only [decide_eq_false_iff_not]; intro hc; rw [hri.1 hc] at ha; cases ha
 simp only [mayMemT, TP.at] at hr ⊢
 simp -implicitDefEqProofs [x749, hT.refs, hT.ren, TP.at, hr, hdec]
end
end Go.EX

