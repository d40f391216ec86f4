import Derived.Test.YtedddogbgdbpmaaDoorK7
import Derived.Laws.Strings
import Derived.Test.YtedddogbgdbpmaaDoorK8
import Derived.Test.YtedddogbgdbpmaaDoorBld2
import Derived.Lib.ItoaLen
import Derived.Test.YtedddogbgdbpmaaDoorK9
import Derived.Test.YtedddogbgdbpmaaDoorK10
import Derived.Test.YtedddogbgdbpmaaDoorFmt2
set_option linter.unusedVariables false
set_option linter.unusedSimpArgs false
namespace Go.EX
attribute [simp] List.range_succ funOut zdr zdp zdo XO.unlit XOp.unlit zdq zdl zdm zds zdk blockOut andThen exOps exOne exOp Env.ev Env.get Env.keep enter AV.cells fresh loadAt getCells getCellsI valBin boolBin intBin shiftBin strBin valUn intOf bndOf bounds
 storeAt imms leave resOf wrapRes order reach Mem.refs AObj.refs AV.refs AV.refs.refsL Mem.pickAll AObj.ren AV.ren AV.ren.renL place fillAll mkObj imZ sameCells St.tidy Env.roots Env.ren AV.plain1 AV.plain2 AV.plain AV.own1 AV.own2 AV.own IV.plain AObj.own AObj.live AV.isImm exAppendM exView exOwn exShare shareOk AObj.isFix exPeek exLook frz frz.frz1 frzV AObj.moved AObj.orMoved shareAt St.scrub isKeyAV zeroAV
@[simp] theorem lenOf_nil : lenOf (.imm (.val (.slice none 0 0))) = some 0 := rfl
@[simp] theorem lenOf_slice (row : List IV) (off len : Nat) (cap : Option Nat) : lenOf (.imm (.slice row off len cap)) = some len := rfl
@[simp] theorem lenOf_osl (id off sz len : Nat) (cap : Option Nat) : lenOf (.osl id off sz len cap) = some len := rfl
@[simp] theorem capOf_slice (row : List IV) (off len : Nat) (cap : Option Nat) : capOf (.imm (.slice row off len cap)) = cap := rfl
@[simp] theorem capOf_osl (id off sz len : Nat) (cap : Option Nat) : capOf (.osl id off sz len cap) = cap := rfl
@[simp] theorem isNil_slice (row : List IV) (off len : Nat) (cap : Option Nat) : isNil (.imm (.slice row off len cap)) = some false := rfl
@[simp] theorem isNil_ptr (row : List IV) (off : Nat) : isNil (.imm (.ptr row off)) = some false := rfl
@[simp] theorem isNil_osl (id off sz len : Nat) (cap : Option Nat) : isNil (.osl id off sz len cap) = some false := rfl
@[simp] theorem isNil_optr (id off : Nat) : isNil (.optr id off) = some false := rfl
@[simp] theorem isNil_omap (id : Nat) : isNil (.omap id) = some false := rfl
@[simp] theorem isNil_pnone : isNil (.imm (.val (.pointer none))) = some true := rfl
@[simp] theorem isNilK_snone : isNilK 0 (.imm (.val (.slice none 0 0))) = some true := rfl
@[simp] theorem isNilK_slice (row : List IV) (off len : Nat) (cap : Option Nat) : isNilK 0 (.imm (.slice row off len cap)) = some false := rfl
@[simp] theorem isNilK_osl (id off sz len : Nat) (cap : Option Nat) : isNilK 0 (.osl id off sz len cap) = some false := rfl
@[simp] theorem isNilK_pnone : isNilK 1 (.imm (.val (.pointer none))) = some true := rfl
@[simp] theorem isNilK_ptr (row : List IV) (off : Nat) : isNilK 1 (.imm (.ptr row off)) = some false := rfl
@[simp] theorem isNilK_optr (id off : Nat) : isNilK 1 (.optr id off) = some false := rfl
@[simp] theorem int_beq (a b : Int) : (a == b) = decide (a = b) := by by_cases h : a = b <;> simp [h]
theorem zbo {a b : ByteArray} (h : a.toList = b.toList) : a = b := by
 have e : ∀ c : ByteArray, c.toList = c.data.toList := ByteArray.toList_eq
 rw [e, e] at h
 cases a; cases b
 simp at h
 exact congrArg ByteArray.mk h
@[simp] theorem bytes_beq (a b : ByteArray) : (a.toList == b.toList) = decide (a = b) := by
 by_cases h : a = b
 ·subst h; simp
 ·have : a.toList ≠ b.toList := fun e => h (zbo e)
  simp [h, this]
@[simp] theorem cut_zero {β : Type} (l : List β) : cut l 0 0 = some [] := by simp [cut]
@[simp] theorem cut_cons_zero {β : Type} (x : β) (l : List β) (n : Nat) : cut (x :: l) 0 (n + 1) = (cut l 0 n).map (x :: ·) := by
 simp only [cut, List.drop_zero, List.take_succ_cons, List.length_cons]
 by_cases h : (l.take n).length = n
 ·rw [if_pos h, if_pos (by omega)]; rfl
 ·rw [if_neg h, if_neg (by omega)]; rfl
@[simp] theorem cut_cons_succ {β : Type} (x : β) (l : List β) (o n : Nat) : cut (x :: l) (o + 1) n = cut l o n := by simp [cut]
@[simp] theorem setAll_nil {β : Type} (l : List β) (o : Nat) : setAll l o [] = l := rfl
@[simp] theorem setAll_cons_succ {β : Type} (x : β) : ∀ (ys l : List β) (o : Nat), setAll (x :: l) (o + 1) ys = x :: setAll l o ys
 | [], l, o => rfl
 | y :: ys, l, o => by rw [setAll, List.set_cons_succ, setAll_cons_succ x ys]; rfl
@[simp] theorem setAll_cons_zero {β : Type} (x y : β) (l ys : List β) : setAll (x :: l) 0 (y :: ys) = y :: setAll l 0 ys := by
 rw [setAll, List.set_cons_zero, setAll_cons_succ]
@[simp] theorem imms_imm : ∀ (l : List IV), imms (l.map .imm) = some l
 | [] => rfl
 | x :: l => by simp [imms, imms_imm l]
@[simp] theorem copies_0 {β : Type} (l : List β) : copies 0 l = [] := rfl
@[simp] theorem copies_1 {β : Type} (l : List β) : copies 1 l = l := by simp [copies]
@[simp] theorem copies_2 {β : Type} (l : List β) : copies 2 l = l ++ l := by simp [copies]
@[simp] theorem copies_3 {β : Type} (l : List β) : copies 3 l = l ++ (l ++ l) := by simp [copies]
@[simp] theorem copies_4 {β : Type} (l : List β) : copies 4 l = l ++ (l ++ (l ++ l)) := by simp [copies]
def Ty.row {α : Type} (t : Ty α) (xs : List α) : List IV := xs.flatMap t.enc
abbrev nilS : AV := .imm (.val (.slice none 0 0))
abbrev int64 (n : Int) : AV := .imm (.val (.int .i64 n))
abbrev avb (b : Bool) : AV := .imm (.val (.bool b))
theorem zjt {code : Nat → Option XFun} {ext : Calls'} {keep : List Nat} {b : XCode} (I : Nat → St → Prop) (Q : XExit → St → Prop)
  (h : ∀ n s, I n s → ∃ e s', den code ext b (s.tidy keep) = some (e, s') ∧ ((e = .normal ∧ ∃ m, m < n ∧ I m s') ∨ (e ≠ .normal ∧ Q e s'))) : ∀ n s, I n s → ∃ e s', den code ext (.loop keep b) s = some (e, s') ∧ e ≠ .normal ∧ Q e s' := by
 intro n
 induction n using Nat.strongRecOn with
 | ind n ih =>
  intro s hs
  obtain ⟨e, s', h1, h2⟩ := h n s hs
  rw [zdn, h1]
  rcases h2 with ⟨rfl, m, hm, hI⟩ | ⟨hne, hq⟩
  ·exact ih m hm s' hI
  ·refine ⟨e, s', ?_, hne, hq⟩
   cases e with
   | normal => exact absurd rfl hne
   | exit id => rfl
   | ret => rfl
theorem wrapI64 {x : Int} (h1 : -9223372036854775808 ≤ x) (h2 : x ≤ 9223372036854775807) : IntKind.wrap .i64 x = x := by
 simp only [IntKind.wrap, IntKind.signed, IntKind.bits]
 simp
 omega
theorem wfI64 {n : Int} : (tInt .i64).wf n ↔ -9223372036854775808 ≤ n ∧ n ≤ 9223372036854775807 := by
 simp [tInt, Lit.wf, IntKind.min, IntKind.max, IntKind.signed, IntKind.bits]
theorem wfU8 {n : Int} : (tInt .u8).wf n ↔ 0 ≤ n ∧ n ≤ 255 := by
 simp [tInt, Lit.wf, IntKind.min, IntKind.max, IntKind.signed, IntKind.bits]
section
variable {α : Type} {t : Ty α} {iv : IV} {xs : List α}
theorem zo6 (h : Reads t iv xs) : lenOf (.imm iv) = some xs.length := by
 obtain ⟨_, _, ⟨rfl, rfl⟩ | ⟨row, off, cap, rfl, _⟩⟩ := h
 ·rfl
 ·rfl
theorem zdi {β : Type} {l : List β} {o n : Nat} {r : List β} (h : cut l o n = some r) : r = (l.drop o).take n ∧ r.length = n := by
 unfold cut at h
 dsimp only at h
 split at h
 ·rename_i h1; cases h; exact ⟨rfl, h1⟩
 ·cases h
theorem cut_mk {β : Type} {l : List β} {o n : Nat} {r : List β} (h : (l.drop o).take n = r) (hl : r.length = n) : cut l o n = some r := by
 unfold cut
 dsimp only
 rw [h, if_pos hl]
theorem zdc {β : Type} {l : List β} {o n : Nat} {r : List β} (h : cut l o n = some r) {a b : Nat} (hab : a + b ≤ n) : cut l (o + a) b = cut r a b := by
 obtain ⟨rfl, hl⟩ := zdi h
 unfold cut
 dsimp only
 rw [List.drop_take, List.drop_drop, List.take_take]
 have : min b (n - a) = b := by omega
 rw [this]
theorem zf1 (h0 : ∀ x, (t.enc x).length = t.sz) : ∀ (xs : List α) (i k : Nat), i + k ≤ xs.length → cut (xs.flatMap t.enc) (i * t.sz) (k * t.sz) = some (((xs.drop i).take k).flatMap t.enc) := by
 intro xs i k hk
 refine cut_mk ?_ ?_
 ·have hdrop : ∀ (i : Nat) (l : List α), (l.flatMap t.enc).drop (i * t.sz) = (l.drop i).flatMap t.enc := by
   intro i
   induction i with
   | zero => intro l; simp
   | succ i ih =>
    intro l
    cases l with
    | nil => simp
    | cons x l =>
     rw [List.flatMap_cons, Nat.add_mul, Nat.one_mul, Nat.add_comm, List.drop_append]
     have hx := h0 x
     rw [List.drop_eq_nil_of_le (by omega)]
     have : t.sz + i * t.sz - (t.enc x).length = i * t.sz := by omega
     rw [this, ih]; simp
  have htake : ∀ (k : Nat) (l : List α), (l.flatMap t.enc).take (k * t.sz) = (l.take k).flatMap t.enc := by
   intro k
   induction k with
   | zero => intro l; simp
   | succ i ih =>
    intro l
    cases l with
    | nil => simp
    | cons x l =>
     rw [List.flatMap_cons, Nat.add_mul, Nat.one_mul, Nat.add_comm, List.take_append]
     have hx := h0 x
     rw [List.take_of_length_le (by omega)]
     have : t.sz + i * t.sz - (t.enc x).length = i * t.sz := by omega
     rw [this, ih]; simp
  rw [hdrop, htake]
 ·rw [zf3 _ _ h0]
  simp only [List.length_take, List.length_drop]
  congr 1
  omega
theorem zqn (t : Ty α) (xs : List α) : (t.row xs).length = xs.length * t.sz := zf3 _ _ t.len xs
theorem zdh (t : Ty α) (xs : List α) : cut (t.row xs) 0 (xs.length * t.sz) = some (t.row xs) := zdb _ (zqn t xs)
theorem zf4 {i : Nat} {x : α} (hx : xs[i]? = some x) : cut (t.row xs) (i * t.sz) t.sz = some (t.enc x) := by
 obtain ⟨hi, hxi⟩ := List.getElem?_eq_some_iff.1 hx
 have := zf1 t.len xs i 1 hi
 rw [Nat.one_mul] at this
 rw [Ty.row, this, List.drop_eq_getElem_cons hi, hxi]
 simp
theorem zo7 (h : Reads t iv xs) {i : Nat} {x : α} (hx : xs[i]? = some x) : ∃ row off cap, iv = .slice row off xs.length cap ∧ (∀ c, cap = some c → xs.length ≤ c) ∧ cut row off (xs.length * t.sz) = some (xs.flatMap t.enc) ∧
  cut row (off + i * t.sz) t.sz = some (t.enc x) := by
 obtain ⟨_, _, ⟨rfl, rfl⟩ | ⟨row, off, cap, rfl, hc, hcut⟩⟩ := h
 ·simp at hx
 ·refine ⟨row, off, cap, rfl, hc, hcut, ?_⟩
  have hi := (List.getElem?_eq_some_iff.1 hx)
  obtain ⟨hi, hxi⟩ := hi
  have : i * t.sz + t.sz ≤ xs.length * t.sz := by
   rw [← Nat.succ_mul]; exact Nat.mul_le_mul_right _ hi
  rw [zdc hcut this]
  have := zf1 t.len xs i 1 hi
  rw [Nat.one_mul] at this
  rw [this]
  congr 1
  rw [List.drop_eq_getElem_cons hi, hxi]
  simp
theorem zo8 (t : Ty α) (xs : List α) {cap : Option Nat} (hw : ∀ x ∈ xs, t.wf x) (hl : xs.length ≤ 140737488355328) (hc : ∀ c, cap = some c → xs.length ≤ c) : Reads t (.slice (t.row xs) 0 xs.length cap) xs :=
 ⟨hw, hl, .inr ⟨_, 0, cap, rfl, hc, zdb _ (zqn t xs)⟩⟩
end
end Go.EX


namespace Go.EX
structure Val where
 k : Int
 n : Int
 deriving DecidableEq
def tVal : Ty Val := ⟨2, true, fun v => [.val (.int .u8 v.k), .val (.int .i64 v.n)], fun v => (tInt .u8).wf v.k ∧ (tInt .i64).wf v.n, fun _ => rfl⟩
structure Obj where
 k : Int
 s : ByteArray
 l : Sl tVal
 room : Int
 fn : Int
def tObj : Ty Obj := ⟨5, true, fun o => [.val (.int .u8 o.k), .val (.string o.s), o.l.iv, .val (.int .i64 o.room), .val (.int .i64 o.fn)],
 fun o => (tInt .u8).wf o.k ∧ tStr.wf o.s ∧ (tInt .i64).wf o.room ∧ (tInt .i64).wf o.fn, fun _ => rfl⟩
end Go.EX


namespace Go.EX
def leadsOf (S : List Obj) (v : Val) : Option Nat :=
 if v.k < 3 then none else if 7 < v.k then none else if v.n < 1 then none else if (S.length : Int) < v.n then none else
 match S[(v.n - 1).toNat]? with
 | some o => if o.k = v.k then some (v.n - 1).toNat else none
 | none => none
theorem ziy {S : List Obj} {v : Val} {k : Nat} (h : leadsOf S v = some k) : k < S.length ∧ (k : Int) = v.n - 1 ∧ 3 ≤ v.k ∧ v.k ≤ 7 ∧ ∃ o, S[k]? = some o ∧ o.k = v.k := by
 unfold leadsOf at h
 split at h
 ·cases h
 split at h
 ·cases h
 split at h
 ·cases h
 split at h
 ·cases h
 split at h
 ·rename_i o ho
  split at h
  ·rename_i hk
   cases h
   have := (List.getElem?_eq_some_iff.1 ho).1
   exact ⟨this, by omega, by omega, by omega, o, ho, hk⟩
  ·cases h
 ·cases h
inductive Reach (S : List Obj) (roots : List Val) : Nat → Prop
 | root {v : Val} {j : Nat} (hv : v ∈ roots) (h : leadsOf S v = some j) : Reach S roots j
 | step {k j : Nat} {o : Obj} {v : Val} (hk : Reach S roots k) (ho : S[k]? = some o) (hv : v ∈ o.l.xs) (h : leadsOf S v = some j) : Reach S roots j
theorem Reach.lt {S : List Obj} {roots : List Val} {k : Nat} (h : Reach S roots k) : k < S.length := by
 cases h with
 | root _ h => exact (ziy h).1
 | step _ _ _ h => exact (ziy h).1
structure Marks (S : List Obj) (roots : List Val) (F : List Bool) (T : List Val) : Prop where
 len : F.length = S.length
 mark : ∀ k, F[k]? = some true → Reach S roots k
 todo : ∀ v ∈ T, ∀ j, leadsOf S v = some j → Reach S roots j
 roots : ∀ v ∈ roots, ∀ j, leadsOf S v = some j → F[j]? = some true ∨ v ∈ T
 step : ∀ (k : Nat) (o : Obj), F[k]? = some true → S[k]? = some o → ∀ v ∈ o.l.xs, ∀ j : Nat, leadsOf S v = some j → F[j]? = some true ∨ v ∈ T
theorem Marks.start (S : List Obj) (roots : List Val) : Marks S roots (List.replicate S.length false) roots :=
 ⟨by simp, fun k h => by simp [List.getElem?_replicate] at h, fun v hv j h => .root hv h, fun v hv j h => .inr hv, fun k o h => by simp [List.getElem?_replicate] at h⟩
theorem Marks.drop {S : List Obj} {roots : List Val} {F : List Bool} {T : List Val} {v : Val} (h : Marks S roots F (T ++ [v])) (hv : ∀ j, leadsOf S v = some j → F[j]? = some true) : Marks S roots F T := by
 have key : ∀ u j, leadsOf S u = some j → (F[j]? = some true ∨ u ∈ T ++ [v]) → F[j]? = some true ∨ u ∈ T := by
  intro u j hu h1
  rcases h1 with h1 | h1
  ·exact .inl h1
  ·rw [List.mem_append, List.mem_singleton] at h1
   rcases h1 with h1 | rfl
   ·exact .inr h1
   ·exact .inl (hv j hu)
 exact ⟨h.len, h.mark, fun u hu j hj => h.todo u (List.mem_append_left _ hu) j hj, fun u hu j hj => key u j hj (h.roots u hu j hj), fun k o hk ho u hu j hj => key u j hj (h.step k o hk ho u hu j hj)⟩
theorem Marks.take {S : List Obj} {roots : List Val} {F : List Bool} {T : List Val} {v : Val} {k : Nat} {o : Obj} (h : Marks S roots F (T ++ [v])) (hv : leadsOf S v = some k) (hF : F[k]? = some false) (ho : S[k]? = some o) : Marks S roots (F.set k true) (T ++ o.l.xs) := by
 have hkl : k < F.length := (List.getElem?_eq_some_iff.1 hF).1
 have hk := h.todo v (by simp) k hv
 have hset : ∀ j, (F.set k true)[j]? = some true ↔ j = k ∨ F[j]? = some true := by
  intro j
  rw [List.getElem?_set]
  by_cases e : k = j
  ·subst e; simp [hkl]
  ·rw [if_neg e]; simp [Ne.symm e]
 have key : ∀ u j, leadsOf S u = some j → (F[j]? = some true ∨ u ∈ T ++ [v]) → (F.set k true)[j]? = some true ∨ u ∈ T ++ o.l.xs := by
  intro u j hu h1
  rcases h1 with h1 | h1
  ·exact .inl ((hset j).2 (.inr h1))
  ·rw [List.mem_append, List.mem_singleton] at h1
   rcases h1 with h1 | rfl
   ·exact .inr (List.mem_append_left _ h1)
   ·rw [hv] at hu; cases hu; exact .inl ((hset k).2 (.inl rfl))
 refine ⟨by simp [h.len], fun j hj => ?_, fun u hu j hj => ?_, fun u hu j hj => key u j hj (h.roots u hu j hj), fun q p hq hp u hu j hj => ?_⟩
 ·rcases (hset j).1 hj with rfl | hj
  ·exact hk
  ·exact h.mark j hj
 ·rw [List.mem_append] at hu
  rcases hu with hu | hu
  ·exact h.todo u (List.mem_append_left _ hu) j hj
  ·exact .step hk ho hu hj
 ·rcases (hset q).1 hq with rfl | hq
  ·rw [ho] at hp; cases hp
   exact .inr (List.mem_append_right _ hu)
  ·exact key u j hj (h.step q p hq hp u hu j hj)
theorem Marks.done {S : List Obj} {roots : List Val} {F : List Bool} (h : Marks S roots F []) (k : Nat) : F[k]? = some true ↔ Reach S roots k := by
 refine ⟨h.mark k, fun hk => ?_⟩
 induction hk with
 | root hv hl => rcases h.roots _ hv _ hl with h | h; exact h; cases h
 | step _ ho hv hl ih => rcases h.step _ _ ih ho _ hv _ hl with h | h; exact h; cases h
def addAll (S : List Obj) : List Nat → List Val → List Nat
 | out, [] => out
 | out, v :: l => match leadsOf S v with
  | some o => if o ∈ out then addAll S out l else addAll S (out ++ [o]) l
  | none => addAll S out l
theorem zad (S : List Obj) : ∀ (l : List Val) (out : List Nat), ∃ r, addAll S out l = out ++ r
 | [], out => ⟨[], by simp [addAll]⟩
 | v :: l, out => by
  rw [addAll]
  split
  ·rename_i o ho
   split
   ·exact zad S l out
   ·obtain ⟨r, hr⟩ := zad S l (out ++ [o])
    exact ⟨o :: r, by rw [hr]; simp⟩
  ·exact zad S l out
theorem zac (S : List Obj) : ∀ (l : List Val) (out : List Nat), out.Nodup → (addAll S out l).Nodup
 | [], out, h => h
 | v :: l, out, h => by
  rw [addAll]
  split
  ·rename_i o ho
   split
   ·exact zac S l out h
   ·rename_i hn
    refine zac S l _ ?_
    rw [List.nodup_append]
    exact ⟨h, by simp, fun a ha b hb => by simp at hb; subst hb; exact fun e => hn (e ▸ ha)⟩
  ·exact zac S l out h
theorem zab (S : List Obj) : ∀ (l : List Val) (out : List Nat) (j : Nat), j ∈ addAll S out l ↔ j ∈ out ∨ ∃ v ∈ l, leadsOf S v = some j
 | [], out, j => by simp [addAll]
 | v :: l, out, j => by
  rw [addAll]
  split
  ·rename_i o ho
   split
   ·rename_i hm
    rw [zab S l out j]
    constructor
    ·rintro (h | ⟨u, hu, h⟩)
     ·exact .inl h
     ·exact .inr ⟨u, List.mem_cons_of_mem _ hu, h⟩
    ·rintro (h | ⟨u, hu, h⟩)
     ·exact .inl h
     ·rcases List.mem_cons.1 hu with rfl | hu
      ·rw [ho] at h; cases h; exact .inl hm
      ·exact .inr ⟨u, hu, h⟩
   ·rw [zab S l _ j, List.mem_append, List.mem_singleton]
    constructor
    ·rintro ((h | rfl) | ⟨u, hu, h⟩)
     ·exact .inl h
     ·exact .inr ⟨v, List.mem_cons_self .., ho⟩
     ·exact .inr ⟨u, List.mem_cons_of_mem _ hu, h⟩
    ·rintro (h | ⟨u, hu, h⟩)
     ·exact .inl (.inl h)
     ·rcases List.mem_cons.1 hu with rfl | hu
      ·rw [ho] at h; cases h; exact .inl (.inr rfl)
      ·exact .inr ⟨u, hu, h⟩
  ·rename_i hn
   rw [zab S l out j]
   constructor
   ·rintro (h | ⟨u, hu, h⟩)
    ·exact .inl h
    ·exact .inr ⟨u, List.mem_cons_of_mem _ hu, h⟩
   ·rintro (h | ⟨u, hu, h⟩)
    ·exact .inl h
    ·rcases List.mem_cons.1 hu with rfl | hu
     ·rw [hn] at h; cases h
     ·exact .inr ⟨u, hu, h⟩
structure Grown (S : List Obj) (roots : List Val) (out : List Nat) (i : Nat) : Prop where
 nodup : out.Nodup
 reach : ∀ k ∈ out, Reach S roots k
 roots : ∀ v ∈ roots, ∀ j, leadsOf S v = some j → j ∈ out
 step : ∀ k ∈ out.take i, ∀ o : Obj, S[k]? = some o → ∀ v ∈ o.l.xs, ∀ j, leadsOf S v = some j → j ∈ out
theorem Grown.start (S : List Obj) (roots : List Val) : Grown S roots (addAll S [] roots) 0 :=
 ⟨zac S roots [] (by simp), fun k hk => by
  rcases (zab S roots [] k).1 hk with h | ⟨v, hv, h⟩
  ·cases h
  ·exact .root hv h, fun v hv j hj => (zab S roots [] j).2 (.inr ⟨v, hv, hj⟩), fun k hk => by simp at hk⟩
theorem Grown.next {S : List Obj} {roots : List Val} {out : List Nat} {i k : Nat} {o : Obj} (h : Grown S roots out i) (hk : out[i]? = some k) (ho : S[k]? = some o) : Grown S roots (addAll S out o.l.xs) (i + 1) := by
 have hi := (List.getElem?_eq_some_iff.1 hk).1
 refine ⟨zac S _ _ h.nodup, fun j hj => ?_, fun v hv j hj => (zab S _ _ j).2 (.inl (h.roots v hv j hj)), fun q hq p hp v hv j hj => ?_⟩
 ·rcases (zab S _ _ j).1 hj with hj | ⟨v, hv, hj⟩
  ·exact h.reach j hj
  ·exact .step (h.reach k (List.mem_of_getElem? hk)) ho hv hj
 ·obtain ⟨r, hr⟩ := zad S o.l.xs out
  rw [hr, List.take_append_of_le_length (by omega), List.take_add_one, hk, List.mem_append] at hq
  rcases hq with hq | hq
  ·exact (zab S _ _ j).2 (.inl (h.step q hq p hp v hv j hj))
  ·simp at hq; subst hq
   rw [ho] at hp; cases hp
   exact (zab S _ _ j).2 (.inr ⟨v, hv, hj⟩)
theorem Grown.done {S : List Obj} {roots : List Val} {out : List Nat} {i : Nat} (h : Grown S roots out i) (hi : out.length ≤ i) (k : Nat) : k ∈ out ↔ Reach S roots k := by
 refine ⟨h.reach k, fun hk => ?_⟩
 have hs := h.step
 rw [List.take_of_length_le hi] at hs
 induction hk with
 | root hv hl => exact h.roots _ hv _ hl
 | step _ ho hv hl ih => exact hs _ ih _ ho _ hv _ hl
theorem Grown.short {S : List Obj} {roots : List Val} {out : List Nat} {i : Nat} (h : Grown S roots out i) : out.length ≤ S.length := by
 have hp : out.Perm ((List.range S.length).filter fun k => decide (k ∈ out)) := (List.perm_ext_iff_of_nodup h.nodup (List.nodup_range.filter _)).2 fun k => by
  rw [List.mem_filter, List.mem_range]
  exact ⟨fun hk => ⟨(h.reach k hk).lt, by simpa using hk⟩, fun hk => by simpa using hk.2⟩
 rw [hp.length_eq]
 exact Nat.le_trans (List.length_filter_le _ _) (by simp)
def wordsOf (o : Obj) : Nat :=
 if o.k = 3 then 2 + (o.s.size + 7) / 8 else if o.k = 4 ∨ o.k = 5 then (if 0 < o.room then 4 + 2 * o.room.toNat else 3) else if o.k = 6 then 2 + 2 * o.l.xs.length else 3
def wordsAt (S : List Obj) (k : Nat) : Nat := match S[k]? with
 | some o => wordsOf o
 | none => 0
end Go.EX


namespace Go.EX
abbrev strV (b : ByteArray) : AV := .imm (.val (.string b))
structure TextCode (code : Nat → Option XFun) (ext : Calls') : Prop where
 c673 : code 673 = some x673
 c669 : code 669 = some x669
 c244 : code 244 = some x244
 n674 : code 674 = none
 e674 : ∀ a m, ext 674 a m = extCheck 674 674 a m
 n670 : code 670 = none
 e670 : ∀ a m, ext 670 a m = extStr 670 670 a m
 c785 : code 785 = some x785
 c786 : code 786 = some x786
 c709 : code 709 = some x709
 n708 : code 708 = none
 e708 : ∀ a m, ext 708 a m = extItoa 708 708 a m
section
variable {code : Nat → Option XFun} {ext : Calls'}
theorem zql (b : ByteArray) : (rowOfS b).length = b.size := by simp [rowOfS]
theorem zqk (a b : ByteArray) : rowOfS (a ++ b) = rowOfS a ++ rowOfS b := by
 simp [rowOfS, ByteArray.data_append]
theorem zsg (a b : ByteArray) : (a ++ b).size = a.size + b.size := ByteArray.size_append
theorem zef {b : ByteArray} (h : b.size = 0) : b = .empty := by
 cases b with
 | mk d =>
  have : d.size = 0 := h
  have : d = #[] := Array.eq_empty_of_size_eq_zero this
  subst this; rfl
def bAddr : Bool → AV
 | true => .optr 0 0
 | false => .seat 0 0
def bNil (used : Bool) (sv : IV) : Mem := [.rich [bAddr used, nilS, .imm sv]]
def bOne (sv : IV) (b : ByteArray) : Mem := [.rich [.optr 0 0, .osl 1 0 1 b.size none, .imm sv], .text (rowOfS b)]
def bTwo (sv : IV) (b : ByteArray) : Mem := [.rich [.optr 0 0, .osl 2 0 1 b.size none, .imm sv], .dead, .text (rowOfS b)]
theorem zcd (c : TextCode code ext) (u : Bool) (sv : IV) : callW code ext 674 [.optr 0 0] (bNil u sv) = some (.tup [], bNil true sv) := by
 rw [zbr code ext c.n674 (by decide), c.e674]
 cases u <;> rfl
theorem zce (c : TextCode code ext) (sv : IV) (b : ByteArray) : callW code ext 674 [.optr 0 0] (bOne sv b) = some (.tup [], bOne sv b) := by
 rw [zbr code ext c.n674 (by decide), c.e674]
 rfl
theorem zvo (c : TextCode code ext) (u : Bool) (sv : IV) : callW code ext 673 [.optr 0 0, strV .empty] (bNil u sv) = some (.tup [int64 0, .imm (.val .nilIface)], bNil true sv) := by
 have h := zcd c u sv
 rw [zbs code ext c.c673]
 have e0 : elems (bNil true sv) 1 (strV .empty) = some (0, []) := rfl
 cases u <;> (simp only [bNil, bAddr] at h e0 ⊢; simp -implicitDefEqProofs [x673, h, exAppendS, elems, e0])
theorem zvn (c : TextCode code ext) (u : Bool) (sv : IV) (x : ByteArray) (h0 : 0 < x.size) (hx : x.size ≤ 140737488355328) : callW code ext 673 [.optr 0 0, strV x] (bNil u sv) = some (.tup [int64 x.size, .imm (.val .nilIface)], bOne sv x) := by
 have h := zcd c u sv
 rw [zbs code ext c.c673]
 have h1 : ¬ x.size = 0 := by omega
 have e0 : ∀ m, elems m 1 (strV x) = some (x.size, rowOfS x) := fun m => rfl
 cases u <;> (simp only [bNil, bAddr, bOne] at h ⊢; simp -implicitDefEqProofs [x673, h, exAppendS, e0, h1, hx])
theorem zvp (c : TextCode code ext) (sv : IV) (b x : ByteArray) (h0 : 0 < b.size) (hx : b.size + x.size ≤ 140737488355328) : callW code ext 673 [.optr 0 0, strV x] (bOne sv b) = some (.tup [int64 x.size, .imm (.val .nilIface)], bTwo sv (b ++ x)) := by
 have h := zce c sv b
 rw [zbs code ext c.c673]
 have e0 : ∀ m, elems m 1 (strV x) = some (x.size, rowOfS x) := fun m => rfl
 have e1 := zql b
 simp only [bTwo, bOne, zsg, zqk] at h ⊢
 simp -implicitDefEqProofs [x673, h, exAppendS, e0, e1, h0, hx]
theorem zi8 (c : TextCode code ext) (u : Bool) (sv : IV) : callW code ext 669 [.optr 0 0] (bNil u sv) = some (int64 0, bNil u sv) := by
 rw [zbs code ext c.c669]
 cases u <;> (simp only [bNil, bAddr]; simp -implicitDefEqProofs [x669])
theorem zi9 (c : TextCode code ext) (sv : IV) (b : ByteArray) : callW code ext 669 [.optr 0 0] (bOne sv b) = some (int64 b.size, bOne sv b) := by
 rw [zbs code ext c.c669]
 simp only [bOne]
 simp -implicitDefEqProofs [x669]
theorem zjp (c : TextCode code ext) (u : Bool) (sv : IV) : callW code ext 244 [.optr 0 0] (bNil u sv) = some (avb false, bNil u sv) := by
 have h := zi8 c u sv
 rw [zbs code ext c.c244]
 cases u <;> (simp only [bNil, bAddr] at h ⊢; simp -implicitDefEqProofs [x244, h])
theorem zjq (c : TextCode code ext) (sv : IV) (b : ByteArray) : callW code ext 244 [.optr 0 0] (bOne sv b) = some (avb (decide (4096 < b.size)), bOne sv b) := by
 have h := zi9 c sv b
 rw [zbs code ext c.c244]
 simp only [bOne] at h ⊢
 simp -implicitDefEqProofs [x244, h]
 omega
end
end Go.EX


namespace Go.EX
abbrev nilT : ByteArray := ⟨#[110, 105, 108]⟩
abbrev yesT : ByteArray := ⟨#[121, 101, 115]⟩
abbrev noT : ByteArray := ⟨#[110, 111]⟩
abbrev askT : ByteArray := ⟨#[63]⟩
abbrev fnT : ByteArray := ⟨#[102, 110, 32]⟩
abbrev dotsT : ByteArray := ⟨#[46, 46]⟩
abbrev openL : ByteArray := ⟨#[91]⟩
abbrev endL : ByteArray := ⟨#[93]⟩
abbrev openM : ByteArray := ⟨#[123]⟩
abbrev endM : ByteArray := ⟨#[125]⟩
abbrev keyT : ByteArray := ⟨#[58, 32]⟩
abbrev nextT : ByteArray := ⟨#[44, 32]⟩
abbrev lackT : ByteArray := ⟨#[58, 32, 110, 105, 108]⟩
def dig (n : Int) : ByteArray := ⟨(Go.Lib.itoa n).toArray⟩
def objOf (S : List Obj) (v : Val) : Option Obj := (leadsOf S v).bind fun k => S[k]?
def pieceOf (S : List Obj) (deep : Bool) (v : Val) : Option ByteArray :=
 if v.k = 0 then some nilT
 else if v.k = 1 then some (if v.n = 1 then yesT else noT)
 else if v.k = 2 then some (dig v.n)
 else match objOf S v with
  | none => some askT
  | some o => if v.k = 7 then some askT else if v.k = 3 then some o.s else if v.k = 6 then some (fnT ++ dig o.fn) else if deep then some dotsT else none
def itemsV (f : Val → ByteArray → ByteArray) (m : Bool) : List Val → Nat → ByteArray → ByteArray × Bool
 | [], _, c => (c, false)
 | v :: r, i, c => if 4096 < c.size then (c, true) else itemsV f m r (i + 1) (f v (if m = true ∧ i % 2 = 1 then c ++ keyT else if 0 < i then c ++ nextT else c))
def rowV (f : Val → ByteArray → ByteArray) (o : Obj) (c : ByteArray) : ByteArray :=
 let m := decide (o.k = 5)
 let p := itemsV f m o.l.xs 0 (c ++ if m then openM else openL)
 if p.2 then p.1 else (if m = true ∧ o.l.xs.length % 2 = 1 then p.1 ++ lackT else p.1) ++ if m then endM else endL
def tellV (S : List Obj) : Nat → Val → ByteArray → ByteArray
 | d, v, c => match pieceOf S (d == 0) v with
  | some x => c ++ x
  | none => match d, objOf S v with
   | d + 1, some o => rowV (tellV S d) o c
   | _, _ => c
section
variable {code : Nat → Option XFun} {ext : Calls'}
theorem ziw (h : code 651 = some x651) {sv : IV} {S : List Obj} (hr : Reads tObj sv S) (v : Val) (hv : (tInt .i64).wf v.n) :
  (leadsOf S v = none ∧ callW code ext 651 [.imm sv, .agg [.imm (.val (.int .u8 v.k)), int64 v.n]] [] = some (.imm (.val (.pointer none)), [])) ∨
  ∃ k o row off, leadsOf S v = some k ∧ S[k]? = some o ∧ cut row off 5 = some [.val (.int .u8 o.k), .val (.string o.s), o.l.iv, .val (.int .i64 o.room), .val (.int .i64 o.fn)] ∧
   callW code ext 651 [.imm sv, .agg [.imm (.val (.int .u8 v.k)), int64 v.n]] [] = some (.imm (.ptr row off), []) := by
 rw [zbs code ext h]
 have hlen := zo6 hr
 have hb := hr.2.1
 unfold leadsOf
 by_cases c1 : v.k < 3
 ·left; exact ⟨by simp [c1], by simp -implicitDefEqProofs [x651, c1]⟩
 by_cases c2 : 7 < v.k
 ·left; exact ⟨by simp [c1, c2], by simp -implicitDefEqProofs [x651, c1, c2]⟩
 by_cases c3 : v.n < 1
 ·left; exact ⟨by simp [c1, c2, c3], by simp -implicitDefEqProofs [x651, c1, c2, c3]⟩
 by_cases c4 : (S.length : Int) < v.n
 ·left; exact ⟨by simp [c1, c2, c3, c4], by simp -implicitDefEqProofs [x651, c1, c2, c3, c4, hlen]⟩
 obtain ⟨vk, vn⟩ := v
 simp only at c1 c2 c3 c4 hv ⊢
 obtain ⟨p, rfl⟩ : ∃ p : Nat, vn = (p : Int) + 1 := ⟨(vn - 1).toNat, by omega⟩
 have hlt : p < S.length := by omega
 obtain ⟨row, off, cap, rfl, hc, hcut, hget⟩ := zo7 hr (List.getElem?_eq_getElem hlt)
 have ep : ((p : Int) + 1 - 1).toNat = p := by omega
 rw [if_neg c1, if_neg c2, if_neg c3, if_neg c4, ep, List.getElem?_eq_getElem hlt]
 have hse : S[p]? = some S[p] := List.getElem?_eq_getElem hlt
 generalize S[p] = o at hget hse
 simp only [tObj] at hget
 have g0 : row[off + p * 5]? = some (.val (.int .u8 o.k)) := zdd hget 0 (by omega)
 have e1 : IntKind.wrap .i64 (p : Int) = p := wrapI64 (by omega) (by omega)
 by_cases c5 : o.k = vk
 ·right
  refine ⟨p, o, row, off + p * 5, by simp [c5], hse, hget, ?_⟩
  simp -implicitDefEqProofs [x651, c1, c2, c3, c4, hlen, e1, g0, c5, hlt]
 ·left
  exact ⟨by simp [c5], by simp -implicitDefEqProofs [x651, c1, c2, c3, c4, hlen, e1, g0, c5, hlt]⟩
end
end Go.EX


set_option maxHeartbeats 4000000
namespace Go.EX
section
variable {code : Nat → Option XFun} {ext : Calls'}
theorem zf9 (c : TextCode code ext) (n : Int) (hn : (tInt .i64).wf n) : callW code ext 785 [int64 n, int64 10] [] = some (strV (dig n), []) := by
 obtain ⟨h0, h1⟩ := wfI64.1 hn
 have h : callW code ext 708 [int64 n, int64 10] [] = some (strV (dig n), []) := by
  rw [zbr code ext c.n708 (by decide), c.e708]
  simp [extItoa, h0, h1, dig]
 rw [zbs code ext c.c785]
 simp -implicitDefEqProofs [x785, h]
theorem zh5 (c : TextCode code ext) (n : Int) (hn : (tInt .i64).wf n) : callW code ext 786 [int64 n] [] = some (strV (dig n), []) := by
 obtain ⟨h0, h1⟩ := wfI64.1 hn
 have h : callW code ext 708 [int64 n, int64 10] [] = some (strV (dig n), []) := by
  rw [zbr code ext c.n708 (by decide), c.e708]
  simp [extItoa, h0, h1, dig]
 have h2 : callW code ext 709 [int64 n] [] = some (strV (dig n), []) := by
  rw [zbs code ext c.c709]
  simp -implicitDefEqProofs [x709, h]
 rw [zbs code ext c.c786]
 simp -implicitDefEqProofs [x786, h2]
theorem zuq (c : TextCode code ext) (h : code 651 = some x651) (h246 : code 246 = some x246) {sv : IV} {S : List Obj} (hr : Reads tObj sv S) (v : Val) (hv : tVal.wf v) (inn : Int) (b : ByteArray) (x : ByteArray)
  (hp : pieceOf S (decide (8 < inn)) v = some x) {nw : Int} (hw : callW code ext 673 [.optr 0 0, strV x] (bOne sv b) = some (.tup [int64 nw, .imm (.val .nilIface)], bTwo sv (b ++ x))) (hfn : ∀ o ∈ S, (tInt .i64).wf o.fn) (hsz : x.size ≤ 9223372036854775807) :
  callW code ext 246 [.optr 0 0, .agg [.imm (.val (.int .u8 v.k)), int64 v.n], int64 inn] (bOne sv b) = some (.tup [], bTwo sv (b ++ x)) := by
 have hld := ziw (ext := ext) h hr v hv.2
 have hfm := zf9 c v.n hv.2
 rw [zbs code ext h246]
 simp only [bOne, bTwo] at hw ⊢
 obtain ⟨vk, vn⟩ := v
 simp only at hld hfm hp ⊢
 unfold pieceOf objOf at hp
 by_cases k0 : vk = 0
 ·subst k0
  simp at hp; subst hp
  rcases hld with ⟨_, hl⟩ | ⟨k, o, row, off, _, _, _, hl⟩ <;> simp -implicitDefEqProofs [x246, hl, hw]
 by_cases k1 : vk = 1
 ·subst k1
  by_cases hn : vn = 1
  ·subst hn
   simp at hp; subst hp
   rcases hld with ⟨_, hl⟩ | ⟨k, o, row, off, _, _, _, hl⟩ <;> simp -implicitDefEqProofs [x246, hl, hw]
  ·simp [hn] at hp; subst hp
   rcases hld with ⟨_, hl⟩ | ⟨k, o, row, off, _, _, _, hl⟩ <;> simp -implicitDefEqProofs [x246, hl, hw, hn]
 by_cases k2 : vk = 2
 ·subst k2
  simp at hp; subst hp
  rcases hld with ⟨_, hl⟩ | ⟨k, o, row, off, _, _, _, hl⟩ <;> simp -implicitDefEqProofs [x246, hl, hw, hfm]
 rcases hld with ⟨hn, hl⟩ | ⟨k, o, row, off, hle, hso, hget, hl⟩
 ·simp [k0, k1, k2, hn] at hp; subst hp
  simp -implicitDefEqProofs [x246, hl, hw, k0, k1, k2]
 have hof := hfn o (List.mem_of_getElem? hso)
 have hit := zh5 c o.fn hof
 have g0 : row[off]? = some (.val (.int .u8 o.k)) := by simpa using zdd hget 0 (by omega)
 have g1 : row[off + 1]? = some (.val (.string o.s)) := zdd hget 1 (by omega)
 have g4 : row[off + 4]? = some (.val (.int .i64 o.fn)) := zdd hget 4 (by omega)
 simp only [hle, Option.bind_some, hso, k0, k1, k2, if_false] at hp
 by_cases k7 : vk = 7
 ·subst k7
  simp at hp; subst hp
  simp -implicitDefEqProofs [x246, hl, hw]
 by_cases k3 : vk = 3
 ·subst k3
  simp at hp; subst hp
  simp -implicitDefEqProofs [x246, hl, hw, g1]
 by_cases k6 : vk = 6
 ·subst k6
  simp at hp; subst hp
  have hs1 : fnT.size + (dig o.fn).size ≤ 9223372036854775807 := by rw [← zsg]; exact hsz
  simp -implicitDefEqProofs [x246, hl, hw, g4, hit, hs1]
 by_cases hd : (8 : Int) < inn
 ·simp [k7, k3, k6, hd] at hp; subst hp
  simp -implicitDefEqProofs [x246, hl, hw, k0, k1, k2, k7, k3, k6, hd]
 ·simp [k7, k3, k6, hd] at hp
theorem zuo (c : TextCode code ext) (h : code 651 = some x651) (h246 : code 246 = some x246) {sv : IV} {S : List Obj} (hr : Reads tObj sv S) (v : Val) (hv : tVal.wf v) (inn : Int) (u : Bool) (x : ByteArray)
  (hp : pieceOf S (decide (8 < inn)) v = some x) {nw : Int} (hw : callW code ext 673 [.optr 0 0, strV x] (bNil u sv) = some (.tup [int64 nw, .imm (.val .nilIface)], bOne sv x)) (hfn : ∀ o ∈ S, (tInt .i64).wf o.fn) (hsz : x.size ≤ 9223372036854775807) :
  callW code ext 246 [.optr 0 0, .agg [.imm (.val (.int .u8 v.k)), int64 v.n], int64 inn] (bNil u sv) = some (.tup [], bOne sv x) := by
 have hld := ziw (ext := ext) h hr v hv.2
 have hfm := zf9 c v.n hv.2
 rw [zbs code ext h246]
 simp only [bNil, bAddr, bOne] at hw ⊢
 obtain ⟨vk, vn⟩ := v
 simp only at hld hfm hp ⊢
 unfold pieceOf objOf at hp
 cases u <;> simp only [] at hw ⊢
 all_goals
  by_cases k0 : vk = 0
  ·subst k0
   simp at hp; subst hp
   rcases hld with ⟨_, hl⟩ | ⟨k, o, row, off, _, _, _, hl⟩ <;> simp -implicitDefEqProofs [x246, hl, hw]
  by_cases k1 : vk = 1
  ·subst k1
   by_cases hn : vn = 1
   ·subst hn
    simp at hp; subst hp
    rcases hld with ⟨_, hl⟩ | ⟨k, o, row, off, _, _, _, hl⟩ <;> simp -implicitDefEqProofs [x246, hl, hw]
   ·simp [hn] at hp; subst hp
    rcases hld with ⟨_, hl⟩ | ⟨k, o, row, off, _, _, _, hl⟩ <;> simp -implicitDefEqProofs [x246, hl, hw, hn]
  by_cases k2 : vk = 2
  ·subst k2
   simp at hp; subst hp
   rcases hld with ⟨_, hl⟩ | ⟨k, o, row, off, _, _, _, hl⟩ <;> simp -implicitDefEqProofs [x246, hl, hw, hfm]
  rcases hld with ⟨hn, hl⟩ | ⟨k, o, row, off, hle, hso, hget, hl⟩
  ·simp [k0, k1, k2, hn] at hp; subst hp
   simp -implicitDefEqProofs [x246, hl, hw, k0, k1, k2]
  have hof := hfn o (List.mem_of_getElem? hso)
  have hit := zh5 c o.fn hof
  have g0 : row[off]? = some (.val (.int .u8 o.k)) := by simpa using zdd hget 0 (by omega)
  have g1 : row[off + 1]? = some (.val (.string o.s)) := zdd hget 1 (by omega)
  have g4 : row[off + 4]? = some (.val (.int .i64 o.fn)) := zdd hget 4 (by omega)
  simp only [hle, Option.bind_some, hso, k0, k1, k2, if_false] at hp
  by_cases k7 : vk = 7
  ·subst k7
   simp at hp; subst hp
   simp -implicitDefEqProofs [x246, hl, hw]
  by_cases k3 : vk = 3
  ·subst k3
   simp at hp; subst hp
   simp -implicitDefEqProofs [x246, hl, hw, g1]
  by_cases k6 : vk = 6
  ·subst k6
   simp at hp; subst hp
   have hs1 : fnT.size + (dig o.fn).size ≤ 9223372036854775807 := by rw [← zsg]; exact hsz
   simp -implicitDefEqProofs [x246, hl, hw, g4, hit, hs1]
  by_cases hd : (8 : Int) < inn
  ·simp [k7, k3, k6, hd] at hp; subst hp
   simp -implicitDefEqProofs [x246, hl, hw, k0, k1, k2, k7, k3, k6, hd]
  ·simp [k7, k3, k6, hd] at hp
theorem zup (c : TextCode code ext) (h : code 651 = some x651) (h246 : code 246 = some x246) {sv : IV} {S : List Obj} (hr : Reads tObj sv S) (v : Val) (hv : tVal.wf v) (inn : Int) (u : Bool) (x : ByteArray)
  (hp : pieceOf S (decide (8 < inn)) v = some x) {nw : Int} (hw : callW code ext 673 [.optr 0 0, strV x] (bNil u sv) = some (.tup [int64 nw, .imm (.val .nilIface)], bNil true sv)) (hfn : ∀ o ∈ S, (tInt .i64).wf o.fn) (hsz : x.size ≤ 9223372036854775807) :
  callW code ext 246 [.optr 0 0, .agg [.imm (.val (.int .u8 v.k)), int64 v.n], int64 inn] (bNil u sv) = some (.tup [], bNil true sv) := by
 have hld := ziw (ext := ext) h hr v hv.2
 have hfm := zf9 c v.n hv.2
 rw [zbs code ext h246]
 simp only [bNil, bAddr] at hw ⊢
 obtain ⟨vk, vn⟩ := v
 simp only at hld hfm hp ⊢
 unfold pieceOf objOf at hp
 cases u <;> simp only [] at hw ⊢
 all_goals
  by_cases k0 : vk = 0
  ·subst k0
   simp at hp; subst hp
   rcases hld with ⟨_, hl⟩ | ⟨k, o, row, off, _, _, _, hl⟩ <;> simp -implicitDefEqProofs [x246, hl, hw]
  by_cases k1 : vk = 1
  ·subst k1
   by_cases hn : vn = 1
   ·subst hn
    simp at hp; subst hp
    rcases hld with ⟨_, hl⟩ | ⟨k, o, row, off, _, _, _, hl⟩ <;> simp -implicitDefEqProofs [x246, hl, hw]
   ·simp [hn] at hp; subst hp
    rcases hld with ⟨_, hl⟩ | ⟨k, o, row, off, _, _, _, hl⟩ <;> simp -implicitDefEqProofs [x246, hl, hw, hn]
  by_cases k2 : vk = 2
  ·subst k2
   simp at hp; subst hp
   rcases hld with ⟨_, hl⟩ | ⟨k, o, row, off, _, _, _, hl⟩ <;> simp -implicitDefEqProofs [x246, hl, hw, hfm]
  rcases hld with ⟨hn, hl⟩ | ⟨k, o, row, off, hle, hso, hget, hl⟩
  ·simp [k0, k1, k2, hn] at hp; subst hp
   simp -implicitDefEqProofs [x246, hl, hw, k0, k1, k2]
  have hof := hfn o (List.mem_of_getElem? hso)
  have hit := zh5 c o.fn hof
  have g0 : row[off]? = some (.val (.int .u8 o.k)) := by simpa using zdd hget 0 (by omega)
  have g1 : row[off + 1]? = some (.val (.string o.s)) := zdd hget 1 (by omega)
  have g4 : row[off + 4]? = some (.val (.int .i64 o.fn)) := zdd hget 4 (by omega)
  simp only [hle, Option.bind_some, hso, k0, k1, k2, if_false] at hp
  by_cases k7 : vk = 7
  ·subst k7
   simp at hp; subst hp
   simp -implicitDefEqProofs [x246, hl, hw]
  by_cases k3 : vk = 3
  ·subst k3
   simp at hp; subst hp
   simp -implicitDefEqProofs [x246, hl, hw, g1]
  by_cases k6 : vk = 6
  ·subst k6
   simp at hp; subst hp
   have hs1 : fnT.size + (dig o.fn).size ≤ 9223372036854775807 := by rw [← zsg]; exact hsz
   simp -implicitDefEqProofs [x246, hl, hw, g4, hit, hs1]
  by_cases hd : (8 : Int) < inn
  ·simp [k7, k3, k6, hd] at hp; subst hp
   simp -implicitDefEqProofs [x246, hl, hw, k0, k1, k2, k7, k3, k6, hd]
  ·simp [k7, k3, k6, hd] at hp
end
end Go.EX


set_option maxHeartbeats 4000000
namespace Go.EX
section
variable {code : Nat → Option XFun} {ext : Calls'}
theorem q_add (k : IntKind) (a b : Int) : intBin .add k a b = some (.int k (k.wrap (a + b))) := rfl
theorem q_eql (k : IntKind) (a b : Int) : intBin .eql k a b = some (.bool (a == b)) := rfl
theorem q_lss (k : IntKind) (a b : Int) : intBin .lss k a b = some (.bool (a < b)) := rfl
theorem q_gtr (k : IntKind) (a b : Int) : intBin .gtr k a b = some (.bool (a > b)) := rfl
theorem tmod2 (i : Nat) : intBin .rem .i64 (i : Int) 2 = some (.int .i64 ((i % 2 : Nat) : Int)) := by
 simp only [intBin]
 rw [if_neg (by decide), Int.tmod_eq_emod_of_nonneg (by omega)]
 simp
structure ItemOK (code : Nat → Option XFun) (ext : Calls') (sv : IV) (inn : Int) (f : Val → ByteArray → ByteArray) (xs : List Val) (B : Nat) : Prop where
 call : ∀ v ∈ xs, ∀ c : ByteArray, 0 < c.size → c.size ≤ 5000 → callW code ext 246 [.optr 0 0, .agg [.imm (.val (.int .u8 v.k)), int64 v.n], int64 inn] (bOne sv c) = some (.tup [], bTwo sv (f v c))
 pos : ∀ v ∈ xs, ∀ c : ByteArray, 0 < c.size → 0 < (f v c).size
 size : ∀ v ∈ xs, ∀ c : ByteArray, c.size ≤ 5000 → (f v c).size ≤ B
theorem zie (c : ByteArray) : (c ++ keyT).size = c.size + 2 := zsg c keyT
theorem zlb (c : ByteArray) : (c ++ nextT).size = c.size + 2 := zsg c nextT
theorem zh3 (c : TextCode code ext) {sv : IV} {inn : Int} (hinn : 0 ≤ inn ∧ inn ≤ 100) {f : Val → ByteArray → ByteArray} {o : Obj} {B : Nat} (hB : B ≤ 100000000) (hI : ItemOK code ext sv (inn + 1) f o.l.xs B) (hl : o.l.xs.length ≤ 1000000) {row : List IV} {off : Nat} (g0 : row[off]? = some (.val (.int .u8 o.k))) (en : ByteArray) (c0 : ByteArray) (h0 : 0 < c0.size) (hB0 : c0.size ≤ B) :
  ∃ e s', den code ext (.loop [0, 1, 2, 7, 23, 24, 25] x245L1) ⟨2, [(0, .optr 0 0), (1, .imm (.ptr row off)), (2, int64 inn), (7, strV en), (23, .imm o.l.iv), (24, int64 o.l.xs.length), (25, int64 0)], bTwo sv c0⟩ = some (e, s') ∧ e ≠ .normal ∧
   ((e = .ret ∧ leave s' x245 = some (.tup [], bTwo sv (itemsV f (decide (o.k = 5)) o.l.xs 0 c0).1) ∧ (itemsV f (decide (o.k = 5)) o.l.xs 0 c0).2 = true) ∨
    (e = .exit 0 ∧ s' = ⟨2, [(0, .optr 0 0), (1, .imm (.ptr row off)), (2, int64 inn), (7, strV en), (23, .imm o.l.iv), (24, int64 o.l.xs.length), (25, int64 o.l.xs.length), (26, avb false)], bTwo sv (itemsV f (decide (o.k = 5)) o.l.xs 0 c0).1⟩ ∧ (itemsV f (decide (o.k = 5)) o.l.xs 0 c0).2 = false ∧ 0 < (itemsV f (decide (o.k = 5)) o.l.xs 0 c0).1.size ∧ (itemsV f (decide (o.k = 5)) o.l.xs 0 c0).1.size ≤ B)) := by
 have hr := o.l.ok
 have hlen := zo6 hr
 refine zjt (fun n s => ∃ (i : Nat) (b : ByteArray), i + n = o.l.xs.length ∧ 0 < b.size ∧ b.size ≤ B ∧ itemsV f (decide (o.k = 5)) o.l.xs 0 c0 = itemsV f (decide (o.k = 5)) (o.l.xs.drop i) i b ∧
  s.tidy [0, 1, 2, 7, 23, 24, 25] = ⟨2, [(0, .optr 0 0), (1, .imm (.ptr row off)), (2, int64 inn), (7, strV en), (23, .imm o.l.iv), (24, int64 o.l.xs.length), (25, int64 (i : Nat))], bTwo sv b⟩) _ ?_ o.l.xs.length _ ⟨0, c0, by omega, h0, hB0, by simp, by simp only [bTwo]; simp -implicitDefEqProofs⟩
 rintro n s ⟨i, b, hi, hb, hbB, hg, hst⟩
 rw [hst, hg]
 by_cases hlt : i < o.l.xs.length
 ·have hx : o.l.xs[i]? = some o.l.xs[i] := List.getElem?_eq_getElem hlt
  have hmem : o.l.xs[i] ∈ o.l.xs := List.getElem_mem hlt
  obtain ⟨r2, o2, cap, hiv, hc, hcut, hget⟩ := zo7 hr hx
  rw [List.drop_eq_getElem_cons hlt, itemsV] at *
  generalize o.l.xs[i] = v at hget hmem hg
  simp only [tVal] at hget
  have e1 : IntKind.wrap .i64 ((i : Int) + 1) = (i : Int) + 1 := wrapI64 (by omega) (by omega)
  have e2 : IntKind.wrap .i64 (inn + 1) = inn + 1 := wrapI64 (by omega) (by omega)
  have hlg := zjq c sv b
  rw [hiv]
  generalize o.l.iv = liv at *
  by_cases h4 : 4096 < b.size
  ·rw [if_pos h4]
   simp only [bOne, bTwo, h4, decide_true] at hlg ⊢
   refine ⟨.ret, _, by simp -implicitDefEqProofs [x245L1, hlt, hget, hlg]; rfl, .inr ⟨by simp, .inl ⟨rfl, by simp -implicitDefEqProofs [x245], by simp⟩⟩⟩
  ·rw [if_neg h4]
   have hm2 := tmod2 i
   have hlf : decide (4096 < b.size) = false := by simpa using h4
   rw [hlf] at hlg
   have step : ∀ x : ByteArray, x.size ≤ 2 → (hv : callW code ext 246 [.optr 0 0, .agg [.imm (.val (.int .u8 v.k)), int64 v.n], int64 (inn + 1)] (bOne sv (b ++ x)) = some (.tup [], bTwo sv (f v (b ++ x)))) → True := fun _ _ _ => trivial
   by_cases hk : o.k = 5 ∧ i % 2 = 1
   ·have hw := zvp c sv b keyT hb (by have : keyT.size = 2 := rfl; omega)
    have hv := hI.call v hmem (b ++ keyT) (by rw [zie]; omega) (by rw [zie]; omega)
    have hp := hI.pos v hmem (b ++ keyT) (by rw [zie]; omega)
    have hs := hI.size v hmem (b ++ keyT) (by rw [zie]; omega)
    obtain ⟨hk5, hodd⟩ := hk
    rw [hk5] at g0
    rw [hodd] at hm2
    simp only [hk5, decide_true, hodd, and_self, if_true] at *
    generalize f v (b ++ keyT) = b2 at *
    simp only [bOne, bTwo, ByteArray.size_append] at hlg hw hv ⊢
    refine ⟨.normal, _, by simp -implicitDefEqProofs [-intBin, q_lss, q_add, q_eql, x245L1, hlt, hget, hlg, g0, hm2, hw, hv, e1, e2]; rfl, .inl ⟨rfl, n - 1, by omega, i + 1, b2, by omega, hp, hs, rfl, by simp -implicitDefEqProofs⟩⟩
   ·by_cases h00 : 0 < i
    ·have hw := zvp c sv b nextT hb (by have : nextT.size = 2 := rfl; omega)
     have hv := hI.call v hmem (b ++ nextT) (by rw [zlb]; omega) (by rw [zlb]; omega)
     have hp := hI.pos v hmem (b ++ nextT) (by rw [zlb]; omega)
     have hs := hI.size v hmem (b ++ nextT) (by rw [zlb]; omega)
     have h00' : (0 : Int) < i := by omega
     by_cases hk5 : o.k = 5
     ·have heven : i % 2 = 0 := by have : ¬ i % 2 = 1 := fun h => hk ⟨hk5, h⟩; omega
      rw [hk5] at g0
      rw [heven] at hm2
      simp only [hk5, decide_true, heven, h00, if_true] at *
      simp only [show ¬ (0 = 1) by decide, and_false, if_false] at *
      have h01 : 0 < i := by omega
      generalize f v (b ++ nextT) = b2 at *
      simp only [bOne, bTwo, ByteArray.size_append] at hlg hw hv ⊢
      refine ⟨.normal, _, by simp -implicitDefEqProofs [-intBin, q_lss, q_gtr, q_add, q_eql, x245L1, hlt, hget, hlg, g0, hm2, hw, hv, e1, e2, h01, h00']; rfl, .inl ⟨rfl, n - 1, by omega, i + 1, b2, by omega, hp, hs, rfl, by simp -implicitDefEqProofs⟩⟩
     ·have hkd : decide (o.k = 5) = false := by simpa using hk5
      rw [hkd] at *
      simp only [h00, if_true, Bool.false_eq_true, false_and, if_false] at *
      have h01 : 0 < i := by omega
      generalize f v (b ++ nextT) = b2 at *
      simp only [bOne, bTwo, ByteArray.size_append] at hlg hw hv ⊢
      refine ⟨.normal, _, by simp -implicitDefEqProofs [-intBin, q_lss, q_gtr, q_add, q_eql, x245L1, hlt, hget, hlg, g0, hk5, hw, hv, e1, e2, h01, h00']; rfl, .inl ⟨rfl, n - 1, by omega, i + 1, b2, by omega, hp, hs, rfl, by simp -implicitDefEqProofs⟩⟩
    ·have h00' : ¬ (0 : Int) < i := by omega
     have hi0 : i = 0 := by omega
     subst hi0
     have hv := hI.call v hmem b (by omega) (by omega)
     have hp := hI.pos v hmem b (by omega)
     have hs := hI.size v hmem b (by omega)
     have hno : ¬ (decide (o.k = 5) = true ∧ 0 % 2 = 1) := by simp
     rw [if_neg hno, if_neg h00]
     simp only [Nat.zero_mul, Nat.add_zero] at hget
     have hm0 : intBin .rem .i64 0 2 = some (.int .i64 0) := rfl
     have e10 : IntKind.wrap .i64 1 = 1 := rfl
     generalize f v b = b2 at *
     simp only [bOne, bTwo] at hlg hv ⊢
     by_cases hk5 : o.k = 5
     ·rw [hk5] at g0
      refine ⟨.normal, _, by simp -implicitDefEqProofs [-intBin, q_lss, q_gtr, q_add, q_eql, x245L1, hlt, hget, hlg, g0, hm0, hv, e10, e2]; rfl, .inl ⟨rfl, n - 1, by omega, 1, b2, by omega, hp, hs, rfl, by simp -implicitDefEqProofs⟩⟩
     ·refine ⟨.normal, _, by simp -implicitDefEqProofs [-intBin, q_lss, q_gtr, q_add, q_eql, x245L1, hlt, hget, hlg, g0, hk5, hv, e10, e2]; rfl, .inl ⟨rfl, n - 1, by omega, 1, b2, by omega, hp, hs, rfl, by simp -implicitDefEqProofs⟩⟩
 ·have hie : i = o.l.xs.length := by omega
  subst hie
  rw [List.drop_eq_nil_of_le (Nat.le_refl _), itemsV]
  simp only [bTwo]
  refine ⟨.exit 0, _, by simp -implicitDefEqProofs [x245L1], .inr ⟨by simp, .inr ⟨rfl, rfl, by simp, hb, hbB⟩⟩⟩
theorem zh0 (c : TextCode code ext) {sv : IV} {inn : Int} (hinn : 0 ≤ inn ∧ inn ≤ 100) {f : Val → ByteArray → ByteArray} {o : Obj} {B : Nat} (hB : B ≤ 100000000) (hI : ItemOK code ext sv (inn + 1) f o.l.xs B) (hl : o.l.xs.length ≤ 1000000) {row : List IV} {off : Nat} (g0 : row[off]? = some (.val (.int .u8 o.k))) (en : ByteArray) (c0 : ByteArray) (h0 : 0 < c0.size) (hB0 : c0.size ≤ B) :
  ∃ e s', den code ext (.loop [0, 1, 2, 7, 23, 24, 25] x245L1) ⟨1, [(0, .optr 0 0), (1, .imm (.ptr row off)), (2, int64 inn), (7, strV en), (23, .imm o.l.iv), (24, int64 o.l.xs.length), (25, int64 0)], bOne sv c0⟩ = some (e, s') ∧ e ≠ .normal ∧
   ((e = .ret ∧ leave s' x245 = some (.tup [], bOne sv (itemsV f (decide (o.k = 5)) o.l.xs 0 c0).1) ∧ (itemsV f (decide (o.k = 5)) o.l.xs 0 c0).2 = true) ∨
    (e = .exit 0 ∧ s' = ⟨1, [(0, .optr 0 0), (1, .imm (.ptr row off)), (2, int64 inn), (7, strV en), (23, .imm o.l.iv), (24, int64 o.l.xs.length), (25, int64 o.l.xs.length), (26, avb false)], bOne sv (itemsV f (decide (o.k = 5)) o.l.xs 0 c0).1⟩ ∧ (itemsV f (decide (o.k = 5)) o.l.xs 0 c0).2 = false ∧ 0 < (itemsV f (decide (o.k = 5)) o.l.xs 0 c0).1.size ∧ (itemsV f (decide (o.k = 5)) o.l.xs 0 c0).1.size ≤ B)) := by
 have hr := o.l.ok
 have hlen := zo6 hr
 refine zjt (fun n s => ∃ (i : Nat) (b : ByteArray), i + n = o.l.xs.length ∧ 0 < b.size ∧ b.size ≤ B ∧ itemsV f (decide (o.k = 5)) o.l.xs 0 c0 = itemsV f (decide (o.k = 5)) (o.l.xs.drop i) i b ∧
  s.tidy [0, 1, 2, 7, 23, 24, 25] = ⟨1, [(0, .optr 0 0), (1, .imm (.ptr row off)), (2, int64 inn), (7, strV en), (23, .imm o.l.iv), (24, int64 o.l.xs.length), (25, int64 (i : Nat))], bOne sv b⟩) _ ?_ o.l.xs.length _ ⟨0, c0, by omega, h0, hB0, by simp, by simp only [bOne]; simp -implicitDefEqProofs⟩
 rintro n s ⟨i, b, hi, hb, hbB, hg, hst⟩
 rw [hst, hg]
 by_cases hlt : i < o.l.xs.length
 ·have hx : o.l.xs[i]? = some o.l.xs[i] := List.getElem?_eq_getElem hlt
  have hmem : o.l.xs[i] ∈ o.l.xs := List.getElem_mem hlt
  obtain ⟨r2, o2, cap, hiv, hc, hcut, hget⟩ := zo7 hr hx
  rw [List.drop_eq_getElem_cons hlt, itemsV] at *
  generalize o.l.xs[i] = v at hget hmem hg
  simp only [tVal] at hget
  have e1 : IntKind.wrap .i64 ((i : Int) + 1) = (i : Int) + 1 := wrapI64 (by omega) (by omega)
  have e2 : IntKind.wrap .i64 (inn + 1) = inn + 1 := wrapI64 (by omega) (by omega)
  have hlg := zjq c sv b
  rw [hiv]
  generalize o.l.iv = liv at *
  by_cases h4 : 4096 < b.size
  ·rw [if_pos h4]
   simp only [bOne, bTwo, h4, decide_true] at hlg ⊢
   refine ⟨.ret, _, by simp -implicitDefEqProofs [x245L1, hlt, hget, hlg]; rfl, .inr ⟨by simp, .inl ⟨rfl, by simp -implicitDefEqProofs [x245], by simp⟩⟩⟩
  ·rw [if_neg h4]
   have hm2 := tmod2 i
   have hlf : decide (4096 < b.size) = false := by simpa using h4
   rw [hlf] at hlg
   have step : ∀ x : ByteArray, x.size ≤ 2 → (hv : callW code ext 246 [.optr 0 0, .agg [.imm (.val (.int .u8 v.k)), int64 v.n], int64 (inn + 1)] (bOne sv (b ++ x)) = some (.tup [], bTwo sv (f v (b ++ x)))) → True := fun _ _ _ => trivial
   by_cases hk : o.k = 5 ∧ i % 2 = 1
   ·have hw := zvp c sv b keyT hb (by have : keyT.size = 2 := rfl; omega)
    have hv := hI.call v hmem (b ++ keyT) (by rw [zie]; omega) (by rw [zie]; omega)
    have hp := hI.pos v hmem (b ++ keyT) (by rw [zie]; omega)
    have hs := hI.size v hmem (b ++ keyT) (by rw [zie]; omega)
    obtain ⟨hk5, hodd⟩ := hk
    rw [hk5] at g0
    rw [hodd] at hm2
    simp only [hk5, decide_true, hodd, and_self, if_true] at *
    generalize f v (b ++ keyT) = b2 at *
    simp only [bOne, bTwo, ByteArray.size_append] at hlg hw hv ⊢
    refine ⟨.normal, _, by simp -implicitDefEqProofs [-intBin, q_lss, q_add, q_eql, x245L1, hlt, hget, hlg, g0, hm2, hw, hv, e1, e2]; rfl, .inl ⟨rfl, n - 1, by omega, i + 1, b2, by omega, hp, hs, rfl, by simp -implicitDefEqProofs⟩⟩
   ·by_cases h00 : 0 < i
    ·have hw := zvp c sv b nextT hb (by have : nextT.size = 2 := rfl; omega)
     have hv := hI.call v hmem (b ++ nextT) (by rw [zlb]; omega) (by rw [zlb]; omega)
     have hp := hI.pos v hmem (b ++ nextT) (by rw [zlb]; omega)
     have hs := hI.size v hmem (b ++ nextT) (by rw [zlb]; omega)
     have h00' : (0 : Int) < i := by omega
     by_cases hk5 : o.k = 5
     ·have heven : i % 2 = 0 := by have : ¬ i % 2 = 1 := fun h => hk ⟨hk5, h⟩; omega
      rw [hk5] at g0
      rw [heven] at hm2
      simp only [hk5, decide_true, heven, h00, if_true] at *
      simp only [show ¬ (0 = 1) by decide, and_false, if_false] at *
      have h01 : 0 < i := by omega
      generalize f v (b ++ nextT) = b2 at *
      simp only [bOne, bTwo, ByteArray.size_append] at hlg hw hv ⊢
      refine ⟨.normal, _, by simp -implicitDefEqProofs [-intBin, q_lss, q_gtr, q_add, q_eql, x245L1, hlt, hget, hlg, g0, hm2, hw, hv, e1, e2, h01, h00']; rfl, .inl ⟨rfl, n - 1, by omega, i + 1, b2, by omega, hp, hs, rfl, by simp -implicitDefEqProofs⟩⟩
     ·have hkd : decide (o.k = 5) = false := by simpa using hk5
      rw [hkd] at *
      simp only [h00, if_true, Bool.false_eq_true, false_and, if_false] at *
      have h01 : 0 < i := by omega
      generalize f v (b ++ nextT) = b2 at *
      simp only [bOne, bTwo, ByteArray.size_append] at hlg hw hv ⊢
      refine ⟨.normal, _, by simp -implicitDefEqProofs [-intBin, q_lss, q_gtr, q_add, q_eql, x245L1, hlt, hget, hlg, g0, hk5, hw, hv, e1, e2, h01, h00']; rfl, .inl ⟨rfl, n - 1, by omega, i + 1, b2, by omega, hp, hs, rfl, by simp -implicitDefEqProofs⟩⟩
    ·have h00' : ¬ (0 : Int) < i := by omega
     have hi0 : i = 0 := by omega
     subst hi0
     have hv := hI.call v hmem b (by omega) (by omega)
     have hp := hI.pos v hmem b (by omega)
     have hs := hI.size v hmem b (by omega)
     have hno : ¬ (decide (o.k = 5) = true ∧ 0 % 2 = 1) := by simp
     rw [if_neg hno, if_neg h00]
     simp only [Nat.zero_mul, Nat.add_zero] at hget
     have hm0 : intBin .rem .i64 0 2 = some (.int .i64 0) := rfl
     have e10 : IntKind.wrap .i64 1 = 1 := rfl
     generalize f v b = b2 at *
     simp only [bOne, bTwo] at hlg hv ⊢
     by_cases hk5 : o.k = 5
     ·rw [hk5] at g0
      refine ⟨.normal, _, by simp -implicitDefEqProofs [-intBin, q_lss, q_gtr, q_add, q_eql, x245L1, hlt, hget, hlg, g0, hm0, hv, e10, e2]; rfl, .inl ⟨rfl, n - 1, by omega, 1, b2, by omega, hp, hs, rfl, by simp -implicitDefEqProofs⟩⟩
     ·refine ⟨.normal, _, by simp -implicitDefEqProofs [-intBin, q_lss, q_gtr, q_add, q_eql, x245L1, hlt, hget, hlg, g0, hk5, hv, e10, e2]; rfl, .inl ⟨rfl, n - 1, by omega, 1, b2, by omega, hp, hs, rfl, by simp -implicitDefEqProofs⟩⟩
 ·have hie : i = o.l.xs.length := by omega
  subst hie
  rw [List.drop_eq_nil_of_le (Nat.le_refl _), itemsV]
  simp only [bOne]
  refine ⟨.exit 0, _, by simp -implicitDefEqProofs [x245L1], .inr ⟨by simp, .inr ⟨rfl, rfl, by simp, hb, hbB⟩⟩⟩
end
end Go.EX


set_option maxHeartbeats 4000000
namespace Go.EX
section
variable {code : Nat → Option XFun} {ext : Calls'}
theorem zmm (x : ByteArray) (a : UInt8) : (x ++ (⟨#[a]⟩ : ByteArray)).size = x.size + 1 := zsg x ⟨#[a]⟩
theorem zin (x : ByteArray) : (x ++ lackT).size = x.size + 5 := zsg x lackT
theorem ztf (c : TextCode code ext) (h245 : code 245 = some x245) {sv : IV} {inn : Int} (hinn : 0 ≤ inn ∧ inn ≤ 100) {f : Val → ByteArray → ByteArray} {o : Obj} {B : Nat} (hB1 : 5001 ≤ B) (hB : B ≤ 100000000) (hI : ItemOK code ext sv (inn + 1) f o.l.xs B) (hl : o.l.xs.length ≤ 1000000) {row : List IV} {off : Nat} (hget : cut row off 5 = some [.val (.int .u8 o.k), .val (.string o.s), o.l.iv, .val (.int .i64 o.room), .val (.int .i64 o.fn)]) (b : ByteArray) (hb : 0 < b.size) (hb5 : b.size ≤ 5000) :
  callW code ext 245 [.optr 0 0, .imm (.ptr row off), int64 inn] (bOne sv b) = some (.tup [], bTwo sv (rowV f o b)) := by
 have g0 : row[off]? = some (.val (.int .u8 o.k)) := by simpa using zdd hget 0 (by omega)
 have g2 : row[off + 2]? = some o.l.iv := zdd hget 2 (by omega)
 have hlen := zo6 o.l.ok
 have hm2 := tmod2 o.l.xs.length
 rw [zbs code ext h245]
 unfold rowV
 by_cases hk5 : o.k = 5
 ·have hL := fun c0 h1 h2 => zh3 c hinn hB hI hl g0 endM c0 h1 h2
  have hw := zvp c sv b openM hb (by have : (openM).size = 1 := rfl; omega)
  have ho1 : (b ++ openM).size = (b).size + 1 := zmm _ _
  rw [hk5] at g0
  simp only [hk5, decide_true, if_true] at hL ⊢
  unfold x245
  generalize x245L1 = L at hL ⊢
  obtain ⟨e, s', l1, _, h | h⟩ := hL (b ++ openM) (by omega) (by rw [ho1]; omega)
  ·obtain ⟨rfl, l2, l3⟩ := h
   rw [if_pos l3]
   simp only [bOne, bTwo, ByteArray.size_append] at l1 hw
   simp only [bOne, bTwo, ByteArray.size_append]
   simp -implicitDefEqProofs [-intBin, -leave, q_eql, g0, g2, hlen, hw, l1, hk5]
   exact l2
  ·obtain ⟨rfl, rfl, l3, l4, l5⟩ := h
   rw [if_neg (by rw [l3]; decide)]
   generalize (itemsV f true o.l.xs 0 (b ++ openM)).1 = c1 at *
   by_cases hodd : o.l.xs.length % 2 = 1
   ·have hw1 := zvp c sv c1 lackT l4 (by have : lackT.size = 5 := rfl; omega)
    have hw2 := zvp c sv (c1 ++ lackT) endM (by rw [zin]; omega) (by rw [zin]; have : endM.size = 1 := rfl; omega)
    simp only [hodd, and_self, if_true]
    rw [hodd] at hm2
    simp only [bOne, bTwo, ByteArray.size_append] at l1 hw hw1 hw2 ⊢
    simp -implicitDefEqProofs [-intBin, q_eql, g0, g2, hlen, hw, l1, hm2, hw1, hw2]
   ·have hw2 := zvp c sv c1 endM l4 (by have : endM.size = 1 := rfl; omega)
    have heven : o.l.xs.length % 2 = 0 := by omega
    simp only [hodd, and_false, if_false]
    rw [heven] at hm2
    simp only [bOne, bTwo, ByteArray.size_append] at l1 hw hw2 ⊢
    simp -implicitDefEqProofs [-intBin, q_eql, g0, g2, hlen, hw, l1, hm2, hw2]
 ·have hL := fun c0 h1 h2 => zh3 c hinn hB hI hl g0 endL c0 h1 h2
  have hw := zvp c sv b openL hb (by have : (openL).size = 1 := rfl; omega)
  have ho1 : (b ++ openL).size = (b).size + 1 := zmm _ _
  have hkd : decide (o.k = 5) = false := by simpa using hk5
  simp only [hkd, Bool.false_eq_true, if_false, false_and] at hL ⊢
  unfold x245
  generalize x245L1 = L at hL ⊢
  obtain ⟨e, s', l1, _, h | h⟩ := hL (b ++ openL) (by omega) (by rw [ho1]; omega)
  ·obtain ⟨rfl, l2, l3⟩ := h
   rw [if_pos l3]
   simp only [bOne, bTwo, ByteArray.size_append] at l1 hw
   simp only [bOne, bTwo, ByteArray.size_append]
   simp -implicitDefEqProofs [-intBin, -leave, q_eql, g0, g2, hlen, hw, l1, hk5]
   exact l2
  ·obtain ⟨rfl, rfl, l3, l4, l5⟩ := h
   rw [if_neg (by rw [l3]; decide)]
   generalize (itemsV f false o.l.xs 0 (b ++ openL)).1 = c1 at *
   have hw2 := zvp c sv c1 endL l4 (by have : endL.size = 1 := rfl; omega)
   simp only [bOne, bTwo, ByteArray.size_append] at l1 hw hw2 ⊢
   simp -implicitDefEqProofs [-intBin, q_eql, g0, g2, hlen, hw, l1, hw2, hk5]
theorem zte (c : TextCode code ext) (h245 : code 245 = some x245) {sv : IV} {inn : Int} (hinn : 0 ≤ inn ∧ inn ≤ 100) {f : Val → ByteArray → ByteArray} {o : Obj} {B : Nat} (hB1 : 5001 ≤ B) (hB : B ≤ 100000000) (hI : ItemOK code ext sv (inn + 1) f o.l.xs B) (hl : o.l.xs.length ≤ 1000000) {row : List IV} {off : Nat} (hget : cut row off 5 = some [.val (.int .u8 o.k), .val (.string o.s), o.l.iv, .val (.int .i64 o.room), .val (.int .i64 o.fn)])  :
  callW code ext 245 [.optr 0 0, .imm (.ptr row off), int64 inn] (bNil false sv) = some (.tup [], bOne sv (rowV f o ByteArray.empty)) := by
 have g0 : row[off]? = some (.val (.int .u8 o.k)) := by simpa using zdd hget 0 (by omega)
 have g2 : row[off + 2]? = some o.l.iv := zdd hget 2 (by omega)
 have hlen := zo6 o.l.ok
 have hm2 := tmod2 o.l.xs.length
 rw [zbs code ext h245]
 unfold rowV
 by_cases hk5 : o.k = 5
 ·have hL := fun c0 h1 h2 => zh0 c hinn hB hI hl g0 endM c0 h1 h2
  have hw := zvn c false sv openM (by decide) (by decide)
  have ho1 : (ByteArray.empty ++ openM).size = (ByteArray.empty).size + 1 := zmm _ _
  rw [hk5] at g0
  simp only [hk5, decide_true, if_true] at hL ⊢
  have hE : (ByteArray.empty ++ openM) = openM := by rfl
  rw [hE]
  unfold x245
  generalize x245L1 = L at hL ⊢
  obtain ⟨e, s', l1, _, h | h⟩ := hL (openM) (by decide) (by have : (openM).size = 1 := rfl; omega)
  ·obtain ⟨rfl, l2, l3⟩ := h
   rw [if_pos l3]
   simp only [bNil, bAddr, bOne, bTwo, ByteArray.size_append] at l1 hw
   simp only [bNil, bAddr, bOne, bTwo, ByteArray.size_append]
   simp -implicitDefEqProofs [-intBin, -leave, q_eql, g0, g2, hlen, hw, l1, hk5]
   exact l2
  ·obtain ⟨rfl, rfl, l3, l4, l5⟩ := h
   rw [if_neg (by rw [l3]; decide)]
   generalize (itemsV f true o.l.xs 0 (openM)).1 = c1 at *
   by_cases hodd : o.l.xs.length % 2 = 1
   ·have hw1 := zvp c sv c1 lackT l4 (by have : lackT.size = 5 := rfl; omega)
    have hw2 := zvp c sv (c1 ++ lackT) endM (by rw [zin]; omega) (by rw [zin]; have : endM.size = 1 := rfl; omega)
    simp only [hodd, and_self, if_true]
    rw [hodd] at hm2
    simp only [bNil, bAddr, bOne, bTwo, ByteArray.size_append] at l1 hw hw1 hw2 ⊢
    simp -implicitDefEqProofs [-intBin, q_eql, g0, g2, hlen, hw, l1, hm2, hw1, hw2]
   ·have hw2 := zvp c sv c1 endM l4 (by have : endM.size = 1 := rfl; omega)
    have heven : o.l.xs.length % 2 = 0 := by omega
    simp only [hodd, and_false, if_false]
    rw [heven] at hm2
    simp only [bNil, bAddr, bOne, bTwo, ByteArray.size_append] at l1 hw hw2 ⊢
    simp -implicitDefEqProofs [-intBin, q_eql, g0, g2, hlen, hw, l1, hm2, hw2]
 ·have hL := fun c0 h1 h2 => zh0 c hinn hB hI hl g0 endL c0 h1 h2
  have hw := zvn c false sv openL (by decide) (by decide)
  have ho1 : (ByteArray.empty ++ openL).size = (ByteArray.empty).size + 1 := zmm _ _
  have hkd : decide (o.k = 5) = false := by simpa using hk5
  simp only [hkd, Bool.false_eq_true, if_false, false_and] at hL ⊢
  have hE : (ByteArray.empty ++ openL) = openL := by rfl
  rw [hE]
  unfold x245
  generalize x245L1 = L at hL ⊢
  obtain ⟨e, s', l1, _, h | h⟩ := hL (openL) (by decide) (by have : (openL).size = 1 := rfl; omega)
  ·obtain ⟨rfl, l2, l3⟩ := h
   rw [if_pos l3]
   simp only [bNil, bAddr, bOne, bTwo, ByteArray.size_append] at l1 hw
   simp only [bNil, bAddr, bOne, bTwo, ByteArray.size_append]
   simp -implicitDefEqProofs [-intBin, -leave, q_eql, g0, g2, hlen, hw, l1, hk5]
   exact l2
  ·obtain ⟨rfl, rfl, l3, l4, l5⟩ := h
   rw [if_neg (by rw [l3]; decide)]
   generalize (itemsV f false o.l.xs 0 (openL)).1 = c1 at *
   have hw2 := zvp c sv c1 endL l4 (by have : endL.size = 1 := rfl; omega)
   simp only [bNil, bAddr, bOne, bTwo, ByteArray.size_append] at l1 hw hw2 ⊢
   simp -implicitDefEqProofs [-intBin, q_eql, g0, g2, hlen, hw, l1, hw2, hk5]
end
end Go.EX


namespace Go.EX
theorem zdu {n : Int} (h : (tInt .i64).wf n) : (dig n).size ≤ 21 := by
 obtain ⟨h0, h1⟩ := wfI64.1 h
 have := Go.Lib.itoa_length_le n h0 h1
 show (Go.Lib.itoa n).toArray.size ≤ 21
 simpa using this
theorem zl3 {S : List Obj} {v : Val} {o : Obj} (h : objOf S v = some o) : o ∈ S ∧ o.k = v.k := by
 unfold objOf at h
 rw [Option.bind_eq_some_iff] at h
 obtain ⟨k, hk, ho⟩ := h
 obtain ⟨_, _, _, _, o', ho', hk'⟩ := ziy hk
 rw [ho'] at ho
 cases ho
 exact ⟨List.mem_of_getElem? ho', hk'⟩
theorem znp {S : List Obj} {deep : Bool} {v : Val} {x : ByteArray} (hv : tVal.wf v) (hS : ∀ o ∈ S, tObj.wf o) (hs : ∀ o ∈ S, o.s.size ≤ 1048576) (h : pieceOf S deep v = some x) : x.size ≤ 1048600 := by
 unfold pieceOf at h
 split at h
 ·cases h; decide
 split at h
 ·cases h; split <;> decide
 split at h
 ·cases h; have := zdu hv.2; omega
 split at h
 ·cases h; decide
 rename_i o ho
 obtain ⟨hm, _⟩ := zl3 ho
 split at h
 ·cases h; decide
 split at h
 ·cases h; have := hs o hm; omega
 split at h
 ·cases h
  have := zdu (hS o hm).2.2.2
  rw [zsg]
  have : fnT.size = 3 := rfl
  omega
 split at h
 ·cases h; decide
 ·cases h
theorem zno {S : List Obj} {deep : Bool} {v : Val} (h : pieceOf S deep v = none) : deep = false ∧ v.k ≠ 0 ∧ v.k ≠ 1 ∧ v.k ≠ 2 ∧ v.k ≠ 7 ∧ v.k ≠ 3 ∧ v.k ≠ 6 ∧ ∃ o, objOf S v = some o := by
 unfold pieceOf at h
 by_cases h0 : v.k = 0
 ·simp [h0] at h
 by_cases h1 : v.k = 1
 ·simp [h0, h1] at h
 by_cases h2 : v.k = 2
 ·simp [h0, h1, h2] at h
 rw [if_neg h0, if_neg h1, if_neg h2] at h
 cases ho : objOf S v with
 | none => rw [ho] at h; cases h
 | some o =>
  rw [ho] at h
  dsimp only at h
  by_cases h7 : v.k = 7
  ·rw [if_pos h7] at h; cases h
  by_cases h3 : v.k = 3
  ·rw [if_neg h7, if_pos h3] at h; cases h
  by_cases h6 : v.k = 6
  ·rw [if_neg h7, if_neg h3, if_pos h6] at h; cases h
  rw [if_neg h7, if_neg h3, if_neg h6] at h
  cases deep with
  | true => cases h
  | false => exact ⟨rfl, h0, h1, h2, h7, h3, h6, o, rfl⟩
theorem zh2 {f : Val → ByteArray → ByteArray} {m : Bool} {X : Nat} (hX : 5000 ≤ X) : ∀ (xs : List Val) (i : Nat) (c : ByteArray), (∀ v ∈ xs, ∀ c : ByteArray, c.size ≤ 5000 → (f v c).size ≤ X) → c.size ≤ X → (itemsV f m xs i c).1.size ≤ X
 | [], i, c, _, h => h
 | v :: r, i, c, hf, h => by
  unfold itemsV
  split
  ·exact h
  ·rename_i h4
   refine zh2 hX r (i + 1) _ (fun w hw => hf w (List.mem_cons_of_mem _ hw)) (hf v (List.mem_cons_self ..) _ ?_)
   split
   ·rw [zie]; omega
   ·split
    ·rw [zlb]; omega
    ·omega
theorem zqs {f : Val → ByteArray → ByteArray} {o : Obj} {X : Nat} (hX : 5001 ≤ X) (hf : ∀ v ∈ o.l.xs, ∀ c : ByteArray, c.size ≤ 5000 → (f v c).size ≤ X) (c : ByteArray) (hc : c.size ≤ 5000) : (rowV f o c).size ≤ X + 6 := by
 have hop : (c ++ if decide (o.k = 5) then openM else openL).size = c.size + 1 := by split <;> exact zmm _ _
 have h := zh2 (m := decide (o.k = 5)) (by omega) o.l.xs 0 (c ++ if decide (o.k = 5) then openM else openL) hf (by omega)
 have hen : ∀ x : ByteArray, (x ++ if decide (o.k = 5) then endM else endL).size = x.size + 1 := fun x => by split <;> exact zmm _ _
 unfold rowV
 dsimp only
 generalize decide (o.k = 5) = m at *
 generalize itemsV f m o.l.xs 0 (c ++ if m = true then openM else openL) = q at *
 by_cases h2 : q.2 = true
 ·rw [if_pos h2]; omega
 ·rw [if_neg h2, hen]
  split
  ·rw [zin]; omega
  ·omega
theorem zh1 {f : Val → ByteArray → ByteArray} {m : Bool} : ∀ (xs : List Val) (i : Nat) (c : ByteArray), (∀ v ∈ xs, ∀ c : ByteArray, 0 < c.size → 0 < (f v c).size) → 0 < c.size → 0 < (itemsV f m xs i c).1.size
 | [], i, c, _, h => h
 | v :: r, i, c, hf, h => by
  unfold itemsV
  split
  ·exact h
  ·refine zh1 r (i + 1) _ (fun w hw => hf w (List.mem_cons_of_mem _ hw)) (hf v (List.mem_cons_self ..) _ ?_)
   split
   ·rw [zie]; omega
   ·split
    ·rw [zlb]; omega
    ·omega
theorem zqo {f : Val → ByteArray → ByteArray} {o : Obj} (hf : ∀ v ∈ o.l.xs, ∀ c : ByteArray, 0 < c.size → 0 < (f v c).size) (c : ByteArray) : 0 < (rowV f o c).size := by
 have hop : (c ++ if decide (o.k = 5) then openM else openL).size = c.size + 1 := by split <;> exact zmm _ _
 have h := zh1 (m := decide (o.k = 5)) o.l.xs 0 (c ++ if decide (o.k = 5) then openM else openL) hf (by omega)
 have hen : ∀ x : ByteArray, (x ++ if decide (o.k = 5) then endM else endL).size = x.size + 1 := fun x => by split <;> exact zmm _ _
 unfold rowV
 dsimp only
 generalize decide (o.k = 5) = m at *
 generalize itemsV f m o.l.xs 0 (c ++ if m = true then openM else openL) = q at *
 by_cases h2 : q.2 = true
 ·rw [if_pos h2]; exact h
 ·rw [if_neg h2, hen]; omega
structure StoreOK (S : List Obj) : Prop where
 wf : ∀ o ∈ S, tObj.wf o
 s : ∀ o ∈ S, o.s.size ≤ 1048576
 l : ∀ o ∈ S, o.l.xs.length ≤ 1000000
theorem zh4 {S : List Obj} (h : StoreOK S) {o : Obj} (ho : o ∈ S) : ∀ v ∈ o.l.xs, tVal.wf v := o.l.ok.1
theorem ztj {S : List Obj} {d : Nat} {v : Val} {o : Obj} (hp : pieceOf S (d + 1 == 0) v = none) (ho : objOf S v = some o) (c : ByteArray) : tellV S (d + 1) v c = rowV (tellV S d) o c := by
 unfold tellV
 rw [hp, ho]
theorem ztg {S : List Obj} (h : StoreOK S) : ∀ (d : Nat) (v : Val) (c : ByteArray), tVal.wf v → (c.size ≤ 5000 → (tellV S d v c).size ≤ 1054000 + 10 * d) ∧ (0 < c.size → 0 < (tellV S d v c).size)
 | d, v, c, hv => by
  unfold tellV
  cases hp : pieceOf S (d == 0) v with
  | some x =>
   have := znp hv h.wf h.s hp
   exact ⟨fun hc => by dsimp only; rw [zsg]; omega, fun hc => by dsimp only; rw [zsg]; omega⟩
  | none =>
   obtain ⟨hd, _, _, _, _, _, _, o, ho⟩ := zno hp
   obtain ⟨hm, _⟩ := zl3 ho
   rw [ho]
   cases d with
   | zero => cases hd
   | succ d =>
    dsimp only
    have hw := zh4 h hm
    refine ⟨fun hc => ?_, fun hc => zqo (fun w hw' c hc => (ztg h d w c (hw w hw')).2 hc) c⟩
    have := zqs (X := 1054000 + 10 * d) (by omega) (fun w hw' c hc => (ztg h d w c (hw w hw')).1 hc) c hc
    omega
section
variable {code : Nat → Option XFun} {ext : Calls'}
theorem zur (c : TextCode code ext) (h : code 651 = some x651) (h246 : code 246 = some x246) {sv : IV} {S : List Obj} (hr : Reads tObj sv S) (v : Val) (hv : tVal.wf v) (inn : Int) (hd : ¬ (8 < inn)) (hk : v.k ≠ 0 ∧ v.k ≠ 1 ∧ v.k ≠ 2 ∧ v.k ≠ 7 ∧ v.k ≠ 3 ∧ v.k ≠ 6) {o : Obj} (ho : objOf S v = some o) :
  ∃ row off, cut row off 5 = some [.val (.int .u8 o.k), .val (.string o.s), o.l.iv, .val (.int .i64 o.room), .val (.int .i64 o.fn)] ∧
   (∀ b b', callW code ext 245 [.optr 0 0, .imm (.ptr row off), int64 inn] (bOne sv b) = some (.tup [], bTwo sv b') → callW code ext 246 [.optr 0 0, .agg [.imm (.val (.int .u8 v.k)), int64 v.n], int64 inn] (bOne sv b) = some (.tup [], bTwo sv b')) ∧
   (∀ b', callW code ext 245 [.optr 0 0, .imm (.ptr row off), int64 inn] (bNil false sv) = some (.tup [], bOne sv b') → callW code ext 246 [.optr 0 0, .agg [.imm (.val (.int .u8 v.k)), int64 v.n], int64 inn] (bNil false sv) = some (.tup [], bOne sv b')) := by
 obtain ⟨k0, k1, k2, k7, k3, k6⟩ := hk
 rcases ziw (ext := ext) h hr v hv.2 with ⟨hn, _⟩ | ⟨k, o', row, off, hle, hso, hget, hl⟩
 ·simp [objOf, hn] at ho
 ·simp only [objOf, hle, Option.bind_some, hso, Option.some.injEq] at ho
  subst ho
  refine ⟨row, off, hget, fun b b' hw => ?_, fun b' hw => ?_⟩
  ·rw [zbs code ext h246]
   simp only [bOne, bTwo] at hw ⊢
   simp -implicitDefEqProofs [x246, hl, hw, k0, k1, k2, k7, k3, k6, hd]
  ·rw [zbs code ext h246]
   simp only [bNil, bAddr, bOne] at hw ⊢
   simp -implicitDefEqProofs [x246, hl, hw, k0, k1, k2, k7, k3, k6, hd]
theorem zti (c : TextCode code ext) (h : code 651 = some x651) (h246 : code 246 = some x246) (h245 : code 245 = some x245) {sv : IV} {S : List Obj} (hr : Reads tObj sv S) (hS : StoreOK S) : ∀ (d : Nat), d ≤ 9 → ∀ (v : Val) (b : ByteArray), tVal.wf v → 0 < b.size → b.size ≤ 5000 →
  callW code ext 246 [.optr 0 0, .agg [.imm (.val (.int .u8 v.k)), int64 v.n], int64 (9 - d)] (bOne sv b) = some (.tup [], bTwo sv (tellV S d v b))
 | d, hd9, v, b, hv, hb, hb5 => by
  have hdd : decide ((8 : Int) < 9 - d) = (d == 0) := by
   cases d with
   | zero => rfl
   | succ d => simp; omega
  have hfn := fun o ho => (hS.wf o ho).2.2.2
  cases hp : pieceOf S (d == 0) v with
  | some x =>
   have hx := znp hv hS.wf hS.s hp
   have he : tellV S d v b = b ++ x := by unfold tellV; rw [hp]
   rw [he]
   exact zuq c h h246 hr v hv (9 - d) b x (by rw [hdd]; exact hp) (nw := x.size) (zvp c sv b x hb (by omega)) hfn (by omega)
  | none =>
   obtain ⟨hd0, k0, k1, k2, k7, k3, k6, o, ho⟩ := zno hp
   obtain ⟨hm, _⟩ := zl3 ho
   cases d with
   | zero => cases hd0
   | succ d =>
    have he : tellV S (d + 1) v b = rowV (tellV S d) o b := ztj hp ho b
    rw [he]
    obtain ⟨row, off, hget, hF, _⟩ := zur c h h246 hr v hv (9 - (d + 1 : Nat)) (by omega) ⟨k0, k1, k2, k7, k3, k6⟩ ho
    have hl := hS.l o hm
    refine hF b _ (ztf c h245 (B := 2000000) (by omega) (by omega) (by omega) ⟨fun w hw c' hc hc5 => ?_, fun w hw c' hc => (ztg hS d w c' (o.l.ok.1 w hw)).2 hc, fun w hw c' hc => by have := (ztg hS d w c' (o.l.ok.1 w hw)).1 hc; omega⟩ (by omega) hget b hb hb5)
    have := zti c h h246 h245 hr hS d (by omega) w c' (o.l.ok.1 w hw) hc hc5
    rw [show (9 - ((d + 1 : Nat) : Int) + 1) = 9 - d by omega]
    exact this
theorem zth (c : TextCode code ext) (h : code 651 = some x651) (h246 : code 246 = some x246) (h245 : code 245 = some x245) {sv : IV} {S : List Obj} (hr : Reads tObj sv S) (hS : StoreOK S) (v : Val) (hv : tVal.wf v) :
  callW code ext 246 [.optr 0 0, .agg [.imm (.val (.int .u8 v.k)), int64 v.n], int64 0] (bNil false sv) = some (.tup [], if (tellV S 9 v .empty).size = 0 then bNil true sv else bOne sv (tellV S 9 v .empty)) := by
 have hfn := fun o ho => (hS.wf o ho).2.2.2
 cases hp : pieceOf S (9 == 0) v with
 | some x =>
  have hx := znp hv hS.wf hS.s hp
  have he : tellV S 9 v .empty = x := by unfold tellV; rw [hp]; simp
  rw [he]
  by_cases h0 : x.size = 0
  ·have := zef h0
   subst this
   rw [if_pos h0]
   exact zup c h h246 hr v hv 0 false .empty hp (zvo c false sv) hfn (by decide)
  ·rw [if_neg h0]
   exact zuo c h h246 hr v hv 0 false x hp (zvn c false sv x (by omega) (by omega)) hfn (by omega)
 | none =>
  obtain ⟨hd0, k0, k1, k2, k7, k3, k6, o, ho⟩ := zno hp
  obtain ⟨hm, _⟩ := zl3 ho
  have he : tellV S 9 v .empty = rowV (tellV S 8) o .empty := ztj (d := 8) hp ho .empty
  rw [he]
  have hpos : 0 < (rowV (tellV S 8) o .empty).size := zqo (fun w hw c hc => (ztg hS 8 w c (o.l.ok.1 w hw)).2 hc) _
  rw [if_neg (by omega)]
  obtain ⟨row, off, hget, _, hF⟩ := zur c h h246 hr v hv 0 (by omega) ⟨k0, k1, k2, k7, k3, k6⟩ ho
  have hl := hS.l o hm
  refine hF _ (zte c h245 (B := 2000000) (by omega) (by omega) (by omega) ⟨fun w hw c' hc hc5 => ?_, fun w hw c' hc => (ztg hS 8 w c' (o.l.ok.1 w hw)).2 hc, fun w hw c' hc => by have := (ztg hS 8 w c' (o.l.ok.1 w hw)).1 hc; omega⟩ (by omega) hget)
  exact zti c h h246 h245 hr hS 8 (by omega) w c' (o.l.ok.1 w hw) hc hc5
end
end Go.EX


namespace Go.EX
def textOf (S : List Obj) (v : Val) : ByteArray × Bool := if 4096 < (tellV S 9 v .empty).size then (.empty, false) else (tellV S 9 v .empty, true)
theorem zud (l : List UInt8) : u8s (l.map fun c => IV.val (.int .u8 c.toNat)) = some (l.map fun c => (c.toNat : Int)) := by
 induction l with
 | nil => rfl
 | cons c l ih => simp [u8s, ih]
theorem zbn (b : ByteArray) : pushAll (b.data.toList.map fun c => (c.toNat : Int)) = b := by
 rw [zn6]
 cases b with
 | mk d =>
  simp only [List.map_map]
  congr 1
  have : ((fun n : Int => UInt8.ofNat n.toNat) ∘ fun c : UInt8 => (c.toNat : Int)) = id := by
   funext c
   simp
  rw [this]
  simp
theorem mem_of {x : Option (AV × Mem)} {r : AV} (h : x.map Prod.fst = some r) : ∃ m, x = some (r, m) := by
 cases x with
 | none => cases h
 | some p => obtain ⟨a, m⟩ := p; cases h; exact ⟨m, rfl⟩
section
variable {code : Nat → Option XFun} {ext : Calls'}
theorem zs3 (c : TextCode code ext) (sv : IV) (b : ByteArray) (hb : 0 < b.size) : callW code ext 670 [.optr 0 0] (bOne sv b) = some (strV b, [.rich [.optr 0 0, .osl 1 0 1 b.size none, .imm sv], .dead, .dead]) := by
 rw [zbr code ext c.n670 (by decide), c.e670]
 have h1 : u8s (rowOfS b) = some (b.data.toList.map fun c => (c.toNat : Int)) := zud _
 have h2 := zql b
 have h3 : ((b.data.toList.map fun c => (c.toNat : Int)).all fun n => decide (0 ≤ n) && decide (n < 256)) = true := by
  rw [List.all_eq_true]
  intro n hn
  rw [List.mem_map] at hn
  obtain ⟨c, _, rfl⟩ := hn
  have := c.toNat_lt
  simp
  omega
 simp only [extStr, bOne, if_true, List.getElem?_cons_zero, List.getElem?_cons_succ, Nat.zero_add, h1, h2, h3, hb, and_self, if_true, zbn]
 rfl
theorem zs2 (c : TextCode code ext) (u : Bool) (sv : IV) : callW code ext 670 [.optr 0 0] (bNil u sv) = some (strV .empty, bNil u sv) := by
 rw [zbr code ext c.n670 (by decide), c.e670]
 cases u <;> rfl
theorem ztn (c : TextCode code ext) (h : code 651 = some x651) (h246 : code 246 = some x246) (h245 : code 245 = some x245) (h648 : code 648 = some x648) {sv : IV} {S : List Obj} (hr : Reads tObj sv S) (hS : StoreOK S) (v : Val) (hv : tVal.wf v) :
  ∃ m, callW code ext 648 [.imm sv, .agg [.imm (.val (.int .u8 v.k)), int64 v.n]] [] = some (.tup [strV (textOf S v).1, avb (textOf S v).2], m) := by
 have hT := zth c h h246 h245 hr hS v hv
 refine mem_of ?_
 unfold textOf
 rw [zbs code ext h648]
 by_cases h0 : (tellV S 9 v .empty).size = 0
 ·rw [if_pos h0] at hT
  have he := zef h0
  have hl := zjp c true sv
  have hs := zs2 c true sv
  rw [if_neg (by omega), he]
  simp only [bNil, bAddr] at hT hl hs ⊢
  simp -implicitDefEqProofs [x648, hT, hl, hs]
 ·rw [if_neg h0] at hT
  generalize tellV S 9 v .empty = t at hT h0 ⊢
  have hl := zjq c sv t
  have hs := zs3 c sv t (by omega)
  by_cases h4 : 4096 < t.size
  ·rw [if_pos h4]
   simp only [h4, decide_true] at hl
   simp only [bNil, bAddr, bOne] at hT hl hs ⊢
   simp -implicitDefEqProofs [x648, hT, hl, hs]
  ·rw [if_neg h4]
   simp only [h4, decide_false] at hl
   simp only [bNil, bAddr, bOne] at hT hl hs ⊢
   simp -implicitDefEqProofs [x648, hT, hl, hs]
end
end Go.EX


namespace Go.EX
section
variable {code : Nat → Option XFun} {ext : Calls'}
def Ty.part {α : Type} (t : Ty α) (z : α) (xs : List α) (n : Nat) : List IV := t.row (xs ++ List.replicate n z)
section
variable {α : Type} (t : Ty α) (z sp : α) (bytes : Nat) (zs : List Value)
end
end
end Go.EX


namespace Go.EX
section
variable {code : Nat → Option XFun} {ext : Calls'}
theorem zvm (a b : Int) : IntKind.wrap .i64 (IntKind.wrap .i64 a + b) = IntKind.wrap .i64 (a + b) := by
 simp only [IntKind.wrap, IntKind.signed, IntKind.bits]
 simp
 omega
theorem zul (h : code 380 = some x380) {iv : IV} {xs : List Val} (hr : Reads tVal iv xs) : callW code ext 380 [.imm iv] [] = some (int64 xs.length, []) := by
 rw [zbs code ext h]
 simp -implicitDefEqProofs [x380, zo6 hr]
def objSize (o : Obj) : Int := if (1 + o.s.size : Int) ≤ 1048576 then 1 + o.s.size + o.l.xs.length else 1 + o.s.size
theorem zma (h : code 380 = some x380) (h' : code 338 = some x338) (o : Obj) (hw : tObj.wf o) :
  callW code ext 338 [.agg [.imm (.val (.int .u8 o.k)), .imm (.val (.string o.s)), .imm o.l.iv, int64 o.room, int64 o.fn]] [] = some (int64 (objSize o), []) := by
 rw [zbs code ext h']
 have hs : o.s.size ≤ 140737488355328 := hw.2.1
 have hl := o.l.ok.2.1
 have e1 : IntKind.wrap .i64 (1 + (o.s.size : Int)) = 1 + o.s.size := wrapI64 (by omega) (by omega)
 have e2 : IntKind.wrap .i64 (1 + (o.s.size : Int) + o.l.xs.length) = 1 + o.s.size + o.l.xs.length := wrapI64 (by omega) (by omega)
 have hv := zul (ext := ext) h o.l.ok
 by_cases hc : (1 + o.s.size : Int) ≤ 1048576
 ·simp -implicitDefEqProofs [x338, e1, e2, hc, hv, objSize]
 ·simp -implicitDefEqProofs [x338, e1, hc, objSize]
def sizeGo : Int → List Obj → Int
 | n, [] => n
 | n, o :: r => if n ≤ 1048576 then sizeGo (n + objSize o) r else n
theorem zl9 (o : Obj) (hw : tObj.wf o) : 1 ≤ objSize o ∧ objSize o ≤ 281474976710658 := by
 have hs : o.s.size ≤ 140737488355328 := hw.2.1
 have hl := o.l.ok.2.1
 unfold objSize
 split <;> omega
theorem zmh (h : code 380 = some x380) (h' : code 338 = some x338) (h2 : code 339 = some x339) {iv : IV} {xs : List Obj} (hr : Reads tObj iv xs) : callW code ext 339 [.imm iv] [] = some (int64 (sizeGo xs.length xs), []) := by
 have hlen := zo6 hr
 have hb := hr.2.1
 have loop : ∃ e s', den code ext (.loop [0, 3, 4] x339L1) ⟨0, [(0, .imm iv), (3, int64 xs.length), (4, int64 0)], []⟩ = some (e, s') ∧ e ≠ .normal ∧
   (e = .exit 0 ∧ s'.k = 0 ∧ s'.mem = [] ∧ s'.env.get 3 = int64 (sizeGo xs.length xs)) := by
  refine zjt (fun n s => ∃ (i : Nat) (m : Int), i + n = xs.length ∧ 0 ≤ m ∧ m ≤ 1000000000000000 ∧ sizeGo xs.length xs = sizeGo m (xs.drop i) ∧ s = ⟨0, [(0, .imm iv), (3, int64 m), (4, int64 (i : Nat))], []⟩) _ ?_ xs.length _ ⟨0, xs.length, by simp, by omega, by omega, by simp, rfl⟩
  rintro n _ ⟨i, m, hi, hm0, hm1, hg, rfl⟩
  by_cases hlt : i < xs.length
  ·obtain ⟨row, off, cap, rfl, hc, hcut, hget⟩ := zo7 hr (List.getElem?_eq_getElem hlt)
   have e1 : IntKind.wrap .i64 ((i : Int) + 1) = (i : Int) + 1 := wrapI64 (by omega) (by omega)
   rw [List.drop_eq_getElem_cons hlt, sizeGo] at hg
   have hw := hr.1 _ (List.getElem_mem hlt)
   generalize xs[i] = o at hget hg hw
   have hbd := zl9 o hw
   have hs := zma (ext := ext) h h' o hw
   simp only [tObj] at hget
   by_cases hc2 : m ≤ 1048576
   ·rw [if_pos hc2] at hg
    have e2 : IntKind.wrap .i64 (m + objSize o) = m + objSize o := wrapI64 (by omega) (by omega)
    refine ⟨.normal, ⟨0, [(0, .imm (.slice row off xs.length cap)), (3, int64 (m + objSize o)), (4, int64 ((i : Int) + 1))], []⟩, ?_, .inl ⟨rfl, n - 1, by omega, i + 1, _, by omega, by omega, by omega, hg, rfl⟩⟩
    simp -implicitDefEqProofs [x339L1, hlt, hget, hc2, hs, e1, e2]
   ·rw [if_neg hc2] at hg
    refine ⟨.exit 0, ⟨0, [(0, .imm (.slice row off xs.length cap)), (3, int64 m), (4, int64 (i : Int)), (14, avb false)], []⟩, ?_, .inr ⟨by simp, rfl, rfl, rfl, by rw [hg]; simp⟩⟩
    simp -implicitDefEqProofs [x339L1, hlt, hc2]
  ·have : ¬ ((i : Int) < xs.length) := by omega
   refine ⟨.exit 0, ⟨0, [(0, .imm iv), (3, int64 m), (4, int64 (i : Int)), (14, avb false)], []⟩, ?_, .inr ⟨by simp, rfl, rfl, rfl, ?_⟩⟩
   ·simp -implicitDefEqProofs [x339L1, hlen, this]
   ·rw [hg, List.drop_eq_nil_of_le (by omega)]; simp [sizeGo]
 obtain ⟨e, s', h1, _, rfl, h3, h4, h5⟩ := loop
 rw [zbs code ext h2]
 simp -implicitDefEqProofs [x339, hlen, h1, h3, h4, h5]
theorem zsx (h : code 380 = some x380) (h' : code 338 = some x338) (h2 : code 339 = some x339) (h3 : code 361 = some x361) {iv : IV} {xs : List Obj} (hr : Reads tObj iv xs) : callW code ext 361 [.imm iv] [] = some (int64 (sizeGo xs.length xs), []) := by
 rw [zbs code ext h3]
 simp -implicitDefEqProofs [x361, zmh h h' h2 hr]
end
end Go.EX


namespace Go.EX
section
variable {code : Nat → Option XFun} {ext : Calls'}
theorem zse : ∀ (l : List Obj) (m : Int), (∀ o ∈ l, tObj.wf o) → 0 ≤ m → m ≤ 1000000000000000 → m ≤ sizeGo m l ∧ sizeGo m l ≤ 1000000000000000
 | [], m, _, h0, h1 => ⟨Int.le_refl _, h1⟩
 | o :: r, m, hw, h0, h1 => by
  have hb := zl9 o (hw o (List.mem_cons_self ..))
  rw [sizeGo]
  split
  ·have := zse r (m + objSize o) (fun x hx => hw x (List.mem_cons_of_mem _ hx)) (by omega) (by omega)
   omega
  ·omega
end
end Go.EX


namespace Go.EX
def ext4 (dg : Int → ByteArray) : Calls' := fun f a m =>
 if f = 674 then extCheck 674 674 a m
 else if f = 670 then extStr 670 670 a m
 else if f = 708 then match a with
  | [.imm (.val (.int .i64 n)), .imm (.val (.int .i64 10))] => if -9223372036854775808 ≤ n ∧ n ≤ 9223372036854775807 then some (.imm (.val (.string (dg n))), m) else none
  | _ => none
 else none
theorem zfh {num : Names} {P : Program} (h1 : ExtOK num P (extCheck 674)) (h2 : ExtOK num P (extStr 670)) (h3 : ExtOK num P (extItoa 708)) : ExtOK num P (ext4 dig) := by
 intro f args m r m' C vals hc hm hl hr
 unfold ext4 at hc
 split at hc
 ·rename_i hf
  exact h1 f args m r m' C vals (by rw [hf]; exact hc) hm hl hr
 split at hc
 ·rename_i hf
  exact h2 f args m r m' C vals (by rw [hf]; exact hc) hm hl hr
 split at hc
 ·rename_i hf
  exact h3 f args m r m' C vals (by rw [hf]; exact hc) hm hl hr
 ·cases hc
end Go.EX


namespace Go.Proofs.YtedddogbgdbpmaaDoor
open Go.EX Go.Shelf
def ren169 : Go.Shelf.Ren := ⟨fun | 169 => 71 | n => n, fun | 70 => 118 | 9 => 9 | 0 => 0 | 72 => 121 | 37 => 119 | 127 => 135 | 3 => 3 | 5 => 5 | n => n, fun | n => n⟩
theorem lays169 : Go.Proofs.Lays.n169 Tryd.prog ren169 := {
 mixed := by kernel_rfl
 f169 := Tryd.func71.trans (congrArg some (by kernel_rfl))
 t0 := Tryd.underlying0
 a0 := Tryd.isAgg0
 z0 := Tryd.sizeOf0
 v0 := Tryd.zeroValue0
 t3 := Tryd.underlying3
 a3 := Tryd.isAgg3
 z3 := Tryd.sizeOf3
 v3 := Tryd.zeroValue3
 t9 := Tryd.underlying9
 a9 := Tryd.isAgg9
 z9 := Tryd.sizeOf9
 v9 := Tryd.zeroValue9
 t37 := Tryd.underlying119
 a37 := Tryd.isAgg119
 z37 := Tryd.sizeOf119
 v37 := Tryd.zeroValue119
 t70 := Tryd.underlying118
 a70 := Tryd.isAgg118
 z70 := Tryd.sizeOf118
 v70 := Tryd.zeroValue118
 t72 := Tryd.underlying121
 a72 := Tryd.isAgg121
 z72 := Tryd.sizeOf121
 v72 := Tryd.zeroValue121
 t127 := Tryd.underlying135
 a127 := Tryd.isAgg135
 z127 := Tryd.sizeOf135
 v127 := Tryd.zeroValue135 }
def ren246 : Go.Shelf.Ren := ⟨fun | 246 => 83 | 283 => 86 | 284 => 87 | 285 => 88 | 286 => 89 | 129 => 91 | 317 => 90 | 318 => 92 | 319 => 93 | 320 => 94 | 337 => 95 | 338 => 96 | n => n, fun | 2 => 2 | 3 => 3 | 9 => 9 | 4 => 4 | 171 => 138 | 0 => 0 | 53 => 139 | 37 => 119 | 5 => 5 | 173 => 142 | 212 => 146 | 51 => 147 | 20 => 20 | 213 => 148 | 46 => 149 | 232 => 152 | 233 => 153 | n => n, fun | 17 => 0 | 18 => 1 | 19 => 2 | n => n⟩
theorem lays246 : Go.Proofs.LaysM.n246 Tryd.prog ren246 := {
 mixed := by kernel_rfl
 f129 := Tryd.func91.trans (congrArg some (by kernel_rfl))
 f246 := Tryd.func83.trans (congrArg some (by kernel_rfl))
 f283 := Tryd.func86.trans (congrArg some (by kernel_rfl))
 f284 := Tryd.func87.trans (congrArg some (by kernel_rfl))
 f285 := Tryd.func88.trans (congrArg some (by kernel_rfl))
 f286 := Tryd.func89.trans (congrArg some (by kernel_rfl))
 f317 := Tryd.func90.trans (congrArg some (by kernel_rfl))
 f318 := Tryd.func92.trans (congrArg some (by kernel_rfl))
 f319 := Tryd.func93.trans (congrArg some (by kernel_rfl))
 f320 := Tryd.func94.trans (congrArg some (by kernel_rfl))
 f337 := Tryd.func95.trans (congrArg some (by kernel_rfl))
 f338 := Tryd.func96.trans (congrArg some (by kernel_rfl))
 t0 := Tryd.underlying0
 a0 := Tryd.isAgg0
 z0 := Tryd.sizeOf0
 v0 := Tryd.zeroValue0
 t2 := Tryd.underlying2
 a2 := Tryd.isAgg2
 z2 := Tryd.sizeOf2
 v2 := Tryd.zeroValue2
 t3 := Tryd.underlying3
 a3 := Tryd.isAgg3
 z3 := Tryd.sizeOf3
 v3 := Tryd.zeroValue3
 t4 := Tryd.underlying4
 a4 := Tryd.isAgg4
 z4 := Tryd.sizeOf4
 v4 := Tryd.zeroValue4
 t5 := Tryd.underlying5
 a5 := Tryd.isAgg5
 z5 := Tryd.sizeOf5
 v5 := Tryd.zeroValue5
 t9 := Tryd.underlying9
 a9 := Tryd.isAgg9
 z9 := Tryd.sizeOf9
 v9 := Tryd.zeroValue9
 t20 := Tryd.underlying20
 a20 := Tryd.isAgg20
 z20 := Tryd.sizeOf20
 v20 := Tryd.zeroValue20
 t37 := Tryd.underlying119
 a37 := Tryd.isAgg119
 z37 := Tryd.sizeOf119
 v37 := Tryd.zeroValue119
 t46 := Tryd.underlying149
 a46 := Tryd.isAgg149
 z46 := Tryd.sizeOf149
 v46 := Tryd.zeroValue149
 t51 := Tryd.underlying147
 a51 := Tryd.isAgg147
 z51 := Tryd.sizeOf147
 v51 := Tryd.zeroValue147
 t53 := Tryd.underlying139
 a53 := Tryd.isAgg139
 z53 := Tryd.sizeOf139
 v53 := Tryd.zeroValue139
 t171 := Tryd.underlying138
 a171 := Tryd.isAgg138
 z171 := Tryd.sizeOf138
 v171 := Tryd.zeroValue138
 t173 := Tryd.underlying142
 a173 := Tryd.isAgg142
 z173 := Tryd.sizeOf142
 v173 := Tryd.zeroValue142
 t212 := Tryd.underlying146
 a212 := Tryd.isAgg146
 z212 := Tryd.sizeOf146
 v212 := Tryd.zeroValue146
 t213 := Tryd.underlying148
 a213 := Tryd.isAgg148
 z213 := Tryd.sizeOf148
 t232 := Tryd.underlying152
 a232 := Tryd.isAgg152
 z232 := Tryd.sizeOf152
 v232 := Tryd.zeroValue152
 t233 := Tryd.underlying153
 a233 := Tryd.isAgg153
 z233 := Tryd.sizeOf153
 v233 := Tryd.zeroValue153
 g17 := by kernel_rfl
 g18 := by kernel_rfl
 g19 := by kernel_rfl
 i0 := by kernel_rfl
 i2 := by kernel_rfl
 i3 := by kernel_rfl
 i4 := by kernel_rfl
 i5 := by kernel_rfl
 i9 := by kernel_rfl
 i20 := by kernel_rfl
 i37 := by kernel_rfl
 i46 := by kernel_rfl
 i51 := by kernel_rfl
 i53 := by kernel_rfl
 i171 := by kernel_rfl
 i173 := by kernel_rfl
 i212 := by kernel_rfl
 i232 := by kernel_rfl
 i233 := by kernel_rfl
 m17 := by kernel_rfl
 m18 := by kernel_rfl
 m19 := by kernel_rfl }
theorem ck_num (f : FuncId) (h : num f = 674) : f = 82 := by
 by_cases hf : f < 120
 ·exact (by decide +kernel : ∀ f : Fin 120, num f.val = 674 → f.val = 82) ⟨f, hf⟩ h
 ·have hn : num f = 100000 + f := by
   unfold num
   rw [List.getElem?_eq_none (by rw [show gids.length = 120 from by kernel_rfl]; simp only [FuncId] at *; omega)]; rfl
  rw [hn] at h
  exfalso; simp only [FuncId] at *; omega
theorem str_num (f : FuncId) (h : num f = 670) : f = ren169.f 169 := by
 by_cases hf : f < 120
 ·exact (by decide +kernel : ∀ f : Fin 120, num f.val = 670 → f.val = ren169.f 169) ⟨f, hf⟩ h
 ·have hn : num f = 100000 + f := by
   unfold num
   rw [List.getElem?_eq_none (by rw [show gids.length = 120 from by kernel_rfl]; simp only [FuncId] at *; omega)]; rfl
  rw [hn] at h
  exfalso; simp only [FuncId] at *; omega
theorem fmt_num (f : FuncId) (h : num f = 708) : f = ren246.f 246 := by
 by_cases hf : f < 120
 ·exact (by decide +kernel : ∀ f : Fin 120, num f.val = 708 → f.val = ren246.f 246) ⟨f, hf⟩ h
 ·have hn : num f = 100000 + f := by
   unfold num
   rw [List.getElem?_eq_none (by rw [show gids.length = 120 from by kernel_rfl]; simp only [FuncId] at *; omega)]; rfl
  rw [hn] at h
  exfalso; simp only [FuncId] at *; omega
theorem zck : Callable Tryd.prog 82 := ⟨Tryd.f82, Tryd.func82, by decide +kernel, by kernel_rfl⟩
theorem zs1 : Callable Tryd.prog (ren169.f 169) := ⟨Tryd.f71, Tryd.func71, by decide +kernel, by kernel_rfl⟩
theorem zf7 : Callable Tryd.prog (ren246.f 246) := ⟨Tryd.f83, Tryd.func83, by decide +kernel, by kernel_rfl⟩
theorem strExtra : Builder.Extra Tryd.prog ren169 := {
 sizeBuilder := by kernel_rfl
 liesBuilder := by kernel_rfl
 t5 := Tryd.underlying5
 a5 := Tryd.isAgg5
 z5 := Tryd.sizeOf5
 v5 := Tryd.zeroValue5
 infoByte := by kernel_rfl
 cellsByte := by kernel_rfl
 sizeByte := by kernel_rfl
 neB5 := by decide }
abbrev powTab : Tab := ("internal/strconv.uint64pow10", .u64, Lib.pow10Tab)
theorem libs : ExtOK (Names.tabs num Tryd.prog [powTab]) Tryd.prog (ext4 dig) :=
 zfh (zfi checkFacts (by kernel_rfl) ck_num zck) (zfn lays169 strExtra str_num zs1) (zfj lays246 (List.mem_cons_self ..) fmt_num zf7)
end Go.Proofs.YtedddogbgdbpmaaDoor


namespace Go.EX
def code11 : Nat → Option XFun
 | 206 => some x206
 | 207 => some x207
 | 209 => some x209
 | 210 => some x210
 | 211 => some x211
 | 212 => some x212
 | 213 => some x213
 | 214 => some x214
 | 215 => some x215
 | 216 => some x216
 | 217 => some x217
 | 218 => some x218
 | 219 => some x219
 | 485 => some x485
 | 489 => some x489
 | 491 => some x491
 | 578 => some x578
 | 579 => some x579
 | 580 => some x580
 | 581 => some x581
 | 582 => some x582
 | 583 => some x583
 | 584 => some x584
 | 585 => some x585
 | 586 => some x586
 | 587 => some x587
 | 588 => some x588
 | 589 => some x589
 | 627 => some x627
 | 630 => some x630
 | 631 => some x631
 | 632 => some x632
 | 633 => some x633
 | 636 => some x636
 | 639 => some x639
 | 640 => some x640
 | 641 => some x641
 | 642 => some x642
 | 643 => some x643
 | 740 => some x740
 | 741 => some x741
 | 742 => some x742
 | 743 => some x743
 | 749 => some x749
 | 759 => some x759
 | 646 => some x646
 | 647 => some x647
 | 650 => some x650
 | 651 => some x651
 | 652 => some x652
 | 653 => some x653
 | 654 => some x654
 | 655 => some x655
 | 656 => some x656
 | 745 => some x745
 | 755 => some x755
 | _ => none
theorem zc2 : code11 yieldNo = none := by
 unfold code11
 split <;> first | (rename_i h; exact absurd h (by decide)) | rfl
theorem lives11 : callW code11 (fun _ _ _ => none) 489 [] [] = some (avb true, []) := (zbt code11 (fun _ _ _ => none)).2 ⟨60, by kernel_rfl⟩
end Go.EX


namespace Go.Proofs.YtedddogbgdbpmaaDoor
open Go.EX
theorem okL5 : FunOK Tryd.prog num 5 x489 := .one Tryd.func5 (by kernel_rfl)
theorem okL7 : FunOK Tryd.prog num 7 x636 := .one Tryd.func7 (by kernel_rfl)
theorem okL8 : FunOK Tryd.prog num 8 x491 := .one Tryd.func8 (by kernel_rfl)
theorem okL9 : FunOK Tryd.prog num 9 x631 := .one Tryd.func9 (by kernel_rfl)
theorem okL12 : FunOK Tryd.prog num 12 x646 := .one Tryd.func12 (by kernel_rfl)
theorem okL18 : FunOK Tryd.prog num 18 x640 := .one Tryd.func18 (by kernel_rfl)
theorem okL20 : FunOK Tryd.prog num 20 x656 := .one Tryd.func20 (by kernel_rfl)
theorem okL21 : FunOK Tryd.prog num 21 x745 := .one Tryd.func21 (by kernel_rfl)
theorem okL22 : FunOK Tryd.prog num 22 x654 := .one Tryd.func22 (by kernel_rfl)
theorem okL23 : FunOK Tryd.prog num 23 x647 := .one Tryd.func23 (by kernel_rfl)
theorem okL24 : FunOK Tryd.prog num 24 x652 := .one Tryd.func24 (by kernel_rfl)
theorem okL27 : FunOK Tryd.prog num 27 x643 := .one Tryd.func27 (by kernel_rfl)
theorem okL29 : FunOK Tryd.prog num 29 x641 := .one Tryd.func29 (by kernel_rfl)
theorem okL35 : FunOK Tryd.prog num 35 x755 := .one Tryd.func35 (by kernel_rfl)
theorem okL36 : FunOK Tryd.prog num 36 x655 := .one Tryd.func36 (by kernel_rfl)
theorem okL37 : FunOK Tryd.prog num 37 x653 := .one Tryd.func37 (by kernel_rfl)
theorem okL38 : FunOK Tryd.prog num 38 x650 := .one Tryd.func38 (by kernel_rfl)
abbrev FnAtL (f : Nat) : Prop := ∀ xf, code11 (num f) = some xf → FunOK Tryd.prog num f xf
theorem hitL {n : Nat} {x : XFun} (e : code11 (num n) = some x) (k : FunOK Tryd.prog num n x) (r : ∀ f, f < n → FnAtL f) : ∀ f, f < n + 1 → FnAtL f := fun f h xf hx => by
 rcases Nat.lt_or_eq_of_le (Nat.le_of_lt_succ h) with h | rfl
 ·exact r f h xf hx
 ·rw [e] at hx; cases hx; exact k
theorem nixL {n : Nat} (e : code11 (num n) = none) (r : ∀ f, f < n → FnAtL f) : ∀ f, f < n + 1 → FnAtL f := fun f h xf hx => by
 rcases Nat.lt_or_eq_of_le (Nat.le_of_lt_succ h) with h | rfl
 ·exact r f h xf hx
 ·rw [e] at hx; cases hx
theorem uptoL20 : ∀ f, f < 20 → FnAtL f :=
 nixL (by kernel_rfl) <|
 hitL (by kernel_rfl) okL18 <|
 nixL (by kernel_rfl) <|
 nixL (by kernel_rfl) <|
 hitL (by kernel_rfl) ok15 <|
 hitL (by kernel_rfl) ok14 <|
 nixL (by kernel_rfl) <|
 hitL (by kernel_rfl) okL12 <|
 nixL (by kernel_rfl) <|
 hitL (by kernel_rfl) ok10 <|
 hitL (by kernel_rfl) okL9 <|
 hitL (by kernel_rfl) okL8 <|
 hitL (by kernel_rfl) okL7 <|
 hitL (by kernel_rfl) ok6 <|
 hitL (by kernel_rfl) okL5 <|
 nixL (by kernel_rfl) <|
 nixL (by kernel_rfl) <|
 nixL (by kernel_rfl) <|
 nixL (by kernel_rfl) <|
 nixL (by kernel_rfl) (fun f h => absurd h (Nat.not_lt_zero f))
theorem uptoL40 : ∀ f, f < 40 → FnAtL f :=
 nixL (by kernel_rfl) <|
 hitL (by kernel_rfl) okL38 <|
 hitL (by kernel_rfl) okL37 <|
 hitL (by kernel_rfl) okL36 <|
 hitL (by kernel_rfl) okL35 <|
 hitL (by kernel_rfl) ok34 <|
 nixL (by kernel_rfl) <|
 hitL (by kernel_rfl) ok32 <|
 hitL (by kernel_rfl) ok31 <|
 hitL (by kernel_rfl) ok30 <|
 hitL (by kernel_rfl) okL29 <|
 hitL (by kernel_rfl) ok28 <|
 hitL (by kernel_rfl) okL27 <|
 nixL (by kernel_rfl) <|
 nixL (by kernel_rfl) <|
 hitL (by kernel_rfl) okL24 <|
 hitL (by kernel_rfl) okL23 <|
 hitL (by kernel_rfl) okL22 <|
 hitL (by kernel_rfl) okL21 <|
 hitL (by kernel_rfl) okL20 uptoL20
theorem uptoL60 : ∀ f, f < 60 → FnAtL f :=
 hitL (by kernel_rfl) ok59 <|
 nixL (by kernel_rfl) <|
 nixL (by kernel_rfl) <|
 hitL (by kernel_rfl) ok56 <|
 hitL (by kernel_rfl) ok55 <|
 hitL (by kernel_rfl) ok54 <|
 nixL (by kernel_rfl) <|
 hitL (by kernel_rfl) ok52 <|
 hitL (by kernel_rfl) ok51 <|
 hitL (by kernel_rfl) ok50 <|
 hitL (by kernel_rfl) ok49 <|
 hitL (by kernel_rfl) ok48 <|
 hitL (by kernel_rfl) ok47 <|
 hitL (by kernel_rfl) ok46 <|
 hitL (by kernel_rfl) ok45 <|
 hitL (by kernel_rfl) ok44 <|
 hitL (by kernel_rfl) ok43 <|
 hitL (by kernel_rfl) ok42 <|
 hitL (by kernel_rfl) ok41 <|
 hitL (by kernel_rfl) ok40 uptoL40
theorem uptoL80 : ∀ f, f < 80 → FnAtL f :=
 nixL (by kernel_rfl) <|
 nixL (by kernel_rfl) <|
 nixL (by kernel_rfl) <|
 hitL (by kernel_rfl) ok76 <|
 hitL (by kernel_rfl) ok75 <|
 hitL (by kernel_rfl) ok74 <|
 hitL (by kernel_rfl) ok73 <|
 hitL (by kernel_rfl) ok72 <|
 nixL (by kernel_rfl) <|
 nixL (by kernel_rfl) <|
 nixL (by kernel_rfl) <|
 hitL (by kernel_rfl) ok68 <|
 hitL (by kernel_rfl) ok67 <|
 nixL (by kernel_rfl) <|
 hitL (by kernel_rfl) ok65 <|
 hitL (by kernel_rfl) ok64 <|
 nixL (by kernel_rfl) <|
 hitL (by kernel_rfl) ok62 <|
 hitL (by kernel_rfl) ok61 <|
 hitL (by kernel_rfl) ok60 uptoL60
theorem uptoL100 : ∀ f, f < 100 → FnAtL f :=
 nixL (by kernel_rfl) <|
 nixL (by kernel_rfl) <|
 nixL (by kernel_rfl) <|
 nixL (by kernel_rfl) <|
 nixL (by kernel_rfl) <|
 nixL (by kernel_rfl) <|
 nixL (by kernel_rfl) <|
 nixL (by kernel_rfl) <|
 nixL (by kernel_rfl) <|
 nixL (by kernel_rfl) <|
 nixL (by kernel_rfl) <|
 nixL (by kernel_rfl) <|
 nixL (by kernel_rfl) <|
 nixL (by kernel_rfl) <|
 nixL (by kernel_rfl) <|
 nixL (by kernel_rfl) <|
 nixL (by kernel_rfl) <|
 nixL (by kernel_rfl) <|
 nixL (by kernel_rfl) <|
 nixL (by kernel_rfl) uptoL80
theorem uptoL120 : ∀ f, f < 120 → FnAtL f :=
 nixL (by kernel_rfl) <|
 nixL (by kernel_rfl) <|
 nixL (by kernel_rfl) <|
 nixL (by kernel_rfl) <|
 nixL (by kernel_rfl) <|
 nixL (by kernel_rfl) <|
 nixL (by kernel_rfl) <|
 nixL (by kernel_rfl) <|
 nixL (by kernel_rfl) <|
 nixL (by kernel_rfl) <|
 nixL (by kernel_rfl) <|
 nixL (by kernel_rfl) <|
 nixL (by kernel_rfl) <|
 nixL (by kernel_rfl) <|
 nixL (by kernel_rfl) <|
 nixL (by kernel_rfl) <|
 nixL (by kernel_rfl) <|
 nixL (by kernel_rfl) <|
 nixL (by kernel_rfl) <|
 nixL (by kernel_rfl) uptoL100
theorem fnsL (f : FuncId) (xf : XFun) (h : code11 (num f) = some xf) : FunOK Tryd.prog num f xf := by
 by_cases hf : f < 120
 ·exact uptoL120 f hf xf h
 ·have hn : num f = 100000 + f := by
   unfold num
   rw [List.getElem?_eq_none (by rw [show gids.length = 120 from by kernel_rfl]; simp only [FuncId] at *; omega)]; rfl
  rw [hn] at h
  unfold code11 at h
  split at h <;> first | (exfalso; simp only [FuncId] at *; omega) | cases h
end Go.Proofs.YtedddogbgdbpmaaDoor

