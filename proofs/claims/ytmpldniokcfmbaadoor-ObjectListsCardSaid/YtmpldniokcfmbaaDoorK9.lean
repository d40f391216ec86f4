import Derived.Test.YtmpldniokcfmbaaDoorK1
import Derived.Test.YtmpldniokcfmbaaDoorK8
import Derived.RangeFuncLeaves
import Derived.Scope
import Derived.Below
import Derived.ChangeOld
import Derived.WideShapes
import Derived.OpenShut
import Derived.Laws.Strings
set_option linter.unusedVariables false
set_option linter.unusedSimpArgs false
namespace Go.EX
def Le (c d : Calls') : Prop := ∀ f a m r, c f a m = some r → d f a m = some r
theorem zer {c d : Calls'} (h : Le c d) {s : St} {fn : Nat} {as : List AV} {r : AV × St} (hr : exView c s fn as = some r) : exView d s fn as = some r := by
 unfold exView at *
 cases ha : as.mapM (frz s.mem) with
 | none => simp [ha] at hr
 | some l =>
  simp only [ha] at hr ⊢
  cases hc : c fn l [] with
  | none => simp [hc] at hr
  | some p => simp only [hc] at hr; simp only [h _ _ _ _ hc]; exact hr
theorem zei {c d : Calls'} (h : Le c d) {s : St} {fn : Nat} {as : List AV} {r : AV × St} (hr : exOwn c s fn as = some r) : exOwn d s fn as = some r := by
 unfold exOwn at *
 cases ha : as.mapM (frz s.mem) with
 | none => simp [ha] at hr
 | some l =>
  simp only [ha] at hr ⊢
  cases hc : c fn l [] with
  | none => simp [hc] at hr
  | some p => simp only [hc] at hr; simp only [h _ _ _ _ hc]; exact hr
theorem zep {c d : Calls'} (h : Le c d) {s : St} {fn : Nat} {as : List AV} {r : AV × St} (hr : exShare c s fn as = some r) : exShare d s fn as = some r := by
 unfold exShare at *
 dsimp only at *
 generalize hm : AV.ren.renL (place (order 0 (AV.refs.refsL as) s.mem)) as = l at *
 generalize hq : s.mem.pickAll (order 0 (AV.refs.refsL as) s.mem) = q at *
 cases hc : c fn l q with
 | none => simp [hc] at hr
 | some p => simp only [hc] at hr; simp only [h _ _ _ _ hc]; exact hr
theorem zej {c d : Calls'} (h : Le c d) {s : St} {fn : Nat} {as : List AV} {r : AV × St} (hr : exPeek c s fn as = some r) : exPeek d s fn as = some r := by
 unfold exPeek at *
 dsimp only at *
 generalize hm : AV.ren.renL (place (order 0 (AV.refs.refsL as) s.mem)) as = l at *
 cases hc : c fn l (s.mem.pickAll (order 0 (AV.refs.refsL as) s.mem)) with
 | none => simp [hc] at hr
 | some p => simp only [hc] at hr; simp only [h _ _ _ _ hc]; exact hr
theorem zd7 {c d : Calls'} (h : Le c d) {s : St} {fn : Nat} {as : List AV} {r : AV × St} (hr : exLook c s fn as = some r) : exLook d s fn as = some r := by
 unfold exLook at *
 dsimp only at *
 generalize hm : AV.ren.renL (place (order 0 (AV.refs.refsL as) s.mem)) as = l at *
 cases hc : c fn l (s.mem.pickAll (order 0 (AV.refs.refsL as) s.mem)) with
 | none => simp [hc] at hr
 | some p => simp only [hc] at hr; simp only [h _ _ _ _ hc]; exact hr
theorem zeq {c d : Calls'} (h : Le c d) {s : St} {fn : Nat} {as : List AV} {r : AV × St} (hr : exTouch c s fn as = some r) : exTouch d s fn as = some r := by
 unfold exTouch at *
 dsimp only at *
 generalize hm : AV.ren.renL (place (order 0 (AV.refs.refsL as) s.mem)) as = l at *
 cases hc : c fn l (s.mem.pickAll (order 0 (AV.refs.refsL as) s.mem)) with
 | none => simp [hc] at hr
 | some p => simp only [hc] at hr; simp only [h _ _ _ _ hc]; exact hr
theorem zed {c d : Calls'} (h : Le c d) {s : St} {op : XOp} {r : AV × St} (hr : exOp c s op = some r) : exOp d s op = some r := by
 cases op with
 | call mode fn args =>
  cases mode with
  | view => exact zer h hr
  | own => exact zei h hr
  | share => exact zep h hr
  | peek => exact zej h hr
  | look => exact zd7 h hr
  | touch => exact zeq h hr
 | callV f args =>
  simp only [exOp] at hr ⊢
  split at hr
  ·rename_i heq; exact zep h hr
  ·rename_i heq; exact zep h hr
  ·cases hr
 | callP f args =>
  simp only [exOp] at hr ⊢
  split at hr
  ·rename_i heq; exact zej h hr
  ·cases hr
 | callT f args w =>
  simp only [exOp] at hr ⊢
  split at hr
  ·split at hr
   ·rename_i hx; rw [zeq h hx]; exact hr
   ·cases hr
  ·cases hr
 | _ => exact hr
theorem zea {c d : Calls'} (h : Le c d) {s : St} {o : XO} {r : St} (hr : exOne c s o = some r) : exOne d s o = some r := by
 unfold exOne at *
 have hop : ∀ x, exOp c s o.op = some x → exOp d s o.op = some x := fun x hx => zed h hx
 have hgo : ∀ (g : AV × St → St), (exOp c s o.op).map g = some r → (exOp d s o.op).map g = some r := by
  intro g hg
  cases hx : exOp c s o.op with
  | none => simp [hx] at hg
  | some x => rw [hop x hx]; rwa [hx] at hg
 dsimp only at *
 split at hr
 ·exact hgo _ hr
 ·split at hr
  ·rename_i heq
   split at hr
   ·rename_i hcb; simp only [hcb, if_true] at *; exact hgo _ hr
   ·rename_i hcb; simp only [hcb, if_false] at *; exact hr
  ·exact hr
  ·cases hr
theorem zef {c d : Calls'} (h : Le c d) (l : List XO) : ∀ {s : St} {r : St}, exOps c s l = some r → exOps d s l = some r := by
 induction l with
 | nil => intro s r hr; exact hr
 | cons o l ih =>
  intro s r hr
  simp only [exOps] at *
  cases hx : exOne c s o with
  | none => simp [hx] at hr
  | some s' => rw [hx] at hr; rw [zea h hx]; exact ih hr
theorem znb {f g : St → Option (XExit × St)} (h : ∀ s r, f s = some r → g s = some r) : ∀ (n m : Nat), n ≤ m → ∀ {s r}, rounds f n s = some r → rounds g m s = some r := by
 intro n
 induction n with
 | zero => intro m _ s r hr; simp [rounds] at hr
 | succ n ih =>
  intro m hm s r hr
  obtain ⟨m, rfl⟩ : ∃ k, m = k + 1 := ⟨m - 1, by omega⟩
  simp only [rounds] at *
  cases hx : f s with
  | none => simp [hx] at hr
  | some p =>
   rw [h _ _ hx]
   rw [hx] at hr
   obtain ⟨e, s'⟩ := p
   cases e with
   | normal => exact ih m (by omega) hr
   | exit id => exact hr
   | ret => exact hr
theorem zel {c d : Calls'} (h : Le c d) {s : St} {f : Src} {ps keep : List Nat} {as b : XCode} {r} (hr : exRange c s f ps keep as b = some r) : exRange d s f ps keep as b = some r := by
 unfold exRange at *
 split at hr
 ·rename_i heq
  split at hr
  ·rename_i hst
   rw [if_pos hst]
   split at hr
   ·rename_i hx
    rw [zep h hx]
    exact hr
   ·cases hr
  ·cases hr
 ·cases hr
theorem zen {f g : XCode → St → Option (XExit × St)} (h : ∀ x s r, f x s = some r → g x s = some r) {args : List AV} {m : Mem} {r} (hr : exRound f args m = some r) : exRound g args m = some r := by
 unfold exRound at *
 split at hr
 ·split at hr
  ·rename_i heq
   split at hr
   ·rename_i hl
    split at hr
    ·rename_i hx
     split at hr
     ·rename_i heq2
      split at hr
      ·rename_i hx2
       simp only [heq, hl, if_true, h _ _ _ hx, heq2, h _ _ _ hx2]
       exact hr
      ·cases hr
     ·cases hr
    ·cases hr
   ·cases hr
  ·cases hr
 ·cases hr
theorem zd5 {c d : Calls'} (h : Le c d) {n m : Nat} (hnm : n ≤ m) (x : XCode) : ∀ {s r}, exCode c n x s = some r → exCode d m x s = some r := by
 induction x with
 | skip => intro s r hr; exact hr
 | region keep ops =>
  intro s r hr
  simp only [exCode] at *
  cases hx : exOps c s ops with
  | none => simp [hx] at hr
  | some s' => rw [hx] at hr; rw [zef h ops hx]; exact hr
 | lregion keep ops =>
  intro s r hr
  simp only [exCode] at *
  cases hx : exOps c s (ops.map XO.unlit) with
  | none => simp [hx] at hr
  | some s' => rw [hx] at hr; rw [zef h _ hx]; exact hr
 | seq a b iha ihb =>
  intro s r hr
  simp only [exCode] at *
  cases hx : exCode c n a s with
  | none => simp [hx] at hr
  | some p =>
   rw [iha hx]
   rw [hx] at hr
   obtain ⟨e, s'⟩ := p
   cases e with
   | normal => exact ihb hr
   | exit id => exact hr
   | ret => exact hr
 | cond k a b iha ihb =>
  intro s r hr
  simp only [exCode] at *
  split at hr
  ·split at hr
   ·rename_i ht; simp only [ht, if_true]; exact iha hr
   ·rename_i ht; simp only [ht, if_false]; exact ihb hr
  ·cases hr
 | block id b ih =>
  intro s r hr
  simp only [exCode] at *
  cases hx : exCode c n b s with
  | none => simp [hx] at hr
  | some p => rw [ih hx]; rw [hx] at hr; exact hr
 | loop keep b ih =>
  intro s r hr
  simp only [exCode] at *
  exact znb (fun s r hs => ih hs) n m hnm hr
 | exit id => intro s r hr; exact hr
 | ret => intro s r hr; exact hr
 | rangeF f ps keep as b => intro s r hr; simp only [exCode] at *; exact zel h hr
theorem zd6 {c d : Calls'} (h : Le c d) {n m : Nat} (hnm : n ≤ m) {f : XFun} {as : List AV} {q : Mem} {r} (hr : exFun c n f as q = some r) : exFun d m f as q = some r := by
 unfold exFun at *
 cases hx : exCode c n f.body { k := q.length, env := enter 0 as, mem := q } with
 | none => simp [hx] at hr
 | some p => rw [zd5 h hnm f.body hx]; rw [hx] at hr; exact hr
section
variable (code : Nat → Option XFun) (ext : Calls')
theorem zbu (n : Nat) : Le (callN code ext n) (callN code ext (n + 1)) := by
 induction n with
 | zero => intro f a m r h; simp [callN] at h
 | succ n ih =>
  intro f a m r h
  unfold callN at h ⊢
  cases hc : code f with
  | none =>
   simp only [hc] at h ⊢
   split at h
   ·rename_i hy; rw [if_pos hy]; exact zen (fun x s r hx => zd5 ih (Nat.le_succ n) x hx) h
   ·rename_i hy; rw [if_neg hy]; exact h
  | some x => simp only [hc] at h ⊢; exact zd6 ih (Nat.le_succ n) h
theorem zbt {n m : Nat} (h : n ≤ m) : Le (callN code ext n) (callN code ext m) := by
  induction m with
  | zero => obtain rfl : n = 0 := by omega
            exact fun _ _ _ _ h => h
  | succ m ih =>
    rcases Nat.lt_or_ge n (m + 1) with h' | h'
    · exact fun f a q r hr => zbu code ext m f a q r (ih (by omega) f a q r hr)
    · obtain rfl : n = m + 1 := by omega
      exact fun _ _ _ _ h => h
open Classical in
noncomputable def callW : Calls' := fun f a m => if h : ∃ r, ∃ n, callN code ext n f a m = some r then some (Classical.choose h) else none
theorem zbx {f : Nat} {a : List AV} {m : Mem} {r : AV × Mem} : callW code ext f a m = some r ↔ ∃ n, callN code ext n f a m = some r := by
 unfold callW
 constructor
 ·intro h
  split at h
  ·rename_i hx
   obtain ⟨n, hn⟩ := Classical.choose_spec hx
   have : Classical.choose hx = r := by simpa using h
   exact ⟨n, this ▸ hn⟩
  ·cases h
 ·rintro ⟨n, hn⟩
  have hx : ∃ r, ∃ n, callN code ext n f a m = some r := ⟨r, n, hn⟩
  rw [dif_pos hx]
  obtain ⟨k, hk⟩ := Classical.choose_spec hx
  have h1 := zbt code ext (Nat.le_max_left n k) f a m r hn
  have h2 := zbt code ext (Nat.le_max_right n k) f a m _ hk
  rw [h1] at h2
  exact h2.symm
theorem zad (n : Nat) : Le (callN code ext n) (callW code ext) := fun _ _ _ _ h => (zbx code ext).2 ⟨n, h⟩
open Classical in
noncomputable def den (x : XCode) (s : St) : Option (XExit × St) := if h : ∃ r, ∃ n, exCode (callW code ext) n x s = some r then some (Classical.choose h) else none
theorem zda {x : XCode} {s : St} {r} : den code ext x s = some r ↔ ∃ n, exCode (callW code ext) n x s = some r := by
 unfold den
 constructor
 ·intro h
  split at h
  ·rename_i hx
   obtain ⟨n, hn⟩ := Classical.choose_spec hx
   have : Classical.choose hx = r := by simpa using h
   exact ⟨n, this ▸ hn⟩
  ·cases h
 ·rintro ⟨n, hn⟩
  have hx : ∃ r, ∃ n, exCode (callW code ext) n x s = some r := ⟨r, n, hn⟩
  rw [dif_pos hx]
  obtain ⟨k, hk⟩ := Classical.choose_spec hx
  have h1 := zd5 (c := callW code ext) (d := callW code ext) (fun _ _ _ _ h => h) (Nat.le_max_left n k) x hn
  have h2 := zd5 (c := callW code ext) (d := callW code ext) (fun _ _ _ _ h => h) (Nat.le_max_right n k) x hk
  rw [h1] at h2
  exact h2.symm
theorem zeo {s : St} {fn : Nat} {as : List AV} {r} (h : exShare (callW code ext) s fn as = some r) : ∃ n, exShare (callN code ext n) s fn as = some r := by
 unfold exShare at *
 dsimp only at *
 generalize AV.ren.renL (place (order 0 (AV.refs.refsL as) s.mem)) as = l at *
 generalize s.mem.pickAll (order 0 (AV.refs.refsL as) s.mem) = q at *
 cases hc : callW code ext fn l q with
 | none => simp [hc] at h
 | some p => obtain ⟨n, hn⟩ := (zbx code ext).1 hc; simp only [hc] at h; exact ⟨n, by simp only [hn]; exact h⟩
theorem zec {s : St} {op : XOp} {r} (h : exOp (callW code ext) s op = some r) : ∃ n, exOp (callN code ext n) s op = some r := by
 have view : ∀ fn as, exView (callW code ext) s fn as = some r → ∃ n, exView (callN code ext n) s fn as = some r := by
  intro fn as h
  unfold exView at *
  cases ha : as.mapM (frz s.mem) with
  | none => simp [ha] at h
  | some l =>
   simp only [ha] at h ⊢
   cases hc : callW code ext fn l [] with
   | none => simp [hc] at h
   | some p => obtain ⟨n, hn⟩ := (zbx code ext).1 hc; simp only [hc] at h; exact ⟨n, by simp only [hn]; exact h⟩
 have own : ∀ fn as, exOwn (callW code ext) s fn as = some r → ∃ n, exOwn (callN code ext n) s fn as = some r := by
  intro fn as h
  unfold exOwn at *
  cases ha : as.mapM (frz s.mem) with
  | none => simp [ha] at h
  | some l =>
   simp only [ha] at h ⊢
   cases hc : callW code ext fn l [] with
   | none => simp [hc] at h
   | some p => obtain ⟨n, hn⟩ := (zbx code ext).1 hc; simp only [hc] at h; exact ⟨n, by simp only [hn]; exact h⟩
 have share : ∀ fn as, exShare (callW code ext) s fn as = some r → ∃ n, exShare (callN code ext n) s fn as = some r := fun fn as h => zeo code ext h
 have peek : ∀ fn as, exPeek (callW code ext) s fn as = some r → ∃ n, exPeek (callN code ext n) s fn as = some r := by
  intro fn as h
  unfold exPeek at *
  dsimp only at *
  generalize AV.ren.renL (place (order 0 (AV.refs.refsL as) s.mem)) as = l at *
  cases hc : callW code ext fn l (s.mem.pickAll (order 0 (AV.refs.refsL as) s.mem)) with
  | none => simp [hc] at h
  | some p => obtain ⟨n, hn⟩ := (zbx code ext).1 hc; simp only [hc] at h; exact ⟨n, by simp only [hn]; exact h⟩
 have look : ∀ fn as, exLook (callW code ext) s fn as = some r → ∃ n, exLook (callN code ext n) s fn as = some r := by
  intro fn as h
  unfold exLook at *
  dsimp only at *
  generalize AV.ren.renL (place (order 0 (AV.refs.refsL as) s.mem)) as = l at *
  cases hc : callW code ext fn l (s.mem.pickAll (order 0 (AV.refs.refsL as) s.mem)) with
  | none => simp [hc] at h
  | some p => obtain ⟨n, hn⟩ := (zbx code ext).1 hc; simp only [hc] at h; exact ⟨n, by simp only [hn]; exact h⟩
 have touch : ∀ fn as r, exTouch (callW code ext) s fn as = some r → ∃ n, exTouch (callN code ext n) s fn as = some r := by
  intro fn as r h
  unfold exTouch at *
  dsimp only at *
  generalize AV.ren.renL (place (order 0 (AV.refs.refsL as) s.mem)) as = l at *
  cases hc : callW code ext fn l (s.mem.pickAll (order 0 (AV.refs.refsL as) s.mem)) with
  | none => simp [hc] at h
  | some p => obtain ⟨n, hn⟩ := (zbx code ext).1 hc; simp only [hc] at h; exact ⟨n, by simp only [hn]; exact h⟩
 cases op with
 | call mode fn args =>
  cases mode with
  | view => exact view _ _ h
  | own => exact own _ _ h
  | share => exact share _ _ h
  | peek => exact peek _ _ h
  | look => exact look _ _ h
  | touch => exact touch _ _ _ h
 | callV f args =>
  simp only [exOp] at h ⊢
  split at h
  ·rename_i heq; exact share _ _ h
  ·rename_i heq; exact share _ _ h
  ·cases h
 | callP f args =>
  simp only [exOp] at h ⊢
  split at h
  ·rename_i heq; exact peek _ _ h
  ·cases h
 | callT f args w =>
  simp only [exOp] at h ⊢
  split at h
  ·split at h
   ·rename_i hx
    obtain ⟨n, hn⟩ := touch _ _ _ hx
    exact ⟨n, by rw [hn]; exact h⟩
   ·cases h
  ·cases h
 | _ => exact ⟨0, h⟩
theorem zd9 {s : St} {o : XO} {r} (h : exOne (callW code ext) s o = some r) : ∃ n, exOne (callN code ext n) s o = some r := by
 unfold exOne at *
 have hgo : ∀ (g : AV × St → St), (exOp (callW code ext) s o.op).map g = some r → ∃ n, (exOp (callN code ext n) s o.op).map g = some r := by
  intro g hg
  cases hx : exOp (callW code ext) s o.op with
  | none => simp [hx] at hg
  | some x => obtain ⟨n, hn⟩ := zec code ext hx; exact ⟨n, by rw [hn]; rwa [hx] at hg⟩
 dsimp only at *
 split at h
 ·exact hgo _ h
 ·split at h
  ·rename_i heq
   split at h
   ·rename_i hcb; simp only [hcb, if_true]; exact hgo _ h
   ·rename_i hcb; simp only [hcb, if_false]; exact ⟨0, h⟩
  ·exact ⟨0, h⟩
  ·cases h
theorem zee (l : List XO) : ∀ {s r}, exOps (callW code ext) s l = some r → ∃ n, exOps (callN code ext n) s l = some r := by
 induction l with
 | nil => intro s r h; exact ⟨0, h⟩
 | cons o l ih =>
  intro s r h
  simp only [exOps] at *
  cases hx : exOne (callW code ext) s o with
  | none => simp [hx] at h
  | some s' =>
   rw [hx] at h
   obtain ⟨n, hn⟩ := zd9 code ext hx
   obtain ⟨k, hk⟩ := ih h
   exact ⟨max n k, by rw [zea (zbt code ext (Nat.le_max_left n k)) hn]; exact zef (zbt code ext (Nat.le_max_right n k)) l hk⟩
theorem zna {f : St → Option (XExit × St)} {g : Nat → St → Option (XExit × St)} (hg : ∀ n m, n ≤ m → ∀ s r, g n s = some r → g m s = some r) (h : ∀ s r, f s = some r → ∃ n, g n s = some r) :
  ∀ (k : Nat) {s r}, rounds f k s = some r → ∃ n, rounds (g n) k s = some r := by
 intro k
 induction k with
 | zero => intro s r hr; simp [rounds] at hr
 | succ k ih =>
  intro s r hr
  simp only [rounds] at *
  cases hx : f s with
  | none => simp [hx] at hr
  | some p =>
   rw [hx] at hr
   obtain ⟨n, hn⟩ := h _ _ hx
   obtain ⟨e, s'⟩ := p
   cases e with
   | normal =>
    obtain ⟨j, hj⟩ := ih hr
    exact ⟨max n j, by rw [hg n _ (Nat.le_max_left n j) _ _ hn]; exact znb (hg j _ (Nat.le_max_right n j)) k k (Nat.le_refl k) hj⟩
   | exit id => exact ⟨n, by rw [hn]; exact hr⟩
   | ret => exact ⟨n, by rw [hn]; exact hr⟩
theorem zek {s : St} {f : Src} {ps keep : List Nat} {as b : XCode} {r} (h : exRange (callW code ext) s f ps keep as b = some r) : ∃ n, exRange (callN code ext n) s f ps keep as b = some r := by
 unfold exRange at *
 split at h
 ·rename_i heq
  split at h
  ·rename_i hst
   split at h
   ·rename_i hx
    obtain ⟨n, hn⟩ := zeo code ext hx
    exact ⟨n, by rw [if_pos hst, hn]; exact h⟩
   ·cases h
  ·cases h
 ·cases h
theorem zd4 (k : Nat) (x : XCode) : ∀ {s r}, exCode (callW code ext) k x s = some r → ∃ n, exCode (callN code ext n) k x s = some r := by
 induction x with
 | skip => intro s r h; exact ⟨0, h⟩
 | region keep ops =>
  intro s r h
  simp only [exCode] at *
  cases hx : exOps (callW code ext) s ops with
  | none => simp [hx] at h
  | some s' => rw [hx] at h; obtain ⟨n, hn⟩ := zee code ext ops hx; exact ⟨n, by rw [hn]; exact h⟩
 | lregion keep ops =>
  intro s r h
  simp only [exCode] at *
  cases hx : exOps (callW code ext) s (ops.map XO.unlit) with
  | none => simp [hx] at h
  | some s' => rw [hx] at h; obtain ⟨n, hn⟩ := zee code ext _ hx; exact ⟨n, by rw [hn]; exact h⟩
 | seq a b iha ihb =>
  intro s r h
  simp only [exCode] at *
  cases hx : exCode (callW code ext) k a s with
  | none => simp [hx] at h
  | some p =>
   rw [hx] at h
   obtain ⟨n, hn⟩ := iha hx
   obtain ⟨e, s'⟩ := p
   cases e with
   | normal =>
    obtain ⟨j, hj⟩ := ihb h
    exact ⟨max n j, by rw [zd5 (zbt code ext (Nat.le_max_left n j)) (Nat.le_refl k) a hn]; exact zd5 (zbt code ext (Nat.le_max_right n j)) (Nat.le_refl k) b hj⟩
   | exit id => exact ⟨n, by rw [hn]; exact h⟩
   | ret => exact ⟨n, by rw [hn]; exact h⟩
 | cond c a b iha ihb =>
  intro s r h
  simp only [exCode] at *
  split at h
  ·split at h
   ·rename_i ht; simp only [ht, if_true]; exact iha h
   ·rename_i ht; simp only [ht, if_false]; exact ihb h
  ·cases h
 | block id b ih =>
  intro s r h
  simp only [exCode] at *
  cases hx : exCode (callW code ext) k b s with
  | none => simp [hx] at h
  | some p => rw [hx] at h; obtain ⟨n, hn⟩ := ih hx; exact ⟨n, by rw [hn]; exact h⟩
 | loop keep b ih =>
  intro s r h
  simp only [exCode] at *
  exact zna (f := fun s => exCode (callW code ext) k b (s.tidy keep)) (g := fun n s => exCode (callN code ext n) k b (s.tidy keep)) (fun n m hnm s r hs => zd5 (zbt code ext hnm) (Nat.le_refl k) b hs) (fun s r hs => ih hs) k h
 | exit id => intro s r h; exact ⟨0, h⟩
 | ret => intro s r h; exact ⟨0, h⟩
 | rangeF f ps keep as b => intro s r h; simp only [exCode] at *; exact zek code ext h
theorem zc9 (s : St) : den code ext .skip s = some (.normal, s) := (zda code ext).2 ⟨0, rfl⟩
theorem zc2 (id : Nat) (s : St) : den code ext (.exit id) s = some (.exit id, s) := (zda code ext).2 ⟨0, rfl⟩
theorem zc7 (s : St) : den code ext .ret s = some (.ret, s) := (zda code ext).2 ⟨0, rfl⟩
theorem zj7 {α : Type} {a b : Option α} (h : ∀ r, a = some r ↔ b = some r) : a = b := by
 cases a with
 | none => cases b with
  | none => rfl
  | some y => exact absurd ((h y).2 rfl) (by simp)
 | some x => exact ((h x).1 rfl).symm
theorem zc6 (keep : List Nat) (ops : List XO) (s : St) :
  den code ext (.region keep ops) s = (exOps (callW code ext) s ops).map fun s' => (.normal, { s' with env := s'.env.keep keep }) := by
 refine zj7 fun r => ⟨fun h => ?_, fun h => (zda code ext).2 ⟨0, h⟩⟩
 obtain ⟨n, hn⟩ := (zda code ext).1 h
 exact hn
theorem zc4 (keep : List Nat) (ops : List XO) (s : St) :
  den code ext (.lregion keep ops) s = (exOps (callW code ext) s (ops.map XO.unlit)).map fun s' => (.normal, { s' with env := s'.env.keep keep }) := by
 refine zj7 fun r => ⟨fun h => ?_, fun h => (zda code ext).2 ⟨0, h⟩⟩
 obtain ⟨n, hn⟩ := (zda code ext).1 h
 exact hn
def andThen (p : Option (XExit × St)) (f : St → Option (XExit × St)) : Option (XExit × St) :=
 match p with
 | some (.normal, s) => f s
 | r => r
theorem zc8 (a b : XCode) (s : St) : den code ext (.seq a b) s = andThen (den code ext a s) (den code ext b) := by
 refine zj7 fun r => ⟨fun h => ?_, fun h => ?_⟩
 ·obtain ⟨n, hn⟩ := (zda code ext).1 h
  simp only [exCode] at hn
  cases hx : exCode (callW code ext) n a s with
  | none => simp [hx] at hn
  | some p =>
   rw [hx] at hn
   rw [(zda code ext).2 ⟨n, hx⟩]
   obtain ⟨e, s'⟩ := p
   cases e with
   | normal => exact (zda code ext).2 ⟨n, hn⟩
   | exit id => exact hn
   | ret => exact hn
 ·cases hx : den code ext a s with
  | none => simp [hx, andThen] at h
  | some p =>
   rw [hx] at h
   obtain ⟨n, hn⟩ := (zda code ext).1 hx
   obtain ⟨e, s'⟩ := p
   cases e with
   | normal =>
    obtain ⟨k, hk⟩ := (zda code ext).1 h
    refine (zda code ext).2 ⟨max n k, ?_⟩
    simp only [exCode]
    rw [zd5 (c := callW code ext) (fun _ _ _ _ h => h) (Nat.le_max_left n k) a hn]
    exact zd5 (c := callW code ext) (fun _ _ _ _ h => h) (Nat.le_max_right n k) b hk
   | exit id => exact (zda code ext).2 ⟨n, by simp only [exCode]; rw [hn]; exact h⟩
   | ret => exact (zda code ext).2 ⟨n, by simp only [exCode]; rw [hn]; exact h⟩
theorem zc1 (c : Src) (a b : XCode) (s : St) (t : Bool) (h : s.env.ev c = .imm (.val (.bool t))) : den code ext (.cond c a b) s = if t then den code ext a s else den code ext b s := by
 refine zj7 fun r => ⟨fun hr => ?_, fun hr => ?_⟩
 ·obtain ⟨n, hn⟩ := (zda code ext).1 hr
  simp only [exCode, h] at hn
  cases t
  ·exact (zda code ext).2 ⟨n, hn⟩
  ·exact (zda code ext).2 ⟨n, hn⟩
 ·cases t
  ·obtain ⟨n, hn⟩ := (zda code ext).1 hr
   exact (zda code ext).2 ⟨n, by simp only [exCode, h]; exact hn⟩
  ·obtain ⟨n, hn⟩ := (zda code ext).1 hr
   exact (zda code ext).2 ⟨n, by simp only [exCode, h]; exact hn⟩
def blockOut (id : Nat) (p : Option (XExit × St)) : Option (XExit × St) :=
 match p with
 | some (.exit j, s) => if j = id then some (.normal, s) else some (.exit j, s)
 | r => r
theorem zc0 (id : Nat) (b : XCode) (s : St) : den code ext (.block id b) s = blockOut id (den code ext b s) := by
 refine zj7 fun r => ⟨fun h => ?_, fun h => ?_⟩
 ·obtain ⟨n, hn⟩ := (zda code ext).1 h
  simp only [exCode] at hn
  cases hx : exCode (callW code ext) n b s with
  | none => simp [hx] at hn
  | some p => rw [(zda code ext).2 ⟨n, hx⟩]; rw [hx] at hn; exact hn
 ·cases hx : den code ext b s with
  | none => simp [hx, blockOut] at h
  | some p =>
   obtain ⟨n, hn⟩ := (zda code ext).1 hx
   rw [hx] at h
   exact (zda code ext).2 ⟨n, by simp only [exCode]; rw [hn]; exact h⟩
theorem zc3 (keep : List Nat) (b : XCode) (s : St) : den code ext (.loop keep b) s = andThen (den code ext b (s.tidy keep)) (den code ext (.loop keep b)) := by
 refine zj7 fun r => ⟨fun h => ?_, fun h => ?_⟩
 ·obtain ⟨n, hn⟩ := (zda code ext).1 h
  simp only [exCode] at hn
  cases n with
  | zero => simp [rounds] at hn
  | succ n =>
   simp only [rounds] at hn
   cases hx : exCode (callW code ext) (n + 1) b (s.tidy keep) with
   | none => simp [hx] at hn
   | some p =>
    rw [(zda code ext).2 ⟨n + 1, hx⟩]
    rw [hx] at hn
    obtain ⟨e, s'⟩ := p
    cases e with
    | normal => exact (zda code ext).2 ⟨n + 1, by simp only [exCode]; exact znb (fun _ _ h => h) n (n + 1) (Nat.le_succ n) hn⟩
    | exit id => exact hn
    | ret => exact hn
 ·cases hx : den code ext b (s.tidy keep) with
  | none => simp [hx, andThen] at h
  | some p =>
   rw [hx] at h
   obtain ⟨n, hn⟩ := (zda code ext).1 hx
   obtain ⟨e, s'⟩ := p
   cases e with
   | normal =>
    obtain ⟨k, hk⟩ := (zda code ext).1 h
    refine (zda code ext).2 ⟨max n k + 1, ?_⟩
    simp only [exCode, rounds] at hk ⊢
    rw [zd5 (c := callW code ext) (d := callW code ext) (fun _ _ _ _ h => h) (m := max n k + 1) (by omega) b hn]
    exact znb (fun s r hs => zd5 (c := callW code ext) (d := callW code ext) (fun _ _ _ _ h => h) (by omega) b hs) k (max n k) (by omega) hk
   | exit id =>
    refine (zda code ext).2 ⟨n + 1, ?_⟩
    simp only [exCode, rounds]
    rw [zd5 (c := callW code ext) (d := callW code ext) (fun _ _ _ _ h => h) (m := n + 1) (by omega) b hn]
    exact h
   | ret =>
    refine (zda code ext).2 ⟨n + 1, ?_⟩
    simp only [exCode, rounds]
    rw [zd5 (c := callW code ext) (d := callW code ext) (fun _ _ _ _ h => h) (m := n + 1) (by omega) b hn]
    exact h
def funOut (f : XFun) (p : Option (XExit × St)) : Option (AV × Mem) :=
 match p with
 | some (.normal, s) | some (.ret, s) => leave s f
 | _ => none
theorem zbw {fn : Nat} {f : XFun} (hf : code fn = some f) (as : List AV) (m : Mem) :
  callW code ext fn as m = funOut f (den code ext f.body { k := m.length, env := enter 0 as, mem := m }) := by
 refine zj7 fun r => ⟨fun h => ?_, fun h => ?_⟩
 ·obtain ⟨n, hn⟩ := (zbx code ext).1 h
  cases n with
  | zero => simp [callN] at hn
  | succ n =>
   simp only [callN, hf, exFun] at hn
   cases hx : exCode (callN code ext n) n f.body { k := m.length, env := enter 0 as, mem := m } with
   | none => simp [hx] at hn
   | some p =>
    rw [(zda code ext).2 ⟨n, zd5 (zad code ext n) (Nat.le_refl n) f.body hx⟩]
    rw [hx] at hn
    exact hn
 ·cases hx : den code ext f.body { k := m.length, env := enter 0 as, mem := m } with
  | none => simp [hx, funOut] at h
  | some p =>
   rw [hx] at h
   obtain ⟨n, hn⟩ := (zda code ext).1 hx
   obtain ⟨k, hk⟩ := zd4 code ext n f.body hn
   refine (zbx code ext).2 ⟨max n k + 1, ?_⟩
   simp only [callN, hf, exFun]
   rw [zd5 (zbt code ext (Nat.le_max_right n k)) (Nat.le_max_left n k) f.body hk]
   exact h
theorem zbv {fn : Nat} (hf : code fn = none) (hy : fn ≠ yieldNo) (as : List AV) (m : Mem) : callW code ext fn as m = ext fn as m := by
 refine zj7 fun r => ⟨fun h => ?_, fun h => (zbx code ext).2 ⟨1, by simpa [callN, hf, hy] using h⟩⟩
 obtain ⟨n, hn⟩ := (zbx code ext).1 h
 cases n with
 | zero => simp [callN] at hn
 | succ n => simpa [callN, hf, hy] using hn
theorem zc5 (f : Src) (ps keep : List Nat) (as b : XCode) (s : St) : den code ext (.rangeF f ps keep as b) s = exRange (callW code ext) s f ps keep as b := by
 refine zj7 fun r => ⟨fun h => ?_, fun h => (zda code ext).2 ⟨0, h⟩⟩
 obtain ⟨n, hn⟩ := (zda code ext).1 h
 exact hn
theorem zem {args : List AV} {m : Mem} {r} (h : exRound (den code ext) args m = some r) : ∃ n k, exRound (exCode (callN code ext n) k) args m = some r := by
 have one : ∀ {x s r}, den code ext x s = some r → ∃ n, ∀ j, n ≤ j → exCode (callN code ext j) j x s = some r := by
  intro x s r hx
  obtain ⟨k, hk⟩ := (zda code ext).1 hx
  obtain ⟨n, hn⟩ := zd4 code ext k _ hk
  exact ⟨max n k, fun j hj => zd5 (zbt code ext (by omega)) (by omega) x hn⟩
 unfold exRound at *
 split at h
 ·split at h
  ·rename_i heq
   split at h
   ·rename_i hl
    split at h
    ·rename_i hx
     obtain ⟨n, hn⟩ := one hx
     split at h
     ·rename_i heq2
      split at h
      ·rename_i hx2
       obtain ⟨k, hk⟩ := one hx2
       refine ⟨max n k, max n k, ?_⟩
       simp only [heq, hl, if_true, hn _ (Nat.le_max_left n k), heq2, hk _ (Nat.le_max_right n k)]
       exact h
      ·cases h
     ·cases h
    ·cases h
   ·cases h
  ·cases h
 ·cases h
theorem zby (hf : code yieldNo = none) (as : List AV) (m : Mem) : callW code ext yieldNo as m = exRound (den code ext) as m := by
 refine zj7 fun r => ⟨fun h => ?_, fun h => ?_⟩
 ·obtain ⟨n, hn⟩ := (zbx code ext).1 h
  cases n with
  | zero => simp [callN] at hn
  | succ n =>
   simp only [callN, hf, if_true] at hn
   exact zen (fun x s r hx => (zda code ext).2 ⟨n, zd5 (zad code ext n) (Nat.le_refl n) x hx⟩) hn
 ·obtain ⟨n, k, hn⟩ := zem code ext h
  refine (zbx code ext).2 ⟨max n k + 1, ?_⟩
  simp only [callN, hf, if_true]
  exact zen (fun x s r hx => zd5 (zbt code ext (Nat.le_max_left n k)) (Nat.le_max_right n k) x hx) hn
end
end Go.EX


set_option linter.unusedVariables false
set_option linter.unusedSimpArgs false
namespace Go.EX
section
variable {num : Names} {P : Program}
def exitOf : XExit → Exit
 | .normal => .normal
 | .exit id => .exit id
 | .ret => .ret
theorem zpz {C : Cx} {s : St} {a : Act} (hs : SRep num C s a) (keep : List Nat) : ∃ D, D.w = C.w ∧ Later num s.k C s.mem a D (s.tidy keep) a := by
 obtain ⟨D, hw, h1, h2, h3⟩ := zp0 hs keep
 exact ⟨D, hw, h1, h2, h3, rfl, fun lo _ h => h.step hs.mem h2⟩
theorem zhr {C D : Cx} {m : Mem} {k : Nat} {s : St} {a a' : Act} (h : Later num k C m a D s a') (keep : List Nat) : Later num k C m a D { s with env := s.env.keep keep } a' :=
 ⟨⟨h.rep.mem, h.rep.env.keep keep, h.rep.k⟩, h.step, h.k, h.size, h.marks⟩
theorem zbh {call : Calls'} {n : Nat} {xc : XCode} {s : St} (h : (.cond (.c .nilFunc) .skip .skip : XCode) = xc.wipe) : exCode call n xc s = none := by
 cases xc <;> simp only [XCode.wipe, reduceCtorEq, XCode.cond.injEq] at h
 obtain ⟨rfl, _, _⟩ := h
 rfl
theorem zl2 {call : Calls'} (hcall : CallOK num P call) (hL : ∀ a b ps N as bs, LoopOK P num a b ps N as bs → num.L a b ps N as bs) {f : Operand} {f' : Src} (hf : trSrc num f = some f') {ps : Array Tmp} {keep : List Nat} {as b : Code} {xa xb : XCode} {N : Nat}
  (hok : xa.still = true → xb.still = true → LoopOK P num as b ps.toList N xa xb) {s s' : St} {e : XExit} {a : Act} {C : Cx} {Q : Exit → Act → World → Prop} (h : exRange call s f' ps.toList keep xa xb = some (e, s')) (hs : SRep num C s a) (hN : N ≤ a.tmps.size)
  (hQ : ∀ D a', Later num s.k C s.mem a D s' a' → Q (exitOf e) a' D.w) : (Code.rangeFunc f ps as b).wpIn (fz none) 0 P Q a C.w := by
 unfold exRange at h
 split at h
 case h_2 => cases h
 rename_i it caps heq
 split at h
 case isFalse => cases h
 rename_i hst
 rw [Bool.and_eq_true] at hst
 split at h
 case h_2 => cases h
 rename_i rr s2 hx
 split at h
 case h_2 => cases h
 rename_i e2 p2 a2 b2 ho2
 cases h
 have hm := hs.mem
 have hlen := hm.len
 refine wpIn_rangeFunc fun fn _ => ?_
 have hfv := zpc hs hf
 rw [heq] at hfv
 generalize hu : a.eval f = u at hfv
 cases hfv with
 | clo g _ vs hcl hcr =>
  generalize hR : ({ state := .ready, pending := none, fn := fn, tmps := a.tmps, params := ps, assign := as, body := b, defers := C.w.heap.size } : Loop) = R
  generalize hCa : ({ σ := C.σ, I := C.I, n := C.n, w := C.w.alloc (.deferred (some [])) } : Cx) = Ca
  have hsa : Step num s.k C s.mem Ca s.mem := by
   rw [← hCa]
   exact zex (w' := C.w.alloc (.deferred (some []))) (J := C.I) hm rfl rfl rfl (by simp) (fun c hc => by rw [zaw, if_neg (by omega)]) (fun _ h => h) (fun _ h => .inl h) (fun c hc => by have := hm.bd c hc; simp; omega) hs.k
  have hta : Tr some C Ca := by
   rw [← hCa]
   exact ext_tr (w' := C.w.alloc (.deferred (some []))) (J := C.I) hm (fun c hc => by rw [zaw, if_neg (by omega)]) fun _ h => h
  have hwa : Ca.w = C.w.alloc (.deferred (some [])) := by rw [← hCa]
  have hna : Ca.n = C.n := by rw [← hCa]
  have hsza : Ca.w.heap.size = C.w.heap.size + 1 := by rw [hwa]; simp
  have htr := zji hsa.rep rfl (.loop R)
  have hor : ORep num (Ca.more Ca.w (.loop R)) Ca.n (.loop (s.env.keep keep) ps.toList xa xb false) := by
   refine ⟨R, N, ?_, by rw [← hR]; rfl, by rw [← hR], by rw [← hR], by rw [← hR]; exact hN, by rw [← hR]; exact hL _ _ _ _ _ _ (hok hst.1 hst.2), fun p hp => ?_⟩
   ·simp only [Cx.more, if_true]
    rw [zaw, if_pos rfl]
   ·obtain ⟨t, _, rfl⟩ := List.mem_map.1 hp
    have hRt : R.tmps = a.tmps := by rw [← hR]
    rw [hRt]
    exact ((hs.env t).mono hta).mono htr
  have hs2 := zjh hsa.rep (k := s.k) rfl rfl rfl rfl (.loop R) _ hor hs.k
  generalize hC2 : Ca.more Ca.w (.loop R) = C2 at hs2 htr hor
  have hw2 : C2.w = (C.w.alloc (.deferred (some []))).alloc (.loop R) := by rw [← hC2, ← hwa]; rfl
  have hσ2 : C2.σ s.mem.length = C.w.heap.size + 1 := by
   rw [← hC2, hlen, ← hna]; simp only [Cx.more, if_true]; exact hsza
  have hn2 : C2.n = C.n + 1 := by rw [← hC2, ← hna]; rfl
  have hI2 : C2.I = C.I := by rw [← hC2, ← hCa]; rfl
  have hstep2 : Step num s.k C s.mem C2 (s.mem ++ [.loop (s.env.keep keep) ps.toList xa xb false]) := hsa.trans hs2
  have hs1 : SRep num C2 { k := s.mem.length + 1, env := s.env, mem := s.mem ++ [.loop (s.env.keep keep) ps.toList xa xb false] } a :=
   ⟨hs2.rep, (hs.env.mono hta).mono htr, by simp⟩
  have hl2 : (AV.yld s.mem.length :: caps).length = (#[Value.func (.yield (C2.σ s.mem.length)) #[] #[]] ++ vs).size := by
   rw [List.length_cons, Array.size_append, hcl]; simp; omega
  have hr2 : ∀ (j : Nat) (x : AV) (u : Value), (AV.yld s.mem.length :: caps)[j]? = some x → (#[Value.func (.yield (C2.σ s.mem.length)) #[] #[]] ++ vs)[j]? = some u → ARep num C2 x u := by
   intro j x u hx hu'
   cases j with
   | zero =>
    rw [Array.getElem?_append_left (by simp)] at hu'
    simp at hx hu'; subst hx hu'; exact .yld _ (by omega)
   | succ j =>
    rw [List.getElem?_cons_succ] at hx
    rw [Array.getElem?_append_right (by simp)] at hu'
    exact ((hcr j x u hx (by simpa using hu')).mono hta).mono htr
  obtain ⟨l, rv, mc, hc, hmc, hl1, hr1, hback⟩ := zov hs1 hl2 hr2 hx
  obtain ⟨hcb, hcs⟩ := hcall.fn g _ _ rv mc _ _ hc hmc hl1 hr1
  obtain ⟨fn', e1, e3, e4⟩ := hcb
  obtain ⟨body, hb⟩ := Option.isSome_iff_exists.1 e4
  rw [hσ2] at hcs
  refine ⟨C.w.heap.size + 1, [{ target := .collected C.w.heap.size, args := #[] }], C2.w, { target := .fn (.func g) vs, args := #[] ++ #[Value.func (.yield (C.w.heap.size + 1)) #[] #[]] }, C2.w, g, #[Value.func (.yield (C.w.heap.size + 1)) #[] #[]] ++ vs, C2.w,
   by rw [hw2, ← hR]; exact run_enterLoop_outer _ _ _ _ _, by simp [resolve, Deferred.ofValue, hu, show ∀ v, a.eval (.const v) = v from fun _ => rfl], fun _ _ => trivial, by simp [invoke, callFunc, e1, e3, hb], fun h => (by cases h), ?_⟩
  refine CallsIn.mono (F := fz none) (n := 0 - 1) ((callsIn_wide (n := 0 - 1)).2 hcs) ?_
  rintro e' w' ⟨v, D, rfl, rfl, hstD, hrv⟩
  obtain ⟨E, hEw, hstE, henvE, _, hkE⟩ := hback v D hstD hrv
  rw [← hEw]
  obtain ⟨o0, ho0, _, hσE⟩ := hstE.same s.mem.length (Nat.lt_succ_self _) _ ho2 rfl
  rw [hσ2] at hσE
  obtain ⟨R2, N2, hR2, hst2, hpd2, _⟩ := hstE.rep.obj _ _ ho2
  rw [hσE] at hR2
  refine ⟨_, _, run_endLoop hR2 (by rw [hst2]; simp), ?_⟩
  split
  case h_2 c hc2 => rw [hpd2] at hc2; cases hc2
  have hdead := ziv hstE.rep ho2 (ob := .loop { R2 with state := .exhausted }) (o' := .dead) trivial rfl (k := s.mem.length + 1) hstE.len
  rw [hσE] at hdead
  have hTr : Tr some E { E with w := E.w.putObj (C.w.heap.size + 1) (.loop { R2 with state := .exhausted }) } := by
   refine zlv ?_ fun arr e fz h => by rw [hR2] at h; cases h
   rw [← hσE]
   exact hstE.rep.imm _ ⟨_, _, ho2, rfl, rfl⟩
  show Q .normal { a with defers := [{ target := .collected C.w.heap.size, args := #[] }] ++ a.defers } (E.w.putObj (C.w.heap.size + 1) (.loop { R2 with state := .exhausted }))
  refine hQ { E with w := E.w.putObj (C.w.heap.size + 1) (.loop { R2 with state := .exhausted }) } { a with defers := [{ target := .collected C.w.heap.size, args := #[] }] ++ a.defers } ⟨⟨hdead.rep, henvE.mono hTr, ?_⟩, hstep2.trans ((hstE.le ?_).trans (hdead.le ?_)), rfl, rfl, fun lo hlo hmk => ?_⟩
  ·have h5 : s.mem.length + 1 ≤ s2.mem.length := hstE.len
   have := hs.k; simp; omega
  ·have := hs.k; simp; omega
  ·have := hs.k; omega
  ·obtain ⟨rs, g1, g2, g3⟩ := hmk
   have hmk2 : Marked lo C2 ([{ target := .collected C.w.heap.size, args := #[] }] ++ a.defers) := by
    refine ⟨C.w.heap.size :: rs, by rw [g1]; rfl, List.nodup_cons.2 ⟨fun h => ?_, g2⟩, fun r hr => ?_⟩
    ·have := (Array.getElem?_eq_some_iff.1 (g3 _ h).2.1).1; omega
    ·rcases List.mem_cons.1 hr with rfl | hr
     ·refine ⟨hlo, ?_, fun h => ?_⟩
      ·rw [hw2, zaw, if_neg (by simp), zaw, if_pos rfl]
      ·rw [hI2] at h; have := hm.bd _ h; omega
     ·obtain ⟨q1, q2, q3⟩ := g3 r hr
      have := (Array.getElem?_eq_some_iff.1 q2).1
      refine ⟨q1, ?_, by rw [hI2]; exact q3⟩
      rw [hw2, zaw, if_neg (by simp; omega), zaw, if_neg (by omega)]
      exact q2
   exact (hmk2.step hs2.rep hstE).step hstE.rep hdead
theorem zci {ro : Option Nat} {call : Calls'} (hcall : CallOK num P call) (hmix : P.follows .mixedOrders = true) (hL : ∀ a b ps N as bs, LoopOK P num a b ps N as bs → num.L a b ps N as bs) {N n : Nat} : ∀ (c : Code) (xc : XCode) {s s' : St} {e : XExit} {a : Act} {C : Cx} {Q : Exit → Act → World → Prop}, tr P num N c = xc.wipe → drawsOk c xc = true → (ro = none ∨ xc.still = true) →
  exCode call n xc s = some (e, s') → SRep num C s a → N ≤ a.tmps.size → (∀ D a', Later num s.k C s.mem a D s' a' → Q (exitOf e) a' D.w) → c.wpIn (fz ro) 0 P Q a C.w := by
 intro c
 induction c with
 | skip =>
  intro xc s s' e a C Q htr _ _ h hs _ hQ
  cases xc <;> simp only [tr, XCode.wipe, reduceCtorEq] at htr
  cases h
  exact wpIn_skip (hQ C a (.refl hs))
 | exit id =>
  intro xc s s' e a C Q htr _ _ h hs _ hQ
  cases xc <;> simp only [tr, XCode.wipe, reduceCtorEq, XCode.exit.injEq] at htr
  subst htr
  cases h
  exact wpIn_exit (hQ C a (.refl hs))
 | ret =>
  intro xc s s' e a C Q htr _ _ h hs _ hQ
  cases xc <;> simp only [tr, XCode.wipe, reduceCtorEq] at htr
  cases h
  exact wpIn_ret (hQ C a (.refl hs))
 | region id ops draw =>
  intro xc s s' e a C Q htr hd hro h hs hN hQ
  cases xc <;> simp only [tr, XCode.wipe, reduceCtorEq, XCode.region.injEq, true_and] at htr
  case lregion keep xs =>
   simp only [exCode] at h
   cases hx : exOps call s (xs.map XO.unlit) with
   | none => rw [hx] at h; cases h
   | some s1 =>
    rw [hx] at h
    cases h
    exact ziw hcall hmix htr hd hs hN hx fun D a' hl => hQ D a' (zhr hl keep)
  rename_i keep xs
  simp only [exCode] at h
  cases hx : exOps call s xs with
  | none => rw [hx] at h; cases h
  | some s1 =>
   rw [hx] at h
   cases h
   exact zmf hcall hmix htr hd hs hN hx fun D a' hl => hQ D a' (zhr hl keep)
 | seq x y ihx ihy =>
  intro xc s s' e a C Q htr hd hro h hs hN hQ
  cases xc <;> simp only [tr, XCode.wipe, reduceCtorEq, XCode.seq.injEq] at htr
  rename_i x' y'
  simp only [drawsOk, Bool.and_eq_true] at hd
  simp only [exCode] at h
  cases hx : exCode call n x' s with
  | none => rw [hx] at h; cases h
  | some p =>
   obtain ⟨e1, s1⟩ := p
   rw [hx] at h
   refine wpIn_seq (ihx x' htr.1 hd.1 (hro.imp id fun h => (Bool.and_eq_true_iff.1 h).1) hx hs hN fun D a' hl => ?_)
   cases e1 with
   | normal =>
    simp only [exitOf, Exit.then]
    exact ihy y' htr.2 hd.2 (hro.imp id fun h => (Bool.and_eq_true_iff.1 h).2) h hl.rep (by rw [hl.size]; exact hN) fun E a'' hl' => hQ E a'' (hl.trans (by rw [hl.k] at hl'; exact hl'))
   | exit id => cases h; exact hQ D a' hl
   | ret => cases h; exact hQ D a' hl
 | cond o x y ihx ihy =>
  intro xc s s' e a C Q htr hd hro h hs hN hQ
  simp only [tr] at htr
  split at htr
  ·rename_i o' ho
   cases xc <;> simp only [XCode.wipe, reduceCtorEq, XCode.cond.injEq] at htr
   rename_i o'' x' y'
   obtain ⟨rfl, h1, h2⟩ := htr
   simp only [drawsOk, Bool.and_eq_true] at hd
   simp only [exCode] at h
   split at h
   ·rename_i t ht
    have hv := zpd hs ho ht
    refine wpIn_cond hv ?_
    cases t with
    | true => simp only [if_true] at h ⊢; exact ihx x' h1 hd.1 (hro.imp id fun h => (Bool.and_eq_true_iff.1 h).1) h hs hN hQ
    | false => simp only [Bool.false_eq_true, if_false] at h ⊢; exact ihy y' h2 hd.2 (hro.imp id fun h => (Bool.and_eq_true_iff.1 h).2) h hs hN hQ
   ·cases h
  ·rw [zbh htr] at h; cases h
 | block id b ih =>
  intro xc s s' e a C Q htr hd hro h hs hN hQ
  cases xc <;> simp only [tr, XCode.wipe, reduceCtorEq, XCode.block.injEq] at htr
  rename_i id' b'
  obtain ⟨rfl, htr⟩ := htr
  simp only [drawsOk] at hd
  simp only [exCode] at h
  cases hx : exCode call n b' s with
  | none => rw [hx] at h; cases h
  | some p =>
   obtain ⟨e1, s1⟩ := p
   rw [hx] at h
   refine wpIn_block (ih b' htr hd hro hx hs hN fun D a' hl => ?_)
   cases e1 with
   | normal => cases h; exact hQ D a' hl
   | exit j =>
    simp only at h
    split at h
    ·rename_i hj; cases h; simp only [exitOf, Exit.inBlock, hj, if_true]; exact hQ D a' hl
    ·rename_i hj; cases h; simp only [exitOf, Exit.inBlock, hj, if_false]; exact hQ D a' hl
   | ret => cases h; exact hQ D a' hl
 | loop b ih =>
  intro xc s s' e a C Q htr hd hro h hs hN hQ
  cases xc <;> simp only [tr, XCode.wipe, reduceCtorEq, XCode.loop.injEq, true_and] at htr
  rename_i keep b'
  simp only [drawsOk] at hd
  simp only [exCode] at h
  have key : ∀ (m : Nat) (s : St) (a : Act) (C : Cx), rounds (fun s => exCode call n b' (s.tidy keep)) m s = some (e, s') → SRep num C s a → N ≤ a.tmps.size → (∀ D a', Later num s.k C s.mem a D s' a' → Q (exitOf e) a' D.w) → Code.roundsIn (fz ro) 0 P b Q m a C.w := by
   intro m
   induction m with
   | zero => intro s a C h; cases h
   | succ m ihm =>
    intro s a C h hs hN hQ
    simp only [rounds] at h
    obtain ⟨D0, hw, h0⟩ := zpz hs keep
    rw [roundsIn_succ, ← hw]
    cases hx : exCode call n b' (s.tidy keep) with
    | none => rw [hx] at h; cases h
    | some p =>
     obtain ⟨e1, s1⟩ := p
     rw [hx] at h
     refine ih b' htr hd hro hx h0.rep hN fun D a' hl => ?_
     rw [h0.k] at hl
     have hl := h0.trans hl
     cases e1 with
     | normal =>
      simp only [exitOf, Exit.then]
      exact ihm s1 a' D h hl.rep (by rw [hl.size]; exact hN) fun E a'' hl' => hQ E a'' (hl.trans (by rw [hl.k] at hl'; exact hl'))
     | exit id => cases h; exact hQ D a' hl
     | ret => cases h; exact hQ D a' hl
  exact wpIn_loop_rounds n (key n s a C h hs hN hQ)
 | scope b ih =>
  intro xc s s' e a C Q htr hd hro h hs hN hQ
  simp only [tr] at htr
  simp only [drawsOk] at hd
  refine zri (ih xc htr hd hro h hs hN fun D a' hl => ?_)
  have := hQ D a' hl
  cases e <;> exact this
 | label l =>
  intro xc s s' e a C Q htr _ _ h hs _ hQ
  cases xc <;> simp only [tr, XCode.wipe, reduceCtorEq] at htr
  cases h
  exact wpIn_label (hQ C a (.refl hs))
 | rangeFunc f ps x y =>
  intro xc s s' e a C Q htr hd hro h hs hN hQ
  simp only [tr] at htr
  split at htr
  ·rename_i f' hf
   split at htr
   ·rename_i hps
    cases xc <;> simp only [XCode.wipe, reduceCtorEq, XCode.rangeF.injEq, true_and] at htr
    rename_i f'' ps'' keep xa xb
    obtain ⟨rfl, rfl, ha, hb⟩ := htr
    simp only [drawsOk, Bool.and_eq_true] at hd
    rcases hro with rfl | hro
    ·exact zl2 hcall hL hf (fun h1 h2 => ⟨ha, hb, hd.1, hd.2, h1, h2, hps⟩) h hs hN hQ
    ·cases hro
   ·rw [zbh htr] at h; cases h
  ·rw [zbh htr] at h; cases h
 | _ =>
  intro xc s s' e a C Q htr _ _ h
  simp only [tr] at htr
  rw [zbh htr] at h; cases h
structure FunOK (P : Program) (num : FuncId → Nat) (f : FuncId) (xf : XFun) : Prop where
 fn : ∃ fn c, P.funcs[f]? = some fn ∧ fn.name ≠ "runtime.NumGoroutine" ∧ fn.body = some c ∧ tr P num fn.ntmps c = xf.body.wipe ∧ drawsOk c xf.body = true ∧ fn.results.toList.map (trRes P) = xf.res ∧ (∀ t ty, ResultVar.cell t ty ∈ fn.results → known P ty = true)
def resKnown (P : Program) : ResultVar → Bool
 | .tmp _ => true
 | .cell _ ty => known P ty
theorem FunOK.of {num : FuncId → Nat} {f : FuncId} {xf : XFun} {fn : Func} (h : P.funcs[f]? = some fn) (hn : (fn.name == "runtime.NumGoroutine") = false) (ht : fn.body.map (tr P num fn.ntmps) = some xf.body.wipe) (hd : fn.body.map (drawsOk · xf.body) = some true)
  (hr : fn.results.toList.map (trRes P) = xf.res) (hk : fn.results.toList.all (resKnown P) = true) : FunOK P num f xf := by
 cases hb : fn.body with
 | none => rw [hb] at ht; cases ht
 | some c =>
  rw [hb] at ht hd
  refine ⟨fn, c, h, by simpa using hn, hb, Option.some.inj ht, Option.some.inj hd, hr, fun t ty hm => ?_⟩
  exact List.all_eq_true.1 hk _ (Array.mem_toList_iff.2 hm)
def resSem (tmps : Array Value) : ResultVar → Sem Value
 | .tmp t => pure (tmps.getD t undef)
 | .cell a t => do loadVar t (← asAddr (tmps.getD a undef))
theorem zm0 (fn : Func) (tmps : Array Value) : results fn tmps = (do let vs ← fn.results.mapM (resSem tmps); pure (if h : vs.size = 1 then vs[0] else .tuple vs)) := by
 rfl
theorem znx {fn : Func} {tmps : Array Value} {C : Cx} {s : St} {vs : List AV} (hm : MRep num C s.mem) (he : ERep num C s.env tmps) (hk : ∀ t ty, ResultVar.cell t ty ∈ fn.results → known P ty = true) (h : (fn.results.toList.map (trRes P)).mapM (resOf s) = some vs) :
  ∃ v, (results fn tmps).run P C.w = .ok v C.w ∧ ARep num C (wrapRes vs) v := by
 have key : ∀ (l : List ResultVar) (vs : List AV), (∀ t ty, ResultVar.cell t ty ∈ l → known P ty = true) → (l.map (trRes P)).mapM (resOf s) = some vs →
   ∃ us : List Value, (l.mapM (resSem tmps)).run P C.w = .ok us C.w ∧ vs.length = us.length ∧ ∀ (j : Nat) (x : AV) (u : Value), vs[j]? = some x → us[j]? = some u → ARep num C x u := by
  intro l
  induction l with
  | nil => intro vs _ h; simp at h; subst h; exact ⟨[], by simp, rfl, fun j x u hx _ => by simp at hx⟩
  | cons r l ih =>
   intro vs hk h
   simp only [List.map_cons, List.mapM_cons, Option.bind_eq_bind, Option.pure_def] at h
   cases hr : resOf s (trRes P r) with
   | none => rw [hr] at h; simp at h
   | some x =>
    rw [hr] at h
    cases hrest : (l.map (trRes P)).mapM (resOf s) with
    | none => rw [hrest] at h; simp at h
    | some xs =>
     rw [hrest] at h
     simp at h
     subst h
     obtain ⟨us, h1, h2, h3⟩ := ih xs (fun t ty hm => hk t ty (List.mem_cons_of_mem _ hm)) hrest
     have hone : ∃ u, (resSem tmps r).run P C.w = .ok u C.w ∧ ARep num C x u := by
      cases r with
      | tmp t => simp only [trRes, resOf, Option.some.injEq] at hr; subst hr; exact ⟨tmps.getD t undef, by simp only [resSem, Sem.run_pure], he t⟩
      | cell t ty =>
       simp only [trRes, resOf] at hr
       obtain ⟨b, o, u, hv, h4, h5⟩ := znu (hk t ty (List.mem_cons_self ..)) hm (he t) hr
       refine ⟨u, ?_, h5⟩
       simp only [resSem, hv, asAddr, Sem.run_bind, Sem.run_pure, Result.andThen_ok, h4]
     obtain ⟨u, h4, h5⟩ := hone
     refine ⟨u :: us, ?_, by simp [h2], fun j y z hy hz => ?_⟩
     ·rw [List.mapM_cons]
      simp [h4, h1]
     ·cases j with
      | zero => simp at hy hz; subst hy; subst hz; exact h5
      | succ j => exact h3 j y z (by simpa using hy) (by simpa using hz)
 obtain ⟨us, h1, h2, h3⟩ := key fn.results.toList vs (fun t ty hm => hk t ty (Array.mem_toList_iff.1 hm)) h
 have hrun : (results fn tmps).run P C.w = .ok (if h : us.toArray.size = 1 then us.toArray[0] else .tuple us.toArray) C.w := by
  rw [zm0, Array.mapM_eq_mapM_toList]
  simp [h1]
 refine ⟨_, hrun, ?_⟩
 cases vs with
 | nil =>
  have : us = [] := by simpa using h2.symm
  subst this
  exact .tup [] #[] rfl fun j x u hx _ => by simp at hx
 | cons x r =>
  cases us with
  | nil => simp at h2
  | cons u us =>
   cases r with
   | nil =>
    have : us = [] := by simpa using h2.symm
    subst this
    exact h3 0 x u rfl rfl
   | cons y r =>
    cases us with
    | nil => simp at h2
    | cons u' us =>
     simp only [wrapRes]
     rw [dif_neg (by simp)]
     exact .tup _ _ (by simpa using h2) fun j x u hx hu => h3 j x u hx (by simpa using hu)
theorem zdp : ∀ (l : List AV) (i t : Nat), (enter i l).get t = if i ≤ t then (l[t - i]?).getD .junk else .junk
 | [], i, t => by simp [enter, Env.get]
 | x :: r, i, t => by
  simp only [enter, Env.get]
  by_cases h : t = i
  ·subst h; simp
  ·rw [if_neg h, zdp r (i + 1) t]
   by_cases h' : i ≤ t
   ·have h1 : i + 1 ≤ t := by omega
    have h2 : t - i = (t - (i + 1)) + 1 := by omega
    rw [if_pos h', if_pos h1, h2]; simp
   ·rw [if_neg h', if_neg (by omega)]
theorem zrh {F : Fence} {n : Nat} {c : Code} {Q Q' : Exit → Act → World → Prop} {a : Act} {w : World} (h : c.wpIn F n P Q a w) (hq : ∀ e a w, Q e a w → Q' e a w) : c.wpIn F n P Q' a w := Code.wpIn_mono hq h
theorem zic {fn : Func} {k : Nat} {C : Cx} {m m1 : Mem} {e : Env} {tmps : Array Value} {R : Ending → World → Prop} : ∀ {ds : List Deferred} {D : Cx}, Step num k C m D m1 → ERep num D e tmps → Marked C.w.heap.size D ds →
  (∀ D, Step num k C m D m1 → ERep num D e tmps → ∃ v, (results fn tmps).run P D.w = .ok v D.w ∧ R (.returned v) D.w) → LeavesInM Fence.wide 0 P fn tmps R ds .returning D.w := by
 intro ds
 induction ds with
 | nil => intro D hst hen _ h; exact h D hst hen
 | cons d ds ih =>
  intro D hst hen hmk h
  obtain ⟨rs, h1, h2, h3⟩ := hmk
  cases rs with
  | nil => cases h1
  | cons r rs =>
   simp only [List.map_cons, List.cons.injEq] at h1
   obtain ⟨rfl, rfl⟩ := h1
   obtain ⟨hr, hrs⟩ := List.nodup_cons.1 h2
   obtain ⟨g1, g2, g3⟩ := h3 r (List.mem_cons_self ..)
   have hc : ∀ arr e fz, D.w.heap[r]? ≠ some (.cells arr e fz) := fun arr e fz h => by rw [g2] at h; cases h
   have hown : ¬ Own D m1 r := fun ho => by
    rcases zkn hst.rep ho with ⟨_, _, _, h⟩ | ⟨_, _, h⟩ | ⟨_, h⟩ | ⟨_, _, h⟩ <;> rw [g2] at h <;> cases h
   refine ⟨by simp, .inl ⟨r, D.w.putObj r (.deferred none), rfl, run_takeDeferred g2, ?_⟩⟩
   refine ih (D := { D with w := D.w.putObj r (.deferred none) }) (zlu hst g1 g3 hc hown) (hen.mono (zlv g3 hc)) ⟨rs, rfl, hrs, fun q hq => ?_⟩ h
   obtain ⟨q1, q2, q3⟩ := h3 q (List.mem_cons_of_mem _ hq)
   exact ⟨q1, (World.putObj_heap_other fun h => hr (by rw [← h]; exact hq)).trans q2, q3⟩
theorem zm9 {call : Calls'} (hcall : CallOK num P call) (hmix : P.follows .mixedOrders = true) (hL : ∀ a b ps N as bs, LoopOK P num a b ps N as bs ↔ num.L a b ps N as bs) {n : Nat} {args : List AV} {m m' : Mem} {r : AV} {C : Cx} {l : Nat} {vals : Array Value}
  (h : exRound (exCode call n) args m = some (r, m')) (hm : MRep num C m) (hlen : args.length = vals.size + 1) (h0 : ∀ x, args[0]? = some x → ARep num C x (.func (.yield l) #[] #[]))
  (hr : ∀ (j : Nat) (x : AV) (u : Value), args[j + 1]? = some x → vals[j]? = some u → ARep num C x u) :
  ∃ fn tmps assign body, (Instr.yield l vals).run P C.w = .ok (.round l fn tmps assign body) C.w ∧
   RoundIn Fence.wide 0 P l fn tmps assign body C.w (fun e w' => ∃ v D, e = .returned v ∧ D.w = w' ∧ Step num m.length C m D m' ∧ ARep num D r v) := by
 unfold exRound at h
 split at h
 case h_2 => cases h
 rename_i id xs
 split at h
 case h_2 => cases h
 rename_i env ps as b ho
 split at h
 case isFalse => cases h
 rename_i hxs
 split at h
 case h_2 => cases h
 rename_i s1 hx1
 split at h
 case h_2 => cases h
 rename_i e1 p1 a1 b1 ho1
 split at h
 case h_2 => cases h
 rename_i s2 hx2
 split at h
 case h_2 => cases h
 rename_i e2 p2 a2 b2 ho2
 cases h
 have hy := h0 _ rfl
 cases hy with
 | yld _ hid =>
  have hidm : id < m.length := (List.getElem?_eq_some_iff.1 ho).1
  obtain ⟨R, N, hR, hst, hpd, hps, hN, hLo, hen⟩ := hm.obj id _ ho
  obtain ⟨t1, t2, d1, d2, l1, l2, hpN⟩ := (hL _ _ _ _ _ _).2 hLo
  have hxv : xs.length = vals.size := by simpa using hlen
  have hsz : vals.size = R.params.size := by rw [← hxv, hxs, ← hps]; simp
  refine ⟨R.fn, _, R.assign, R.body, run_yield hR hsz, ?_⟩
  have htm : (R.params.zip vals).foldl (fun tmps (x : Tmp × Value) => tmps.setIfInBounds x.1 x.2) R.tmps = (ps.zip vals.toList).foldl (fun t p => t.setIfInBounds p.1 p.2) R.tmps := by
   rw [← hps, ← Array.toList_zip, ← Array.foldl_toList]
  have hpl : ∀ p ∈ ps, p < N := fun p hp => by simpa using List.all_eq_true.1 hpN p hp
  have hen0 : ERep num C (env.enterAt ps xs) ((ps.zip vals.toList).foldl (fun t p => t.setIfInBounds p.1 p.2) R.tmps) :=
   zdo ps xs vals.toList (zdz hen) (fun p hp => Nat.lt_of_lt_of_le (hpl p hp) hN) (by simp [hxv]) fun j x u hx hu => hr j x u (by simpa using hx) (by simpa using hu)
  generalize hq : (ps.zip vals.toList).foldl (fun t p => t.setIfInBounds p.1 p.2) R.tmps = tm at htm hen0
  have htsz : tm.size = R.tmps.size := by rw [← hq]; exact zfq _ _
  refine roundIn_of_wpIn (F := Fence.wide) (n := 0) trivial ?_
  rw [show ((R.params.zip vals).foldl (fun tmps (x : Tmp × Value) => match x with | (t, a) => tmps.setIfInBounds t a) R.tmps) = tm from htm]
  have hs0 : SRep num C { k := m.length, env := env.enterAt ps xs, mem := m } { tmps := tm, defers := [] } := ⟨hm, hen0, Nat.le_refl _⟩
  refine zci (ro := some (C.σ id)) hcall hmix (fun a b ps N as bs => (hL a b ps N as bs).1) R.assign as t1 d1 (.inr l1) hx1 hs0 (by rw [htsz]; exact hN) fun D1 c1 hl1 => ?_
  obtain ⟨_, _, _, hσ1⟩ := hl1.step.same id hidm _ ho1 rfl
  obtain ⟨R1, N1, hR1, hst1, hpd1, hps1, hN1, hLo1, hen1⟩ := hl1.rep.mem.obj id _ ho1
  have hbusy : ORep num { D1 with w := D1.w.putObj (D1.σ id) (.loop { R1 with state := .busy }) } id (.loop e1 p1 a1 b1 true) := by
   refine ⟨{ R1 with state := .busy }, N1, World.putObj_heap_same (Array.getElem?_eq_some_iff.1 hR1).1, rfl, hpd1, hps1, hN1, hLo1, fun p hp => (hen1 p hp).mono (zlv (hl1.rep.mem.imm _ ⟨_, _, ho1, rfl, rfl⟩) fun arr e fz h => by rw [hR1] at h; cases h)⟩
  have hs1 := ziv hl1.rep.mem ho1 hbusy rfl (k := m.length) (by have := hl1.rep.k; rw [hl1.k] at this; exact this)
  have hD1 : D1.w.heap[C.σ id]? = some (.loop R1) := by rw [← hσ1]; exact hR1
  rw [hσ1] at hs1
  refine ⟨_, run_beginRound hD1 hst1, ?_⟩
  have hk1 := hl1.rep.k
  rw [hl1.k] at hk1
  have hs2 : SRep num { D1 with w := D1.w.putObj (C.σ id) (.loop { R1 with state := .busy }) } { k := s1.k, env := s1.env, mem := s1.mem.set id (.loop e1 p1 a1 b1 true) } c1 :=
   ⟨hs1.rep, hl1.rep.env.mono (zlv (by rw [← hσ1]; exact hl1.rep.mem.imm _ ⟨_, _, ho1, rfl, rfl⟩) fun arr e fz h => by rw [hD1] at h; cases h), by simp [hl1.k]; exact hk1⟩
  refine zci (ro := some (C.σ id)) hcall hmix (fun a b ps N as bs => (hL a b ps N as bs).1) R.body b t2 d2 (.inr l2) hx2 hs2 (by rw [hl1.size, htsz]; exact hN) fun D2 c2 hl2 => ?_
  have hl2k : s2.k = m.length := hl2.k.trans hl1.k
  obtain ⟨_, _, _, hσ2⟩ := hl2.step.same id (by show id < s1.k; rw [hl1.k]; exact hidm) _ ho2 rfl
  have hσ2' : D2.σ id = C.σ id := hσ2.trans hσ1
  obtain ⟨R2, N2, hR2, hst2, hpd2, hps2, hN2, hLo2, hen2⟩ := hl2.rep.mem.obj id _ ho2
  have hfree : ORep num { D2 with w := D2.w.putObj (D2.σ id) (.loop { R2 with state := .ready, pending := none }) } id (.loop e2 p2 a2 b2 false) := by
   refine ⟨{ R2 with state := .ready, pending := none }, N2, World.putObj_heap_same (Array.getElem?_eq_some_iff.1 hR2).1, rfl, rfl, hps2, hN2, hLo2, fun p hp => (hen2 p hp).mono (zlv (hl2.rep.mem.imm _ ⟨_, _, ho2, rfl, rfl⟩) fun arr e fz h => by rw [hR2] at h; cases h)⟩
  have hk2 := hl2.rep.k
  rw [hl2k] at hk2
  have hs3 := ziv hl2.rep.mem ho2 hfree rfl (k := m.length) hk2
  have hD2 : D2.w.heap[C.σ id]? = some (.loop R2) := by rw [← hσ2']; exact hR2
  rw [hσ2'] at hs3
  have hall : Step num m.length C m { D2 with w := D2.w.putObj (C.σ id) (.loop { R2 with state := .ready, pending := none }) } (s2.mem.set id (.loop e2 p2 a2 b2 false)) :=
   hl1.step.trans (hs1.trans ((hl2.step.le (by show m.length ≤ s1.k; rw [hl1.k]; exact Nat.le_refl _)).trans hs3))
  refine ⟨_, _, run_endRound none hD2, ?_⟩
  show ∃ (v : Value) (D : Cx), Ending.returned (.bool true) = .returned v ∧ D.w = D2.w.putObj (C.σ id) (.loop { R2 with state := .ready, pending := none }) ∧ _
  unfold Mem.trim
  split
  ·exact ⟨.bool true, _, rfl, rfl, hall, .imm _ _ (.val _ rfl)⟩
  ·have hp := zk4 hall.rep (k := m.length) (by simp; exact hk2) []
   exact ⟨.bool true, _, rfl, rfl, hall.trans hp, .imm _ _ (.val _ rfl)⟩
theorem fun_ok {call : Calls'} (hcall : CallOK num P call) (hmix : P.follows .mixedOrders = true) (hL : ∀ a b ps N as bs, LoopOK P num a b ps N as bs → num.L a b ps N as bs) {n : Nat} {f : FuncId} {xf : XFun} (hf : FunOK P num f xf) {args : List AV} {m m' : Mem} {r : AV} {C : Cx} {vals : Array Value} (h : exFun call n xf args m = some (r, m')) (hm : MRep num C m) (hl : args.length = vals.size)
  (hr : ∀ (j : Nat) (x : AV) (u : Value), args[j]? = some x → vals[j]? = some u → ARep num C x u) :
  Callable P f ∧ Calls P f vals C.w (fun e w' => ∃ v D, e = .returned v ∧ D.w = w' ∧ Step num m.length C m D m' ∧ ARep num D r v) := by
 obtain ⟨fn, c, h1, h2, h3, h4, h5, h6, h7⟩ := hf.fn
 refine ⟨⟨fn, h1, h2, by rw [h3]; rfl⟩, (callsIn_wide (n := 0)).1 (callsIn_of_wp_marks h1 h3 trivial ?_)⟩
 generalize ha : ({ tmps := vals ++ Array.replicate (fn.ntmps - vals.size) undef, defers := [] } : Act) = a
 have hN : fn.ntmps ≤ a.tmps.size := by rw [← ha]; simp; omega
 have hs : SRep num C { k := m.length, env := enter 0 args, mem := m } a := by
  refine ⟨hm, fun t => ?_, Nat.le_refl _⟩
  rw [zdp]
  simp only [Nat.zero_le, if_true, Nat.sub_zero]
  cases hx : args[t]? with
  | none => exact .junk _
  | some x =>
   have ht : t < vals.size := by rw [← hl]; exact (List.getElem?_eq_some_iff.1 hx).1
   have : a.tmps.getD t undef = vals[t] := by
    rw [← ha]
    simp only [Array.getD_eq_getD_getElem?, Array.getElem?_append, if_pos ht]
    simp [ht]
   rw [this]
   exact hr t x vals[t] hx (by simp [ht])
 have hmk0 : Marked C.w.heap.size C a.defers := ⟨[], by rw [← ha]; rfl, List.nodup_nil, fun r hr => by cases hr⟩
 have hdone : ∀ {s : St}, leave s xf = some (r, m') → ∀ D a', Later num m.length C m a D s a' → LeavesInM Fence.wide 0 P fn a'.tmps (fun e w' => ∃ v D, e = .returned v ∧ D.w = w' ∧ Step num m.length C m D m' ∧ ARep num D r v) a'.defers .returning D.w := by
  intro s hlv D a' hlat
  refine zic hlat.step hlat.rep.env (hlat.marks _ (Nat.le_refl _) hmk0) fun D hst hen => ?_
  unfold leave at hlv
  cases hv : xf.res.mapM (resOf s) with
  | none => rw [hv] at hlv; cases hlv
  | some vs =>
   rw [hv] at hlv
   rw [← h6] at hv
   obtain ⟨v, hrun, hx⟩ := znx hst.rep hen h7 hv
   refine ⟨v, hrun, v, ?_⟩
   simp only [Option.map_some] at hlv
   split at hlv
   ·cases hlv
    exact ⟨D, rfl, rfl, hst, hx⟩
   ·cases hlv
    have hst1 := zk4 hst.rep (k := s.k) hlat.rep.k (wrapRes vs).refs
    have hst' : Step num m.length D s.mem (D.pick (order s.k (wrapRes vs).refs s.mem)) (s.mem.pickAll (order s.k (wrapRes vs).refs s.mem)) := hst1.le (by rw [hlat.k]; exact Nat.le_refl _)
    exact ⟨D.pick (order s.k (wrapRes vs).refs s.mem), rfl, rfl, hst.trans hst', hx.tr (zk6 _)⟩
 unfold exFun at h
 split at h
 ·rename_i s hx
  exact zrh (zci (ro := none) hcall hmix hL c xf.body h4 h5 (.inl rfl) hx hs hN (Q := fun e a' w => ∃ D, e = .normal ∧ D.w = w ∧ Later num m.length C m a D s a') fun D a' hlat => ⟨D, rfl, rfl, hlat⟩) fun e a' w ⟨D, h1, h2, h3⟩ => by
   subst h1 h2; exact hdone h D a' h3
 ·rename_i s hx
  exact zrh (zci (ro := none) hcall hmix hL c xf.body h4 h5 (.inl rfl) hx hs hN (Q := fun e a' w => ∃ D, e = .ret ∧ D.w = w ∧ Later num m.length C m a D s a') fun D a' hlat => ⟨D, rfl, rfl, hlat⟩) fun e a' w ⟨D, h1, h2, h3⟩ => by
   subst h1 h2; exact hdone h D a' h3
 ·cases h
structure Runs (P : Program) (num : Names) (code : Nat → Option XFun) (ext : Calls') : Prop where
 mix : P.follows .mixedOrders = true
 fns : ∀ f xf, code (num f) = some xf → FunOK P num f xf
 ext : ExtOK num P ext
 nz : ∀ f, num f ≠ yieldNo
 yld : code yieldNo = none
 loops : ∀ a b ps N as bs, LoopOK P num a b ps N as bs ↔ num.L a b ps N as bs
 seat : ∀ e n off, liesB P e n off = true → num.B e n off
 byte : ∀ e, isU8 P e = true → P.cellsOf e = 1 → num.U e
theorem zn1 {code : Nat → Option XFun} {ext : Calls'} (h : Runs P num code ext) : ∀ n, CallOK num P (callN code ext n)
 | 0 => ⟨fun f args m r m' C vals hc => (by cases hc), fun args m r m' C l vals hc => (by cases hc), h.seat, h.byte⟩
 | n + 1 => by
  refine ⟨fun f args m r m' C vals hc hm hl hr => ?_, fun args m r m' C l vals hc hm hl h0 hr => ?_, h.seat, h.byte⟩
  ·simp only [callN] at hc
   cases hf : code (num f) with
   | none => rw [hf] at hc; simp only [h.nz f, if_false] at hc; exact h.ext f args m r m' C vals hc hm hl hr
   | some xf => rw [hf] at hc; exact fun_ok (zn1 h n) h.mix (fun a b ps N as bs => (h.loops a b ps N as bs).1) (h.fns f xf hf) hc hm hl hr
  ·simp only [callN, h.yld, if_true] at hc
   exact zm9 (zn1 h n) h.mix h.loops hc hm hl h0 hr
theorem zn2 {code : Nat → Option XFun} {ext : Calls'} (h : Runs P num code ext) : CallOK num P (callW code ext) := by
 refine ⟨fun f args m r m' C vals hc hm hl hr => ?_, fun args m r m' C l vals hc hm hl h0 hr => ?_, h.seat, h.byte⟩
 ·obtain ⟨n, hn⟩ := (zbx code ext).1 hc
  exact (zn1 h n).fn f args m r m' C vals hn hm hl hr
 ·obtain ⟨n, hn⟩ := (zbx code ext).1 hc
  exact (zn1 h n).yld args m r m' C l vals hn hm hl h0 hr
end
end Go.EX


set_option linter.unusedVariables false
set_option linter.unusedSimpArgs false
namespace Go.EX
open Go.RowKit
section
variable {num : Names} {P : Program} {code : Nat → Option XFun} {ext : Calls'}
def Cx.whole (w : World) : Cx := { σ := fun _ => 0, I := fun b => b < w.heap.size, n := 0, w := w }
theorem zrb (w : World) (hG : num.G (fun b => b < w.heap.size) w) : MRep num (Cx.whole w) [] :=
 ⟨rfl, fun id o h => by simp at h, fun i j o p h => by simp at h, fun b ⟨id, o, h, _⟩ => by simp at h, fun b h => h, hG⟩
end
end Go.EX


set_option linter.unusedVariables false
set_option linter.unusedSimpArgs false
namespace Go.EX
open Go.RowKit
structure Ty (α : Type) where
 sz : Nat
 agg : Bool
 enc : α → List IV
 wf : α → Prop
 len : ∀ x, (enc x).length = sz
def tInt (k : IntKind) : Ty Int := ⟨1, false, fun n => [.val (.int k n)], fun n => (Lit.int k n).wf = true, fun _ => rfl⟩
def Reads {α : Type} (t : Ty α) (iv : IV) (xs : List α) : Prop :=
 (∀ x ∈ xs, t.wf x) ∧ xs.length ≤ 140737488355328 ∧ ((iv = .val (.slice none 0 0) ∧ xs = []) ∨
  ∃ row off cap, iv = .slice row off xs.length cap ∧ (∀ c, cap = some c → xs.length ≤ c) ∧ cut row off (xs.length * t.sz) = some (xs.flatMap t.enc))
structure Sl {α : Type} (t : Ty α) where
 iv : IV
 xs : List α
 ok : Reads t iv xs
def tSl {α : Type} (t : Ty α) : Ty (Sl t) := ⟨1, false, fun s => [s.iv], fun _ => True, fun _ => rfl⟩
def Ty.av {α : Type} (t : Ty α) (x : α) : AV := if t.agg then .agg ((t.enc x).map .imm) else match t.enc x with
 | [y] => .imm y
 | _ => .junk
def ReadsAs {α : Type} (P : Program) (t : TypeId) (τ : Ty α) : Prop :=
 ∀ {H : Type} (enc : TypeId × Value → H) (w : World) (spare : Nat → Bool) (_ : ∀ b, spare b = true) (fuel : Nat) (cs : List Value) (x : DataW H × List MemPlace), DataW.trod enc P w 0 spare true fuel t cs = some x → (DataW.weights P t x.1).all (· ≤ reachBytes) = true →
  ∃ d : α, τ.wf d ∧ cs.length = τ.sz ∧ ∀ (j : Nat) (y : IV) (u : Value), (τ.enc d)[j]? = some y → cs[j]? = some u → IRep (fun b => b < w.heap.size) w y u
section
variable {P : Program} {t : TypeId}
theorem readsInt {k : IntKind} (ht : P.underlying t = some (.int k)) : ReadsAs P t (tInt k) := by
 intro H enc w spare hsp fuel cs x h hwt
 obtain ⟨n, rfl, _, hw⟩ := DataW.trod_int ht h
 refine ⟨n, hw, rfl, fun j y u hy hu => ?_⟩
 cases j with
 | zero => simp [tInt] at hy hu; subst hy; subst hu; exact .val _ rfl
 | succ j => simp [tInt] at hy
theorem cells?_get {w : World} {base : Nat} {a : Addr} {n : Nat} {cs : List Value} (h : w.cells? base a n = some cs) : cs.length = n ∧ ∀ j, j < n → w.cell? (a.add j) = cs[j]? := by
 unfold World.cells? at h
 split at h
 ·refine ⟨by simpa using mapM_some_length h, fun j hj => ?_⟩
  exact mapM_some_get h j j (by simp [hj])
 ·cases h
theorem zfk {α β : Type} (f : α → List β) (n : Nat) (hn : 0 < n) (hf : ∀ x, (f x).length = n) : ∀ (l : List α) (j : Nat), (l.flatMap f)[j]? = (l[j / n]?).bind fun x => (f x)[j % n]?
 | [], j => by simp
 | x :: r, j => by
  rw [List.flatMap_cons, List.getElem?_append, hf x]
  by_cases h : j < n
  ·rw [if_pos h, Nat.div_eq_of_lt h, Nat.mod_eq_of_lt h]; rfl
  ·rw [if_neg h, zfk f n hn hf r (j - n)]
   have h1 : j / n = (j - n) / n + 1 := by
    rw [← Nat.div_eq_sub_div hn (by omega)]
   have h2 : j % n = (j - n) % n := Nat.mod_eq_sub_mod (by omega)
   rw [h1, h2]; rfl
theorem zfl {α β : Type} (f : α → List β) (n : Nat) (hf : ∀ x, (f x).length = n) : ∀ (l : List α), (l.flatMap f).length = l.length * n
 | [] => by simp
 | x :: r => by rw [List.flatMap_cons, List.length_append, hf x, zfl f n hf r, List.length_cons, Nat.add_mul, Nat.one_mul, Nat.add_comm]
theorem zcq {α : Type} (l : List α) {n : Nat} (h : l.length = n) : cut l 0 n = some l := by
 subst h
 simp [cut]
theorem zca {α : Type} (n : Nat) (p : Nat → α → Prop) (h : ∀ i, i < n → ∃ x, p i x) : ∃ l : List α, l.length = n ∧ ∀ i x, l[i]? = some x → p i x := by
 induction n with
 | zero => exact ⟨[], rfl, fun i x hx => by simp at hx⟩
 | succ n ih =>
  obtain ⟨l, h1, h2⟩ := ih fun i hi => h i (by omega)
  obtain ⟨x, hx⟩ := h n (by omega)
  refine ⟨l ++ [x], by simp [h1], fun i y hy => ?_⟩
  rw [List.getElem?_append] at hy
  split at hy
  ·exact h2 i y hy
  ·have : i = n := by
    have := (List.getElem?_eq_some_iff.1 hy).1
    simp at this; omega
   subst this
   simp [h1] at hy
   subst hy; exact hx
theorem zra {H : Type} {e : TypeId} : ∀ (l : List (DataW H)), (DataW.weightsAll P e l).all (· ≤ reachBytes) = true → ∀ (i : Nat) (d : DataW H), l[i]? = some d → (DataW.weights P e d).all (· ≤ reachBytes) = true
 | [], _, i, d, h => by simp at h
 | x :: l, hw, i, d, h => by
  simp only [DataW.weightsAll, List.all_append, Bool.and_eq_true] at hw
  cases i with
  | zero => simp at h; subst h; exact hw.1
  | succ i => exact zra l hw.2 i d (by simpa using h)
theorem readsSl {α : Type} {e : TypeId} {τ : Ty α} (ht : P.underlying t = some (.slice e)) (he : ReadsAs P e τ) (hc : P.cellsOf e = τ.sz) (h0 : 0 < τ.sz) (hby : 0 < P.bytesOf e) : ReadsAs P t (tSl τ) := by
 intro H enc w spare hsp fuel cs x h hwt
 have hlt := DataW.trod_lt _ _ _ _ h
 rcases DataW.trod_slice ht h with ⟨rfl, _⟩ | ⟨a, len, cap, elems, rest, n, _, rfl, rfl, hb, hl, hm, hel, h1, h2, _⟩
 ·refine ⟨⟨.val (.slice none 0 0), [], fun x hx => (by cases hx), by simp, .inl ⟨rfl, rfl⟩⟩, trivial, rfl, fun j y u hy hu => ?_⟩
  cases j with
  | zero => simp [tSl] at hy hu; subst hy; subst hu; exact .val _ rfl
  | succ j => simp [tSl] at hy
 ·obtain ⟨hr, h3⟩ := h2 (hsp _)
  simp only [DataW.weights, ht, List.all_cons, List.all_append, Bool.and_eq_true, decide_eq_true_eq, List.length_map] at hwt
  have hlong : elems.length + rest.length ≤ reachBytes := Nat.le_trans (Nat.le_mul_of_pos_right _ hby) hwt.1
  have hwe := hwt.2.1
  have hone : ∀ i, i < len → ∃ d : α, τ.wf d ∧ ∀ j y, (τ.enc d)[j]? = some y → ∃ u, w.cell? ((a.add (i * τ.sz)).add j) = some u ∧ IRep (fun b => b < w.heap.size) w y u := by
   intro i hi
   have h4 := h1 i hi
   have hei : ∃ z, elems[i]? = some z := by
    have hie : i < elems.length := by omega
    exact ⟨_, List.getElem?_eq_getElem hie⟩
   obtain ⟨z, hz⟩ := hei
   rw [hz] at h4
   rw [Option.bind_eq_some_iff] at h4
   obtain ⟨cs, h5, h6⟩ := h4
   obtain ⟨d, hd, hlen, hrep⟩ := he enc w spare hsp n cs z h6 (zra _ hwe i z.1 (by rw [List.getElem?_map, hz]; rfl))
   obtain ⟨h7, h8⟩ := cells?_get h5
   refine ⟨d, hd, fun j y hy => ?_⟩
   have hj : j < cs.length := by
    rw [hlen]
    have := (List.getElem?_eq_some_iff.1 hy).1
    rw [τ.len] at this; exact this
   refine ⟨cs[j], ?_, hrep j y _ hy (List.getElem?_eq_getElem hj)⟩
   have := h8 j (by rw [← h7]; exact hj)
   rw [hc] at this
   rw [this]; exact List.getElem?_eq_getElem hj
  obtain ⟨xs, hxl, hxs⟩ := zca len _ hone
  have hmax : xs.length ≤ 140737488355328 := by have e : reachBytes = 140737488351232 := rfl; omega
  refine ⟨⟨.slice (xs.flatMap τ.enc) 0 xs.length (some cap), xs, fun x hx => ?_, by omega, .inr ⟨_, 0, some cap, rfl, fun c hc => by cases hc; omega, zcq _ (zfl _ _ τ.len xs)⟩⟩, trivial, rfl, fun j y u hy hu => ?_⟩
  ·obtain ⟨i, hi, rfl⟩ := List.mem_iff_getElem.1 hx
   exact (hxs i _ (List.getElem?_eq_getElem hi)).1
  cases j with
  | succ j => simp [tSl] at hy
  | zero =>
   simp [tSl] at hy hu; subst hy; subst hu
   by_cases hcap : cap = 0
   ·subst hcap
    have : len = 0 := by omega
    subst this
    rw [hxl]
    exact .vac _ 0 a
   ·have hblk : a.block < w.heap.size := by
     have hin : MemPlace.cell a.block a.off ∈ MemPlace.row a ((elems.length + rest.length) * P.cellsOf e) := by
      simp only [MemPlace.row, List.mem_map, List.mem_range]
      refine ⟨0, ?_, by simp⟩
      exact Nat.mul_pos (by omega) (by omega)
     exact hlt _ (List.mem_append_left _ hin)
    have hspot : a.spot = none := by
     have : ∃ z cs, w.cells? 0 a (P.cellsOf e) = some cs ∧ z = cs := by
      by_cases hl0 : 0 < len
      ·have h4 := h1 0 hl0
       have hie : 0 < elems.length := by omega
       rw [List.getElem?_eq_getElem hie, Option.bind_eq_some_iff] at h4
       obtain ⟨cs, h5, _⟩ := h4
       simp [Addr.add] at h5
       exact ⟨cs, cs, h5, rfl⟩
      ·have h4 := h3 0 (by omega)
       have hie : 0 < rest.length := by omega
       rw [List.getElem?_eq_getElem hie, Option.bind_eq_some_iff] at h4
       obtain ⟨cs, h5, _⟩ := h4
       have : len = 0 := by omega
       subst this
       simp [Addr.add] at h5
       exact ⟨cs, cs, h5, rfl⟩
     obtain ⟨_, cs, h5, _⟩ := this
     obtain ⟨h7, h8⟩ := cells?_get h5
     have h9 := h8 0 (by omega)
     have hj : 0 < cs.length := by omega
     rw [List.getElem?_eq_getElem hj] at h9
     have := World.cell?_spot h9
     simpa [Addr.add] using this
    obtain ⟨b, o, sp⟩ := a
    simp only at hspot
    subst hspot
    have hcell : ∀ j y, (xs.flatMap τ.enc)[j]? = some y → ∃ u, w.cell? ⟨b, o + j, none⟩ = some u ∧ IRep (fun b => b < w.heap.size) w y u := by
     intro j y hy
     rw [zfk _ _ h0 τ.len, Option.bind_eq_some_iff] at hy
     obtain ⟨d, hd, hy⟩ := hy
     obtain ⟨u, hu, hr⟩ := (hxs _ _ hd).2 _ _ hy
     refine ⟨u, ?_, hr⟩
     rw [zam, zam] at hu
     rw [← hu]
     congr 2
     have := Nat.div_add_mod j τ.sz
     rw [Nat.mul_comm] at this
     omega
    rw [← hxl]
    refine IRep.slice (I := fun b => b < w.heap.size) (xs.flatMap τ.enc) 0 xs.length (some cap) b o cap o (fun j => (w.cell? ⟨b, o + j, none⟩).getD undef) hblk (fun j y hy => ?_) (fun j y hy => ?_) (by omega) (fun k hk => by cases hk; rfl) (.inl rfl)
    ·obtain ⟨u, hu, _⟩ := hcell j y hy
     simp only [hu]; rfl
    ·obtain ⟨u, hu, hr⟩ := hcell j y hy
     simp only [hu]; exact hr
end
end Go.EX


set_option linter.unusedVariables false
set_option linter.unusedSimpArgs false
namespace Go.EX
attribute [simp] List.range_succ funOut zc8 zc6 zc4 XO.unlit XOp.unlit zc7 zc1 zc2 zc9 zc0 blockOut andThen exOps exOne exOp Env.ev Env.get Env.keep enter AV.cells fresh loadAt getCells getCellsI valBin boolBin intBin shiftBin strBin valUn intOf bndOf bounds
 storeAt imms leave resOf wrapRes order reach Mem.refs AObj.refs AV.refs AV.refs.refsL Mem.pickAll AObj.ren AV.ren AV.ren.renL place fillAll mkObj imZ sameCells St.tidy Env.roots Env.ren AV.plain1 AV.plain2 AV.plain AV.own1 AV.own2 AV.own IV.plain AObj.own AObj.live AV.isImm exView exOwn exShare shareOk AObj.isFix exPeek exLook frz frz.frz1 frzV AObj.moved AObj.orMoved shareAt St.scrub isKeyAV zeroAV
@[simp] theorem lenOf_nil : lenOf (.imm (.val (.slice none 0 0))) = some 0 := rfl
@[simp] theorem lenOf_slice (row : List IV) (off len : Nat) (cap : Option Nat) : lenOf (.imm (.slice row off len cap)) = some len := rfl
@[simp] theorem lenOf_osl (id off sz len : Nat) (cap : Option Nat) : lenOf (.osl id off sz len cap) = some len := rfl
@[simp] theorem capOf_slice (row : List IV) (off len : Nat) (cap : Option Nat) : capOf (.imm (.slice row off len cap)) = cap := rfl
@[simp] theorem capOf_osl (id off sz len : Nat) (cap : Option Nat) : capOf (.osl id off sz len cap) = cap := rfl
@[simp] theorem isNil_slice (row : List IV) (off len : Nat) (cap : Option Nat) : isNil (.imm (.slice row off len cap)) = some false := rfl
@[simp] theorem isNil_ptr (row : List IV) (off : Nat) : isNil (.imm (.ptr row off)) = some false := rfl
@[simp] theorem isNil_osl (id off sz len : Nat) (cap : Option Nat) : isNil (.osl id off sz len cap) = some false := rfl
@[simp] theorem isNil_optr (id off : Nat) : isNil (.optr id off) = some false := rfl
@[simp] theorem isNil_omap (id : Nat) : isNil (.omap id) = some false := rfl
@[simp] theorem isNil_pnone : isNil (.imm (.val (.pointer none))) = some true := rfl
@[simp] theorem isNilK_snone : isNilK 0 (.imm (.val (.slice none 0 0))) = some true := rfl
@[simp] theorem isNilK_slice (row : List IV) (off len : Nat) (cap : Option Nat) : isNilK 0 (.imm (.slice row off len cap)) = some false := rfl
@[simp] theorem isNilK_osl (id off sz len : Nat) (cap : Option Nat) : isNilK 0 (.osl id off sz len cap) = some false := rfl
@[simp] theorem isNilK_pnone : isNilK 1 (.imm (.val (.pointer none))) = some true := rfl
@[simp] theorem isNilK_ptr (row : List IV) (off : Nat) : isNilK 1 (.imm (.ptr row off)) = some false := rfl
@[simp] theorem isNilK_optr (id off : Nat) : isNilK 1 (.optr id off) = some false := rfl
@[simp] theorem int_beq (a b : Int) : (a == b) = decide (a = b) := by by_cases h : a = b <;> simp [h]
theorem zbs {a b : ByteArray} (h : a.toList = b.toList) : a = b := by
 have e : ∀ c : ByteArray, c.toList = c.data.toList := ByteArray.toList_eq
 rw [e, e] at h
 cases a; cases b
 simp at h
 exact congrArg ByteArray.mk h
@[simp] theorem bytes_beq (a b : ByteArray) : (a.toList == b.toList) = decide (a = b) := by
 by_cases h : a = b
 ·subst h; simp
 ·have : a.toList ≠ b.toList := fun e => h (zbs e)
  simp [h, this]
@[simp] theorem cut_zero {β : Type} (l : List β) : cut l 0 0 = some [] := by simp [cut]
@[simp] theorem cut_cons_zero {β : Type} (x : β) (l : List β) (n : Nat) : cut (x :: l) 0 (n + 1) = (cut l 0 n).map (x :: ·) := by
 simp only [cut, List.drop_zero, List.take_succ_cons, List.length_cons]
 by_cases h : (l.take n).length = n
 ·rw [if_pos h, if_pos (by omega)]; rfl
 ·rw [if_neg h, if_neg (by omega)]; rfl
@[simp] theorem cut_cons_succ {β : Type} (x : β) (l : List β) (o n : Nat) : cut (x :: l) (o + 1) n = cut l o n := by simp [cut]
@[simp] theorem setAll_nil {β : Type} (l : List β) (o : Nat) : setAll l o [] = l := rfl
@[simp] theorem setAll_cons_succ {β : Type} (x : β) : ∀ (ys l : List β) (o : Nat), setAll (x :: l) (o + 1) ys = x :: setAll l o ys
 | [], l, o => rfl
 | y :: ys, l, o => by rw [setAll, List.set_cons_succ, setAll_cons_succ x ys]; rfl
@[simp] theorem setAll_cons_zero {β : Type} (x y : β) (l ys : List β) : setAll (x :: l) 0 (y :: ys) = y :: setAll l 0 ys := by
 rw [setAll, List.set_cons_zero, setAll_cons_succ]
@[simp] theorem imms_imm : ∀ (l : List IV), imms (l.map .imm) = some l
 | [] => rfl
 | x :: l => by simp [imms, imms_imm l]
@[simp] theorem copies_0 {β : Type} (l : List β) : copies 0 l = [] := rfl
@[simp] theorem copies_1 {β : Type} (l : List β) : copies 1 l = l := by simp [copies]
@[simp] theorem copies_2 {β : Type} (l : List β) : copies 2 l = l ++ l := by simp [copies]
@[simp] theorem copies_3 {β : Type} (l : List β) : copies 3 l = l ++ (l ++ l) := by simp [copies]
@[simp] theorem copies_4 {β : Type} (l : List β) : copies 4 l = l ++ (l ++ (l ++ l)) := by simp [copies]
def Ty.row {α : Type} (t : Ty α) (xs : List α) : List IV := xs.flatMap t.enc
abbrev nilS : AV := .imm (.val (.slice none 0 0))
abbrev int64 (n : Int) : AV := .imm (.val (.int .i64 n))
abbrev avb (b : Bool) : AV := .imm (.val (.bool b))
theorem ziu {code : Nat → Option XFun} {ext : Calls'} {keep : List Nat} {b : XCode} (I : Nat → St → Prop) (Q : XExit → St → Prop)
  (h : ∀ n s, I n s → ∃ e s', den code ext b (s.tidy keep) = some (e, s') ∧ ((e = .normal ∧ ∃ m, m < n ∧ I m s') ∨ (e ≠ .normal ∧ Q e s'))) : ∀ n s, I n s → ∃ e s', den code ext (.loop keep b) s = some (e, s') ∧ e ≠ .normal ∧ Q e s' := by
 intro n
 induction n using Nat.strongRecOn with
 | ind n ih =>
  intro s hs
  obtain ⟨e, s', h1, h2⟩ := h n s hs
  rw [zc3, h1]
  rcases h2 with ⟨rfl, m, hm, hI⟩ | ⟨hne, hq⟩
  ·exact ih m hm s' hI
  ·refine ⟨e, s', ?_, hne, hq⟩
   cases e with
   | normal => exact absurd rfl hne
   | exit id => rfl
   | ret => rfl
theorem wrapI64 {x : Int} (h1 : -9223372036854775808 ≤ x) (h2 : x ≤ 9223372036854775807) : IntKind.wrap .i64 x = x := by
 simp only [IntKind.wrap, IntKind.signed, IntKind.bits]
 simp
 omega
theorem wrapU8 {x : Int} (h1 : 0 ≤ x) (h2 : x ≤ 255) : IntKind.wrap .u8 x = x := by
 simp only [IntKind.wrap, IntKind.signed, IntKind.bits]
 simp
 omega
theorem wrapU64 {x : Int} (h1 : 0 ≤ x) (h2 : x ≤ 18446744073709551615) : IntKind.wrap .u64 x = x := by
 simp only [IntKind.wrap, IntKind.signed, IntKind.bits]
 simp
 omega
section
variable {α : Type} {t : Ty α} {iv : IV} {xs : List α}
theorem zl9 (h : Reads t iv xs) : lenOf (.imm iv) = some xs.length := by
 obtain ⟨_, _, ⟨rfl, rfl⟩ | ⟨row, off, cap, rfl, _⟩⟩ := h
 ·rfl
 ·rfl
theorem zcx {β : Type} {l : List β} {o n : Nat} {r : List β} (h : cut l o n = some r) : r = (l.drop o).take n ∧ r.length = n := by
 unfold cut at h
 dsimp only at h
 split at h
 ·rename_i h1; cases h; exact ⟨rfl, h1⟩
 ·cases h
theorem cut_mk {β : Type} {l : List β} {o n : Nat} {r : List β} (h : (l.drop o).take n = r) (hl : r.length = n) : cut l o n = some r := by
 unfold cut
 dsimp only
 rw [h, if_pos hl]
theorem zcr {β : Type} {l : List β} {o n : Nat} {r : List β} (h : cut l o n = some r) {a b : Nat} (hab : a + b ≤ n) : cut l (o + a) b = cut r a b := by
 obtain ⟨rfl, hl⟩ := zcx h
 unfold cut
 dsimp only
 rw [List.drop_take, List.drop_drop, List.take_take]
 have : min b (n - a) = b := by omega
 rw [this]
theorem zfj (h0 : ∀ x, (t.enc x).length = t.sz) : ∀ (xs : List α) (i k : Nat), i + k ≤ xs.length → cut (xs.flatMap t.enc) (i * t.sz) (k * t.sz) = some (((xs.drop i).take k).flatMap t.enc) := by
 intro xs i k hk
 refine cut_mk ?_ ?_
 ·have hdrop : ∀ (i : Nat) (l : List α), (l.flatMap t.enc).drop (i * t.sz) = (l.drop i).flatMap t.enc := by
   intro i
   induction i with
   | zero => intro l; simp
   | succ i ih =>
    intro l
    cases l with
    | nil => simp
    | cons x l =>
     rw [List.flatMap_cons, Nat.add_mul, Nat.one_mul, Nat.add_comm, List.drop_append]
     have hx := h0 x
     rw [List.drop_eq_nil_of_le (by omega)]
     have : t.sz + i * t.sz - (t.enc x).length = i * t.sz := by omega
     rw [this, ih]; simp
  have htake : ∀ (k : Nat) (l : List α), (l.flatMap t.enc).take (k * t.sz) = (l.take k).flatMap t.enc := by
   intro k
   induction k with
   | zero => intro l; simp
   | succ i ih =>
    intro l
    cases l with
    | nil => simp
    | cons x l =>
     rw [List.flatMap_cons, Nat.add_mul, Nat.one_mul, Nat.add_comm, List.take_append]
     have hx := h0 x
     rw [List.take_of_length_le (by omega)]
     have : t.sz + i * t.sz - (t.enc x).length = i * t.sz := by omega
     rw [this, ih]; simp
  rw [hdrop, htake]
 ·rw [zfl _ _ h0]
  simp only [List.length_take, List.length_drop]
  congr 1
  omega
theorem znd (t : Ty α) (xs : List α) : (t.row xs).length = xs.length * t.sz := zfl _ _ t.len xs
theorem zne (t : Ty α) (xs : List α) (x : α) : t.row xs ++ t.enc x = t.row (xs ++ [x]) := by simp [Ty.row]
theorem znc (t : Ty α) (xs ys : List α) : t.row (xs ++ ys) = t.row xs ++ t.row ys := by simp [Ty.row]
theorem zfm {i : Nat} {x : α} (hx : xs[i]? = some x) : cut (t.row xs) (i * t.sz) t.sz = some (t.enc x) := by
 obtain ⟨hi, hxi⟩ := List.getElem?_eq_some_iff.1 hx
 have := zfj t.len xs i 1 hi
 rw [Nat.one_mul] at this
 rw [Ty.row, this, List.drop_eq_getElem_cons hi, hxi]
 simp
theorem zma (h : Reads t iv xs) {i : Nat} {x : α} (hx : xs[i]? = some x) : ∃ row off cap, iv = .slice row off xs.length cap ∧ (∀ c, cap = some c → xs.length ≤ c) ∧ cut row off (xs.length * t.sz) = some (xs.flatMap t.enc) ∧
  cut row (off + i * t.sz) t.sz = some (t.enc x) := by
 obtain ⟨_, _, ⟨rfl, rfl⟩ | ⟨row, off, cap, rfl, hc, hcut⟩⟩ := h
 ·simp at hx
 ·refine ⟨row, off, cap, rfl, hc, hcut, ?_⟩
  have hi := (List.getElem?_eq_some_iff.1 hx)
  obtain ⟨hi, hxi⟩ := hi
  have : i * t.sz + t.sz ≤ xs.length * t.sz := by
   rw [← Nat.succ_mul]; exact Nat.mul_le_mul_right _ hi
  rw [zcr hcut this]
  have := zfj t.len xs i 1 hi
  rw [Nat.one_mul] at this
  rw [this]
  congr 1
  rw [List.drop_eq_getElem_cons hi, hxi]
  simp
theorem zcw {β : Type} {l : List β} {o : Nat} {y : β} (h : cut l o 1 = some [y]) : l[o]? = some y := by
 obtain ⟨h1, _⟩ := zcx h
 have : ((l.drop o).take 1)[0]? = some y := by rw [← h1]; rfl
 rw [List.getElem?_take, if_pos (by omega), List.getElem?_drop] at this
 simpa using this
theorem zoj {β : Type} : ∀ (ys l : List β) (o : Nat), (setAll l o ys).length = l.length
 | [], l, o => rfl
 | y :: ys, l, o => by rw [setAll, zoj ys, List.length_set]
theorem zoh {β : Type} : ∀ (ys l : List β) (o j : Nat), o + ys.length ≤ l.length → (setAll l o ys)[j]? = if o ≤ j ∧ j < o + ys.length then ys[j - o]? else l[j]?
 | [], l, o, j, h => by simp [setAll]; omega
 | y :: ys, l, o, j, h => by
  simp only [List.length_cons] at h ⊢
  rw [setAll, zoh ys (l.set o y) (o + 1) j (by rw [List.length_set]; omega), List.getElem?_set]
  by_cases h1 : o = j
  ·subst h1
   have e1 : ¬ (o + 1 ≤ o ∧ o < o + 1 + ys.length) := by omega
   rw [if_neg e1, if_pos rfl, if_pos (by omega), if_pos (by omega)]
   simp
  ·by_cases h2 : o + 1 ≤ j ∧ j < o + 1 + ys.length
   ·have e3 : j - o = (j - (o + 1)) + 1 := by omega
    rw [if_pos h2, if_pos (by omega), e3]
    simp
   ·rw [if_neg h2, if_neg h1, if_neg (by omega)]
end
end Go.EX


set_option linter.unusedVariables false
set_option linter.unusedSimpArgs false
namespace Go.EX
structure Val where
 k : Int
 n : Int
 deriving DecidableEq
def tVal : Ty Val := ⟨2, true, fun v => [.val (.int .u8 v.k), .val (.int .i64 v.n)], fun v => (tInt .u8).wf v.k ∧ (tInt .i64).wf v.n, fun _ => rfl⟩
structure Obj where
 k : Int
 s : ByteArray
 l : Sl tVal
 room : Int
 fn : Int
end Go.EX


namespace Go.EX
def x567 : XFun :=
 ⟨[.tmp 2,.tmp 3],(.seq (.region [0] [o0 2 (.mv (.c (.pointer none))),
 o0 3 (.mv (.c (.int .i64 0)))]) (.seq (.seq (.region [0, 9] [o0 4 (.mv (.t 0)),
 o0 5 (.bin .lss (.t 4) (.c (.int .i64 1))),
 o0 6 (.mv (.t 5)),
 o1 7 6 false (.mv (.t 0)),
 o1 8 6 false (.bin .gtr (.t 7) (.c (.int .i64 1048576))),
 o0 9 (.pick (.t 6) (.c (.bool true)) (.t 8))]) (.cond (.t 9) (.seq (.region [2, 3] [o0 2 (.mv (.c (.pointer none))),
 o0 3 (.mv (.c (.int .i64 1)))]) .ret) .skip)) (.seq (.region [2, 3] [o0 10 (.mv (.t 0)),
 o0 11 (.makeSlice 1 8 [(.int .u64 0)] (.t 10) (.t 10)),
 o0 12 (.mv (.t 0)),
 o0 13 (.bin .quo (.t 12) (.c (.int .i64 64))),
 o0 14 (.bin .add (.t 13) (.c (.int .i64 1))),
 o0 15 (.makeSlice 1 8 [(.int .u64 0)] (.t 14) (.t 14)),
 o0 16 (.build [(.slice none 0 0),(.slice none 0 0),(.int .i64 0)] [(0, 1,(.t 11)),(1, 1,(.t 15))]),
 o0 17 (.box 3 (.t 16)),
 o0 2 (.mv (.t 17)),
 o0 3 (.mv (.c (.int .i64 0)))]) .ret)))⟩
def x169 : XFun :=
 ⟨[.tmp 6,.tmp 7],(.seq (.region [0, 1, 2] [o0 6 (.mv (.c (.int .i64 0))),
 o0 7 (.mv (.c (.int .i64 0)))]) (.seq (.block 0 (.seq (.region [0, 1, 2, 9] [o0 10 (.mv (.t 0)),
 o0 11 (.call .share 182 [.t 10]),
 o0 9 (.mv (.t 11))]) (.cond (.t 9) (.seq (.region [6, 7] [o0 6 (.mv (.c (.int .i64 0))),
 o0 7 (.mv (.c (.int .i64 2)))]) .ret) (.seq (.region [0, 1, 2, 12] [o0 13 (.mv (.t 1)),
 o0 14 (.bin .lss (.t 13) (.c (.int .u8 3))),
 o0 15 (.mv (.t 14)),
 o1 16 15 false (.mv (.t 1)),
 o1 17 15 false (.bin .gtr (.t 16) (.c (.int .u8 8))),
 o0 18 (.pick (.t 15) (.c (.bool true)) (.t 17)),
 o0 19 (.mv (.t 18)),
 o1 20 19 false (.mv (.t 2)),
 o1 21 19 false (.bin .lss (.t 20) (.c (.int .i64 0))),
 o0 22 (.pick (.t 19) (.c (.bool true)) (.t 21)),
 o0 12 (.mv (.t 22))]) (.cond (.t 12) (.seq (.region [6, 7] [o0 6 (.mv (.c (.int .i64 0))),
 o0 7 (.mv (.c (.int .i64 1)))]) .ret) (.seq (.region [0, 1, 2, 23] [o0 24 (.mv (.t 2)),
 o0 25 (.mv (.t 0)),
 o0 26 (.nilCheck (.t 25)),
 o0 27 (.fieldA 0 (.t 26)),
 o0 28 (.load none (.t 27)),
 o0 29 (.len (.t 28)),
 o0 30 (.mv (.t 0)),
 o0 31 (.nilCheck (.t 30)),
 o0 32 (.fieldA 2 (.t 31)),
 o0 33 (.load none (.t 32)),
 o0 34 (.bin .sub (.t 29) (.t 33)),
 o0 35 (.bin .geq (.t 24) (.t 34)),
 o0 23 (.mv (.t 35))]) (.cond (.t 23) (.seq (.region [6, 7] [o0 6 (.mv (.c (.int .i64 0))),
 o0 7 (.mv (.c (.int .i64 7)))]) .ret) .skip))))))) (.seq (.region [0, 1, 2, 8] [o0 36 (.mv (.t 0)),
 o0 37 (.nilCheck (.t 36)),
 o0 38 (.fieldA 2 (.t 37)),
 o0 39 (.load none (.t 38)),
 o0 8 (.mv (.t 39))]) (.seq (.region [0, 2, 8] [o0 40 (.mv (.t 0)),
 o0 41 (.nilCheck (.t 40)),
 o0 42 (.fieldA 0 (.t 41)),
 o0 43 (.load none (.t 42)),
 o0 44 (.mv (.t 8)),
 o0 45 (.mv (.t 2)),
 o0 46 (.conv .u64 (.t 45)),
 o0 47 (.bin .shl (.t 46) (.c (.int .u64 8))),
 o0 48 (.mv (.t 1)),
 o0 49 (.conv .u64 (.t 48)),
 o0 50 (.bin .or (.t 47) (.t 49)),
 o0 51 (.idxA 1 (.t 43) (.t 44)),
 o2 (.store 1 (.t 51) (.t 50))]) (.seq (.region [0, 2, 8] [o0 52 (.mv (.t 0)),
 o0 53 (.nilCheck (.t 52)),
 o0 54 (.fieldA 1 (.t 53)),
 o0 55 (.load none (.t 54)),
 o0 56 (.mv (.t 8)),
 o0 57 (.bin .quo (.t 56) (.c (.int .i64 64))),
 o0 58 (.idxA 1 (.t 55) (.t 57)),
 o0 59 (.load none (.t 58)),
 o0 60 (.mv (.t 8)),
 o0 61 (.bin .rem (.t 60) (.c (.int .i64 64))),
 o0 62 (.bin .shl (.c (.int .u64 1)) (.t 61)),
 o0 63 (.bin .or (.t 59) (.t 62)),
 o0 64 (.idxA 1 (.t 55) (.t 57)),
 o2 (.store 1 (.t 64) (.t 63))]) (.seq (.region [0, 8] [o0 65 (.mv (.t 0)),
 o0 66 (.nilCheck (.t 65)),
 o0 67 (.fieldA 2 (.t 66)),
 o0 68 (.load none (.t 67)),
 o0 69 (.mv (.t 2)),
 o0 70 (.bin .add (.t 69) (.c (.int .i64 1))),
 o0 71 (.bin .add (.t 68) (.t 70)),
 o0 72 (.nilCheck (.t 65)),
 o0 73 (.fieldA 2 (.t 72)),
 o2 (.store 1 (.t 73) (.t 71))]) (.seq (.region [8] [o0 74 (.mv (.t 0)),
 o0 75 (.mv (.t 8)),
 o0 76 (.call .share 185 [(.t 74),(.t 75)]),
 o2 (.clear 1 [(.int .u64 0)] (.t 76))]) (.seq (.region [6, 7] [o0 77 (.mv (.t 8)),
 o0 6 (.mv (.t 77)),
 o0 7 (.mv (.c (.int .i64 0)))]) .ret))))))))⟩
def x176 : XFun :=
 ⟨[.tmp 2],(.seq (.region [0] [o0 2 (.mv (.c (.int .i64 0)))]) (.seq (.seq (.region [0, 4] [o0 3 (.mv (.t 0)),
 o0 4 (.eqNil false 1 (.t 3))]) (.cond (.t 4) (.seq (.region [2] [o0 2 (.mv (.c (.int .i64 0)))]) .ret) .skip)) (.seq (.region [2] [o0 5 (.mv (.t 0)),
 o0 6 (.nilCheck (.t 5)),
 o0 7 (.fieldA 2 (.t 6)),
 o0 8 (.load none (.t 7)),
 o0 2 (.mv (.t 8))]) .ret)))⟩
def x178 : XFun :=
 ⟨[.tmp 8],(.seq (.region [0, 1, 2, 3] [o0 8 (.mv (.c (.int .i64 0)))]) (.seq (.region [2, 3, 9, 10] [o0 12 (.mv (.t 0)),
 o0 13 (.mv (.t 1)),
 o0 14 (.call .share 184 [(.t 12),(.t 13)]),
 o0 11 (.mv (.t 14)),
 o0 15 (.extract (.t 11) 0),
 o0 16 (.extract (.t 11) 1),
 o0 9 (.mv (.t 15)),
 o0 10 (.mv (.t 16))]) (.seq (.seq (.region [2, 3, 9, 10, 28] [o0 17 (.mv (.t 10)),
 o0 18 (.bin .eql (.t 17) (.c (.int .i64 0))),
 o0 19 (.mv (.t 18)),
 o1 20 19 true (.mv (.t 2)),
 o1 21 19 true (.bin .lss (.t 20) (.c (.int .i64 0))),
 o1 22 19 true (.mv (.t 21)),
 o1 23 22 false (.mv (.t 2)),
 o1 24 22 false (.mv (.t 9)),
 o1 25 22 false (.len (.t 24)),
 o1 26 22 false (.bin .geq (.t 23) (.t 25)),
 o1 27 19 true (.pick (.t 22) (.c (.bool true)) (.t 26)),
 o0 28 (.pick (.t 19) (.t 27) (.c (.bool false)))]) (.cond (.t 28) (.region [2, 3, 9, 10] [o0 10 (.mv (.c (.int .i64 1)))]) .skip)) (.seq (.seq (.region [2, 3, 9, 10, 30] [o0 29 (.mv (.t 10)),
 o0 30 (.bin .eql (.t 29) (.c (.int .i64 0)))]) (.cond (.t 30) (.region [10] [o0 31 (.mv (.t 9)),
 o0 32 (.mv (.t 2)),
 o0 33 (.mv (.t 3)),
 o0 34 (.idxA 1 (.t 31) (.t 32)),
 o2 (.store 1 (.t 34) (.t 33))]) .skip)) (.seq (.region [8] [o0 35 (.mv (.t 10)),
 o0 8 (.mv (.t 35))]) .ret)))))⟩
def x172 : XFun :=
 ⟨[.tmp 6],(.seq (.region [0, 1, 2] [o0 6 (.mv (.c (.int .i64 0)))]) (.seq (.block 0 (.seq (.region [0, 1, 2, 8] [o0 9 (.mv (.t 0)),
 o0 10 (.call .share 182 [.t 9]),
 o0 8 (.mv (.t 10))]) (.cond (.t 8) (.seq (.region [6] [o0 6 (.mv (.c (.int .i64 2)))]) .ret) (.seq (.region [0, 1, 2, 11] [o0 12 (.mv (.t 0)),
 o0 13 (.mv (.t 1)),
 o0 14 (.call .share 183 [(.t 12),(.t 13)]),
 o0 15 (.un .not (.t 14)),
 o0 16 (.mv (.t 15)),
 o1 17 16 false (.mv (.t 2)),
 o1 18 16 false (.bin .lss (.t 17) (.c (.int .i64 0))),
 o0 19 (.pick (.t 16) (.c (.bool true)) (.t 18)),
 o0 20 (.mv (.t 19)),
 o1 21 20 false (.mv (.t 2)),
 o1 22 20 false (.mv (.t 1)),
 o1 23 20 false (.bin .gtr (.t 21) (.t 22)),
 o0 24 (.pick (.t 20) (.c (.bool true)) (.t 23)),
 o0 25 (.mv (.t 24)),
 o1 26 25 false (.mv (.t 0)),
 o1 27 25 false (.mv (.t 2)),
 o1 28 25 false (.call .share 187 [(.t 26),(.t 27)]),
 o0 29 (.pick (.t 25) (.c (.bool true)) (.t 28)),
 o0 11 (.mv (.t 29))]) (.cond (.t 11) (.seq (.region [6] [o0 6 (.mv (.c (.int .i64 1)))]) .ret) .skip))))) (.seq (.region [0, 1, 2, 7] [o0 30 (.mv (.t 0)),
 o0 31 (.mv (.t 1)),
 o0 32 (.call .share 186 [(.t 30),(.t 31)]),
 o0 33 (.bin .add (.t 32) (.c (.int .i64 1))),
 o0 7 (.mv (.t 33))]) (.seq (.region [0, 1, 2, 7] [o0 34 (.mv (.t 0)),
 o0 35 (.mv (.t 2)),
 o0 36 (.mv (.t 1)),
 o0 37 (.bin .add (.t 36) (.c (.int .i64 1))),
 o0 38 (.call .share 181 [(.t 34),(.t 35),(.t 37)])]) (.seq (.region [0, 2] [o0 39 (.mv (.t 0)),
 o0 40 (.nilCheck (.t 39)),
 o0 41 (.fieldA 0 (.t 40)),
 o0 42 (.load none (.t 41)),
 o0 43 (.mv (.t 2)),
 o0 44 (.mv (.t 2)),
 o0 45 (.mv (.t 7)),
 o0 46 (.bin .add (.t 44) (.t 45)),
 o0 47 (.slice 1 (.t 42) (some (.t 43)) (some (.t 46))),
 o0 48 (.mv (.t 0)),
 o0 49 (.nilCheck (.t 48)),
 o0 50 (.fieldA 0 (.t 49)),
 o0 51 (.load none (.t 50)),
 o0 52 (.mv (.t 1)),
 o0 53 (.mv (.t 1)),
 o0 54 (.mv (.t 7)),
 o0 55 (.bin .add (.t 53) (.t 54)),
 o0 56 (.slice 1 (.t 51) (some (.t 52)) (some (.t 55))),
 o0 57 (.copy 1 (.t 47) (.t 56))]) (.seq (.region [] [o0 58 (.mv (.t 0)),
 o0 59 (.nilCheck (.t 58)),
 o0 60 (.fieldA 1 (.t 59)),
 o0 61 (.load none (.t 60)),
 o0 62 (.mv (.t 2)),
 o0 63 (.bin .quo (.t 62) (.c (.int .i64 64))),
 o0 64 (.idxA 1 (.t 61) (.t 63)),
 o0 65 (.load none (.t 64)),
 o0 66 (.mv (.t 2)),
 o0 67 (.bin .rem (.t 66) (.c (.int .i64 64))),
 o0 68 (.bin .shl (.c (.int .u64 1)) (.t 67)),
 o0 69 (.bin .or (.t 65) (.t 68)),
 o0 70 (.idxA 1 (.t 61) (.t 63)),
 o2 (.store 1 (.t 70) (.t 69))]) (.seq (.region [6] [o0 6 (.mv (.c (.int .i64 0)))]) .ret)))))))⟩
def x170 : XFun :=
 ⟨[.tmp 4],(.seq (.region [0, 1] [o0 4 (.mv (.c (.int .i64 0)))]) (.seq (.block 0 (.seq (.region [0, 1, 5] [o0 6 (.mv (.t 0)),
 o0 7 (.call .share 182 [.t 6]),
 o0 5 (.mv (.t 7))]) (.cond (.t 5) (.seq (.region [4] [o0 4 (.mv (.c (.int .i64 2)))]) .ret) (.seq (.region [0, 1, 8] [o0 9 (.mv (.t 1)),
 o0 10 (.bin .lss (.t 9) (.c (.int .i64 0))),
 o0 11 (.mv (.t 10)),
 o1 12 11 false (.mv (.t 1)),
 o1 13 11 false (.mv (.t 0)),
 o1 14 11 false (.nilCheck (.t 13)),
 o1 15 11 false (.fieldA 2 (.t 14)),
 o1 16 11 false (.load none (.t 15)),
 o1 17 11 false (.bin .gtr (.t 12) (.t 16)),
 o0 18 (.pick (.t 11) (.c (.bool true)) (.t 17)),
 o0 19 (.mv (.t 18)),
 o1 20 19 false (.mv (.t 0)),
 o1 21 19 false (.mv (.t 1)),
 o1 22 19 false (.call .share 187 [(.t 20),(.t 21)]),
 o0 23 (.pick (.t 19) (.c (.bool true)) (.t 22)),
 o0 8 (.mv (.t 23))]) (.cond (.t 8) (.seq (.region [4] [o0 4 (.mv (.c (.int .i64 1)))]) .ret) .skip))))) (.seq (.region [0, 1] [o0 24 (.mv (.t 0)),
 o0 25 (.mv (.t 1)),
 o0 26 (.mv (.t 0)),
 o0 27 (.nilCheck (.t 26)),
 o0 28 (.fieldA 2 (.t 27)),
 o0 29 (.load none (.t 28)),
 o0 30 (.call .share 181 [(.t 24),(.t 25),(.t 29)])]) (.seq (.region [] [o0 31 (.mv (.t 0)),
 o0 32 (.mv (.t 1)),
 o0 33 (.nilCheck (.t 31)),
 o0 34 (.fieldA 2 (.t 33)),
 o2 (.store 1 (.t 34) (.t 32))]) (.seq (.region [4] [o0 4 (.mv (.c (.int .i64 0)))]) .ret)))))⟩
def x174 : XFun :=
 ⟨[.tmp 6,.tmp 7],(.seq (.region [0, 1, 2] [o0 6 (.mv (.c (.int .u64 0))),
 o0 7 (.mv (.c (.int .i64 0)))]) (.seq (.region [2, 8, 9] [o0 11 (.mv (.t 0)),
 o0 12 (.mv (.t 1)),
 o0 13 (.call .share 184 [(.t 11),(.t 12)]),
 o0 10 (.mv (.t 13)),
 o0 14 (.extract (.t 10) 0),
 o0 15 (.extract (.t 10) 1),
 o0 8 (.mv (.t 14)),
 o0 9 (.mv (.t 15))]) (.seq (.seq (.region [2, 8, 9, 27] [o0 16 (.mv (.t 9)),
 o0 17 (.bin .eql (.t 16) (.c (.int .i64 0))),
 o0 18 (.mv (.t 17)),
 o1 19 18 true (.mv (.t 2)),
 o1 20 18 true (.bin .lss (.t 19) (.c (.int .i64 0))),
 o1 21 18 true (.mv (.t 20)),
 o1 22 21 false (.mv (.t 2)),
 o1 23 21 false (.mv (.t 8)),
 o1 24 21 false (.len (.t 23)),
 o1 25 21 false (.bin .geq (.t 22) (.t 24)),
 o1 26 18 true (.pick (.t 21) (.c (.bool true)) (.t 25)),
 o0 27 (.pick (.t 18) (.t 26) (.c (.bool false)))]) (.cond (.t 27) (.region [2, 8, 9] [o0 9 (.mv (.c (.int .i64 1)))]) .skip)) (.seq (.seq (.region [2, 8, 9, 29] [o0 28 (.mv (.t 9)),
 o0 29 (.bin .neq (.t 28) (.c (.int .i64 0)))]) (.cond (.t 29) (.seq (.region [6, 7] [o0 30 (.mv (.t 9)),
 o0 6 (.mv (.c (.int .u64 0))),
 o0 7 (.mv (.t 30))]) .ret) .skip)) (.seq (.region [6, 7] [o0 31 (.mv (.t 8)),
 o0 32 (.mv (.t 2)),
 o0 33 (.idxA 1 (.t 31) (.t 32)),
 o0 34 (.load none (.t 33)),
 o0 6 (.mv (.t 34)),
 o0 7 (.mv (.c (.int .i64 0)))]) .ret)))))⟩
def x173L1 : XCode :=
 (.block 1 (.region [] [o0 13 (.load none (.t 2)),
 o0 14 (.mv (.t 3)),
 o0 15 (.buildSlice 1 [(.int .i64 0)] 1 [(0, 1,(.t 14))]),
 o0 16 (.append 1 8 (.t 13) (.t 15)),
 o2 (.store 1 (.t 2) (.t 16))]))
def x173 : XFun :=
 ⟨[.cell 2 none],(.seq (.region [0, 2] [o0 2 (.alloc [(.slice none 0 0)])]) (.seq (.seq (.region [0, 2, 5] [o0 4 (.mv (.t 0)),
 o0 5 (.call .share 182 [.t 4])]) (.cond (.t 5) (.seq (.region [2] [o2 (.store 1 (.t 2) (.c (.slice none 0 0)))]) .ret) .skip)) (.seq (.seq (.region [2, 11] [o0 6 (.mv (.t 0)),
 o0 7 (.mv (.t 0)),
 o0 8 (.nilCheck (.t 7)),
 o0 9 (.fieldA 2 (.t 8)),
 o0 10 (.load none (.t 9)),
 o0 11 (.call .share 179 [(.t 6),(.c (.int .i64 0)),(.t 10)])]) (.block 0 (.rangeF (.t 11) [12] [2] (.region [2, 3] [o0 3 (.mv (.t 12))]) x173L1))) (.seq (.region [2] [o0 17 (.load none (.t 2)),
 o2 (.store 1 (.t 2) (.t 17))]) .ret))))⟩
def x175 : XFun :=
 ⟨[.tmp 4,.tmp 5],(.seq (.region [0, 1] [o0 4 (.mv (.c (.int .i64 0))),
 o0 5 (.mv (.c (.int .i64 0)))]) (.seq (.region [6, 7] [o0 9 (.mv (.t 0)),
 o0 10 (.mv (.t 1)),
 o0 11 (.call .share 184 [(.t 9),(.t 10)]),
 o0 8 (.mv (.t 11)),
 o0 12 (.extract (.t 8) 0),
 o0 13 (.extract (.t 8) 1),
 o0 6 (.mv (.t 12)),
 o0 7 (.mv (.t 13))]) (.seq (.region [4, 5] [o0 14 (.mv (.t 6)),
 o0 15 (.len (.t 14)),
 o0 16 (.mv (.t 7)),
 o0 4 (.mv (.t 15)),
 o0 5 (.mv (.t 16))]) .ret)))⟩
def x177 : XFun :=
 ⟨[.tmp 2],(.seq (.region [0] [o0 2 (.mv (.c (.int .i64 0)))]) (.seq (.seq (.region [0, 4] [o0 3 (.mv (.t 0)),
 o0 4 (.eqNil false 1 (.t 3))]) (.cond (.t 4) (.seq (.region [2] [o0 2 (.mv (.c (.int .i64 0)))]) .ret) .skip)) (.seq (.region [2] [o0 5 (.mv (.t 0)),
 o0 6 (.nilCheck (.t 5)),
 o0 7 (.fieldA 0 (.t 6)),
 o0 8 (.load none (.t 7)),
 o0 9 (.len (.t 8)),
 o0 2 (.mv (.t 9))]) .ret)))⟩
def x182 : XFun :=
 ⟨[.tmp 2],(.seq (.region [0] [o0 2 (.mv (.c (.bool false)))]) (.seq (.region [2] [o0 3 (.mv (.t 0)),
 o0 4 (.eqNil false 1 (.t 3)),
 o0 5 (.mv (.t 4)),
 o1 6 5 false (.mv (.t 0)),
 o1 7 5 false (.nilCheck (.t 6)),
 o1 8 5 false (.fieldA 0 (.t 7)),
 o1 9 5 false (.load none (.t 8)),
 o1 10 5 false (.len (.t 9)),
 o1 11 5 false (.bin .eql (.t 10) (.c (.int .i64 0))),
 o0 12 (.pick (.t 5) (.c (.bool true)) (.t 11)),
 o0 2 (.mv (.t 12))]) .ret))⟩
def x185 : XFun :=
 ⟨[.tmp 4],(.seq (.region [0, 1] [o0 4 (.mv (.c (.slice none 0 0)))]) (.seq (.region [4] [o0 5 (.mv (.t 0)),
 o0 6 (.nilCheck (.t 5)),
 o0 7 (.fieldA 0 (.t 6)),
 o0 8 (.load none (.t 7)),
 o0 9 (.mv (.t 1)),
 o0 10 (.bin .add (.t 9) (.c (.int .i64 1))),
 o0 11 (.mv (.t 1)),
 o0 12 (.bin .add (.t 11) (.c (.int .i64 1))),
 o0 13 (.mv (.t 0)),
 o0 14 (.mv (.t 1)),
 o0 15 (.call .peek 186 [(.t 13),(.t 14)]),
 o0 16 (.bin .add (.t 12) (.t 15)),
 o0 17 (.slice 1 (.t 8) (some (.t 10)) (some (.t 16))),
 o0 4 (.mv (.t 17))]) .ret))⟩
def x184 : XFun :=
 ⟨[.tmp 4,.tmp 5],(.seq (.region [0, 1] [o0 4 (.mv (.c (.slice none 0 0))),
 o0 5 (.mv (.c (.int .i64 0)))]) (.seq (.block 0 (.seq (.region [0, 1, 6] [o0 7 (.mv (.t 0)),
 o0 8 (.call .share 182 [.t 7]),
 o0 6 (.mv (.t 8))]) (.cond (.t 6) (.seq (.region [4, 5] [o0 4 (.mv (.c (.slice none 0 0))),
 o0 5 (.mv (.c (.int .i64 2)))]) .ret) (.seq (.region [0, 1, 9] [o0 10 (.mv (.t 0)),
 o0 11 (.mv (.t 1)),
 o0 12 (.call .share 183 [(.t 10),(.t 11)]),
 o0 13 (.un .not (.t 12)),
 o0 9 (.mv (.t 13))]) (.cond (.t 9) (.seq (.region [4, 5] [o0 4 (.mv (.c (.slice none 0 0))),
 o0 5 (.mv (.c (.int .i64 1)))]) .ret) .skip))))) (.seq (.region [4, 5] [o0 14 (.mv (.t 0)),
 o0 15 (.mv (.t 1)),
 o0 16 (.call .share 185 [(.t 14),(.t 15)]),
 o0 4 (.mv (.t 16)),
 o0 5 (.mv (.c (.int .i64 0)))]) .ret)))⟩
def x183 : XFun :=
 ⟨[.tmp 4],(.seq (.region [0, 1] [o0 4 (.mv (.c (.bool false)))]) (.seq (.region [4] [o0 5 (.mv (.t 1)),
 o0 6 (.bin .geq (.t 5) (.c (.int .i64 0))),
 o0 7 (.mv (.t 6)),
 o1 8 7 true (.mv (.t 1)),
 o1 9 7 true (.mv (.t 0)),
 o1 10 7 true (.nilCheck (.t 9)),
 o1 11 7 true (.fieldA 2 (.t 10)),
 o1 12 7 true (.load none (.t 11)),
 o1 13 7 true (.bin .lss (.t 8) (.t 12)),
 o0 14 (.pick (.t 7) (.t 13) (.c (.bool false))),
 o0 15 (.mv (.t 14)),
 o1 16 15 true (.mv (.t 0)),
 o1 17 15 true (.nilCheck (.t 16)),
 o1 18 15 true (.fieldA 1 (.t 17)),
 o1 19 15 true (.load none (.t 18)),
 o1 20 15 true (.mv (.t 1)),
 o1 21 15 true (.bin .quo (.t 20) (.c (.int .i64 64))),
 o1 22 15 true (.idxA 1 (.t 19) (.t 21)),
 o1 23 15 true (.load none (.t 22)),
 o1 24 15 true (.mv (.t 1)),
 o1 25 15 true (.bin .rem (.t 24) (.c (.int .i64 64))),
 o1 26 15 true (.bin .shr (.t 23) (.t 25)),
 o1 27 15 true (.bin .and (.t 26) (.c (.int .u64 1))),
 o1 28 15 true (.bin .eql (.t 27) (.c (.int .u64 1))),
 o0 29 (.pick (.t 15) (.t 28) (.c (.bool false))),
 o0 4 (.mv (.t 29))]) .ret))⟩
def x187L1 : XCode :=
 (.seq (.seq (.region [0, 1, 5, 14] [o0 13 (.mv (.t 5)),
 o0 14 (.bin .gtr (.t 13) (.c (.int .i64 0)))]) (.cond (.t 14) .skip (.exit 0))) (.block 1 (.seq (.region [0, 1, 5, 6] [o0 15 (.mv (.t 0)),
 o0 16 (.nilCheck (.t 15)),
 o0 17 (.fieldA 1 (.t 16)),
 o0 18 (.load none (.t 17)),
 o0 19 (.mv (.t 5)),
 o0 20 (.bin .sub (.t 19) (.c (.int .i64 1))),
 o0 21 (.bin .quo (.t 20) (.c (.int .i64 64))),
 o0 22 (.idxA 1 (.t 18) (.t 21)),
 o0 23 (.load none (.t 22)),
 o0 24 (.mv (.t 5)),
 o0 25 (.bin .sub (.t 24) (.c (.int .i64 1))),
 o0 26 (.bin .rem (.t 25) (.c (.int .i64 64))),
 o0 27 (.bin .sub (.c (.int .i64 63)) (.t 26)),
 o0 28 (.bin .shl (.t 23) (.t 27)),
 o0 6 (.mv (.t 28))]) (.seq (.seq (.region [0, 1, 5, 6, 30] [o0 29 (.mv (.t 6)),
 o0 30 (.bin .neq (.t 29) (.c (.int .u64 0)))]) (.cond (.t 30) (.seq (.region [0, 1, 5] [o0 31 (.mv (.t 5)),
 o0 32 (.mv (.t 6)),
 o0 33 (.call .view 729 [.t 32]),
 o0 34 (.bin .add (.t 33) (.c (.int .i64 1))),
 o0 35 (.bin .sub (.t 31) (.t 34)),
 o0 5 (.mv (.t 35))]) (.seq (.region [4] [o0 36 (.mv (.t 5)),
 o0 37 (.mv (.t 0)),
 o0 38 (.mv (.t 5)),
 o0 39 (.call .share 186 [(.t 37),(.t 38)]),
 o0 40 (.bin .add (.t 36) (.t 39)),
 o0 41 (.mv (.t 1)),
 o0 42 (.bin .geq (.t 40) (.t 41)),
 o0 4 (.mv (.t 42))]) .ret)) .skip)) (.region [0, 1, 5] [o0 43 (.mv (.t 5)),
 o0 44 (.mv (.t 5)),
 o0 45 (.bin .sub (.t 44) (.c (.int .i64 1))),
 o0 46 (.bin .rem (.t 45) (.c (.int .i64 64))),
 o0 47 (.bin .add (.t 46) (.c (.int .i64 1))),
 o0 48 (.bin .sub (.t 43) (.t 47)),
 o0 5 (.mv (.t 48))])))))
def x187 : XFun :=
 ⟨[.tmp 4],(.seq (.region [0, 1] [o0 4 (.mv (.c (.bool false)))]) (.seq (.seq (.region [0, 1, 5] [o0 7 (.mv (.t 1)),
 o0 8 (.mv (.t 0)),
 o0 9 (.nilCheck (.t 8)),
 o0 10 (.fieldA 2 (.t 9)),
 o0 11 (.load none (.t 10)),
 o0 12 (.minmax true (.t 7) (.t 11)),
 o0 5 (.mv (.t 12))]) (.block 0 (.loop [0, 1, 5] x187L1))) (.seq (.region [4] [o0 4 (.mv (.c (.bool false)))]) .ret)))⟩
def x186 : XFun :=
 ⟨[.tmp 4],(.seq (.region [0, 1] [o0 4 (.mv (.c (.int .i64 0)))]) (.seq (.region [4] [o0 5 (.mv (.t 0)),
 o0 6 (.nilCheck (.t 5)),
 o0 7 (.fieldA 0 (.t 6)),
 o0 8 (.load none (.t 7)),
 o0 9 (.mv (.t 1)),
 o0 10 (.idxA 1 (.t 8) (.t 9)),
 o0 11 (.load none (.t 10)),
 o0 12 (.bin .shr (.t 11) (.c (.int .u64 8))),
 o0 13 (.conv .i64 (.t 12)),
 o0 4 (.mv (.t 13))]) .ret))⟩
def x181L1 : XCode :=
 (.block 1 (.region [] [o0 12 (.load none (.t 3)),
 o0 13 (.nilCheck (.t 12)),
 o0 14 (.fieldA 1 (.t 13)),
 o0 15 (.load none (.t 14)),
 o0 16 (.mv (.t 6)),
 o0 17 (.bin .quo (.t 16) (.c (.int .i64 64))),
 o0 18 (.idxA 1 (.t 15) (.t 17)),
 o0 19 (.load none (.t 18)),
 o0 20 (.mv (.t 6)),
 o0 21 (.bin .rem (.t 20) (.c (.int .i64 64))),
 o0 22 (.bin .shl (.c (.int .u64 1)) (.t 21)),
 o0 23 (.bin .andNot (.t 19) (.t 22)),
 o0 24 (.idxA 1 (.t 15) (.t 17)),
 o2 (.store 1 (.t 24) (.t 23))]))
def x181 : XFun :=
 ⟨[],(.seq (.region [1, 2, 3] [o0 3 (.box 1 (.t 0))]) (.seq (.region [3, 10] [o0 7 (.load none (.t 3)),
 o0 8 (.mv (.t 1)),
 o0 9 (.mv (.t 2)),
 o0 10 (.call .share 179 [(.t 7),(.t 8),(.t 9)])]) (.block 0 (.rangeF (.t 10) [11] [3] (.region [3, 6] [o0 6 (.mv (.t 11))]) x181L1))))⟩
def x179 : XFun :=
 ⟨[.tmp 6],(.seq (.region [3, 4, 5] [o0 3 (.box 1 (.t 0)),
 o0 4 (.box 1 (.t 1)),
 o0 5 (.box 1 (.t 2)),
 o0 6 (.mv (.c .nilFunc))]) (.seq (.region [6] [o0 7 (.mkClo 180 [(.t 4),(.t 5),(.t 3)]),
 o0 6 (.mv (.t 7))]) .ret))⟩
def x180L1 : XCode :=
 (.seq (.seq (.region [0, 2, 3, 5, 10] [o0 8 (.mv (.t 5)),
 o0 9 (.load none (.t 2)),
 o0 10 (.bin .lss (.t 8) (.t 9))]) (.cond (.t 10) .skip (.exit 0))) (.block 1 (.seq (.region [0, 2, 3, 5, 6] [o0 11 (.load none (.t 3)),
 o0 12 (.nilCheck (.t 11)),
 o0 13 (.fieldA 1 (.t 12)),
 o0 14 (.load none (.t 13)),
 o0 15 (.mv (.t 5)),
 o0 16 (.bin .quo (.t 15) (.c (.int .i64 64))),
 o0 17 (.idxA 1 (.t 14) (.t 16)),
 o0 18 (.load none (.t 17)),
 o0 19 (.mv (.t 5)),
 o0 20 (.bin .rem (.t 19) (.c (.int .i64 64))),
 o0 21 (.bin .shr (.t 18) (.t 20)),
 o0 6 (.mv (.t 21))]) (.seq (.seq (.region [0, 2, 3, 5, 6, 23] [o0 22 (.mv (.t 6)),
 o0 23 (.bin .eql (.t 22) (.c (.int .u64 0)))]) (.cond (.t 23) (.seq (.region [0, 2, 3, 5] [o0 24 (.mv (.t 5)),
 o0 25 (.mv (.t 5)),
 o0 26 (.bin .rem (.t 25) (.c (.int .i64 64))),
 o0 27 (.bin .sub (.c (.int .i64 64)) (.t 26)),
 o0 28 (.bin .add (.t 24) (.t 27)),
 o0 5 (.mv (.t 28))]) (.exit 1)) .skip)) (.seq (.region [0, 2, 3, 5] [o0 29 (.mv (.t 5)),
 o0 30 (.mv (.t 6)),
 o0 31 (.call .view 735 [.t 30]),
 o0 32 (.bin .add (.t 29) (.t 31)),
 o0 5 (.mv (.t 32))]) (.seq (.seq (.region [0, 2, 3, 5, 41] [o0 33 (.mv (.t 5)),
 o0 34 (.load none (.t 2)),
 o0 35 (.bin .geq (.t 33) (.t 34)),
 o0 36 (.mv (.t 35)),
 o1 37 36 false (.mv (.t 0)),
 o1 38 36 false (.mv (.t 5)),
 o1 39 36 false (.callV (.t 37) [.t 38]),
 o1 40 36 false (.un .not (.t 39)),
 o0 41 (.pick (.t 36) (.c (.bool true)) (.t 40))]) (.cond (.t 41) .ret .skip)) (.region [0, 2, 3, 5] [o0 42 (.mv (.t 5)),
 o0 43 (.bin .add (.t 42) (.c (.int .i64 1))),
 o0 5 (.mv (.t 43))])))))))
def x180 : XFun :=
 ⟨[],(.seq (.region [0, 2, 3, 5] [o0 7 (.load none (.t 1)),
 o0 5 (.mv (.t 7))]) (.block 0 (.loop [0, 2, 3, 5] x180L1)))⟩
def x732 : XFun :=
 ⟨[.tmp 2],(.seq (.region [0, 2] [o0 2 (.mv (.c (.int .i64 0)))]) (.seq (.seq (.region [0, 2, 4] [o0 3 (.mv (.t 0)),
 o0 4 (.bin .geq (.t 3) (.c (.int .u64 4294967296)))]) (.cond (.t 4) (.seq (.region [0] [o0 5 (.mv (.t 0)),
 o0 6 (.bin .shr (.t 5) (.c (.int .u64 32))),
 o0 0 (.mv (.t 6))]) (.region [0, 2] [o0 2 (.mv (.c (.int .i64 32)))])) .skip)) (.seq (.seq (.region [0, 2, 8] [o0 7 (.mv (.t 0)),
 o0 8 (.bin .geq (.t 7) (.c (.int .u64 65536)))]) (.cond (.t 8) (.seq (.region [0, 2] [o0 9 (.mv (.t 0)),
 o0 10 (.bin .shr (.t 9) (.c (.int .u64 16))),
 o0 0 (.mv (.t 10))]) (.region [0, 2] [o0 11 (.mv (.t 2)),
 o0 12 (.bin .add (.t 11) (.c (.int .i64 16))),
 o0 2 (.mv (.t 12))])) .skip)) (.seq (.seq (.region [0, 2, 14] [o0 13 (.mv (.t 0)),
 o0 14 (.bin .geq (.t 13) (.c (.int .u64 256)))]) (.cond (.t 14) (.seq (.region [0, 2] [o0 15 (.mv (.t 0)),
 o0 16 (.bin .shr (.t 15) (.c (.int .u64 8))),
 o0 0 (.mv (.t 16))]) (.region [0, 2] [o0 17 (.mv (.t 2)),
 o0 18 (.bin .add (.t 17) (.c (.int .i64 8))),
 o0 2 (.mv (.t 18))])) .skip)) (.seq (.region [2] [o0 19 (.mv (.t 2)),
 o0 20 (.mv (.t 0)),
 o0 21 (.conv .u8 (.t 20)),
 o0 22 (.idxS (.c (.string ⟨#[0, 1, 2, 2, 3, 3, 3, 3, 4, 4, 4, 4, 4, 4, 4, 4, 5, 5, 5, 5, 5, 5, 5, 5, 5, 5, 5, 5, 5, 5, 5, 5, 6, 6, 6, 6, 6, 6, 6, 6, 6, 6, 6, 6, 6, 6, 6, 6, 6, 6, 6, 6, 6, 6, 6, 6, 6, 6, 6, 6, 6, 6, 6, 6, 7, 7, 7, 7, 7, 7, 7, 7, 7, 7, 7, 7, 7, 7, 7, 7, 7, 7, 7, 7, 7, 7, 7, 7, 7, 7, 7, 7, 7, 7, 7, 7, 7, 7, 7, 7, 7, 7, 7, 7, 7, 7, 7, 7, 7, 7, 7, 7, 7, 7, 7, 7, 7, 7, 7, 7, 7, 7, 7, 7, 7, 7, 7, 7, 8, 8, 8, 8, 8, 8, 8, 8, 8, 8, 8, 8, 8, 8, 8, 8, 8, 8, 8, 8, 8, 8, 8, 8, 8, 8, 8, 8, 8, 8, 8, 8, 8, 8, 8, 8, 8, 8, 8, 8, 8, 8, 8, 8, 8, 8, 8, 8, 8, 8, 8, 8, 8, 8, 8, 8, 8, 8, 8, 8, 8, 8, 8, 8, 8, 8, 8, 8, 8, 8, 8, 8, 8, 8, 8, 8, 8, 8, 8, 8, 8, 8, 8, 8, 8, 8, 8, 8, 8, 8, 8, 8, 8, 8, 8, 8, 8, 8, 8, 8, 8, 8, 8, 8, 8, 8, 8, 8, 8, 8, 8, 8, 8, 8, 8, 8, 8, 8, 8, 8, 8, 8, 8, 8, 8, 8, 8, 8]⟩)) (.t 21)),
 o0 23 (.conv .i64 (.t 22)),
 o0 24 (.bin .add (.t 19) (.t 23)),
 o0 2 (.mv (.t 24))]) .ret)))))⟩
end Go.EX

