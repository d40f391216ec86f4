/-
  EX: runs without a count. 'callW': what a call comes to, if it ends; 'den': what code comes to. Their equations.
-/
import Derived.Test.YtbomedbbgfcncaaCore
set_option linter.unusedVariables false
set_option linter.unusedSimpArgs false
namespace Go.EX

def Le (c d : Calls') : Prop := ∀ f a m r, c f a m = some r → d f a m = some r

theorem exView_mono {c d : Calls'} (h : Le c d) {s : St} {fn : Nat} {as : List AV} {r : AV × St} (hr : exView c s fn as = some r) : exView d s fn as = some r := by
  unfold exView at *
  cases ha : as.mapM (frz s.mem) with
  | none => simp [ha] at hr
  | some l =>
    simp only [ha] at hr ⊢
    cases hc : c fn l [] with
    | none => simp [hc] at hr
    | some p => simp only [hc] at hr; simp only [h _ _ _ _ hc]; exact hr

theorem exOwn_mono {c d : Calls'} (h : Le c d) {s : St} {fn : Nat} {as : List AV} {r : AV × St} (hr : exOwn c s fn as = some r) : exOwn d s fn as = some r := by
  unfold exOwn at *
  cases ha : as.mapM (frz s.mem) with
  | none => simp [ha] at hr
  | some l =>
    simp only [ha] at hr ⊢
    cases hc : c fn l [] with
    | none => simp [hc] at hr
    | some p => simp only [hc] at hr; simp only [h _ _ _ _ hc]; exact hr

theorem exShare_mono {c d : Calls'} (h : Le c d) {s : St} {fn : Nat} {as : List AV} {r : AV × St} (hr : exShare c s fn as = some r) : exShare d s fn as = some r := by
  unfold exShare at *
  dsimp only at *
  generalize hm : AV.ren.renL (place (order 0 (AV.refs.refsL as) s.mem)) as = l at *
  generalize hq : s.mem.pickAll (order 0 (AV.refs.refsL as) s.mem) = q at *
  cases hc : c fn l q with
  | none => simp [hc] at hr
  | some p => simp only [hc] at hr; simp only [h _ _ _ _ hc]; exact hr

theorem exOp_mono {c d : Calls'} (h : Le c d) {s : St} {op : XOp} {r : AV × St} (hr : exOp c s op = some r) : exOp d s op = some r := by
  cases op with
  | call mode fn args =>
    cases mode with
    | view => exact exView_mono h hr
    | own => exact exOwn_mono h hr
    | share => exact exShare_mono h hr
  | callV f args =>
    simp only [exOp] at hr ⊢
    split at hr
    · rename_i heq; exact exShare_mono h hr
    · cases hr
  | _ => exact hr

theorem exOne_mono {c d : Calls'} (h : Le c d) {s : St} {o : XO} {r : St} (hr : exOne c s o = some r) : exOne d s o = some r := by
  unfold exOne at *
  have hop : ∀ x, exOp c s o.op = some x → exOp d s o.op = some x := fun x hx => exOp_mono h hx
  have hgo : ∀ (g : AV × St → St), (exOp c s o.op).map g = some r → (exOp d s o.op).map g = some r := by
    intro g hg
    cases hx : exOp c s o.op with
    | none => simp [hx] at hg
    | some x => rw [hop x hx]; rwa [hx] at hg
  dsimp only at *
  split at hr
  · exact hgo _ hr
  · split at hr
    · rename_i heq
      split at hr
      · rename_i hcb; simp only [hcb, if_true] at *; exact hgo _ hr
      · rename_i hcb; simp only [hcb, if_false] at *; exact hr
    · exact hr
    · cases hr

theorem exOps_mono {c d : Calls'} (h : Le c d) (l : List XO) : ∀ {s : St} {r : St}, exOps c s l = some r → exOps d s l = some r := by
  induction l with
  | nil => intro s r hr; exact hr
  | cons o l ih =>
    intro s r hr
    simp only [exOps] at *
    cases hx : exOne c s o with
    | none => simp [hx] at hr
    | some s' => rw [hx] at hr; rw [exOne_mono h hx]; exact ih hr

theorem rounds_mono {f g : St → Option (XExit × St)} (h : ∀ s r, f s = some r → g s = some r) : ∀ (n m : Nat), n ≤ m → ∀ {s r}, rounds f n s = some r → rounds g m s = some r := by
  intro n
  induction n with
  | zero => intro m _ s r hr; simp [rounds] at hr
  | succ n ih =>
    intro m hm s r hr
    obtain ⟨m, rfl⟩ : ∃ k, m = k + 1 := ⟨m - 1, by omega⟩
    simp only [rounds] at *
    cases hx : f s with
    | none => simp [hx] at hr
    | some p =>
      rw [h _ _ hx]
      rw [hx] at hr
      obtain ⟨e, s'⟩ := p
      cases e with
      | normal => exact ih m (by omega) hr
      | exit id => exact hr
      | ret => exact hr

theorem exCode_mono {c d : Calls'} (h : Le c d) {n m : Nat} (hnm : n ≤ m) (x : XCode) : ∀ {s r}, exCode c n x s = some r → exCode d m x s = some r := by
  induction x with
  | skip => intro s r hr; exact hr
  | region keep ops =>
    intro s r hr
    simp only [exCode] at *
    cases hx : exOps c s ops with
    | none => simp [hx] at hr
    | some s' => rw [hx] at hr; rw [exOps_mono h ops hx]; exact hr
  | seq a b iha ihb =>
    intro s r hr
    simp only [exCode] at *
    cases hx : exCode c n a s with
    | none => simp [hx] at hr
    | some p =>
      rw [iha hx]
      rw [hx] at hr
      obtain ⟨e, s'⟩ := p
      cases e with
      | normal => exact ihb hr
      | exit id => exact hr
      | ret => exact hr
  | cond k a b iha ihb =>
    intro s r hr
    simp only [exCode] at *
    split at hr
    · split at hr
      · rename_i ht; simp only [ht, if_true]; exact iha hr
      · rename_i ht; simp only [ht, if_false]; exact ihb hr
    · cases hr
  | block id b ih =>
    intro s r hr
    simp only [exCode] at *
    cases hx : exCode c n b s with
    | none => simp [hx] at hr
    | some p => rw [ih hx]; rw [hx] at hr; exact hr
  | loop keep b ih =>
    intro s r hr
    simp only [exCode] at *
    exact rounds_mono (fun s r hs => ih hs) n m hnm hr
  | exit id => intro s r hr; exact hr
  | ret => intro s r hr; exact hr

theorem exFun_mono {c d : Calls'} (h : Le c d) {n m : Nat} (hnm : n ≤ m) {f : XFun} {as : List AV} {q : Mem} {r} (hr : exFun c n f as q = some r) : exFun d m f as q = some r := by
  unfold exFun at *
  cases hx : exCode c n f.body { k := q.length, env := enter 0 as, mem := q } with
  | none => simp [hx] at hr
  | some p => rw [exCode_mono h hnm f.body hx]; rw [hx] at hr; exact hr

section
variable (code : Nat → Option XFun) (ext : Calls')

theorem callN_succ (n : Nat) : Le (callN code ext n) (callN code ext (n + 1)) := by
  induction n with
  | zero => intro f a m r h; simp [callN] at h
  | succ n ih =>
    intro f a m r h
    unfold callN at h ⊢
    cases hc : code f with
    | none => simpa [hc] using h
    | some x => simp only [hc] at h ⊢; exact exFun_mono ih (Nat.le_succ n) h

theorem callN_mono {n m : Nat} (h : n ≤ m) : Le (callN code ext n) (callN code ext m) := by
  induction m with
  | zero => obtain rfl : n = 0 := by omega
            exact fun _ _ _ _ h => h
  | succ m ih =>
    rcases Nat.lt_or_ge n (m + 1) with h' | h'
    · exact fun f a q r hr => callN_succ code ext m f a q r (ih (by omega) f a q r hr)
    · obtain rfl : n = m + 1 := by omega
      exact fun _ _ _ _ h => h

open Classical in
/-- What a call comes to. -/
noncomputable def callW : Calls' := fun f a m => if h : ∃ r, ∃ n, callN code ext n f a m = some r then some (Classical.choose h) else none

theorem callW_some {f : Nat} {a : List AV} {m : Mem} {r : AV × Mem} : callW code ext f a m = some r ↔ ∃ n, callN code ext n f a m = some r := by
  unfold callW
  constructor
  · intro h
    split at h
    · rename_i hx
      obtain ⟨n, hn⟩ := Classical.choose_spec hx
      have : Classical.choose hx = r := by simpa using h
      exact ⟨n, this ▸ hn⟩
    · cases h
  · rintro ⟨n, hn⟩
    have hx : ∃ r, ∃ n, callN code ext n f a m = some r := ⟨r, n, hn⟩
    rw [dif_pos hx]
    obtain ⟨k, hk⟩ := Classical.choose_spec hx
    have h1 := callN_mono code ext (Nat.le_max_left n k) f a m r hn
    have h2 := callN_mono code ext (Nat.le_max_right n k) f a m _ hk
    rw [h1] at h2
    exact h2.symm

theorem Le_callW (n : Nat) : Le (callN code ext n) (callW code ext) := fun _ _ _ _ h => (callW_some code ext).2 ⟨n, h⟩

open Classical in
/-- What code comes to. -/
noncomputable def den (x : XCode) (s : St) : Option (XExit × St) := if h : ∃ r, ∃ n, exCode (callW code ext) n x s = some r then some (Classical.choose h) else none

theorem den_some {x : XCode} {s : St} {r} : den code ext x s = some r ↔ ∃ n, exCode (callW code ext) n x s = some r := by
  unfold den
  constructor
  · intro h
    split at h
    · rename_i hx
      obtain ⟨n, hn⟩ := Classical.choose_spec hx
      have : Classical.choose hx = r := by simpa using h
      exact ⟨n, this ▸ hn⟩
    · cases h
  · rintro ⟨n, hn⟩
    have hx : ∃ r, ∃ n, exCode (callW code ext) n x s = some r := ⟨r, n, hn⟩
    rw [dif_pos hx]
    obtain ⟨k, hk⟩ := Classical.choose_spec hx
    have h1 := exCode_mono (c := callW code ext) (d := callW code ext) (fun _ _ _ _ h => h) (Nat.le_max_left n k) x hn
    have h2 := exCode_mono (c := callW code ext) (d := callW code ext) (fun _ _ _ _ h => h) (Nat.le_max_right n k) x hk
    rw [h1] at h2
    exact h2.symm

/-! ### whatever runs with 'callW' runs with some count -/

theorem exOp_fin {s : St} {op : XOp} {r} (h : exOp (callW code ext) s op = some r) : ∃ n, exOp (callN code ext n) s op = some r := by
  have view : ∀ fn as, exView (callW code ext) s fn as = some r → ∃ n, exView (callN code ext n) s fn as = some r := by
    intro fn as h
    unfold exView at *
    cases ha : as.mapM (frz s.mem) with
    | none => simp [ha] at h
    | some l =>
      simp only [ha] at h ⊢
      cases hc : callW code ext fn l [] with
      | none => simp [hc] at h
      | some p => obtain ⟨n, hn⟩ := (callW_some code ext).1 hc; simp only [hc] at h; exact ⟨n, by simp only [hn]; exact h⟩
  have own : ∀ fn as, exOwn (callW code ext) s fn as = some r → ∃ n, exOwn (callN code ext n) s fn as = some r := by
    intro fn as h
    unfold exOwn at *
    cases ha : as.mapM (frz s.mem) with
    | none => simp [ha] at h
    | some l =>
      simp only [ha] at h ⊢
      cases hc : callW code ext fn l [] with
      | none => simp [hc] at h
      | some p => obtain ⟨n, hn⟩ := (callW_some code ext).1 hc; simp only [hc] at h; exact ⟨n, by simp only [hn]; exact h⟩
  have share : ∀ fn as, exShare (callW code ext) s fn as = some r → ∃ n, exShare (callN code ext n) s fn as = some r := by
    intro fn as h
    unfold exShare at *
    dsimp only at *
    generalize AV.ren.renL (place (order 0 (AV.refs.refsL as) s.mem)) as = l at *
    generalize s.mem.pickAll (order 0 (AV.refs.refsL as) s.mem) = q at *
    cases hc : callW code ext fn l q with
    | none => simp [hc] at h
    | some p => obtain ⟨n, hn⟩ := (callW_some code ext).1 hc; simp only [hc] at h; exact ⟨n, by simp only [hn]; exact h⟩
  cases op with
  | call mode fn args =>
    cases mode with
    | view => exact view _ _ h
    | own => exact own _ _ h
    | share => exact share _ _ h
  | callV f args =>
    simp only [exOp] at h ⊢
    split at h
    · rename_i heq; exact share _ _ h
    · cases h
  | _ => exact ⟨0, h⟩

theorem exOne_fin {s : St} {o : XO} {r} (h : exOne (callW code ext) s o = some r) : ∃ n, exOne (callN code ext n) s o = some r := by
  unfold exOne at *
  have hgo : ∀ (g : AV × St → St), (exOp (callW code ext) s o.op).map g = some r → ∃ n, (exOp (callN code ext n) s o.op).map g = some r := by
    intro g hg
    cases hx : exOp (callW code ext) s o.op with
    | none => simp [hx] at hg
    | some x => obtain ⟨n, hn⟩ := exOp_fin code ext hx; exact ⟨n, by rw [hn]; rwa [hx] at hg⟩
  dsimp only at *
  split at h
  · exact hgo _ h
  · split at h
    · rename_i heq
      split at h
      · rename_i hcb; simp only [hcb, if_true]; exact hgo _ h
      · rename_i hcb; simp only [hcb, if_false]; exact ⟨0, h⟩
    · exact ⟨0, h⟩
    · cases h

theorem exOps_fin (l : List XO) : ∀ {s r}, exOps (callW code ext) s l = some r → ∃ n, exOps (callN code ext n) s l = some r := by
  induction l with
  | nil => intro s r h; exact ⟨0, h⟩
  | cons o l ih =>
    intro s r h
    simp only [exOps] at *
    cases hx : exOne (callW code ext) s o with
    | none => simp [hx] at h
    | some s' =>
      rw [hx] at h
      obtain ⟨n, hn⟩ := exOne_fin code ext hx
      obtain ⟨k, hk⟩ := ih h
      exact ⟨max n k, by rw [exOne_mono (callN_mono code ext (Nat.le_max_left n k)) hn]; exact exOps_mono (callN_mono code ext (Nat.le_max_right n k)) l hk⟩

theorem rounds_fin {f : St → Option (XExit × St)} {g : Nat → St → Option (XExit × St)} (hg : ∀ n m, n ≤ m → ∀ s r, g n s = some r → g m s = some r) (h : ∀ s r, f s = some r → ∃ n, g n s = some r) :
    ∀ (k : Nat) {s r}, rounds f k s = some r → ∃ n, rounds (g n) k s = some r := by
  intro k
  induction k with
  | zero => intro s r hr; simp [rounds] at hr
  | succ k ih =>
    intro s r hr
    simp only [rounds] at *
    cases hx : f s with
    | none => simp [hx] at hr
    | some p =>
      rw [hx] at hr
      obtain ⟨n, hn⟩ := h _ _ hx
      obtain ⟨e, s'⟩ := p
      cases e with
      | normal =>
        obtain ⟨j, hj⟩ := ih hr
        exact ⟨max n j, by rw [hg n _ (Nat.le_max_left n j) _ _ hn]; exact rounds_mono (hg j _ (Nat.le_max_right n j)) k k (Nat.le_refl k) hj⟩
      | exit id => exact ⟨n, by rw [hn]; exact hr⟩
      | ret => exact ⟨n, by rw [hn]; exact hr⟩

theorem exCode_fin (k : Nat) (x : XCode) : ∀ {s r}, exCode (callW code ext) k x s = some r → ∃ n, exCode (callN code ext n) k x s = some r := by
  induction x with
  | skip => intro s r h; exact ⟨0, h⟩
  | region keep ops =>
    intro s r h
    simp only [exCode] at *
    cases hx : exOps (callW code ext) s ops with
    | none => simp [hx] at h
    | some s' => rw [hx] at h; obtain ⟨n, hn⟩ := exOps_fin code ext ops hx; exact ⟨n, by rw [hn]; exact h⟩
  | seq a b iha ihb =>
    intro s r h
    simp only [exCode] at *
    cases hx : exCode (callW code ext) k a s with
    | none => simp [hx] at h
    | some p =>
      rw [hx] at h
      obtain ⟨n, hn⟩ := iha hx
      obtain ⟨e, s'⟩ := p
      cases e with
      | normal =>
        obtain ⟨j, hj⟩ := ihb h
        exact ⟨max n j, by rw [exCode_mono (callN_mono code ext (Nat.le_max_left n j)) (Nat.le_refl k) a hn]; exact exCode_mono (callN_mono code ext (Nat.le_max_right n j)) (Nat.le_refl k) b hj⟩
      | exit id => exact ⟨n, by rw [hn]; exact h⟩
      | ret => exact ⟨n, by rw [hn]; exact h⟩
  | cond c a b iha ihb =>
    intro s r h
    simp only [exCode] at *
    split at h
    · split at h
      · rename_i ht; simp only [ht, if_true]; exact iha h
      · rename_i ht; simp only [ht, if_false]; exact ihb h
    · cases h
  | block id b ih =>
    intro s r h
    simp only [exCode] at *
    cases hx : exCode (callW code ext) k b s with
    | none => simp [hx] at h
    | some p => rw [hx] at h; obtain ⟨n, hn⟩ := ih hx; exact ⟨n, by rw [hn]; exact h⟩
  | loop keep b ih =>
    intro s r h
    simp only [exCode] at *
    exact rounds_fin (f := fun s => exCode (callW code ext) k b (s.tidy keep)) (g := fun n s => exCode (callN code ext n) k b (s.tidy keep)) (fun n m hnm s r hs => exCode_mono (callN_mono code ext hnm) (Nat.le_refl k) b hs) (fun s r hs => ih hs) k h
  | exit id => intro s r h; exact ⟨0, h⟩
  | ret => intro s r h; exact ⟨0, h⟩

/-! ### the equations -/

theorem den_skip (s : St) : den code ext .skip s = some (.normal, s) := (den_some code ext).2 ⟨0, rfl⟩
theorem den_exit (id : Nat) (s : St) : den code ext (.exit id) s = some (.exit id, s) := (den_some code ext).2 ⟨0, rfl⟩
theorem den_ret (s : St) : den code ext .ret s = some (.ret, s) := (den_some code ext).2 ⟨0, rfl⟩

theorem opt_ext {α : Type} {a b : Option α} (h : ∀ r, a = some r ↔ b = some r) : a = b := by
  cases a with
  | none => cases b with
    | none => rfl
    | some y => exact absurd ((h y).2 rfl) (by simp)
  | some x => exact ((h x).1 rfl).symm

theorem den_region (keep : List Nat) (ops : List XO) (s : St) :
    den code ext (.region keep ops) s = (exOps (callW code ext) s ops).map fun s' => (.normal, { s' with env := s'.env.keep keep }) := by
  refine opt_ext fun r => ⟨fun h => ?_, fun h => (den_some code ext).2 ⟨0, h⟩⟩
  obtain ⟨n, hn⟩ := (den_some code ext).1 h
  exact hn

def andThen (p : Option (XExit × St)) (f : St → Option (XExit × St)) : Option (XExit × St) :=
  match p with
  | some (.normal, s) => f s
  | r => r

theorem den_seq (a b : XCode) (s : St) : den code ext (.seq a b) s = andThen (den code ext a s) (den code ext b) := by
  refine opt_ext fun r => ⟨fun h => ?_, fun h => ?_⟩
  · obtain ⟨n, hn⟩ := (den_some code ext).1 h
    simp only [exCode] at hn
    cases hx : exCode (callW code ext) n a s with
    | none => simp [hx] at hn
    | some p =>
      rw [hx] at hn
      rw [(den_some code ext).2 ⟨n, hx⟩]
      obtain ⟨e, s'⟩ := p
      cases e with
      | normal => exact (den_some code ext).2 ⟨n, hn⟩
      | exit id => exact hn
      | ret => exact hn
  · cases hx : den code ext a s with
    | none => simp [hx, andThen] at h
    | some p =>
      rw [hx] at h
      obtain ⟨n, hn⟩ := (den_some code ext).1 hx
      obtain ⟨e, s'⟩ := p
      cases e with
      | normal =>
        obtain ⟨k, hk⟩ := (den_some code ext).1 h
        refine (den_some code ext).2 ⟨max n k, ?_⟩
        simp only [exCode]
        rw [exCode_mono (c := callW code ext) (fun _ _ _ _ h => h) (Nat.le_max_left n k) a hn]
        exact exCode_mono (c := callW code ext) (fun _ _ _ _ h => h) (Nat.le_max_right n k) b hk
      | exit id => exact (den_some code ext).2 ⟨n, by simp only [exCode]; rw [hn]; exact h⟩
      | ret => exact (den_some code ext).2 ⟨n, by simp only [exCode]; rw [hn]; exact h⟩

theorem den_cond (c : Src) (a b : XCode) (s : St) (t : Bool) (h : s.env.ev c = .imm (.val (.bool t))) : den code ext (.cond c a b) s = if t then den code ext a s else den code ext b s := by
  refine opt_ext fun r => ⟨fun hr => ?_, fun hr => ?_⟩
  · obtain ⟨n, hn⟩ := (den_some code ext).1 hr
    simp only [exCode, h] at hn
    cases t
    · exact (den_some code ext).2 ⟨n, hn⟩
    · exact (den_some code ext).2 ⟨n, hn⟩
  · cases t
    · obtain ⟨n, hn⟩ := (den_some code ext).1 hr
      exact (den_some code ext).2 ⟨n, by simp only [exCode, h]; exact hn⟩
    · obtain ⟨n, hn⟩ := (den_some code ext).1 hr
      exact (den_some code ext).2 ⟨n, by simp only [exCode, h]; exact hn⟩

def blockOut (id : Nat) (p : Option (XExit × St)) : Option (XExit × St) :=
  match p with
  | some (.exit j, s) => if j = id then some (.normal, s) else some (.exit j, s)
  | r => r

theorem den_block (id : Nat) (b : XCode) (s : St) : den code ext (.block id b) s = blockOut id (den code ext b s) := by
  refine opt_ext fun r => ⟨fun h => ?_, fun h => ?_⟩
  · obtain ⟨n, hn⟩ := (den_some code ext).1 h
    simp only [exCode] at hn
    cases hx : exCode (callW code ext) n b s with
    | none => simp [hx] at hn
    | some p => rw [(den_some code ext).2 ⟨n, hx⟩]; rw [hx] at hn; exact hn
  · cases hx : den code ext b s with
    | none => simp [hx, blockOut] at h
    | some p =>
      obtain ⟨n, hn⟩ := (den_some code ext).1 hx
      rw [hx] at h
      exact (den_some code ext).2 ⟨n, by simp only [exCode]; rw [hn]; exact h⟩

theorem den_loop (keep : List Nat) (b : XCode) (s : St) : den code ext (.loop keep b) s = andThen (den code ext b (s.tidy keep)) (den code ext (.loop keep b)) := by
  refine opt_ext fun r => ⟨fun h => ?_, fun h => ?_⟩
  · obtain ⟨n, hn⟩ := (den_some code ext).1 h
    simp only [exCode] at hn
    cases n with
    | zero => simp [rounds] at hn
    | succ n =>
      simp only [rounds] at hn
      cases hx : exCode (callW code ext) (n + 1) b (s.tidy keep) with
      | none => simp [hx] at hn
      | some p =>
        rw [(den_some code ext).2 ⟨n + 1, hx⟩]
        rw [hx] at hn
        obtain ⟨e, s'⟩ := p
        cases e with
        | normal => exact (den_some code ext).2 ⟨n + 1, by simp only [exCode]; exact rounds_mono (fun _ _ h => h) n (n + 1) (Nat.le_succ n) hn⟩
        | exit id => exact hn
        | ret => exact hn
  · cases hx : den code ext b (s.tidy keep) with
    | none => simp [hx, andThen] at h
    | some p =>
      rw [hx] at h
      obtain ⟨n, hn⟩ := (den_some code ext).1 hx
      obtain ⟨e, s'⟩ := p
      cases e with
      | normal =>
        obtain ⟨k, hk⟩ := (den_some code ext).1 h
        refine (den_some code ext).2 ⟨max n k + 1, ?_⟩
        simp only [exCode, rounds] at hk ⊢
        rw [exCode_mono (c := callW code ext) (d := callW code ext) (fun _ _ _ _ h => h) (m := max n k + 1) (by omega) b hn]
        exact rounds_mono (fun s r hs => exCode_mono (c := callW code ext) (d := callW code ext) (fun _ _ _ _ h => h) (by omega) b hs) k (max n k) (by omega) hk
      | exit id =>
        refine (den_some code ext).2 ⟨n + 1, ?_⟩
        simp only [exCode, rounds]
        rw [exCode_mono (c := callW code ext) (d := callW code ext) (fun _ _ _ _ h => h) (m := n + 1) (by omega) b hn]
        exact h
      | ret =>
        refine (den_some code ext).2 ⟨n + 1, ?_⟩
        simp only [exCode, rounds]
        rw [exCode_mono (c := callW code ext) (d := callW code ext) (fun _ _ _ _ h => h) (m := n + 1) (by omega) b hn]
        exact h

def funOut (f : XFun) (p : Option (XExit × St)) : Option (AV × Mem) :=
  match p with
  | some (.normal, s) | some (.ret, s) => leave s f
  | _ => none

/-- A call comes to what its body comes to. -/
theorem callW_fun {fn : Nat} {f : XFun} (hf : code fn = some f) (as : List AV) (m : Mem) :
    callW code ext fn as m = funOut f (den code ext f.body { k := m.length, env := enter 0 as, mem := m }) := by
  refine opt_ext fun r => ⟨fun h => ?_, fun h => ?_⟩
  · obtain ⟨n, hn⟩ := (callW_some code ext).1 h
    cases n with
    | zero => simp [callN] at hn
    | succ n =>
      simp only [callN, hf, exFun] at hn
      cases hx : exCode (callN code ext n) n f.body { k := m.length, env := enter 0 as, mem := m } with
      | none => simp [hx] at hn
      | some p =>
        rw [(den_some code ext).2 ⟨n, exCode_mono (Le_callW code ext n) (Nat.le_refl n) f.body hx⟩]
        rw [hx] at hn
        exact hn
  · cases hx : den code ext f.body { k := m.length, env := enter 0 as, mem := m } with
    | none => simp [hx, funOut] at h
    | some p =>
      rw [hx] at h
      obtain ⟨n, hn⟩ := (den_some code ext).1 hx
      obtain ⟨k, hk⟩ := exCode_fin code ext n f.body hn
      refine (callW_some code ext).2 ⟨max n k + 1, ?_⟩
      simp only [callN, hf, exFun]
      rw [exCode_mono (callN_mono code ext (Nat.le_max_right n k)) (Nat.le_max_left n k) f.body hk]
      exact h

theorem callW_ext {fn : Nat} (hf : code fn = none) (as : List AV) (m : Mem) : callW code ext fn as m = ext fn as m := by
  refine opt_ext fun r => ⟨fun h => ?_, fun h => (callW_some code ext).2 ⟨1, by simpa [callN, hf] using h⟩⟩
  obtain ⟨n, hn⟩ := (callW_some code ext).1 h
  cases n with
  | zero => simp [callN] at hn
  | succ n => simpa [callN, hf] using hn
end
end Go.EX
