/-
  EX: copies of lists of values; what the kernel reckons.
-/
import Derived.Test.YtmghegmjiagkgaaGreatDoorD23d
import Derived.Test.YtmghegmjiagkgaaGreatDoorDc
import Derived.Test.YtmghegmjiagkgaaGreatDoorK3
import Derived.KernelRfl
set_option linter.unusedVariables false
set_option linter.unusedSimpArgs false
namespace Go.EX

def noExt : Calls' := fun _ _ _ => none

theorem callN_sub {c0 code : Nat → Option XFun} {ext : Calls'} (h : ∀ g f, c0 g = some f → code g = some f) : ∀ n, Le (callN c0 noExt n) (callN code ext n)
  | 0 => fun f a m r hr => by cases hr
  | n + 1 => fun f a m r hr => by
    simp only [callN] at hr ⊢
    cases hc : c0 f with
    | none => rw [hc] at hr; cases hr
    | some xf =>
      rw [hc] at hr
      rw [h f xf hc]
      dsimp only at hr ⊢
      unfold exFun at hr ⊢
      cases hx : exCode (callN c0 noExt n) n xf.body { k := m.length, env := enter 0 a, mem := m } with
      | none => rw [hx] at hr; cases hr
      | some p =>
        rw [hx] at hr
        rw [exCode_mono (callN_sub h n) (Nat.le_refl n) xf.body hx]
        exact hr

/-- What the kernel reckons, for any program that has these functions. -/
theorem callW_run {c0 code : Nat → Option XFun} {ext : Calls'} (h : ∀ g f, c0 g = some f → code g = some f) (n : Nat) {g : Nat} {as : List AV} {m : Mem} {r : AV × Mem} (hr : callN c0 noExt n g as m = some r) : callW code ext g as m = some r :=
  (callW_some code ext).2 ⟨n, callN_sub h n _ _ _ _ hr⟩

def spVal : Val := ⟨0, 7777⟩

section
variable {code : Nat → Option XFun} {ext : Calls'}

theorem wf_sp : tVal.wf spVal := ⟨wfU8.2 (by simp [spVal]), wfI64.2 (by simp [spVal])⟩

theorem cut_front {α : Type} (t : Ty α) (xs ys : List α) : cut (t.row (xs ++ ys)) 0 (xs.length * t.sz) = some (t.row xs) := by
  rw [row_append]
  refine cut_mk ?_ (row_len t xs)
  rw [List.drop_zero, ← row_len t xs, List.take_left]

/-- A copy with one more behind. -/
def twinIV {α : Type} (t : Ty α) (sp : α) (xs : List α) : IV := .slice (t.row (xs ++ [sp])) 0 xs.length (some (xs.length + 1))

theorem twinIV_reads {α : Type} (t : Ty α) (sp : α) {iv : IV} {xs : List α} (h : Reads t iv xs) : Reads t (twinIV t sp xs) xs :=
  ⟨h.1, h.2.1, .inr ⟨_, 0, _, rfl, fun c hc => by cases hc; omega, cut_front t xs [sp]⟩⟩

theorem twinVals_spec (h : code 379 = some x379) {iv : IV} {xs : List Val} (hr : Reads tVal iv xs) (hb : xs.length ≤ 1000000000) :
    callW code ext 379 [.imm iv] [] = some (.osl 0 0 2 xs.length (some (xs.length + 1)), [.flat (tVal.row (xs ++ [spVal])) false]) :=
  twin_spec tVal zVal spVal 16 [.int .u8 0, .int .i64 0] (by decide) rfl (by simp [Value.oneCell']) 1 (.int .i64 7777) (by decide) rfl (h.trans rfl) hr (by omega) (by omega)

theorem leftVals_spec (h : code 336 = some x336) {iv : IV} {xs : List Val} (hr : Reads tVal iv xs) : callW code ext 336 [.imm (twinIV tVal spVal xs), .imm iv] [] = some (avb true, []) := by
  have hlen := reads_len hr
  have hb := hr.2.1
  have loop : ∃ e s', den code ext (.loop [0, 1, 5] x336L1) ⟨0, [(0, .imm (twinIV tVal spVal xs)), (1, .imm iv), (5, int64 0)], []⟩ = some (e, s') ∧ e ≠ .normal ∧
      (e = .exit 0 ∧ s' = ⟨0, [(0, .imm (twinIV tVal spVal xs)), (1, .imm iv), (5, int64 xs.length), (22, avb false)], []⟩) := by
    refine loop_rule (fun n s => ∃ (i : Nat), i + n = xs.length ∧ s = ⟨0, [(0, .imm (twinIV tVal spVal xs)), (1, .imm iv), (5, int64 (i : Nat))], []⟩) _ ?_ xs.length _ ⟨0, by simp, rfl⟩
    rintro n _ ⟨i, hi, rfl⟩
    by_cases hlt : i < xs.length
    · obtain ⟨row, off, cap, rfl, hc, hcut, hget⟩ := reads_pos hr (List.getElem?_eq_getElem hlt)
      have e1 : IntKind.wrap .i64 ((i : Int) + 1) = (i : Int) + 1 := wrapI64 (by omega) (by omega)
      have hget2 := flat_elem (t := tVal) (xs := xs ++ [spVal]) (i := i) (x := xs[i]) (by rw [List.getElem?_append_left hlt]; exact List.getElem?_eq_getElem hlt)
      generalize xs[i] = v at hget hget2
      simp only [tVal] at hget
      rw [show tVal.enc v = [.val (.int .u8 v.k), .val (.int .i64 v.n)] from rfl, show tVal.sz = 2 from rfl] at hget2
      refine ⟨.normal, ⟨0, [(0, .imm (twinIV tVal spVal xs)), (1, .imm (.slice row off xs.length cap)), (5, int64 ((i : Int) + 1))], []⟩, ?_, .inl ⟨rfl, n - 1, by omega, i + 1, by omega, rfl⟩⟩
      simp -implicitDefEqProofs [x336L1, hlt, hget, hget2, e1, twinIV]
    · have : i = xs.length := by omega
      subst this
      refine ⟨.exit 0, _, ?_, .inr ⟨by simp, rfl, rfl⟩⟩
      simp -implicitDefEqProofs [x336L1, hlen]
  obtain ⟨e, s', h1, _, rfl, rfl⟩ := loop
  rw [callW_fun code ext h]
  have e1 : IntKind.wrap .i64 ((xs.length : Int) + 1) = (xs.length : Int) + 1 := wrapI64 (by omega) (by omega)
  have e2 : (0 : Int) ≤ (xs.length : Int) + 1 := by omega
  have e5 : ((xs.length : Int) + 1).toNat = xs.length + 1 := by omega
  have e6 : (xs.length : Int) < (xs.length : Int) + 1 := by omega
  have e7 : ¬ ((xs.length : Int) + 1 ≤ (xs.length : Int)) := by omega
  have hget2 := flat_elem (t := tVal) (xs := xs ++ [spVal]) (i := xs.length) (x := spVal) (by simp)
  rw [show tVal.enc spVal = [.val (.int .u8 0), .val (.int .i64 7777)] from rfl, show tVal.sz = 2 from rfl] at hget2
  simp only [twinIV] at h1 ⊢
  simp -implicitDefEqProofs [x336, hlen, h1, e1, e2, e5, e6, e7, exSlice, hget2]

theorem lives_ok (h : ∀ g f, codeD g = some f → code g = some f) : callW code ext 496 [] [] = some (avb true, []) := callW_run h 60 (by kernel_rfl)

end
end Go.EX
