/-
  EX: a law's call, from the interpreter's answer.
-/
import Derived.Test.YtbomedbbgfcncaaSound4
import Derived.Below
set_option linter.unusedVariables false
set_option linter.unusedSimpArgs false
namespace Go.EX
open Go.RowKit

section
variable {num : FuncId → Nat} {P : Program} {code : Nat → Option XFun} {ext : Calls'}

/-- Arguments that read as such, in a world in which all that there is may be read and nothing is owned. -/
def Cx.whole (w : World) : Cx := { σ := fun _ => 0, I := fun b => b < w.heap.size, n := 0, w := w }

theorem whole_rep (w : World) : MRep num (Cx.whole w) [] :=
  ⟨rfl, fun id o h => by simp at h, fun i j o p h => by simp at h, fun b ⟨id, o, h, _⟩ => by simp at h, fun b h => h⟩

theorem law_true (h : Runs P num code ext) {f : FuncId} {args : List IV} {vals : Array Value} {w : World} {m : Mem} (hr : callW code ext (num f) (args.map .imm) [] = some (.imm (.val (.bool true)), m)) (hl : args.length = vals.size)
    (ha : ∀ (j : Nat) (x : IV) (u : Value), args[j]? = some x → vals[j]? = some u → IRep (fun b => b < w.heap.size) w x u) :
    Calls P f vals w fun e w' => e = .returned (.bool true) ∧ Below w.heap.size w w' := by
  obtain ⟨_, hc⟩ := runs_callW h f _ _ _ _ (Cx.whole w) vals hr (whole_rep w) (by simpa using hl) fun j x u hx hu => by
    rw [List.getElem?_map] at hx
    cases hq : args[j]? with
    | none => simp [hq] at hx
    | some q => simp [hq] at hx; subst hx; exact .imm _ _ (ha j q u hq hu)
  refine hc.mono fun e w' ⟨v, D, he, hw, hst, hv⟩ => ?_
  have := rep_val hv
  subst this
  subst hw
  exact ⟨he, hst.os, hst.tape, hst.out, hst.size, fun k hk => hst.keep k hk fun ⟨i, o, h, _⟩ => by simp at h⟩

end
end Go.EX
