import Derived.Test.YtkmdbfhagicidaaGreatDoorBld
import Derived.Test.YtkmdbfhagicidaaGreatDoorFmt
set_option linter.unusedVariables false
set_option linter.unusedSimpArgs false
namespace Go.EX
open Go.Proofs
theorem zpx {w : World} {b o : Nat} {v : Value} {arr : Array Value} {e : TypeId} (hw : w.heap[b]? = some (.cells arr e (0, 0))) : w.setCell ⟨b, o, none⟩ v = w.setRow b (arr.setIfInBounds o v) := by
 have hlt : b < w.heap.size := (Array.getElem?_eq_some_iff.1 hw).1
 unfold World.setCell World.setRow
 congr 1
 refine Array.ext (by simp) fun i h1 h2 => ?_
 simp only [Array.getElem_modify]
 split
 ·rename_i hi
  subst hi
  have : w.heap[b] = .cells arr e (0, 0) := by rw [Array.getElem?_eq_getElem hlt] at hw; exact Option.some.inj hw
  simp [this]
 ·rfl
def extCheck (g : Nat) : Calls' := fun f args m => if f = g then match args with
  | [.optr id off] => match m[id]? with
   | some (.rich cs) => match cs[off]? with
    | some (.seat i o) => if i = id ∧ o = off then some (.tup [], m.set id (.rich (cs.set off (.optr id off)))) else none
    | some (.optr i o) => if i = id ∧ o = off then some (.tup [], m) else none
    | _ => none
   | _ => none
  | _ => none
 else none
def extStr (g : Nat) : Calls' := fun f args m => if f = g then match args with
  | [.optr id off] => match m[id]? with
   | some (.rich cs) => match cs[off + 1]? with
    | some (.imm (.val (.slice none 0 0))) => some (.imm (.val (.string .empty)), m)
    | some (.osl j 0 1 l none) => match m[j]? with
     | some (.text row) => match u8s row with
      | some ns => if row.length = l ∧ 0 < l ∧ (ns.all fun n => decide (0 ≤ n) && decide (n < 256)) = true then some (.imm (.val (.string (pushAll ns))), m.set j .dead ++ [.dead]) else none
      | none => none
     | _ => none
    | _ => none
   | _ => none
  | _ => none
 else none
section
variable {P : Program}
theorem zso {num : Names} {C : Cx} {id off : Nat} {vals : Array Value} (hl : [AV.optr id off].length = vals.size) (hr : ∀ (j : Nat) (x : AV) (u : Value), [AV.optr id off][j]? = some x → vals[j]? = some u → ARep num C x u) :
  vals = #[.pointer (some ⟨C.σ id, off, none⟩)] := by
 obtain ⟨l⟩ := vals
 match l, hl, hr with
 | [u], _, hr =>
  have := hr 0 _ u rfl rfl
  cases this
  rfl
theorem ptr_of {num : Names} {C : Cx} {i o : Nat} {u : Value} (h : ARep num C (.optr i o) u) : u = .pointer (some ⟨C.σ i, o, none⟩) := by cases h; rfl
theorem zff {w : World} {g n : Nat} {arr : Array Value} {e : TypeId} (hw : w.heap[g]? = some (.cells arr e (0, 0))) (hn : n ≠ 0) (b : Nat) :
  (w.drew.freeze ⟨g, 0, none⟩ n).heap[b]? = if b = g then some (.cells arr e (0, 0 + n)) else w.heap[b]? := by
 unfold World.freeze
 rw [if_neg hn]
 simp only [World.drew, Array.getElem?_modify]
 by_cases h : g = b
 ·subst h
  simp [hw]
 ·rw [if_neg h, if_neg (fun e => h e.symm)]
theorem zmr (ns : List Int) : pushAll ns = ⟨(ns.map fun n => UInt8.ofNat n.toNat).toArray⟩ := by
 have key : ∀ (ns : List Int) (b : ByteArray), ns.foldl (fun r n => r.push (UInt8.ofNat n.toNat)) b = ⟨b.data ++ (ns.map fun n => UInt8.ofNat n.toNat).toArray⟩ := by
  intro ns
  induction ns with
  | nil => intro b; simp
  | cons n r ih =>
   intro b
   rw [List.foldl_cons, ih]
   simp [ByteArray.push]
 have := key ns .empty
 unfold pushAll
 rw [this]
 have h0 : (ByteArray.empty).data = #[] := rfl
 rw [h0, Array.empty_append]
end
end Go.EX

