/-
  No cell of these rows narrows 'for every input' (looked for: loops, veiled, ifaces, maps, wideKeys, modest, calm, conditions, laid).
  DERIVED. THE GIVEN ROWS OF THIS SEAT. 3 by the template 'for every input the law returns true; each argument reads behind the call as it read before'; 0 by the template 'total and deterministic' (their statements: YtfmpeoickjggiaaTotals.lean).
  GIVEN WITH THE SEED: the statements are not yours to turn. If you find one false, say at which input.
  Laid BY PROGRAM, IN A SANDBOX (cutbox-rows.mjs): the forced cells as the released guide's own fill.sh prints them over the translation 3fa49125edad63af… (all of the seat's roots in one cut). By AI agents, Wed Nov 11 2026. No macro, syntax, notation, axiom, sorry.
-/
import Derived.Test.YtfmpeoickjggiaaChecked
import GoSem.Claim
import GoSem.ClaimJoined
import GoSem.ClaimMapViews
import Derived.JoinedTies
import Derived.KernelRfl
namespace Go.Proofs.Ytfmpeoickjggiaa
/- THE CELL 'sum', in the pinned program and in every row, IS THE sha256 OF THE DUMP (.gsa) THAT YtfmpeoickjggiaaProg.lean LOADS. Nothing in Lean hashes anything: it is a label: what it is worth is what the hold of that sum in a sandbox is worth. -/
noncomputable def Try.pinned : Pinned := { name := "ytfmpeoickjggiaa", sum := "3fa49125edad63af05add0fa2b5185a702d3fe88150e8e4bb8f1606c72210ba7", checked := Try.checked }
namespace Rows
def none {H : Type} : Left H := { results := [], args := [] }

/-- 'gearboxlaw09.VerifyChecks': WHATEVER THE INPUT: true; the input reads as it did. -/
def verifyChecksSpec : ChangeSpec := { name := "verifyChecks", fn := fun _ => fun
  | [d] => { results := [.lit (.bool true)], args := [d] }
  | _ => none }
def verifyChecksRow : OpenClaim := { program := "ytfmpeoickjggiaa", sum := "3fa49125edad63af05add0fa2b5185a702d3fe88150e8e4bb8f1606c72210ba7", func := "gearbox/gearboxlaw09.VerifyChecks", spec := "verifyChecks", inPlace := ["slices.overlaps[int]"], unfollowed := true, recurses := true, apart := false }
def VerifyChecksSaid : Prop := verifyChecksRow.holds Try.pinned (OpenSpec.ofChange verifyChecksSpec)

/-- ITS FALSE NEIGHBOUR: 'it returns false'. Refute it at one input. -/
def verifyChecksWrong : ChangeSpec := { name := "verifyChecks", fn := fun _ => fun
  | [d] => { results := [.lit (.bool false)], args := [d] }
  | _ => none }
def VerifyChecksWrongFalsely : Prop := verifyChecksRow.holds Try.pinned (OpenSpec.ofChange verifyChecksWrong)

/-- 'gearboxlaw09.VerifyRuns': WHATEVER THE INPUT: true; the input reads as it did. -/
def verifyRunsSpec : ChangeSpec := { name := "verifyRuns", fn := fun _ => fun
  | [d1, d2, d3] => { results := [.lit (.bool true)], args := [d1, d2, d3] }
  | _ => none }
def verifyRunsRow : OpenClaim := { program := "ytfmpeoickjggiaa", sum := "3fa49125edad63af05add0fa2b5185a702d3fe88150e8e4bb8f1606c72210ba7", func := "gearbox/gearboxlaw09.VerifyRuns", spec := "verifyRuns", inPlace := ["slices.overlaps[int]"], unfollowed := true, recurses := true, apart := false }
def VerifyRunsSaid : Prop := verifyRunsRow.holds Try.pinned (OpenSpec.ofChange verifyRunsSpec)

/-- ITS FALSE NEIGHBOUR: 'it returns false'. Refute it at one input. -/
def verifyRunsWrong : ChangeSpec := { name := "verifyRuns", fn := fun _ => fun
  | [d1, d2, d3] => { results := [.lit (.bool false)], args := [d1, d2, d3] }
  | _ => none }
def VerifyRunsWrongFalsely : Prop := verifyRunsRow.holds Try.pinned (OpenSpec.ofChange verifyRunsWrong)

/-- 'gearboxlaw09.VerifyNames': WHATEVER THE INPUT: true; the input reads as it did. -/
def verifyNamesSpec : ChangeSpec := { name := "verifyNames", fn := fun _ => fun
  | [d] => { results := [.lit (.bool true)], args := [d] }
  | _ => none }
def verifyNamesRow : OpenClaim := { program := "ytfmpeoickjggiaa", sum := "3fa49125edad63af05add0fa2b5185a702d3fe88150e8e4bb8f1606c72210ba7", func := "gearbox/gearboxlaw09.VerifyNames", spec := "verifyNames", inPlace := ["slices.overlaps[int]"], unfollowed := true, recurses := true, apart := false }
def VerifyNamesSaid : Prop := verifyNamesRow.holds Try.pinned (OpenSpec.ofChange verifyNamesSpec)

/-- ITS FALSE NEIGHBOUR: 'it returns false'. Refute it at one input. -/
def verifyNamesWrong : ChangeSpec := { name := "verifyNames", fn := fun _ => fun
  | [d] => { results := [.lit (.bool false)], args := [d] }
  | _ => none }
def VerifyNamesWrongFalsely : Prop := verifyNamesRow.holds Try.pinned (OpenSpec.ofChange verifyNamesWrong)

/- THE SECOND FORM. 'bulk': how many values and letters a reading holds, each counted each time it is reached (what is shared counts as often as it is met; a slice's spare places count too). A statement '..UptoSaid' is the law's where the arguments, and the package variables that the reading takes, are together of bulk at most 1048576: NARROWER than '..Said'. Prove '..Said' where nothing that the law and all that it calls make is longer than what came in: it says more and counts as full. Else prove '..UptoSaid'. A law counts once. -/
mutual
def uptoBulk {H : Type} : DataW H → Nat
  | .lit (.string bytes) => bytes.length + 1
  | .lit _ => 1
  | .nil => 1
  | .ptr d => uptoBulk d + 1
  | .slice elems spare => uptoBulkAll elems + uptoBulkAll spare + 1
  | .agg parts => uptoBulkAll parts + 1
  | .iface _ d => uptoBulk d + 1
  | .map entries => uptoBulkEntries entries + 1
  | .held _ => 1
def uptoBulkAll {H : Type} : List (DataW H) → Nat
  | [] => 0
  | d :: r => uptoBulk d + uptoBulkAll r
def uptoBulkEntries {H : Type} : List (Lit × DataW H) → Nat
  | [] => 0
  | x :: r => uptoBulkEntry x + uptoBulkEntries r
def uptoBulkEntry {H : Type} : Lit × DataW H → Nat
  | (.string bytes, d) => bytes.length + uptoBulk d + 1
  | (_, d) => uptoBulk d + 1
 end
def uptoSmall : (H : Type) → List (DataW H) → Bool := fun _ ds => decide (uptoBulkAll ds ≤ 1048576)
def OpenSpec.upto (s : _root_.Go.ChangeSpec) : _root_.Go.OpenSpec := { _root_.Go.OpenSpec.ofChange s with cond := some uptoSmall }

/-- 'gearboxlaw09.VerifyChecks', WHERE WHAT IT READS IS OF BULK AT MOST 1048576: true; the input reads as it did. -/
def verifyChecksUptoRow : OpenClaim := { program := "ytfmpeoickjggiaa", sum := "3fa49125edad63af05add0fa2b5185a702d3fe88150e8e4bb8f1606c72210ba7", func := "gearbox/gearboxlaw09.VerifyChecks", spec := "verifyChecks", inPlace := ["slices.overlaps[int]"], unfollowed := true, recurses := true, apart := false, narrowed := true }
def VerifyChecksUptoSaid : Prop := verifyChecksUptoRow.holds Try.pinned (OpenSpec.upto verifyChecksSpec)

/-- 'gearboxlaw09.VerifyRuns', WHERE WHAT IT READS IS OF BULK AT MOST 1048576: true; the input reads as it did. -/
def verifyRunsUptoRow : OpenClaim := { program := "ytfmpeoickjggiaa", sum := "3fa49125edad63af05add0fa2b5185a702d3fe88150e8e4bb8f1606c72210ba7", func := "gearbox/gearboxlaw09.VerifyRuns", spec := "verifyRuns", inPlace := ["slices.overlaps[int]"], unfollowed := true, recurses := true, apart := false, narrowed := true }
def VerifyRunsUptoSaid : Prop := verifyRunsUptoRow.holds Try.pinned (OpenSpec.upto verifyRunsSpec)

/-- 'gearboxlaw09.VerifyNames', WHERE WHAT IT READS IS OF BULK AT MOST 1048576: true; the input reads as it did. -/
def verifyNamesUptoRow : OpenClaim := { program := "ytfmpeoickjggiaa", sum := "3fa49125edad63af05add0fa2b5185a702d3fe88150e8e4bb8f1606c72210ba7", func := "gearbox/gearboxlaw09.VerifyNames", spec := "verifyNames", inPlace := ["slices.overlaps[int]"], unfollowed := true, recurses := true, apart := false, narrowed := true }
def VerifyNamesUptoSaid : Prop := verifyNamesUptoRow.holds Try.pinned (OpenSpec.upto verifyNamesSpec)

end Rows
end Go.Proofs.Ytfmpeoickjggiaa
