import Derived.Test.YtkmdbfhagicidaaDoorK11
import Derived.Test.YtkmdbfhagicidaaDoorTie
import Derived.Test.YtkmdbfhagicidaaDoorCards
import Derived.ProofKit
import Derived.LaidMore
import Derived.OpenShut
import Derived.Stop.Joined
import Derived.Stop.LaidErr
import Derived.JoinedOf
import Derived.SizedLaws
import Derived.SevenTiedAt
import Derived.Test.YtkmdbfhagicidaaDoorK9
import Derived.Test.YtkmdbfhagicidaaDoorK8
import Derived.Lib.LaidTab
namespace Go.Proofs.YtkmdbfhagicidaaDoor
open Go.EX Go.ChangeShapes Go.WideShapes Go.ChangeAt Go.RowKit
set_option linter.unusedVariables false
theorem own : ownKnob Tryd.prog.godebug = none := by kernel_rfl
theorem laidOut : laidOutB Tryd.prog = true := by kernel_rfl
abbrev laidTabs : List (String × DataW Unit) := [("math/bits.deBruijn32tab", Rows.laid_math_bits_deBruijn32tab), ("math/bits.deBruijn64tab", Rows.laid_math_bits_deBruijn64tab), ("internal/strconv.uint64pow10", Rows.laid_internal_strconv_uint64pow10), ("strconv.ErrRange", Rows.laid_strconv_ErrRange), ("strconv.ErrSyntax", Rows.laid_strconv_ErrSyntax)]
theorem znb : (Rows.laid_internal_strconv_uint64pow10 : DataW Unit) = Lib.tabData .u64 Lib.pow10Tab := by kernel_rfl
theorem gP : Tryd.prog.globalNamed "internal/strconv.uint64pow10" = some 2 := by kernel_rfl
theorem gR : Tryd.prog.globalNamed "strconv.ErrRange" = some 1 := by kernel_rfl
theorem gS : Tryd.prog.globalNamed "strconv.ErrSyntax" = some 0 := by kernel_rfl
theorem star : "*" ++ "errors.errorString" = "*errors.errorString" := by decide
theorem row92 (u : TypeId) (h : Tryd.prog.typeName? 3 u = some "*errors.errorString") : u = 92 :=
 typeName_ptr_named (nm := "errors.errorString") (by rw [star]; kernel_rfl) (by kernel_rfl) (by decide) u (by rw [star]; exact h)
theorem var_lt {W : World} {n : String} {g : Nat} {cs : Array Value} (hg : Tryd.prog.globalNamed n = some g) (h : W.var? Tryd.prog n = some cs) : g < W.heap.size := by
 unfold World.var? at h
 rw [hg] at h
 simp only [Option.bind_some] at h
 by_cases hlt : g < W.heap.size
 ·exact hlt
 ·rw [Array.getElem?_eq_none (by omega)] at h
  cases h
theorem znc {W : World} (h : laidMetH Tryd.prog laidTabs W) :
  TabsIn Tryd.prog [powTab] (fun b => b < W.heap.size) W ∧ ErrsIn Tryd.prog errNames (fun b => b < W.heap.size) W := by
 have h2 : laidMet Tryd.prog laidTabs W := h
 rw [laidTabs, znb] at h2
 have hl := h2.tail.tail
 have hR : laidMet Tryd.prog [("strconv.ErrRange", .iface "*errors.errorString" (.ptr (.agg [.lit (.string [118, 97, 108, 117, 101, 32, 111, 117, 116, 32, 111, 102, 32, 114, 97, 110, 103, 101])]))), ("strconv.ErrSyntax", Rows.laid_strconv_ErrSyntax)] W := hl.tail
 have hS : laidMet Tryd.prog [("strconv.ErrSyntax", .iface "*errors.errorString" (.ptr (.agg [.lit (.string [105, 110, 118, 97, 108, 105, 100, 32, 115, 121, 110, 116, 97, 120])])))] W := hl.tail.tail
 refine ⟨?_, ?_⟩
 ·have ht := Lib.tabIs_of_head (t := 87) (e := 66) (n := 20) gP (by kernel_rfl) Tryd.underlying87 Tryd.underlying66 (by kernel_rfl) (by kernel_rfl) hl
  intro t ht'
  simp only [List.mem_singleton] at ht'
  subst ht'
  exact ⟨⟨2, gP, var_lt gP ht⟩, ht⟩
 ·obtain ⟨a0, sa, hva, _, _, _⟩ := laid_sentinel hR gR (by kernel_rfl) Tryd.underlying48 row92 Tryd.underlying92 Tryd.underlying94 rfl rfl Tryd.underlying9 (by kernel_rfl) (by kernel_rfl)
  obtain ⟨b0, sb, hvb, _, _, _⟩ := laid_sentinel hS gS (by kernel_rfl) Tryd.underlying48 row92 Tryd.underlying92 Tryd.underlying94 rfl rfl Tryd.underlying9 (by kernel_rfl) (by kernel_rfl)
  intro t ht'
  simp only [List.mem_cons, List.not_mem_nil, or_false] at ht'
  rcases ht' with rfl | rfl
  ·exact ⟨⟨1, gR, var_lt gR hva⟩, _, _, hva⟩
  ·exact ⟨⟨0, gS, var_lt gS hvb⟩, _, _, hvb⟩
theorem zcr (os : Os) (args : Array Value) : laidMetH Tryd.prog laidTabs ((World.doorLaid Tryd.prog 400 os).forCall (fun _ _ => 0) ⟨#[], args, []⟩).memory :=
 laidMetH_of_parts3 (fuel := 8) (laidMet_of_run' 8 (by kernel_rfl) (by kernel_rfl)) (by kernel_rfl) (by kernel_rfl)
theorem readsText : ReadsAs Tryd.prog 9 tStr := readsStr Tryd.underlying9
end Go.Proofs.YtkmdbfhagicidaaDoor

