import Derived.Test.YtmpldniokcfmbaaDoorFmt
import Derived.Shelf.Spec.TrailingZeros
set_option linter.unusedVariables false
set_option linter.unusedSimpArgs false
namespace Go.EX
open Go.Proofs
section
variable {num : Names} {P : Program}
theorem zq0 {C : Cx} {a : Value} {vals : Array Value} (hl : [AV.imm (.val a)].length = vals.size) (hr : ∀ (j : Nat) (x : AV) (u : Value), [AV.imm (.val a)][j]? = some x → vals[j]? = some u → ARep num C x u) : vals = #[a] := by
 obtain ⟨l⟩ := vals
 match l, hl, hr with
 | [u], _, hr => rw [zmx (hr 0 _ u rfl rfl)]
def tzTab : Tab := ("math/bits.deBruijn64tab", IntKind.u8, Lib.deBruijn64tab.map fun (n : Nat) => (n : Int))
def extTz (g : Nat) : Calls' := fun f args m => if f = g then match args with
  | [.imm (.val (.int .u64 n))] => if 0 ≤ n ∧ n < 18446744073709551616 then some (.imm (.val (.int .i64 (Lib.ctz 64 n.toNat))), m) else none
  | _ => none
 else none
theorem zew {f0 : FuncId → Nat} {ts : List Tab} {ρ : Go.Shelf.Ren} (L : Lays7.n29 P ρ) (hgl : P.globalNamed "math/bits.deBruijn64tab" = some (ρ.g 1)) (ht : tzTab ∈ ts) {g : Nat} (hnum : ∀ f, f0 f = g → f = ρ.f 29) (hcl : Callable P (ρ.f 29)) :
  ExtOK (Names.tabs f0 P ts) P (extTz g) := by
 intro f args m r m' C vals hc hm hl hr
 unfold extTz at hc
 split at hc
 ·rename_i hf
  rw [hnum f hf]
  refine ⟨hcl, ?_⟩
  split at hc
  ·rename_i n
   split at hc
   ·rename_i hn
    simp only [Option.some.injEq, Prod.mk.injEq] at hc
    obtain ⟨rfl, rfl⟩ := hc
    obtain ⟨k, rfl⟩ : ∃ k : Nat, n = k := ⟨n.toNat, by omega⟩
    have hv : vals = #[.int .u64 (k : Int)] := zq0 hl hr
    subst hv
    have htab := (hm.glo _ ht).2
    refine (Any7.bits_TrailingZeros64 L k (by omega) C.w fun _ j hj => ?_).mono ?_
    ·have := Lib.TabIs.cell htab hgl j (by simpa [tzTab] using hj)
     rw [this]
     simp [tzTab, List.getD, hj]
    ·rintro e w' ⟨rfl, rfl⟩
     exact ⟨_, C, rfl, rfl, zgm hm rfl rfl rfl (Nat.le_refl _) (fun _ _ => rfl), .imm _ _ (.val _ rfl)⟩
   ·cases hc
  ·cases hc
 ·cases hc
end
end Go.EX

