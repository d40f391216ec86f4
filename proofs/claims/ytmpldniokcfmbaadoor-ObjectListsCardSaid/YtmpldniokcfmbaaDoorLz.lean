import Derived.Test.YtmpldniokcfmbaaDoorTz
import Derived.Shelf.Small.Bits
set_option linter.unusedVariables false
set_option linter.unusedSimpArgs false
namespace Go.EX
open Go.Proofs
section
variable {num : Names} {P : Program}
def extLz (g : Nat) : Calls' := fun f args m => if f = g then match args with
  | [.imm (.val (.int .u64 n))] => if 0 ≤ n ∧ n < 18446744073709551616 then some (.imm (.val (.int .i64 (64 - Lib.bitLen n.toNat : Nat))), m) else none
  | _ => none
 else none
theorem zes {ρ : Go.Shelf.Ren} (L : Lays.n134 P ρ) {g : Nat} (hnum : ∀ f, num f = g → f = ρ.f 134) (hcl : Callable P (ρ.f 134)) : ExtOK num P (extLz g) := by
 intro f args m r m' C vals hc hm hl hr
 unfold extLz at hc
 split at hc
 ·rename_i hf
  rw [hnum f hf]
  refine ⟨hcl, ?_⟩
  split at hc
  ·rename_i n
   split at hc
   ·rename_i hn
    simp only [Option.some.injEq, Prod.mk.injEq] at hc
    obtain ⟨rfl, rfl⟩ := hc
    have hv : vals = #[.int .u64 n] := zq0 hl hr
    subst hv
    have hle := Any.bitLen_le64 n hn.1 (by omega)
    refine (Any.bits_LeadingZeros64 L n C.w hn.1 (by omega)).mono ?_
    rintro e w' ⟨rfl, rfl⟩
    have he : (64 - (Lib.bitLen n.toNat : Int)) = ((64 - Lib.bitLen n.toNat : Nat) : Int) := by omega
    rw [he]
    exact ⟨_, C, rfl, rfl, zgm hm rfl rfl rfl (Nat.le_refl _) (fun _ _ => rfl), .imm _ _ (.val _ rfl)⟩
   ·cases hc
  ·cases hc
 ·cases hc
end
end Go.EX

