import Derived.Test.YtgidfebccdfjgaaDoorH8
set_option linter.unusedVariables false
set_option linter.unusedSimpArgs false
namespace Go.EX
section
variable {code : Nat → Option XFun} {ext : Calls'}
theorem alloc_any (c : Heaps code ext) {W B : List Nat} {e : Nat} (hi : HI W B e) (k n : Int) (hk : 0 ≤ k ∧ k ≤ 255) :
    ∃ (a b : Int) (W' B' : List Nat) (e' : Nat), callW code ext 169 [.optr 0 0, .imm (.val (.int .u8 k)), int64 n] (hMem W B e) = some (.tup [int64 a, int64 b], hMem W' B' e') ∧ HI W' B' e' ∧ W'.length = W.length := by
  by_cases hbad : k < 3 ∨ 8 < k ∨ n < 0
  · exact ⟨_, _, W, B, e, alloc_arg c.small c.c169 hbad hi.pos, hi, rfl⟩
  · obtain ⟨k, rfl⟩ : ∃ m : Nat, k = m := ⟨k.toNat, by omega⟩
    obtain ⟨n, rfl⟩ : ∃ m : Nat, n = m := ⟨n.toNat, by omega⟩
    by_cases hf : n + e < W.length
    · exact ⟨_, _, _, _, _, alloc_step c hi (by omega) (by omega) hf, hi.alloc (by omega) hf, by rw [setAll_len]; simp⟩
    · exact ⟨_, _, W, B, e, alloc_full c.small c.c169 (by omega) (by omega) (by omega) (by have := hi.top; omega) hi.top hi.pos hi.bd, hi, rfl⟩
theorem cut_any (c : Heaps code ext) {W B : List Nat} {e : Nat} (hi : HI W B e) (a : Int) (ha : -9223372036854775808 ≤ a ∧ a ≤ 9223372036854775807) :
    ∃ (b : Int) (W' B' : List Nat) (e' : Nat), callW code ext 170 [.optr 0 0, int64 a] (hMem W B e) = some (int64 b, hMem W' B' e') ∧ HI W' B' e' ∧ W'.length = W.length := by
  by_cases h0 : a < 0 ∨ (e : Int) < a
  · exact ⟨_, W, B, e, cut_arg c hi a ha (by rcases h0 with h | h; exact .inl h; exact .inr (.inl h)), hi, rfl⟩
  · obtain ⟨w, g1, g2⟩ := within_spec (ext := ext) c.small c.c187 c.lz hi a ha
    cases w with
    | true => exact ⟨_, W, B, e, cut_arg c hi a ha (.inr (.inr g1)), hi, rfl⟩
    | false =>
      obtain ⟨a, rfl⟩ : ∃ m : Nat, a = m := ⟨a.toNat, by omega⟩
      have hae : a ≤ e := by omega
      have hc : Clear W B a := (hi.clear_iff hae).2 fun h => by simpa using g2.2 h
      obtain ⟨B', hB, g3⟩ := cut_ok c hi a hae g1
      exact ⟨_, W, B', a, g3, hi.cut hae hc hB, rfl⟩
theorem move_any (c : Heaps code ext) {W B : List Nat} {e : Nat} (hi : HI W B e) (i t : Int) (ht : -9223372036854775808 ≤ t ∧ t ≤ 9223372036854775807) :
    ∃ (b : Int) (W' B' : List Nat) (e' : Nat), callW code ext 172 [.optr 0 0, int64 i, int64 t] (hMem W B e) = some (int64 b, hMem W' B' e') ∧ HI W' B' e' ∧ W'.length = W.length := by
  have htop := hi.top
  have hbd := hi.bd
  by_cases hb : 0 ≤ i ∧ bitAt B i.toNat = true
  · obtain ⟨i, rfl⟩ : ∃ m : Nat, i = m := ⟨i.toNat, by omega⟩
    have hbi : bitAt B i = true := by simpa using hb.2
    have his := is_obj (ext := ext) c.small (hi.obj hbi)
    have hin := hi.inn i hbi
    by_cases h0 : t < 0 ∨ (i : Int) < t
    · exact ⟨_, W, B, e, move_arg c hi i t (.inr ⟨his, by rcases h0 with h | h; exact .inl h; exact .inr (.inl h)⟩), hi, rfl⟩
    · obtain ⟨w, g1, g2⟩ := within_spec (ext := ext) c.small c.c187 c.lz hi t ht
      cases w with
      | true => exact ⟨_, W, B, e, move_arg c hi i t (.inr ⟨his, .inr (.inr g1)⟩), hi, rfl⟩
      | false =>
        obtain ⟨t, rfl⟩ : ∃ m : Nat, t = m := ⟨t.toNat, by omega⟩
        have hc : Clear W B t := (hi.clear_iff (by omega)).2 fun h => by simpa using g2.2 h
        obtain ⟨B', hB, g3⟩ := move_ok c hi i t (hd W i + 1) hbi rfl (by omega) g1
        exact ⟨_, _, _, e, g3, (hi.move hbi (by omega) hc hB).1, by rw [setAll_len]⟩
  · have hn : NoObj B e i := hi.none fun h0 => by
      cases h : bitAt B i.toNat with
      | true => exact absurd ⟨h0, h⟩ hb
      | false => rfl
    exact ⟨_, W, B, e, move_arg c hi i t (.inl (is_none c.small (by omega) hn)), hi, rfl⟩
structure HOp where
  kind : Int
  k : Int
  size : Int
  at_ : Int
  to : Int
  w : Int
def tHOp : Ty HOp := ⟨6, true, fun o => [.val (.int .u8 o.kind), .val (.int .u8 o.k), .val (.int .i64 o.size), .val (.int .i64 o.at_), .val (.int .i64 o.to), .val (.int .u64 o.w)],
  fun o => (tInt .u8).wf o.kind ∧ (tInt .u8).wf o.k ∧ (tInt .i64).wf o.size ∧ (tInt .i64).wf o.at_ ∧ (tInt .i64).wf o.to ∧ (tInt .u64).wf o.w, fun _ => rfl⟩
end
end Go.EX

