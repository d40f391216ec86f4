import Derived.Test.YtgidfebccdfjgaaDoorL1c
set_option linter.unusedVariables false
set_option linter.unusedSimpArgs false
namespace Go.EX
section
variable {code : Nat → Option XFun} {ext : Calls'}
theorem alloc_step (c : Heaps code ext) {W B : List Nat} {e : Nat} (hi : HI W B e) {k n : Nat} (hk : 3 ≤ k) (hk2 : k ≤ 8) (hn : n + e < W.length) :
    callW code ext 169 [.optr 0 0, .imm (.val (.int .u8 k)), int64 n] (hMem W B e) = some (.tup [int64 e, int64 0], hMem (setAll (W.set e (n * 256 + k)) (e + 1) (List.replicate n 0)) (setBit B e) (e + n + 1)) := by
  obtain ⟨b, g1, g2, _⟩ := hi.word (i := e) hi.top
  have := alloc_ok (ext := ext) c.small c.c169 (W := W) (B := B) (e := e) hk hk2 hn hi.bd g1 g2
  rw [this, setBit, g1]; rfl
theorem places_of {B B' : List Nat} {f : Nat → Bool} (h : ∀ j, bitAt B j = f j) (n : Nat) : placesTo B n = (List.range n).filter f := by
  unfold placesTo
  congr 1
  funext j
  exact h j
theorem alive_ok (c : Heaps code ext) (h : code 381 = some x381) : callW code ext 381 [] [] = some (avb true, []) := by
  have f1 : callW code ext 567 [int64 10] [] = some (.tup [.optr 0 0, int64 0], hMem [0, 0, 0, 0, 0, 0, 0, 0, 0, 0] [0] 0) := new_ok (ext := ext) c.c567 10 (by decide) (by decide)
  have i1 : HI [0, 0, 0, 0, 0, 0, 0, 0, 0, 0] [0] 0 := HI.new 10 (by decide) (by decide)
  have f2 : callW code ext 169 [.optr 0 0, .imm (.val (.int .u8 3)), int64 2] (hMem [0, 0, 0, 0, 0, 0, 0, 0, 0, 0] [0] 0) = some (.tup [int64 0, int64 0], hMem [515, 0, 0, 0, 0, 0, 0, 0, 0, 0] [1] 3) := alloc_step c i1 (k := 3) (n := 2) (by decide) (by decide) (by decide)
  have i2 : HI [515, 0, 0, 0, 0, 0, 0, 0, 0, 0] [1] 3 := i1.alloc (n := 2) (k := 3) (by decide) (by decide)
  have f3 : callW code ext 169 [.optr 0 0, .imm (.val (.int .u8 7)), int64 2] (hMem [515, 0, 0, 0, 0, 0, 0, 0, 0, 0] [1] 3) = some (.tup [int64 3, int64 0], hMem [515, 0, 0, 519, 0, 0, 0, 0, 0, 0] [9] 6) := alloc_step c i2 (k := 7) (n := 2) (by decide) (by decide) (by decide)
  have i3 : HI [515, 0, 0, 519, 0, 0, 0, 0, 0, 0] [9] 6 := i2.alloc (n := 2) (k := 7) (by decide) (by decide)
  have o3 : ObjAt [515, 0, 0, 519, 0, 0, 0, 0, 0, 0] [9] 6 3 2 := i3.obj (i := 3) (by decide)
  have f4 : callW code ext 178 [.optr 0 0, int64 3, int64 1, uint64 7] (hMem [515, 0, 0, 519, 0, 0, 0, 0, 0, 0] [9] 6) = some (int64 0, hMem [515, 0, 0, 519, 0, 7, 0, 0, 0, 0] [9] 6) := write_obj (ext := ext) c.small c.c178 o3 (k := 1) (v := 7) (by decide)
  have i4 : HI [515, 0, 0, 519, 0, 7, 0, 0, 0, 0] [9] 6 := i3.write (i := 3) (k := 1) (v := 7) (by decide) (by decide) (by decide)
  have o4 : ObjAt [515, 0, 0, 519, 0, 7, 0, 0, 0, 0] [9] 6 3 2 := i4.obj (i := 3) (by decide)
  have f5 : callW code ext 174 [.optr 0 0, int64 3, int64 1] (hMem [515, 0, 0, 519, 0, 7, 0, 0, 0, 0] [9] 6) = some (.tup [uint64 7, int64 0], hMem [515, 0, 0, 519, 0, 7, 0, 0, 0, 0] [9] 6) := read_obj (ext := ext) c.small c.c174 o4 (k := 1) (v := 7) (by decide) (by decide)
  have f6 : callW code ext 169 [.optr 0 0, .imm (.val (.int .u8 4)), int64 4] (hMem [515, 0, 0, 519, 0, 7, 0, 0, 0, 0] [9] 6) = some (.tup [int64 0, int64 7], hMem [515, 0, 0, 519, 0, 7, 0, 0, 0, 0] [9] 6) := alloc_full (ext := ext) c.small c.c169 (by decide) (by decide) (by decide) (by decide) (by decide) (by decide) (by decide)
  have f7 : callW code ext 169 [.optr 0 0, .imm (.val (.int .u8 4)), int64 3] (hMem [515, 0, 0, 519, 0, 7, 0, 0, 0, 0] [9] 6) = some (.tup [int64 6, int64 0], hMem [515, 0, 0, 519, 0, 7, 772, 0, 0, 0] [73] 10) := alloc_step c i4 (k := 4) (n := 3) (by decide) (by decide) (by decide)
  have i7 : HI [515, 0, 0, 519, 0, 7, 772, 0, 0, 0] [73] 10 := i4.alloc (n := 3) (k := 4) (by decide) (by decide)
  obtain ⟨w, g1, g2⟩ := within_spec (ext := ext) c.small c.c187 c.lz i7 0 (by decide)
  have hw : w = false := by
    cases w with
    | false => rfl
    | true => exact absurd (g2.1 rfl).1 (by decide)
  subst hw
  obtain ⟨B', hB, f8⟩ := move_ok (ext := ext) c i7 3 0 3 (by decide) (by decide) (by decide) g1
  have f8 : callW code ext 172 [.optr 0 0, int64 3, int64 0] (hMem [515, 0, 0, 519, 0, 7, 772, 0, 0, 0] [73] 10) = some (int64 0, hMem [519, 0, 7, 519, 0, 7, 772, 0, 0, 0] (setBit B' 0) 10) := f8
  obtain ⟨i8, hbit⟩ := i7.move (i := 3) (t := 0) (by decide) (by decide) (fun j hj => absurd hj (Nat.not_lt_zero j)) hB
  have i8 : HI [519, 0, 7, 519, 0, 7, 772, 0, 0, 0] (setBit B' 0) 10 := i8
  have o8 : ObjAt [519, 0, 7, 519, 0, 7, 772, 0, 0, 0] (setBit B' 0) 10 0 2 := i8.obj (i := 0) (by rw [hbit]; decide)
  have f9 : callW code ext 174 [.optr 0 0, int64 0, int64 1] (hMem [519, 0, 7, 519, 0, 7, 772, 0, 0, 0] (setBit B' 0) 10) = some (.tup [uint64 7, int64 0], hMem [519, 0, 7, 519, 0, 7, 772, 0, 0, 0] (setBit B' 0) 10) := read_obj (ext := ext) c.small c.c174 o8 (k := 1) (v := 7) (by decide) (by decide)
  have f10 : callW code ext 567 [int64 0] [] = some (.tup [.imm (.val (.pointer none)), int64 1], []) := new_no (ext := ext) c.c567 0 (by decide)
  have f11 := used_spec (ext := ext) c.c176 [519, 0, 7, 519, 0, 7, 772, 0, 0, 0] (setBit B' 0) 10
  have f12 := places_spec (ext := ext) c.small c.c173 c.c179 c.c180 c.yld c.tz i8
  have hp : placesTo (setBit B' 0) 10 = [0, 6] := by
    rw [places_of (B' := B') hbit]; decide
  rw [hp] at f12
  have hl : (setBit B' 0).length = 1 := by simp [setBit, hB.len]
  generalize setBit B' 0 = B5 at *
  simp only [hMem, uint64, u64v, List.length_cons, List.length_nil, Nat.zero_add, Nat.reduceAdd, hl, plVal, Int.cast_ofNat_Int, Int.natCast_zero, Int.natCast_one] at f1 f2 f3 f4 f5 f6 f7 f8 f9 f11 f12
  rw [callW_fun code ext h]
  have p2 := pcells_refs
  have p3 := pcells_ren
  simp -implicitDefEqProofs [-intBin, b_eql, x381, f1, f2, f3, f4, f5, f6, f7, f8, f9, f10, f11, f12, p2, p3]
end
end Go.EX

