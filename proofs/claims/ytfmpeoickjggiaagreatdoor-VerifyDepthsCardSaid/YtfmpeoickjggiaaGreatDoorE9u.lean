import Derived.Test.YtfmpeoickjggiaaGreatDoorE9s
import Derived.Test.YtfmpeoickjggiaaGreatDoorE9l
import Derived.Test.YtfmpeoickjggiaaGreatDoorE9n
import Derived.Test.YtfmpeoickjggiaaGreatDoorV9t
import Derived.Test.YtfmpeoickjggiaaGreatDoorL9a
import Derived.Test.YtfmpeoickjggiaaGreatDoorC9
import Derived.Test.YtfmpeoickjggiaaGreatDoorV9s
set_option linter.unusedVariables false
set_option linter.unusedSimpArgs false
namespace Go.EX
theorem depthsR_closed {np : Nat} {f : Fn} (hf : FnOk np f) {T : List Int} {z : Int} (h : depthsR f = (some T, z)) : Closed f T [] ∧ T.length = f.code.xs.length ∧ (∀ x ∈ T, -1 ≤ x ∧ x ≤ 256) ∧ T[0]? = some 0 := by
  unfold depthsR at h
  have h1 := hf.some
  have hnem : 0 < f.code.xs.length := h1
  have hs : DOk f.code.xs.length ⟨(List.replicate f.code.xs.length (-1)).set 0 0, [0], true⟩ := by
    refine ⟨by simp, ⟨by simp, fun x hx => by simp at hx; omega⟩, fun p hpm => ?_, fun x hx => ?_⟩
    · have hp0 : p = 0 := by simpa using hpm
      subst hp0
      exact ⟨0, by rw [List.getElem?_set]; simp [hnem], Int.le_refl _⟩
    · rcases List.mem_or_eq_of_mem_set hx with h | h
      · have := (List.mem_replicate.1 h).2; omega
      · omega
  have hcl : Closed f ((List.replicate f.code.xs.length (-1)).set 0 0) [0] := by
    intro pc v i hv hv0 hno hi
    exfalso
    simp at hno
    rw [List.getElem?_set, if_neg (by omega)] at hv
    have := List.mem_of_getElem? hv
    rw [List.mem_replicate] at this
    omega
  have hm : meas ⟨(List.replicate f.code.xs.length (-1)).set 0 0, [0], true⟩ ≤ f.code.xs.length := by
    have := countP_set (List.replicate f.code.xs.length (-1)) 0 (-1) 0 (by rw [List.getElem?_replicate]; simp [hnem]) (by omega) (by omega)
    have h2 : (List.replicate f.code.xs.length (-1 : Int)).countP (fun x => decide (x < 0)) = f.code.xs.length := by rw [List.countP_replicate]; simp
    simp only [meas, List.length_singleton]
    omega
  obtain ⟨r1, r2, r3, r4⟩ := runD_closed hf _ _ _ hs hcl hm T z h
  exact ⟨r1, r2, r3, r4 0 0 (by rw [List.getElem?_set]; simp [hnem]) (by omega)⟩
end Go.EX

set_option linter.unusedVariables false
set_option linter.unusedSimpArgs false
namespace Go.EX
theorem frz_im (m : Mem) (x : IV) : frz m (.imm x) = some (.imm x) := rfl
end Go.EX

set_option maxRecDepth 100000
set_option linter.unusedVariables false
set_option linter.unusedSimpArgs false
namespace Go.EX
theorem callN_more {c0 code : Nat → Option XFun} {ext : Calls'} (h : ∀ g f, c0 g = some f → code g = some f) (h2 : ∀ g, c0 g = none → code g = none ∨ ∀ a m, ext g a m = none) : ∀ n, Le (callN c0 ext n) (callN code ext n)
  | 0 => fun f a m r hr => by cases hr
  | n + 1 => fun f a m r hr => by
    simp only [callN] at hr ⊢
    cases hc : c0 f with
    | none =>
      rw [hc] at hr
      rcases h2 f hc with h3 | h3
      · rw [h3]; exact hr
      · simp only [h3] at hr; cases hr
    | some xf =>
      rw [hc] at hr
      rw [h f xf hc]
      dsimp only at hr ⊢
      unfold exFun at hr ⊢
      cases hx : exCode (callN c0 ext n) n xf.body { k := m.length, env := enter 0 a, mem := m } with
      | none => rw [hx] at hr; cases hr
      | some p =>
        rw [hx] at hr
        rw [exCode_mono (callN_more h h2 n) (Nat.le_refl n) xf.body hx]
        exact hr
theorem code9_sub : ∀ g f, code9 g = some f → code9z g = some f := by
  intro g f h
  unfold code9 at h
  split at h <;> first | (cases h; rfl) | cases h
theorem ext9_none : ∀ g, code9 g = none → code9z g = none ∨ ∀ a m, extInsert 766 g a m = none := by
  intro g _
  by_cases h : g = 766
  · subst h; exact .inl rfl
  · exact .inr fun a m => by simp [extInsert, h]
noncomputable abbrev run9z : Calls' := callW code9z (extInsert 766)
theorem up9 {g : Nat} {av : List AV} {m : Mem} {r : AV × Mem} (h : run9 g av m = some r) : run9z g av m = some r := by
  obtain ⟨n, hn⟩ := (callW_some code9 (extInsert 766)).1 h
  exact (callW_some code9z (extInsert 766)).2 ⟨n, callN_more code9_sub ext9_none n _ _ _ _ hn⟩
theorem same350 {iv jv : IV} {xs : List Int} (hi : Reads (tInt .i64) iv xs) (hj : Reads (tInt .i64) jv xs) : run9 350 [.imm iv, .imm jv] [] = some (avb true, []) := by
  have hl1 := reads_len hi
  have hl2 := reads_len hj
  have hb := hi.2.1
  have loop : ∃ e s', den code9 (extInsert 766) (.loop [0, 1, 5] x350L1) ⟨0, [(0, .imm iv), (1, .imm jv), (5, int64 0)], []⟩ = some (e, s') ∧ e ≠ .normal ∧
      (e = .exit 0 ∧ s' = ⟨0, [(0, .imm iv), (1, .imm jv), (5, int64 xs.length), (14, avb false)], []⟩) := by
    refine loop_rule (fun n s => ∃ (i : Nat), i + n = xs.length ∧ s = ⟨0, [(0, .imm iv), (1, .imm jv), (5, int64 (i : Nat))], []⟩) _ ?_ xs.length _ ⟨0, by simp, rfl⟩
    rintro n _ ⟨i, hi2, rfl⟩
    by_cases hlt : i < xs.length
    · have hlti : (i : Int) < xs.length := by omega
      obtain ⟨row, off, cap, rfl, _, _, hget⟩ := reads_pos hi (List.getElem?_eq_getElem hlt)
      obtain ⟨row2, off2, cap2, rfl, _, _, hget2⟩ := reads_pos hj (List.getElem?_eq_getElem hlt)
      have e1 : IntKind.wrap .i64 ((i : Int) + 1) = (i : Int) + 1 := wrapI64 (by omega) (by omega)
      generalize xs[i] = v at hget hget2
      simp only [tInt, Nat.mul_one] at hget hget2
      replace hget := cut_one hget
      replace hget2 := cut_one hget2
      refine ⟨.normal, ⟨0, [(0, .imm (.slice row off xs.length cap)), (1, .imm (.slice row2 off2 xs.length cap2)), (5, int64 ((i : Int) + 1))], []⟩, ?_, .inl ⟨rfl, n - 1, by omega, i + 1, by omega, rfl⟩⟩
      simp -implicitDefEqProofs [x350L1, hlt, hlti, hget, hget2, e1]
    · have : i = xs.length := by omega
      subst this
      refine ⟨.exit 0, _, ?_, .inr ⟨by simp, rfl, rfl⟩⟩
      simp -implicitDefEqProofs [x350L1, hl1]
  obtain ⟨e, s', h1, _, rfl, rfl⟩ := loop
  unfold run9
  rw [callW_fun code9 (extInsert 766) (rfl : code9 350 = some x350)]
  simp -implicitDefEqProofs [x350, hl1, hl2, h1]
theorem ref_Depths {pv : IV} {ps : List Fn} (hp : Reads tFn pv ps) (fn : Int) (hfn : -9223372036854775808 ≤ fn ∧ fn ≤ 9223372036854775807) :
    ((lookR ps).1 = none → run9z 534 [.imm pv, int64 fn] [] = some (.tup [nilS, int64 8], [])) ∧
    ((∃ ms, (lookR ps).1 = some ms) → ¬ (0 ≤ fn ∧ fn < ps.length) → run9z 534 [.imm pv, int64 fn] [] = some (.tup [nilS, int64 1], [])) ∧
    (∀ ms f T z, (lookR ps).1 = some ms → 0 ≤ fn → ps[fn.toNat]? = some f → depthsR f = (some T, z) → run9z 534 [.imm pv, int64 fn] [] = some (.tup [.imm (.slice (rowI T) 0 T.length none), int64 0], [])) := by
  have hlen := reads_len hp
  have hbf := hp.2.1
  have hck := up9 (ref_check hp)
  unfold run9z at *
  rw [callW_fun code9z (extInsert 766) (rfl : code9z 534 = some x534)]
  refine ⟨fun h => ?_, fun ⟨ms, h⟩ hno => ?_, fun ms f T z h h0 hf hT => ?_⟩
  · have h8 : (checkR ps).2.2 = 8 := by unfold checkR; rw [h]
    rw [h8] at hck
    generalize (checkR ps).1 = c1 at *
    generalize (checkR ps).2.1 = c2 at *
    simp -implicitDefEqProofs [x534, hck]
  · have h8 : (checkR ps).2.2 = 0 := by unfold checkR; rw [h]
    rw [h8] at hck
    generalize (checkR ps).1 = c1 at *
    generalize (checkR ps).2.1 = c2 at *
    by_cases h1 : fn < 0
    · simp -implicitDefEqProofs [x534, hck, h1]
    · have h2 : (ps.length : Int) ≤ fn := by omega
      simp -implicitDefEqProofs [x534, hck, h1, hlen, h2]
  · have h8 : (checkR ps).2.2 = 0 := by unfold checkR; rw [h]
    rw [h8] at hck
    generalize (checkR ps).1 = c1 at *
    generalize (checkR ps).2.1 = c2 at *
    obtain ⟨k, rfl⟩ : ∃ k : Nat, fn = k := ⟨fn.toNat, by omega⟩
    rw [Int.toNat_natCast] at hf
    have hlt := (List.getElem?_eq_some_iff.1 hf).1
    have hlti : (k : Int) < ps.length := by omega
    have h1 : ¬ (k : Int) < 0 := by omega
    have h2 : ¬ (ps.length : Int) ≤ k := by omega
    have hlk : lookR ps = (some ms, (lookR ps).2) := by rw [← h]
    have hok := (lookR_all hlk hf).1
    rcases ref_depths f hok with ⟨p, hd, _⟩ | ⟨T2, mv, hd, _, hr⟩
    · rw [hT] at hd; cases hd
    · rw [hT] at hd
      simp only [Prod.mk.injEq, Option.some.injEq] at hd
      obtain ⟨rfl, _⟩ := hd
      replace hr := up9 hr
      unfold run9z at hr
      simp only [fnAV] at hr
      obtain ⟨row, off, cap, rfl, _, _, hget⟩ := reads_pos hp hf
      simp only [tFn] at hget
      generalize rowI T = R at *
      simp -implicitDefEqProofs [x534, hck, hlen, h1, h2, hlt, hlti, hget, hr]
theorem of_fst9 {p : Option (AV × Mem)} {v : AV} (h : p.map Prod.fst = some v) : ∃ m : Mem, p = some (v, m) := by
  cases p with
  | none => cases h
  | some q => obtain ⟨a, m⟩ := q; cases h; exact ⟨m, rfl⟩
def heldZ : AObj := .flat [.val (.slice none 0 0), .val (.slice none 0 0), .val (.int .i64 1)] false
theorem keepZ1 : run9z 8 [.optr 0 0, nilB] [.rich (bookI 0 nilB)] = some (.tup [], [.rich (bookI 1 (.osl 1 0 3 1 none)), heldZ]) := by
  unfold run9z
  rw [callW_fun code9z (extInsert 766) (rfl : code9z 8 = some x8)]
  have e1 : IntKind.wrap .i64 1 = 1 := by decide
  simp -implicitDefEqProofs [x8, callW_fun code9z (extInsert 766) (rfl : code9z 61 = some x61), x61, bookI, nilB, heldZ, e1, exAppendX, exAppend, exAppendR, elems, elemsR]
theorem keepZ2 : run9z 8 [.optr 0 0, nilB] [.rich (bookI 1 (.osl 1 0 3 1 none)), heldZ] = some (.tup [], [.rich (bookI 2 (.osl 2 0 3 2 none)), .dead, .rich [nilB, nilB, int64 1, nilB, nilB, int64 2]]) := by
  unfold run9z
  rw [callW_fun code9z (extInsert 766) (rfl : code9z 8 = some x8)]
  have e1 : IntKind.wrap .i64 2 = 2 := by decide
  simp -implicitDefEqProofs [x8, callW_fun code9z (extInsert 766) (rfl : code9z 61 = some x61), x61, bookI, nilB, heldZ, e1, exAppendX, exAppend, exAppendR, elems, elemsR]
theorem keepP1 (n : Nat) (c1 : List IV) (m1 : Bool) : run9z 8 [.optr 0 0, .osl 1 0 1 n none] [.rich (bookI 0 nilB), .flat c1 m1] =
    some (.tup [], [.rich (bookI 1 (.osl 2 0 3 1 none)), .flat c1 m1, .rich [.osl 1 0 1 n none, nilB, int64 1]]) := by
  unfold run9z
  rw [callW_fun code9z (extInsert 766) (rfl : code9z 8 = some x8)]
  have e1 : IntKind.wrap .i64 1 = 1 := by decide
  simp -implicitDefEqProofs [x8, callW_fun code9z (extInsert 766) (rfl : code9z 61 = some x61), x61, bookI, nilB, e1, exAppendX, exAppend, exAppendR, elems, elemsR]
theorem keepP2 (n : Nat) (c1 c3 : List IV) (m1 m3 : Bool) : run9z 8 [.optr 0 0, .osl 1 0 1 n none] [.rich (bookI 1 (.osl 2 0 3 1 none)), .flat c1 m1, .rich [.osl 3 0 1 n none, nilB, int64 1], .flat c3 m3] =
    some (.tup [], [.rich (bookI 2 (.osl 4 0 3 2 none)), .flat c1 m1, .dead, .flat c3 m3, .rich [.osl 3 0 1 n none, nilB, int64 1, .osl 1 0 1 n none, nilB, int64 2]]) := by
  unfold run9z
  rw [callW_fun code9z (extInsert 766) (rfl : code9z 8 = some x8)]
  have e1 : IntKind.wrap .i64 2 = 2 := by decide
  simp -implicitDefEqProofs [x8, callW_fun code9z (extInsert 766) (rfl : code9z 61 = some x61), x61, bookI, nilB, e1, exAppendX, exAppend, exAppendR, elems, elemsR]
set_option maxHeartbeats 8000000 in
theorem verifyDepths_ok {pv : IV} {ps : List Fn} (hp : Reads tFn pv ps) (fn : Int) (hfn : -9223372036854775808 ≤ fn ∧ fn ≤ 9223372036854775807) : ∃ m, run9z 463 [.imm pv, int64 fn] [] = some (avb true, m) := by
  apply of_fst9
  obtain ⟨g, hg, hsm⟩ := great9 hp
  replace hg := up9 hg
  cases g with
  | true =>
    unfold run9z at *
    rw [callW_fun code9z (extInsert 766) (rfl : code9z 463 = some x463)]
    simp -implicitDefEqProofs [x463, hg, frz_flat]
  | false =>
    obtain ⟨hl, hs⟩ := small_of hp.2.1 hp.1 (hsm rfl)
    obtain ⟨mc, ht, hf⟩ := twin_view hp hl hs
    have hrd := reads_twins ps (fun g hg => hp.1 g hg) hl
    have hd := depths_spec9 hrd fn hfn
    rw [← lookR_alike (alikes_twin ps)] at hd
    obtain ⟨r1, r2, r3⟩ := ref_Depths hp fn hfn
    have hleft := up9 (left331 hp)
    have htp : IV.slice ((ps.flatMap fun g => tFn.enc (twin g)) ++ spareIV) 0 ps.length (some (ps.length + 1)) = twProg ps := rfl
    rw [htp] at hd
    replace ht := up9 ht
    rcases hd with ⟨z, e, he, hor, hrun⟩ | ⟨ms, z, f, T, mv, hlk, h0, hff, hT, hTl, hrun⟩
    · have hR : run9z 534 [.imm pv, int64 fn] [] = some (.tup [nilS, int64 e], []) := by
        rcases hor with ⟨h1, rfl⟩ | ⟨⟨ms, h1⟩, h2, rfl⟩
        · exact r1 (by rw [h1])
        · rw [List.length_map] at h2
          exact r2 ⟨ms, by rw [h1]⟩ h2
      replace hrun := up9 hrun
      have hn : Reads (tInt .i64) (.val (.slice none 0 0)) [] := ⟨by simp, by simp, .inl ⟨rfl, rfl⟩⟩
      have hsame := up9 (same350 hn hn)
      have hk1 := keepZ1
      have hk2 := keepZ2
      obtain ⟨mo, hap⟩ := apartZ_spec (code := code9z) (ext := extInsert 766) (fun _ _ h => h)
      simp only [bookI, nilB, heldZ] at hk1 hk2 hap
      generalize twProg ps = T at *
      unfold run9z at *
      rw [callW_fun code9z (extInsert 766) (rfl : code9z 463 = some x463)]
      simp -implicitDefEqProofs [x463, hg, ht, hf, hrun, hR, hsame, hleft, hk1, hk2, hap, frz_flat, frz_im, -frz]
    · rw [List.getElem?_map] at hff
      cases hpf : ps[fn.toNat]? with
      | none => rw [hpf] at hff; cases hff
      | some f0 =>
        rw [hpf] at hff
        simp only [Option.map_some, Option.some.injEq] at hff
        subst hff
        have hT0 : depthsR f0 = (some T, -1) := by rw [depthsR_alike (alike_twin f0)]; exact hT
        have hR := r3 ms f0 T (-1) (by rw [hlk]) h0 hpf hT0
        have hok := (lookR_all hlk hpf).1
        obtain ⟨c1, c2, c3, c4⟩ := depthsR_closed hok hT0
        have hfew := hok.few
        have hr0 : Reads (tInt .i64) (.slice (rowI T) 0 T.length none) T := reads_row _ _ (fun x hx => by have := c3 x hx; exact wfI64.2 (by omega)) (by omega) (fun c h => by cases h)
        have hsame := up9 (same350 hr0 hr0)
        have hk1 := keepP1 T.length (rowI T) mv
        have hk2 := keepP2 T.length (rowI T) (rowI T) mv mv
        obtain ⟨mo, hap⟩ := apartP_spec (code := code9z) (ext := extInsert 766) (fun _ _ h => h) T.length mv mv T T rfl rfl (by omega)
        replace hrun := up9 hrun
        simp only [bookI, nilB] at hk1 hk2 hap
        generalize twProg ps = TW at *
        generalize rowI T = R at *
        have f1 : frz [] (.tup [.imm (.slice R 0 T.length none), int64 0]) = some (.tup [.imm (.slice R 0 T.length none), int64 0]) := rfl
        have f2 : frz [.flat R mv, .flat R mv] (.osl 0 0 1 T.length none) = some (.imm (.slice R 0 T.length none)) := rfl
        have f3 : frz [.flat R mv, .flat R mv] (.osl 1 0 1 T.length none) = some (.imm (.slice R 0 T.length none)) := rfl
        unfold run9z at *
        rw [callW_fun code9z (extInsert 766) (rfl : code9z 463 = some x463)]
        simp -implicitDefEqProofs [x463, hg, ht, hf, hrun, hR, hsame, hleft, hk1, hk2, hap, f1, f2, f3, frz_flat, frz_im, -frz]
end Go.EX

