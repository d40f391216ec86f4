import Derived.Test.YtfmpeoickjggiaaGreatDoorV9c
set_option linter.unusedVariables false
set_option linter.unusedSimpArgs false
namespace Go.EX
def constOk (c : Const) : Bool := (decide (c.k = 2) && decide (c.s = .empty)) || (decide (c.k = 3) && decide (c.n = 0) && decide ((c.s.size : Int) ≤ 4096))
def handOk (n : Int) (h : Handler) : Bool := decide (0 ≤ h.fr) && decide (h.fr < h.to) && decide (h.to ≤ h.at') && decide (h.at' < n) && isB h.deep 0 256
def capOk (nc nl : Int) (c : Cap) : Bool := if c.up then isB c.n 0 nc else isB c.n 0 nl
abbrev constAV (c : Const) : AV := .agg [.imm (.val (.int .u8 c.k)), int64 c.n, .imm (.val (.string c.s))]
abbrev handAV (h : Handler) : AV := .agg [int64 h.fr, int64 h.to, int64 h.at', int64 h.deep]
abbrev capAV (c : Cap) : AV := .agg [avb c.up, int64 c.n]
theorem const_test (c : Const) : run9 252 [constAV c] [] = some (avb (constOk c), []) := by
  unfold run9
  rw [callW_fun code9 (extInsert 766) (rfl : code9 252 = some x252)]
  unfold constOk
  by_cases h2 : c.k = 2
  · by_cases h3 : c.s = .empty <;> simp -implicitDefEqProofs [x252, h2, h3]
  · by_cases h3 : c.k = 3
    · by_cases h4 : c.n = 0
      · by_cases h5 : (c.s.size : Int) ≤ 4096 <;> simp -implicitDefEqProofs [x252, h2, h3, h4, h5]
      · simp -implicitDefEqProofs [x252, h2, h3, h4]
    · simp -implicitDefEqProofs [x252, h2, h3]
theorem const_spec (c : Const) : run9 254 [constAV c, .optr 0 0] [.rich [.clo 252 []]] = some (avb (!constOk c), [.rich [.clo 252 []]]) := by
  unfold run9
  rw [callW_fun code9 (extInsert 766) (rfl : code9 254 = some x254)]
  have h := const_test c
  unfold run9 at h
  simp -implicitDefEqProofs [x254, h]
theorem hand_test (n : Int) (x : Handler) : run9 253 [handAV x, .optr 0 0] [.rich [int64 n]] = some (avb (handOk n x), [.rich [int64 n]]) := by
  unfold run9
  rw [callW_fun code9 (extInsert 766) (rfl : code9 253 = some x253)]
  have his := fun a b c => is_spec a b c
  unfold run9 at his
  unfold handOk
  by_cases h1 : 0 ≤ x.fr
  · by_cases h2 : x.fr < x.to
    · by_cases h3 : x.to ≤ x.at'
      · by_cases h4 : x.at' < n
        · simp -implicitDefEqProofs [x253, h1, h2, h3, h4, his]
        · simp -implicitDefEqProofs [x253, h1, h2, h3, h4]
      · simp -implicitDefEqProofs [x253, h1, h2, h3]
    · simp -implicitDefEqProofs [x253, h1, h2]
  · simp -implicitDefEqProofs [x253, h1]
theorem hand_spec (n : Int) (x : Handler) : run9 256 [handAV x, .optr 0 0] [.rich [.clo 253 [.optr 1 0]], .rich [int64 n]] = some (avb (!handOk n x), [.rich [.clo 253 [.optr 1 0]], .rich [int64 n]]) := by
  unfold run9
  rw [callW_fun code9 (extInsert 766) (rfl : code9 256 = some x256)]
  have h := hand_test n x
  unfold run9 at h
  simp -implicitDefEqProofs [x256, h]
theorem line_spec (l : Int) : run9 255 [int64 l] [] = some (avb (decide (l < 0)), []) := by
  unfold run9
  rw [callW_fun code9 (extInsert 766) (rfl : code9 255 = some x255)]
  simp -implicitDefEqProofs [x255]
theorem cap_spec (f : Fn) (c : Cap) : run9 258 [capAV c, .imm (.ptr (tFn.enc f) 0)] [] = some (avb (!capOk f.caps.xs.length f.locals c), []) := by
  unfold run9
  rw [callW_fun code9 (extInsert 766) (rfl : code9 258 = some x258)]
  have his := fun a b c => is_spec a b c
  unfold run9 at his
  have l3 := reads_len f.caps.ok
  unfold capOk
  simp only [tFn]
  cases hu : c.up <;> simp -implicitDefEqProofs [x258, hu, his, l3]
theorem anyConst_spec  {lv : IV} {l : List Const} (hl : Reads tConst lv l) :
    run9 747 [.imm lv, .clo 254 [.optr 0 0]] [AObj.rich [AV.clo 252 []]] = some (avb (l.any fun x => !constOk x), [AObj.rich [AV.clo 252 []]]) := by
  have hlen := reads_len hl
  have hbl := hl.2.1
  have hs := fun x => const_spec x
  unfold run9 at hs ⊢
  have loop : ∃ e s', den code9 (extInsert 766) (.loop [0, 1, 7, 8] x757L1) ⟨List.length [AObj.rich [AV.clo 252 []]], [(0, .imm lv), (1, .clo 254 [.optr 0 0]), (7, int64 l.length), (8, int64 0)], [AObj.rich [AV.clo 252 []]]⟩ = some (e, s') ∧ e ≠ .normal ∧
      ((e = .exit 0 ∧ (l.any fun x => !constOk x) = false ∧ s' = ⟨List.length [AObj.rich [AV.clo 252 []]], [(0, .imm lv), (1, .clo 254 [.optr 0 0]), (7, int64 l.length), (8, int64 l.length), (9, avb false)], [AObj.rich [AV.clo 252 []]]⟩) ∨ (e = .ret ∧ (l.any fun x => !constOk x) = true ∧ ∃ i : Nat, s' = ⟨List.length [AObj.rich [AV.clo 252 []]], [(4, int64 (i : Nat))], [AObj.rich [AV.clo 252 []]]⟩)) := by
    refine loop_rule (fun n s => ∃ (i : Nat), i + n = l.length ∧ ((l.take i).any fun x => !constOk x) = false ∧ s = ⟨List.length [AObj.rich [AV.clo 252 []]], [(0, .imm lv), (1, .clo 254 [.optr 0 0]), (7, int64 l.length), (8, int64 (i : Nat))], [AObj.rich [AV.clo 252 []]]⟩) _ ?_ l.length _ ⟨0, by simp, by simp, rfl⟩
    rintro n _ ⟨i, hi, hall, rfl⟩
    by_cases hlt : i < l.length
    · obtain ⟨row, off, cap, rfl, hc, hcut, hget⟩ := reads_pos hl (List.getElem?_eq_getElem hlt)
      have e1 : IntKind.wrap .i64 ((i : Int) + 1) = (i : Int) + 1 := wrapI64 (by omega) (by omega)
      have htk : l.take (i + 1) = l.take i ++ [l[i]] := by rw [List.take_add_one, List.getElem?_eq_getElem hlt]; rfl
      have hmem := List.getElem_mem hlt
      generalize l[i] = x at hget htk hmem
      simp only [tConst] at hget
      have hsx := hs x
      cases hbv : (!constOk x) with
      | true =>
        rw [hbv] at hsx
        refine ⟨.ret, ⟨List.length [AObj.rich [AV.clo 252 []]], [(4, int64 (i : Nat))], [AObj.rich [AV.clo 252 []]]⟩, ?_, .inr ⟨by simp, .inr ⟨rfl, List.any_eq_true.2 ⟨x, hmem, hbv⟩, i, rfl⟩⟩⟩
        simp -implicitDefEqProofs [x757L1, hlt, hget, hsx]
      | false =>
        rw [hbv] at hsx
        refine ⟨.normal, ⟨List.length [AObj.rich [AV.clo 252 []]], [(0, .imm (.slice row off l.length cap)), (1, .clo 254 [.optr 0 0]), (7, int64 l.length), (8, int64 ((i : Int) + 1))], [AObj.rich [AV.clo 252 []]]⟩, ?_, .inl ⟨rfl, n - 1, by omega, i + 1, by omega, by rw [htk, List.any_append, hall]; simp [hbv], rfl⟩⟩
        simp -implicitDefEqProofs [x757L1, hlt, hget, hsx, e1]
    · have : i = l.length := by omega
      subst this
      rw [List.take_length] at hall
      refine ⟨.exit 0, _, ?_, .inr ⟨by simp, .inl ⟨rfl, hall, rfl⟩⟩⟩
      simp -implicitDefEqProofs [x757L1]
  have hidx : ∃ r : Int, callW code9 (extInsert 766) 757 [.imm lv, .clo 254 [.optr 0 0]] [AObj.rich [AV.clo 252 []]] = some (int64 r, [AObj.rich [AV.clo 252 []]]) ∧ ((0 ≤ r) ↔ (l.any fun x => !constOk x) = true) := by
    obtain ⟨e, s', g1, _, ⟨rfl, ha, rfl⟩ | ⟨rfl, ha, i, rfl⟩⟩ := loop
    · refine ⟨-1, ?_, by rw [ha]; simp⟩
      rw [callW_fun code9 (extInsert 766) (rfl : code9 757 = some x757)]
      simp only [List.length_cons, List.length_nil, Nat.zero_add] at g1
      simp -implicitDefEqProofs [x757, hlen, g1]
    · refine ⟨i, ?_, by rw [ha]; simp⟩
      rw [callW_fun code9 (extInsert 766) (rfl : code9 757 = some x757)]
      simp only [List.length_cons, List.length_nil, Nat.zero_add] at g1
      simp -implicitDefEqProofs [x757, hlen, g1]
  obtain ⟨r, hr, hri⟩ := hidx
  rw [callW_fun code9 (extInsert 766) (rfl : code9 747 = some x747)]
  have hdec : decide (0 ≤ r) = (l.any fun x => !constOk x) := by
    cases ha : (l.any fun x => !constOk x) with
    | true => simpa using hri.2 ha
    | false => simp only [decide_eq_false_iff_not]; intro hc; rw [hri.1 hc] at ha; cases ha
  skip
  simp -implicitDefEqProofs [x747, hr, hdec]
theorem anyHand_spec (n₀ : Int) {lv : IV} {l : List Handler} (hl : Reads tHandler lv l) :
    run9 748 [.imm lv, .clo 256 [.optr 0 0]] [AObj.rich [AV.clo 253 [.optr 1 0]], .rich [int64 n₀]] = some (avb (l.any fun x => !handOk n₀ x), [AObj.rich [AV.clo 253 [.optr 1 0]], .rich [int64 n₀]]) := by
  have hlen := reads_len hl
  have hbl := hl.2.1
  have hs := fun x => hand_spec n₀ x
  unfold run9 at hs ⊢
  have loop : ∃ e s', den code9 (extInsert 766) (.loop [0, 1, 7, 8] x758L1) ⟨List.length [AObj.rich [AV.clo 253 [.optr 1 0]], .rich [int64 n₀]], [(0, .imm lv), (1, .clo 256 [.optr 0 0]), (7, int64 l.length), (8, int64 0)], [AObj.rich [AV.clo 253 [.optr 1 0]], .rich [int64 n₀]]⟩ = some (e, s') ∧ e ≠ .normal ∧
      ((e = .exit 0 ∧ (l.any fun x => !handOk n₀ x) = false ∧ s' = ⟨List.length [AObj.rich [AV.clo 253 [.optr 1 0]], .rich [int64 n₀]], [(0, .imm lv), (1, .clo 256 [.optr 0 0]), (7, int64 l.length), (8, int64 l.length), (9, avb false)], [AObj.rich [AV.clo 253 [.optr 1 0]], .rich [int64 n₀]]⟩) ∨ (e = .ret ∧ (l.any fun x => !handOk n₀ x) = true ∧ ∃ i : Nat, s' = ⟨List.length [AObj.rich [AV.clo 253 [.optr 1 0]], .rich [int64 n₀]], [(4, int64 (i : Nat))], [AObj.rich [AV.clo 253 [.optr 1 0]], .rich [int64 n₀]]⟩)) := by
    refine loop_rule (fun n s => ∃ (i : Nat), i + n = l.length ∧ ((l.take i).any fun x => !handOk n₀ x) = false ∧ s = ⟨List.length [AObj.rich [AV.clo 253 [.optr 1 0]], .rich [int64 n₀]], [(0, .imm lv), (1, .clo 256 [.optr 0 0]), (7, int64 l.length), (8, int64 (i : Nat))], [AObj.rich [AV.clo 253 [.optr 1 0]], .rich [int64 n₀]]⟩) _ ?_ l.length _ ⟨0, by simp, by simp, rfl⟩
    rintro n _ ⟨i, hi, hall, rfl⟩
    by_cases hlt : i < l.length
    · obtain ⟨row, off, cap, rfl, hc, hcut, hget⟩ := reads_pos hl (List.getElem?_eq_getElem hlt)
      have e1 : IntKind.wrap .i64 ((i : Int) + 1) = (i : Int) + 1 := wrapI64 (by omega) (by omega)
      have htk : l.take (i + 1) = l.take i ++ [l[i]] := by rw [List.take_add_one, List.getElem?_eq_getElem hlt]; rfl
      have hmem := List.getElem_mem hlt
      generalize l[i] = x at hget htk hmem
      simp only [tHandler] at hget
      have hsx := hs x
      cases hbv : (!handOk n₀ x) with
      | true =>
        rw [hbv] at hsx
        refine ⟨.ret, ⟨List.length [AObj.rich [AV.clo 253 [.optr 1 0]], .rich [int64 n₀]], [(4, int64 (i : Nat))], [AObj.rich [AV.clo 253 [.optr 1 0]], .rich [int64 n₀]]⟩, ?_, .inr ⟨by simp, .inr ⟨rfl, List.any_eq_true.2 ⟨x, hmem, hbv⟩, i, rfl⟩⟩⟩
        simp -implicitDefEqProofs [x758L1, hlt, hget, hsx]
      | false =>
        rw [hbv] at hsx
        refine ⟨.normal, ⟨List.length [AObj.rich [AV.clo 253 [.optr 1 0]], .rich [int64 n₀]], [(0, .imm (.slice row off l.length cap)), (1, .clo 256 [.optr 0 0]), (7, int64 l.length), (8, int64 ((i : Int) + 1))], [AObj.rich [AV.clo 253 [.optr 1 0]], .rich [int64 n₀]]⟩, ?_, .inl ⟨rfl, n - 1, by omega, i + 1, by omega, by rw [htk, List.any_append, hall]; simp [hbv], rfl⟩⟩
        simp -implicitDefEqProofs [x758L1, hlt, hget, hsx, e1]
    · have : i = l.length := by omega
      subst this
      rw [List.take_length] at hall
      refine ⟨.exit 0, _, ?_, .inr ⟨by simp, .inl ⟨rfl, hall, rfl⟩⟩⟩
      simp -implicitDefEqProofs [x758L1]
  have hidx : ∃ r : Int, callW code9 (extInsert 766) 758 [.imm lv, .clo 256 [.optr 0 0]] [AObj.rich [AV.clo 253 [.optr 1 0]], .rich [int64 n₀]] = some (int64 r, [AObj.rich [AV.clo 253 [.optr 1 0]], .rich [int64 n₀]]) ∧ ((0 ≤ r) ↔ (l.any fun x => !handOk n₀ x) = true) := by
    obtain ⟨e, s', g1, _, ⟨rfl, ha, rfl⟩ | ⟨rfl, ha, i, rfl⟩⟩ := loop
    · refine ⟨-1, ?_, by rw [ha]; simp⟩
      rw [callW_fun code9 (extInsert 766) (rfl : code9 758 = some x758)]
      simp only [List.length_cons, List.length_nil, Nat.zero_add] at g1
      simp -implicitDefEqProofs [x758, hlen, g1]
    · refine ⟨i, ?_, by rw [ha]; simp⟩
      rw [callW_fun code9 (extInsert 766) (rfl : code9 758 = some x758)]
      simp only [List.length_cons, List.length_nil, Nat.zero_add] at g1
      simp -implicitDefEqProofs [x758, hlen, g1]
  obtain ⟨r, hr, hri⟩ := hidx
  rw [callW_fun code9 (extInsert 766) (rfl : code9 748 = some x748)]
  have hdec : decide (0 ≤ r) = (l.any fun x => !handOk n₀ x) := by
    cases ha : (l.any fun x => !handOk n₀ x) with
    | true => simpa using hri.2 ha
    | false => simp only [decide_eq_false_iff_not]; intro hc; rw [hri.1 hc] at ha; cases ha
  skip
  simp -implicitDefEqProofs [x748, hr, hdec]
theorem anyLine_spec  {lv : IV} {l : List Int} (hl : Reads (tInt .i64) lv l) :
    run9 750 [.imm lv, .clo 255 []] ([] : Mem) = some (avb (l.any fun x => decide (x < 0)), ([] : Mem)) := by
  have hlen := reads_len hl
  have hbl := hl.2.1
  have hs := fun x => line_spec x
  unfold run9 at hs ⊢
  have loop : ∃ e s', den code9 (extInsert 766) (.loop [0, 1, 7, 8] x760L1) ⟨List.length ([] : Mem), [(0, .imm lv), (1, .clo 255 []), (7, int64 l.length), (8, int64 0)], ([] : Mem)⟩ = some (e, s') ∧ e ≠ .normal ∧
      ((e = .exit 0 ∧ (l.any fun x => decide (x < 0)) = false ∧ s' = ⟨List.length ([] : Mem), [(0, .imm lv), (1, .clo 255 []), (7, int64 l.length), (8, int64 l.length), (9, avb false)], ([] : Mem)⟩) ∨ (e = .ret ∧ (l.any fun x => decide (x < 0)) = true ∧ ∃ i : Nat, s' = ⟨List.length ([] : Mem), [(4, int64 (i : Nat))], ([] : Mem)⟩)) := by
    refine loop_rule (fun n s => ∃ (i : Nat), i + n = l.length ∧ ((l.take i).any fun x => decide (x < 0)) = false ∧ s = ⟨List.length ([] : Mem), [(0, .imm lv), (1, .clo 255 []), (7, int64 l.length), (8, int64 (i : Nat))], ([] : Mem)⟩) _ ?_ l.length _ ⟨0, by simp, by simp, rfl⟩
    rintro n _ ⟨i, hi, hall, rfl⟩
    by_cases hlt : i < l.length
    · obtain ⟨row, off, cap, rfl, hc, hcut, hget⟩ := reads_pos hl (List.getElem?_eq_getElem hlt)
      have e1 : IntKind.wrap .i64 ((i : Int) + 1) = (i : Int) + 1 := wrapI64 (by omega) (by omega)
      have htk : l.take (i + 1) = l.take i ++ [l[i]] := by rw [List.take_add_one, List.getElem?_eq_getElem hlt]; rfl
      have hmem := List.getElem_mem hlt
      generalize l[i] = x at hget htk hmem
      simp only [tInt] at hget
      have g0 := cut_one (by simpa using hget)
      have hsx := hs x
      cases hbv : (decide (x < 0)) with
      | true =>
        rw [hbv] at hsx
        refine ⟨.ret, ⟨List.length ([] : Mem), [(4, int64 (i : Nat))], ([] : Mem)⟩, ?_, .inr ⟨by simp, .inr ⟨rfl, List.any_eq_true.2 ⟨x, hmem, hbv⟩, i, rfl⟩⟩⟩
        simp -implicitDefEqProofs [x760L1, hlt, g0, hget, hsx]
      | false =>
        rw [hbv] at hsx
        refine ⟨.normal, ⟨List.length ([] : Mem), [(0, .imm (.slice row off l.length cap)), (1, .clo 255 []), (7, int64 l.length), (8, int64 ((i : Int) + 1))], ([] : Mem)⟩, ?_, .inl ⟨rfl, n - 1, by omega, i + 1, by omega, by rw [htk, List.any_append, hall]; simp [hbv], rfl⟩⟩
        simp -implicitDefEqProofs [x760L1, hlt, g0, hget, hsx, e1]
    · have : i = l.length := by omega
      subst this
      rw [List.take_length] at hall
      refine ⟨.exit 0, _, ?_, .inr ⟨by simp, .inl ⟨rfl, hall, rfl⟩⟩⟩
      simp -implicitDefEqProofs [x760L1]
  have hidx : ∃ r : Int, callW code9 (extInsert 766) 760 [.imm lv, .clo 255 []] ([] : Mem) = some (int64 r, ([] : Mem)) ∧ ((0 ≤ r) ↔ (l.any fun x => decide (x < 0)) = true) := by
    obtain ⟨e, s', g1, _, ⟨rfl, ha, rfl⟩ | ⟨rfl, ha, i, rfl⟩⟩ := loop
    · refine ⟨-1, ?_, by rw [ha]; simp⟩
      rw [callW_fun code9 (extInsert 766) (rfl : code9 760 = some x760)]
      simp only [List.length_cons, List.length_nil, Nat.zero_add] at g1
      simp -implicitDefEqProofs [x760, hlen, g1]
    · refine ⟨i, ?_, by rw [ha]; simp⟩
      rw [callW_fun code9 (extInsert 766) (rfl : code9 760 = some x760)]
      simp only [List.length_cons, List.length_nil, Nat.zero_add] at g1
      simp -implicitDefEqProofs [x760, hlen, g1]
  obtain ⟨r, hr, hri⟩ := hidx
  rw [callW_fun code9 (extInsert 766) (rfl : code9 750 = some x750)]
  have hdec : decide (0 ≤ r) = (l.any fun x => decide (x < 0)) := by
    cases ha : (l.any fun x => decide (x < 0)) with
    | true => simpa using hri.2 ha
    | false => simp only [decide_eq_false_iff_not]; intro hc; rw [hri.1 hc] at ha; cases ha
  have hfz : frz [] (.imm lv) = some (.imm lv) := by simp [frz, frz_flat]
  simp -implicitDefEqProofs [x750, hr, hdec, frz_flat, frz.frzC]
theorem anyCap_spec (f : Fn) {lv : IV} {l : List Cap} (hl : Reads tCap lv l) :
    run9 746 [.imm lv, .clo 258 [.imm (.ptr (tFn.enc f) 0)]] ([] : Mem) = some (avb (l.any fun x => !capOk f.caps.xs.length f.locals x), ([] : Mem)) := by
  have hlen := reads_len hl
  have hbl := hl.2.1
  have hs := fun x => cap_spec f x
  unfold run9 at hs ⊢
  have loop : ∃ e s', den code9 (extInsert 766) (.loop [0, 1, 7, 8] x756L1) ⟨List.length ([] : Mem), [(0, .imm lv), (1, .clo 258 [.imm (.ptr (tFn.enc f) 0)]), (7, int64 l.length), (8, int64 0)], ([] : Mem)⟩ = some (e, s') ∧ e ≠ .normal ∧
      ((e = .exit 0 ∧ (l.any fun x => !capOk f.caps.xs.length f.locals x) = false ∧ s' = ⟨List.length ([] : Mem), [(0, .imm lv), (1, .clo 258 [.imm (.ptr (tFn.enc f) 0)]), (7, int64 l.length), (8, int64 l.length), (9, avb false)], ([] : Mem)⟩) ∨ (e = .ret ∧ (l.any fun x => !capOk f.caps.xs.length f.locals x) = true ∧ ∃ i : Nat, s' = ⟨List.length ([] : Mem), [(4, int64 (i : Nat))], ([] : Mem)⟩)) := by
    refine loop_rule (fun n s => ∃ (i : Nat), i + n = l.length ∧ ((l.take i).any fun x => !capOk f.caps.xs.length f.locals x) = false ∧ s = ⟨List.length ([] : Mem), [(0, .imm lv), (1, .clo 258 [.imm (.ptr (tFn.enc f) 0)]), (7, int64 l.length), (8, int64 (i : Nat))], ([] : Mem)⟩) _ ?_ l.length _ ⟨0, by simp, by simp, rfl⟩
    rintro n _ ⟨i, hi, hall, rfl⟩
    by_cases hlt : i < l.length
    · obtain ⟨row, off, cap, rfl, hc, hcut, hget⟩ := reads_pos hl (List.getElem?_eq_getElem hlt)
      have e1 : IntKind.wrap .i64 ((i : Int) + 1) = (i : Int) + 1 := wrapI64 (by omega) (by omega)
      have htk : l.take (i + 1) = l.take i ++ [l[i]] := by rw [List.take_add_one, List.getElem?_eq_getElem hlt]; rfl
      have hmem := List.getElem_mem hlt
      generalize l[i] = x at hget htk hmem
      simp only [tCap] at hget
      have hsx := hs x
      cases hbv : (!capOk f.caps.xs.length f.locals x) with
      | true =>
        rw [hbv] at hsx
        refine ⟨.ret, ⟨List.length ([] : Mem), [(4, int64 (i : Nat))], ([] : Mem)⟩, ?_, .inr ⟨by simp, .inr ⟨rfl, List.any_eq_true.2 ⟨x, hmem, hbv⟩, i, rfl⟩⟩⟩
        simp -implicitDefEqProofs [x756L1, hlt, hget, hsx]
      | false =>
        rw [hbv] at hsx
        refine ⟨.normal, ⟨List.length ([] : Mem), [(0, .imm (.slice row off l.length cap)), (1, .clo 258 [.imm (.ptr (tFn.enc f) 0)]), (7, int64 l.length), (8, int64 ((i : Int) + 1))], ([] : Mem)⟩, ?_, .inl ⟨rfl, n - 1, by omega, i + 1, by omega, by rw [htk, List.any_append, hall]; simp [hbv], rfl⟩⟩
        simp -implicitDefEqProofs [x756L1, hlt, hget, hsx, e1]
    · have : i = l.length := by omega
      subst this
      rw [List.take_length] at hall
      refine ⟨.exit 0, _, ?_, .inr ⟨by simp, .inl ⟨rfl, hall, rfl⟩⟩⟩
      simp -implicitDefEqProofs [x756L1]
  have hidx : ∃ r : Int, callW code9 (extInsert 766) 756 [.imm lv, .clo 258 [.imm (.ptr (tFn.enc f) 0)]] ([] : Mem) = some (int64 r, ([] : Mem)) ∧ ((0 ≤ r) ↔ (l.any fun x => !capOk f.caps.xs.length f.locals x) = true) := by
    obtain ⟨e, s', g1, _, ⟨rfl, ha, rfl⟩ | ⟨rfl, ha, i, rfl⟩⟩ := loop
    · refine ⟨-1, ?_, by rw [ha]; simp⟩
      rw [callW_fun code9 (extInsert 766) (rfl : code9 756 = some x756)]
      simp only [List.length_cons, List.length_nil, Nat.zero_add] at g1
      simp -implicitDefEqProofs [x756, hlen, g1]
    · refine ⟨i, ?_, by rw [ha]; simp⟩
      rw [callW_fun code9 (extInsert 766) (rfl : code9 756 = some x756)]
      simp only [List.length_cons, List.length_nil, Nat.zero_add] at g1
      simp -implicitDefEqProofs [x756, hlen, g1]
  obtain ⟨r, hr, hri⟩ := hidx
  rw [callW_fun code9 (extInsert 766) (rfl : code9 746 = some x746)]
  have hdec : decide (0 ≤ r) = (l.any fun x => !capOk f.caps.xs.length f.locals x) := by
    cases ha : (l.any fun x => !capOk f.caps.xs.length f.locals x) with
    | true => simpa using hri.2 ha
    | false => simp only [decide_eq_false_iff_not]; intro hc; rw [hri.1 hc] at ha; cases ha
  have hfz : frz [] (.imm lv) = some (.imm lv) := by simp [frz, frz_flat]
  simp -implicitDefEqProofs [x746, hr, hdec, frz_flat, frz.frzC]
end Go.EX

