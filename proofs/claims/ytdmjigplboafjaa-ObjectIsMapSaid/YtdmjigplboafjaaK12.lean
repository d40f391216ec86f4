import Derived.Test.YtdmjigplboafjaaK11
set_option linter.unusedVariables false
set_option linter.unusedSimpArgs false
namespace Go.EX
def kRow (ks : List Int) : List IV := ks.map fun k => .val (.int .u8 k)
theorem zhd {ks : List Int} {i : Nat} {k : Int} (h : ks[i]? = some k) : (kRow ks)[i]? = some (.val (.int .u8 k)) := by simp [kRow, h]
section
variable {code : Nat → Option XFun} {ext : Calls'}
theorem zg4 (k : Int) (ks : List Int) (n : Nat) (hn : n = ks.length) (hn2 : n ≤ 1000) : ∀ (m : Nat) (st : St), (∃ i, m + i = n ∧ (∀ j, j < i → ks[j]? ≠ some k) ∧ st.tidy [0, 1, 7, 8] = ⟨1, [(0, .osl 0 0 1 n (some n)), (1, uint8 k), (7, int64 n), (8, int64 i)], [.flat (kRow ks) false]⟩) →
  ∃ x s', den code ext (.loop [0, 1, 7, 8] x762L1) st = some (x, s') ∧ x ≠ .normal ∧ ((x = .ret ∧ k ∈ ks ∧ ∃ i : Nat, s' = ⟨1, [(4, int64 i)], [.flat (kRow ks) false]⟩) ∨ (x = .exit 0 ∧ k ∉ ks ∧ s' = ⟨1, [(0, .osl 0 0 1 n (some n)), (1, uint8 k), (7, int64 n), (8, int64 n), (9, avb false)], [.flat (kRow ks) false]⟩)) := by
 refine zic _ _ ?_
 rintro m st ⟨i, hm, hno, hst⟩
 rw [hst]
 by_cases hi : i < n
 ·obtain ⟨q, hq⟩ : ∃ q, ks[i]? = some q := ⟨_, List.getElem?_eq_getElem (by omega)⟩
  have hr := zhd hq
  have e1 : (i : Int) < n := by omega
  obtain ⟨i1, hi1⟩ : ∃ i1, i1 = i + 1 := ⟨_, rfl⟩
  have e3 : IntKind.wrap .i64 ((i : Int) + 1) = (i1 : Int) := by rw [wrapI64 (by omega) (by omega)]; omega
  by_cases hk : k = q
  ·subst hk
   refine ⟨.ret, ⟨1, [(4, int64 i)], [.flat (kRow ks) false]⟩, ?_, .inr ⟨by simp, .inl ⟨rfl, List.mem_of_getElem? hq, i, rfl⟩⟩⟩
   simp -implicitDefEqProofs [x762L1, e1, hi, hr]
  ·refine ⟨.normal, ⟨1, [(0, .osl 0 0 1 n (some n)), (1, uint8 k), (7, int64 n), (8, int64 i1)], [.flat (kRow ks) false]⟩, ?_, .inl ⟨rfl, m - 1, by omega, i1, by omega, fun j hj => ?_, by simp -implicitDefEqProofs []⟩⟩
   ·simp -implicitDefEqProofs [x762L1, e1, hi, hr, hk, e3]
   ·by_cases hji : j = i
    ·subst hji; rw [hq]; exact fun h => hk (Option.some.inj h).symm
    ·exact hno j (by omega)
 ·have hie : i = n := by omega
  subst hie
  refine ⟨.exit 0, ⟨1, [(0, .osl 0 0 1 i (some i)), (1, uint8 k), (7, int64 i), (8, int64 i), (9, avb false)], [.flat (kRow ks) false]⟩, ?_, .inr ⟨by simp, .inr ⟨rfl, fun h => ?_, rfl⟩⟩⟩
  ·simp -implicitDefEqProofs [x762L1]
  ·obtain ⟨j, hj⟩ := List.getElem?_of_mem h
   have := (List.getElem?_eq_some_iff.1 hj).1
   exact hno j (by omega) hj
theorem zcm (c : TextCode code) (k : Int) (ks : List Int) (n : Nat) (hn : n = ks.length) (hn2 : n ≤ 1000) : callW code ext 752 [.osl 0 0 1 n (some n), uint8 k] [.flat (kRow ks) false] = some (avb (decide (k ∈ ks)), [.flat (kRow ks) false]) := by
 obtain ⟨x, s', h1, _, hq⟩ := zg4 (code := code) (ext := ext) k ks n hn hn2 n ⟨1, [(0, .osl 0 0 1 n (some n)), (1, uint8 k), (7, int64 n), (8, int64 0)], [.flat (kRow ks) false]⟩ ⟨0, rfl, fun j hj => absurd hj (Nat.not_lt_zero j), by simp -implicitDefEqProofs []⟩
 rcases hq with ⟨rfl, hmem, i, rfl⟩ | ⟨rfl, hno, rfl⟩
 ·have h2 : callW code ext 762 [.osl 0 0 1 n (some n), uint8 k] [.flat (kRow ks) false] = some (int64 i, [.flat (kRow ks) false]) := by
   rw [zb5 code ext c.c762]
   simp -implicitDefEqProofs [x762, h1]
  rw [zb5 code ext c.c752]
  simp -implicitDefEqProofs [x752, h2, hmem]
 ·have h2 : callW code ext 762 [.osl 0 0 1 n (some n), uint8 k] [.flat (kRow ks) false] = some (int64 (-1), [.flat (kRow ks) false]) := by
   rw [zb5 code ext c.c762]
   simp -implicitDefEqProofs [x762, h1]
  rw [zb5 code ext c.c752]
  simp -implicitDefEqProofs [x752, h2, hno]
theorem zit (c : RowCode code) {W B : List Nat} {e m room : Nat} {vs : List Val} (hi : HI W B e) (h : LM W B e m 5 room vs) (hl : vs.length ≤ 131072) (hev : vs.length % 2 = 0) :
  callW code ext 277 [objV m 5] (hMem W B e) = some (avb true, hMem W B e) := by
 have htop := hi.top; have ht3 := hi.bd
 obtain ⟨w, hw⟩ := h.at_
 have f1 : callW code ext 281 [objV m 5] (hMem W B e) = some (int64 2, hMem W B e) := zbn (ext := ext) c.toTextCode hi hw 5
 have f2 : callW code ext 286 [objV m 5, int64 0] (hMem W B e) = some (uint64 vs.length, hMem W B e) := zbo (ext := ext) c.toTextCode hi hw (i := 0) (v := vs.length) rfl 5
 have e0 : IntKind.wrap .u64 (131072 : Int) = 131072 := by decide
 have e1 : ¬ (131072 : Int) < vs.length := by omega
 have e1' : ¬ 131072 < vs.length := by omega
 have e2 : (vs.length : Int).tmod 2 = 0 := by rw [Int.tmod_eq_emod_of_nonneg (by omega)]; omega
 have e2' : IntKind.wrap .u64 ((vs.length : Int).tmod 2) = 0 := by rw [e2]; rfl
 rcases h with ⟨h1, h2, h3⟩ | ⟨h1, p, h2, h3⟩
 ·subst h2
  have f3 : callW code ext 286 [objV m 5, int64 1] (hMem W B e) = some (uint64 0, hMem W B e) := zbo (ext := ext) c.toTextCode hi h3 (i := 1) (v := 0) rfl 5
  simp only [List.length_nil, Int.natCast_zero] at f2
  rw [zb5 code ext c.c277]
  simp -implicitDefEqProofs [x277, f1, f2, f3, e0, show IntKind.wrap .u64 (0 : Int) = 0 from rfl]
 ·have f3 : callW code ext 286 [objV m 5, int64 1] (hMem W B e) = some (uint64 (p + 1), hMem W B e) := zbo (ext := ext) c.toTextCode hi h2 (i := 1) (v := p + 1) rfl 5
  have f4 := zg9 (ext := ext) c hi h2 h3 5
  obtain ⟨ws, g1, g2, _⟩ := h3.vals
  have g3 := g1.top
  have hfit := h3.fit
  have f5 := zbn (ext := ext) c.toTextCode hi g1 8
  obtain ⟨q, hq⟩ : ∃ q, q = p + 1 := ⟨_, rfl⟩
  rw [← hq] at f3
  have e3 : ¬ (q : Int) = 0 := by omega
  have e3' : ¬ q = 0 := by omega
  have e4 : (ws.length : Int).tmod 2 = 0 := by rw [Int.tmod_eq_emod_of_nonneg (by omega)]; omega
  have e5 : (ws.length : Int).tdiv 2 = (room : Int) := by rw [Int.tdiv_eq_ediv_of_nonneg (by omega)]; omega
  have e6 : IntKind.wrap .i64 (room : Int) = (room : Int) := wrapI64 (by omega) (by omega)
  have e7 : IntKind.wrap .u64 (room : Int) = (room : Int) := wrapU64 (by omega) (by omega)
  have e8 : (vs.length : Int) ≤ room := by omega
  rw [zb5 code ext c.c277]
  generalize ws.length = wl at *
  generalize vs.length = vl at *
  simp -implicitDefEqProofs [-intBin, b_eql, b_neq, b_gtr, b_leq, b_add, show ∀ x : Int, intBin .quo .i64 x 2 = some (.int .i64 (IntKind.wrap .i64 (x.tdiv 2))) from fun x => rfl, show ∀ x : Int, intBin .rem .i64 x 2 = some (.int .i64 (x.tmod 2)) from fun x => rfl, show ∀ x : Int, intBin .rem .u64 x 2 = some (.int .u64 (x.tmod 2)) from fun x => rfl,
   show intBin .mul .u64 65536 2 = some (.int .u64 131072) from rfl, x277, f1, f2, f3, f4, f5, e0, e1, e1', e2, e2', e3, e3', e4, e5, e6, e7, e8, hfit]
theorem ze9 (c : RowCode code) {W B : List Nat} {e m room : Nat} {vs : List Val} (hi : HI W B e) (h : LM W B e m 5 room vs) (hl : vs.length ≤ 131072) (hev : vs.length % 2 = 0) (ks : List Int) (hk : (5 : Int) ∈ ks) (n : Nat) (hn : n = ks.length) (hn2 : n ≤ 1000) :
  callW code ext 610 [.optr 0 0, valV 5 m, .osl 1 0 1 n (some n)] (kMem W B e (.flat (kRow ks) false)) = some (.tup [objV m 5, int64 0], kMem W B e (.flat (kRow ks) false)) := by
 have h1 := zjr (ext := ext) c.toTextCode W B e hi.pos
 have h2 := zcm (ext := ext) c.toTextCode 5 ks n hn hn2
 rw [decide_eq_true hk] at h2
 obtain ⟨w, hw⟩ := h.at_
 have h3 : callW code ext 613 [.optr 0 0, valV 5 m] (hMem W B e) = some (.tup [objV m 5, avb true], hMem W B e) := zbl (ext := ext) c.toTextCode hi hw (by decide)
 have h4 := zit (ext := ext) c hi h hl hev
 rw [zb5 code ext c.c610]
 simp -implicitDefEqProofs [x610, h1, h2, h3, h4]
theorem zfa (c : RowCode code) {W B : List Nat} {e : Nat} (hi : HI W B e) (k n : Int) (ks : List Int) (hk : k ∉ ks) (l : Nat) (hn : l = ks.length) (hn2 : l ≤ 1000) :
  callW code ext 610 [.optr 0 0, valV k n, .osl 1 0 1 l (some l)] (kMem W B e (.flat (kRow ks) false)) = some (.tup [.agg [.imm (.val (.pointer none)), int64 0, uint8 0], int64 9], kMem W B e (.flat (kRow ks) false)) := by
 have h1 := zjr (ext := ext) c.toTextCode W B e hi.pos
 have h2 := zcm (ext := ext) c.toTextCode k ks l hn hn2
 rw [decide_eq_false hk] at h2
 rw [zb5 code ext c.c610]
 simp -implicitDefEqProofs [x610, h1, h2]
end
end Go.EX


set_option linter.unusedVariables false
set_option linter.unusedSimpArgs false
namespace Go.EX
structure Key where
 k : Int
 n : Int
 s : List UInt8
 deriving DecidableEq
abbrev keyL (q : Key) : List AV := [uint8 q.k, int64 q.n, strO q.s]
abbrev keyA (q : Key) : AV := .agg (keyL q)
def KeyAt (W B : List Nat) (e : Nat) (v : Val) (q : Key) : Prop :=
 (v.k = 3 ∧ ∃ (a : Nat) (s : List UInt8), v.n = a ∧ TextAt W B e a s ∧ s.length ≤ 4096 ∧ q = ⟨3, 0, 61 :: s⟩) ∨ (v.k ≠ 0 ∧ v.k ≠ 3 ∧ q = ⟨v.k, v.n, []⟩)
theorem KeyAt.more {W B : List Nat} {e : Nat} {v : Val} {q : Key} (h : KeyAt W B e v q) {W' B' : List Nat} {e' : Nat} (he : e ≤ e') (hw : ∀ i, i < e → W'[i]? = W[i]?) (hb : ∀ i, i < e → bitAt B' i = bitAt B i) : KeyAt W' B' e' v q := by
 rcases h with ⟨h1, a, s, h2, h3, h4, h5⟩ | h
 ·exact .inl ⟨h1, a, s, h2, h3.more he hw hb, h4, h5⟩
 ·exact .inr h
theorem KeyAt.other {W B : List Nat} {e a k i x : Nat} {ws : List Nat} {v : Val} {q : Key} (h : KeyAt W B e v q) (hi : HI W B e) (g : At W B e a k ws) (hil : i < ws.length) (hk : k ≠ 3) : KeyAt (W.set (a + 1 + i) x) B e v q := by
 rcases h with ⟨h1, b, s, h2, h3, h4, h5⟩ | h
 ·have hab : a ≠ b := by
   rintro rfl
   have h6 := g.head
   rw [h3.head] at h6
   have h7 := g.small
   have := Option.some.inj h6
   omega
  exact .inl ⟨h1, b, s, h2, (At.other hi g hil h3.at hab).text, h4, h5⟩
 ·exact .inr h
theorem bytesEq (a b : List UInt8) : (bsO a == bsO b) = decide (a = b) := by
 show ((bsO a).data == (bsO b).data) = decide (a = b)
 rw [Bool.eq_iff_iff, beq_iff_eq]; simp [bsO]
theorem key_eq (q r : Key) : sameCells [0, 0, 2] (keyL q) (keyL r) = some (decide (q = r)) := by
 cases q with
 | mk k n s =>
  cases r with
  | mk k' n' s' =>
   simp only [sameCells, if_true, Option.map_some, Option.some.injEq, bytesEq, Key.mk.injEq]
   by_cases h1 : k = k' <;> by_cases h2 : n = n' <;> by_cases h3 : s = s' <;> simp [h1, h2, h3]
section
variable {code : Nat → Option XFun} {ext : Calls'}
theorem zi9 (c : RowCode code) {W B : List Nat} {e : Nat} (hi : HI W B e) (k n : Int) (h0 : k ≠ 0) (h3 : k ≠ 3) :
  callW code ext 616 [.optr 0 0, valV k n] (hMem W B e) = some (keyA ⟨k, n, []⟩, hMem W B e) := by
 have f1 := zfa (ext := ext) c hi k n [3] (by simpa using h3) 1 rfl (by decide)
 have f2 : callW code ext 605 [.optr 0 0, valV k n] (hMem W B e) = some (.tup [.imm (.val (.string .empty)), int64 9], hMem W B e) := by
  have hr : kRow [3] = [.val (.int .u8 3)] := rfl
  rw [hr] at f1
  rw [zb5 code ext c.c605]
  simp -implicitDefEqProofs [x605, f1]
 have hb : strO [] = .imm (.val (.string .empty)) := rfl
 rw [zb5 code ext c.c616]
 show _ = some (AV.agg [uint8 k, int64 n, strO []], _)
 rw [hb]
 simp -implicitDefEqProofs [x616, f2, h0]
theorem zja (c : RowCode code) {W B : List Nat} {e : Nat} {v : Val} {q : Key} (hi : HI W B e) (h : KeyAt W B e v q) :
  callW code ext 616 [.optr 0 0, valA v] (hMem W B e) = some (keyA q, hMem W B e) := by
 rcases h with ⟨h1, a, s, h2, h3, h4, rfl⟩ | ⟨h1, h2, rfl⟩
 ·show callW code ext 616 [.optr 0 0, valV v.k v.n] (hMem W B e) = _
  rw [h1, h2]
  exact zjb (ext := ext) c.toTextCode hi h3 h4
 ·exact zi9 (ext := ext) c hi v.k v.n h1 h2
def KeysAt (W B : List Nat) (e : Nat) (vs : List Val) (qs : List Key) : Prop :=
 vs.length = 2 * qs.length ∧ ∀ (j : Nat) q, qs[j]? = some q → ∃ v, vs[2 * j]? = some v ∧ KeyAt W B e v q
abbrev fkEnv (i : Nat) : Env := [(2, .optr 3 0), (5, .optr 4 0), (6, .optr 5 0), (8, int64 i)]
abbrev fkMem (W B : List Nat) (e m : Nat) (q : Key) (p : Int) : Mem := [.rich [.osl 1 0 1 W.length (some W.length), .osl 2 0 1 B.length (some B.length), int64 e], .flat (urow W) false, .flat (urow B) false, .rich [.optr 0 0, int64 m, uint8 5], .rich (keyL q), .rich [.optr 0 0, int64 p, uint8 8]]
theorem zfd (c : RowCode code) {W B : List Nat} {e m p room : Nat} {vs : List Val} {qs : List Key} {q : Key} (hi : HI W B e) (hm : At W B e m 5 [vs.length, p + 1]) (h : ItemsAt W B e p room vs) (hk : KeysAt W B e vs qs) : ∀ (n : Nat) (st : St), (∃ j, n + j = qs.length ∧ (∀ l, l < j → qs[l]? ≠ some q) ∧ st.tidy [2, 5, 6, 8] = ⟨3, fkEnv (2 * j), fkMem W B e m q p⟩) →
  ∃ x s', den code ext (.loop [2, 5, 6, 8] x274L1) st = some (x, s') ∧ x ≠ .normal ∧
   ((x = .ret ∧ ∃ j, qs[j]? = some q ∧ (∀ l, l < j → qs[l]? ≠ some q) ∧ s' = ⟨3, [(4, int64 (2 * j + 1 : Nat))], fkMem W B e m q p⟩) ∨ (x = .exit 0 ∧ q ∉ qs ∧ s' = ⟨3, fkEnv vs.length ++ [(22, avb false)], fkMem W B e m q p⟩)) := by
 obtain ⟨hlen, hks⟩ := hk
 obtain ⟨ws, g1, g2, _⟩ := h.vals
 have htop := g1.top; have ht2 := hi.top; have ht3 := hi.bd; have hfit := h.fit
 have f1 : callW code ext 286 [objV m 5, int64 0] (hMem W B e) = some (uint64 vs.length, hMem W B e) := zbo (ext := ext) c.toTextCode hi hm (i := 0) (v := vs.length) rfl 5
 have e0 : IntKind.wrap .i64 (vs.length : Int) = (vs.length : Int) := wrapI64 (by omega) (by omega)
 refine zic _ _ ?_
 rintro n st ⟨j, hn, hno, hst⟩
 rw [hst]
 obtain ⟨i, hij⟩ : ∃ i, i = 2 * j := ⟨_, rfl⟩
 rw [← hij]
 by_cases hjl : j < qs.length
 ·obtain ⟨r, hr⟩ : ∃ r, qs[j]? = some r := ⟨_, List.getElem?_eq_getElem hjl⟩
  obtain ⟨v, hv, hkv⟩ := hks j r hr
  rw [← hij] at hv
  obtain ⟨i2, hi2⟩ : ∃ i2, i2 = 2 * i := ⟨_, rfl⟩
  have f2 := zq3 (ext := ext) c hi h hv i2 hi2
  have f3 := zja (ext := ext) c hi hkv
  have f4 := key_eq r q
  have e1 : (i : Int) < vs.length := by omega
  have e1' : i < vs.length := by omega
  have e2 : IntKind.wrap .i64 (2 * (i : Int)) = (i2 : Int) := by rw [wrapI64 (by omega) (by omega)]; omega
  by_cases hq : r = q
  ·subst hq
   obtain ⟨i3, hi3⟩ : ∃ i3, i3 = 2 * j + 1 := ⟨_, rfl⟩
   have e3 : IntKind.wrap .i64 ((i : Int) + 1) = (i3 : Int) := by rw [wrapI64 (by omega) (by omega)]; omega
   refine ⟨.ret, ⟨3, [(4, int64 (2 * j + 1 : Nat))], fkMem W B e m r p⟩, ?_, .inr ⟨by simp, .inl ⟨rfl, j, hr, hno, rfl⟩⟩⟩
   rw [← hi3]
   rw [decide_eq_true rfl] at f4
   simp -implicitDefEqProofs [-sameCells, x274L1, f1, f2, f3, f4, e0, e1, e1', e2, e3]
  ·obtain ⟨i3, hi3⟩ : ∃ i3, i3 = i + 2 := ⟨_, rfl⟩
   have e3 : IntKind.wrap .i64 ((i : Int) + 2) = (i3 : Int) := by rw [wrapI64 (by omega) (by omega)]; omega
   rw [decide_eq_false hq] at f4
   refine ⟨.normal, ⟨3, fkEnv i3, fkMem W B e m q p⟩, ?_, .inl ⟨rfl, n - 1, by omega, j + 1, by omega, fun l hl => ?_, ?_⟩⟩
   ·simp -implicitDefEqProofs [-sameCells, x274L1, f1, f2, f3, f4, e0, e1, e1', e2, e3]
   ·by_cases hlj : l = j
    ·subst hlj; rw [hr]; exact fun h => hq (Option.some.inj h)
    ·exact hno l (by omega)
   ·rw [show 2 * (j + 1) = i3 by omega]
    simp -implicitDefEqProofs []
 ·have hie : i = vs.length := by omega
  rw [hie]
  have e1 : ¬ (vs.length : Int) < vs.length := by omega
  refine ⟨.exit 0, ⟨3, fkEnv vs.length ++ [(22, avb false)], fkMem W B e m q p⟩, ?_, .inr ⟨by simp, .inr ⟨rfl, fun hh => ?_, rfl⟩⟩⟩
  ·simp -implicitDefEqProofs [x274L1, f1, e0, e1]
  ·obtain ⟨l, hl⟩ := List.getElem?_of_mem hh
   have := (List.getElem?_eq_some_iff.1 hl).1
   exact hno l (by omega) hl
def PlaceOf (qs : List Key) (q : Key) (r : Int) : Prop := (∃ j : Nat, qs[j]? = some q ∧ (∀ l, l < j → qs[l]? ≠ some q) ∧ r = (2 * j + 1 : Nat)) ∨ (q ∉ qs ∧ r = -1)
theorem zfe (c : RowCode code) {W B : List Nat} {e m room : Nat} {vs : List Val} {qs : List Key} {v : Val} {q : Key} (hi : HI W B e) (h : LM W B e m 5 room vs) (hk : KeysAt W B e vs qs) (hv : KeyAt W B e v q) :
  ∃ r, PlaceOf qs q r ∧ callW code ext 274 [objV m 5, valA v] (hMem W B e) = some (int64 r, hMem W B e) := by
 have f1 := zja (ext := ext) c hi hv
 rcases h with ⟨h1, h2, h3⟩ | ⟨h1, p, h2, h3⟩
 ·subst h2
  have hq0 : qs = [] := List.eq_nil_of_length_eq_zero (by have := hk.1; simp at this; omega)
  subst hq0
  have f2 := zg8 (ext := ext) c hi h3 5
  have f3 : callW code ext 286 [objV m 5, int64 0] (hMem W B e) = some (uint64 0, hMem W B e) := zbo (ext := ext) c.toTextCode hi h3 (i := 0) (v := 0) rfl 5
  have e0 : IntKind.wrap .i64 (0 : Int) = 0 := rfl
  have hl : ∀ st : St, st.tidy [2, 5, 6, 8] = ⟨3, fkEnv 0, fkMem W B e m q (-1)⟩ → den code ext (.loop [2, 5, 6, 8] x274L1) st = some (.exit 0, ⟨3, fkEnv 0 ++ [(22, avb false)], fkMem W B e m q (-1)⟩) := by
   intro st hst
   rw [zc5, hst]
   simp -implicitDefEqProofs [x274L1, f3, e0]
  refine ⟨-1, .inr ⟨by simp, rfl⟩, ?_⟩
  have f4 := hl ⟨3, [(2, .optr 3 0), (5, .optr 5 0), (6, .optr 6 0), (8, int64 0)], [.rich [.osl 1 0 1 W.length (some W.length), .osl 2 0 1 B.length (some B.length), int64 e], .flat (urow W) false, .flat (urow B) false, .rich [.optr 0 0, int64 m, uint8 5], .rich [uint8 v.k, int64 v.n], .rich (keyL q), .rich [.optr 0 0, int64 (-1), uint8 8]]⟩ (by simp -implicitDefEqProofs [])
  simp only [fkEnv, Int.natCast_zero, List.cons_append, List.nil_append] at f4
  rw [zb5 code ext c.c274]
  simp -implicitDefEqProofs [x274, f1, f2, f4]
 ·have f2 := zg9 (ext := ext) c hi h2 h3 5
  obtain ⟨x, s', f4, _, hq⟩ := zfd (code := code) (ext := ext) c (q := q) hi h2 h3 hk qs.length ⟨3, [(2, .optr 3 0), (5, .optr 5 0), (6, .optr 6 0), (8, int64 0)], [.rich [.osl 1 0 1 W.length (some W.length), .osl 2 0 1 B.length (some B.length), int64 e], .flat (urow W) false, .flat (urow B) false, .rich [.optr 0 0, int64 m, uint8 5], .rich [uint8 v.k, int64 v.n], .rich (keyL q), .rich [.optr 0 0, int64 p, uint8 8]]⟩ ⟨0, rfl, fun l hl => absurd hl (Nat.not_lt_zero l), by simp -implicitDefEqProofs []⟩
  rcases hq with ⟨rfl, j, g1, g2, rfl⟩ | ⟨rfl, g1, rfl⟩
  ·refine ⟨(2 * j + 1 : Nat), .inl ⟨j, g1, g2, rfl⟩, ?_⟩
   generalize 2 * j + 1 = r at *
   rw [zb5 code ext c.c274]
   simp -implicitDefEqProofs [x274, f1, f2, f4]
  ·refine ⟨-1, .inr ⟨g1, rfl⟩, ?_⟩
   simp only [fkEnv, List.cons_append, List.nil_append] at f4
   rw [zb5 code ext c.c274]
   simp -implicitDefEqProofs [x274, f1, f2, f4]
end
end Go.EX


set_option linter.unusedVariables false
set_option linter.unusedSimpArgs false
namespace Go.EX
section
variable {code : Nat → Option XFun} {ext : Calls'}
theorem zab (c : RowCode code) {W B : List Nat} {e m room : Nat} {vs : List Val} (hi : HI W B e) (h : LM W B e m 5 room vs) (hl : vs.length ≤ 131072) (hev : vs.length % 2 = 0) :
  callW code ext 593 [.optr 0 0, valV 5 m] (hMem W B e) = some (.tup [gV 3 vs, int64 0], hMem W B e ++ gM vs) := by
 have f1 := ze9 (ext := ext) c hi h hl hev [4, 5] (by decide) 2 rfl (by decide)
 have hr : kRow [4, 5] = [.val (.int .u8 4), .val (.int .u8 5)] := rfl
 rw [hr] at f1
 have f2 := zkh (ext := ext) c hi h 5
 rw [zb5 code ext c.c593]
 by_cases hn : vs = []
 ·subst hn
  have g2 : gV 3 [] = nilS := rfl
  have g3 : gM [] = [] := rfl
  simp only [g2, g3, List.append_nil] at f2 ⊢
  simp -implicitDefEqProofs [x593, f1, f2, exLook]
 ·have g2 : gV 3 vs = .osl 3 0 2 vs.length none := by unfold gV; rw [if_neg hn]
  have g3 : gM vs = [.flat (tVal.row vs) false] := by unfold gM; rw [if_neg hn]
  simp only [g2, g3] at f2 ⊢
  generalize tVal.row vs = R at *
  simp -implicitDefEqProofs [x593, f1, f2, exLook]
theorem zad (c : RowCode code) {W B : List Nat} {e m room n : Nat} {vs : List Val} (hi : HI W B e) (h : LM W B e m 5 room vs) (hl : vs.length ≤ 131072) (hev : vs.length = 2 * n) :
  callW code ext 594 [.optr 0 0, valV 5 m] (hMem W B e) = some (.tup [int64 n, int64 0], hMem W B e) := by
 have f1 := ze9 (ext := ext) c hi h hl (by omega) [3, 4, 5] (by decide) 3 rfl (by decide)
 have hr : kRow [3, 4, 5] = [.val (.int .u8 3), .val (.int .u8 4), .val (.int .u8 5)] := rfl
 rw [hr] at f1
 obtain ⟨w, hw⟩ := h.at_
 have f2 : callW code ext 286 [objV m 5, int64 0] (hMem W B e) = some (uint64 vs.length, hMem W B e) := zbo (ext := ext) c.toTextCode hi hw (i := 0) (v := vs.length) rfl 5
 have e1 : IntKind.wrap .i64 (vs.length : Int) = (vs.length : Int) := wrapI64 (by omega) (by omega)
 have e2 : IntKind.wrap .i64 ((vs.length : Int).tdiv 2) = (n : Int) := by rw [Int.tdiv_eq_ediv_of_nonneg (by omega), wrapI64 (by omega) (by omega)]; omega
 have e3 : IntKind.wrap .i64 ((vs.length : Int) / 2) = (n : Int) := by rw [wrapI64 (by omega) (by omega)]; omega
 rw [zb5 code ext c.c594]
 simp -implicitDefEqProofs [-intBin, b_eql, b_neq, show ∀ x : Int, intBin .quo .i64 x 2 = some (.int .i64 (IntKind.wrap .i64 (x.tdiv 2))) from fun x => rfl, x594, f1, f2, e1, e2, e3]
theorem zaa (c : RowCode code) {W B : List Nat} {e m room j : Nat} {vs : List Val} {qs : List Key} {v x : Val} {q : Key} (hi : HI W B e) (h : LM W B e m 5 room vs) (hl : vs.length ≤ 131072) (hk : KeysAt W B e vs qs) (hv : KeyAt W B e v q)
  (hq : qs[j]? = some q) (hno : ∀ l, l < j → qs[l]? ≠ some q) (hx : vs[2 * j + 1]? = some x) :
  callW code ext 592 [.optr 0 0, valV 5 m, valA v] (hMem W B e) = some (.tup [valA x, int64 0], hMem W B e) := by
 have hlen := hk.1
 have f1 := ze9 (ext := ext) c hi h hl (by omega) [3, 4, 5] (by decide) 3 rfl (by decide)
 have hr : kRow [3, 4, 5] = [.val (.int .u8 3), .val (.int .u8 4), .val (.int .u8 5)] := rfl
 rw [hr] at f1
 obtain ⟨r, hpl, f2⟩ := zfe (code := code) (ext := ext) c hi h hk hv
 have hr2 : r = (2 * j + 1 : Nat) := by
  rcases hpl with ⟨i, g1, g2, g3⟩ | ⟨g1, _⟩
  ·have : i = j := by
    rcases Nat.lt_trichotomy i j with hh | hh | hh
    ·exact absurd g1 (hno i hh)
    ·exact hh
    ·exact absurd hq (g2 j hh)
   rw [g3, this]
  ·exact absurd (List.mem_of_getElem? hq) g1
 subst hr2
 rcases h with ⟨h1, h2, h3⟩ | ⟨h1, p, h2, h3⟩
 ·subst h2; simp at hx
 ·have f3 := zg9 (ext := ext) c hi h2 h3 5
  obtain ⟨i, hii⟩ : ∃ i, i = 2 * j + 1 := ⟨_, rfl⟩
  rw [← hii] at hx f2
  obtain ⟨i2, hi2⟩ : ∃ i2, i2 = 2 * i := ⟨_, rfl⟩
  have f4 := zq3 (ext := ext) c hi h3 hx i2 hi2
  obtain ⟨ws, g1, g2, _⟩ := h3.vals
  have htop := g1.top; have ht2 := hi.top; have ht3 := hi.bd; have hfit := h3.fit
  have hil : i < vs.length := (List.getElem?_eq_some_iff.1 hx).1
  have e1 : ¬ (i : Int) < 0 := by omega
  have e2 : IntKind.wrap .i64 (2 * (i : Int)) = (i2 : Int) := by rw [wrapI64 (by omega) (by omega)]; omega
  rw [zb5 code ext c.c592]
  simp -implicitDefEqProofs [x592, f1, f2, f3, f4, e1, e2]
theorem Get_no (c : RowCode code) {W B : List Nat} {e m room : Nat} {vs : List Val} {qs : List Key} {v : Val} {q : Key} (hi : HI W B e) (h : LM W B e m 5 room vs) (hl : vs.length ≤ 131072) (hk : KeysAt W B e vs qs) (hv : KeyAt W B e v q) (hq : q ∉ qs) :
  callW code ext 592 [.optr 0 0, valV 5 m, valA v] (hMem W B e) = some (.tup [valV 0 0, int64 0], hMem W B e) := by
 have hlen := hk.1
 have f1 := ze9 (ext := ext) c hi h hl (by omega) [3, 4, 5] (by decide) 3 rfl (by decide)
 have hr : kRow [3, 4, 5] = [.val (.int .u8 3), .val (.int .u8 4), .val (.int .u8 5)] := rfl
 rw [hr] at f1
 obtain ⟨r, hpl, f2⟩ := zfe (code := code) (ext := ext) c hi h hk hv
 have hr2 : r = -1 := by
  rcases hpl with ⟨i, g1, _⟩ | ⟨_, g1⟩
  ·exact absurd (List.mem_of_getElem? g1) hq
  ·exact g1
 subst hr2
 have f3 : ∃ p b, callW code ext 276 [objV m 5] (hMem W B e) = some (.tup [objV p 8, avb b], hMem W B e) := by
  rcases h with ⟨h1, h2, h3⟩ | ⟨h1, p, h2, h3⟩
  ·exact ⟨-1, false, zg8 (ext := ext) c hi h3 5⟩
  ·exact ⟨p, true, zg9 (ext := ext) c hi h2 h3 5⟩
 obtain ⟨p, b, f3⟩ := f3
 rw [zb5 code ext c.c592]
 simp -implicitDefEqProofs [x592, f1, f2, f3]
theorem zaj (c : RowCode code) {W B : List Nat} {e : Nat} {v w : Val} {q : Key} (hi : HI W B e) (hv : KeyAt W B e v q) (hw : KeyAt W B e w q) :
  callW code ext 603 [.optr 0 0, valA v, valA w] (hMem W B e) = some (avb true, hMem W B e) := by
 have h0 := zjr (ext := ext) c.toTextCode W B e hi.pos
 have h1 := zja (ext := ext) c hi hv
 have h2 := zja (ext := ext) c hi hw
 have h3 := key_eq q q
 rw [decide_eq_true rfl] at h3
 have hk : v.k = w.k := by
  rcases hv with ⟨a1, _, _, _, _, _, a2⟩ | ⟨_, a1, a2⟩ <;> rcases hw with ⟨b1, _, _, _, _, _, b2⟩ | ⟨_, b1, b2⟩
  ·rw [a1, b1]
  ·rw [a2] at b2; exact absurd (congrArg Key.k b2).symm b1
  ·rw [a2] at b2; exact absurd (congrArg Key.k b2) a1
  ·rw [a2] at b2; exact congrArg Key.k b2
 have h4 : ∃ b, sameCells [0, 0] [uint8 v.k, int64 v.n] [uint8 w.k, int64 w.n] = some b := by
  simp only [sameCells, if_true, Option.map_some]
  exact ⟨_, rfl⟩
 obtain ⟨b, h4⟩ := h4
 obtain ⟨vk, vn⟩ := v
 obtain ⟨wk, wn⟩ := w
 simp only at hk h4
 subst hk
 rw [zb5 code ext c.c603]
 cases b
 ·simp -implicitDefEqProofs [-sameCells, x603, h0, h1, h2, h3, h4]
 ·simp -implicitDefEqProofs [-sameCells, x603, h0, h1, h2, h3, h4]
def Held (W B : List Nat) (e : Nat) (v : Val) : Prop := v.k = 2 ∨ (v.k = 3 ∧ ∃ (a : Nat) (s : List UInt8), v.n = a ∧ TextAt W B e a s)
theorem zgl (c : RowCode code) {W B : List Nat} {e : Nat} {v : Val} (hi : HI W B e) (h : Held W B e v) :
  callW code ext 612 [.optr 0 0, valA v] (hMem W B e) = some (avb true, hMem W B e) := by
 rw [zb5 code ext c.c612]
 show funOut x612 (den code ext x612.body ⟨3, enter 0 [.optr 0 0, valV v.k v.n], hMem W B e⟩) = _
 rcases h with h | ⟨h, a, s, h2, h3⟩
 ·rw [h]
  simp -implicitDefEqProofs [x612]
 ·rw [h, h2]
  have f1 := zhw (ext := ext) c.toTextCode hi h3
  simp -implicitDefEqProofs [x612, f1]
abbrev hcMem (W B : List Nat) (e : Nat) : Mem := [.rich [.clo 612 []], .rich [.optr 2 0], .rich [.osl 3 0 1 W.length (some W.length), .osl 4 0 1 B.length (some B.length), int64 e], .flat (urow W) false, .flat (urow B) false]
abbrev allMem (W B : List Nat) (e : Nat) (row : List IV) : Mem := [.flat row false, .rich [.clo 612 []], .rich [.optr 3 0], .rich [.osl 4 0 1 W.length (some W.length), .osl 5 0 1 B.length (some B.length), int64 e], .flat (urow W) false, .flat (urow B) false]
theorem za2 (c : RowCode code) {W B : List Nat} {e : Nat} {v : Val} (hi : HI W B e) (h : Held W B e v) :
  callW code ext 607 [valA v, .optr 0 0, .optr 1 0] (hcMem W B e) = some (avb false, hcMem W B e) := by
 have f1 := zgl (ext := ext) c hi h
 rw [zb5 code ext c.c607]
 simp -implicitDefEqProofs [x607, f1]
theorem za3 (c : RowCode code) {W B : List Nat} {e : Nat} {vs : List Val} {cap : Option Nat} (hi : HI W B e) (hl : vs.length ≤ 1000000) (h : ∀ v ∈ vs, Held W B e v) : ∀ (m : Nat) (st : St), (∃ i, m + i = vs.length ∧ st.tidy [0, 1, 7, 8] = ⟨6, [(0, .osl 0 0 2 vs.length cap), (1, .clo 607 [.optr 1 0, .optr 2 0]), (7, int64 vs.length), (8, int64 i)], allMem W B e (tVal.row vs)⟩) →
  ∃ x s', den code ext (.loop [0, 1, 7, 8] x759L1) st = some (x, s') ∧ x ≠ .normal ∧ (x = .exit 0 ∧ s' = ⟨6, [(0, .osl 0 0 2 vs.length cap), (1, .clo 607 [.optr 1 0, .optr 2 0]), (7, int64 vs.length), (8, int64 vs.length), (9, avb false)], allMem W B e (tVal.row vs)⟩) := by
 refine zic _ _ ?_
 rintro m st ⟨i, hm, hst⟩
 rw [hst]
 by_cases hil : i < vs.length
 ·obtain ⟨v, hv⟩ : ∃ v, vs[i]? = some v := ⟨_, List.getElem?_eq_getElem hil⟩
  have f1 := za2 (ext := ext) c hi (h v (List.mem_of_getElem? hv))
  have hcut : cut (tVal.row vs) (i * 2) 2 = some [.val (.int .u8 v.k), .val (.int .i64 v.n)] := zfm (t := tVal) hv
  have e1 : (i : Int) < vs.length := by omega
  obtain ⟨i1, hi1⟩ : ∃ i1, i1 = i + 1 := ⟨_, rfl⟩
  have e3 : IntKind.wrap .i64 ((i : Int) + 1) = (i1 : Int) := by rw [wrapI64 (by omega) (by omega)]; omega
  refine ⟨.normal, ⟨6, [(0, .osl 0 0 2 vs.length cap), (1, .clo 607 [.optr 1 0, .optr 2 0]), (7, int64 vs.length), (8, int64 i1)], allMem W B e (tVal.row vs)⟩, ?_, .inl ⟨rfl, m - 1, by omega, i1, by omega, ?_⟩⟩
  ·generalize tVal.row vs = R at *
   simp -implicitDefEqProofs [x759L1, e1, hil, hcut, f1, e3]
  ·generalize tVal.row vs = R at *
   simp -implicitDefEqProofs []
 ·have hie : i = vs.length := by omega
  subst hie
  refine ⟨.exit 0, ⟨6, [(0, .osl 0 0 2 vs.length cap), (1, .clo 607 [.optr 1 0, .optr 2 0]), (7, int64 vs.length), (8, int64 vs.length), (9, avb false)], allMem W B e (tVal.row vs)⟩, ?_, .inr ⟨by simp, rfl, rfl⟩⟩
  generalize tVal.row vs = R at *
  simp -implicitDefEqProofs [x759L1]
theorem za4 (c : RowCode code) {W B : List Nat} {e : Nat} {vs : List Val} {cap : Option Nat} (hi : HI W B e) (hl : vs.length ≤ 1000000) (h : ∀ v ∈ vs, Held W B e v) :
  callW code ext 606 [.optr 0 0, .osl 1 0 2 vs.length cap, .clo 612 []] (kMem W B e (.flat (tVal.row vs) false)) = some (avb true, kMem W B e (.flat (tVal.row vs) false)) := by
 obtain ⟨x, s', f1, _, rfl, rfl⟩ := za3 (code := code) (ext := ext) (cap := cap) c hi hl h vs.length ⟨6, [(0, .osl 0 0 2 vs.length cap), (1, .clo 607 [.optr 1 0, .optr 2 0]), (7, int64 vs.length), (8, int64 0)], allMem W B e (tVal.row vs)⟩ ⟨0, rfl, by generalize tVal.row vs = R; simp -implicitDefEqProofs []⟩
 generalize tVal.row vs = R at *
 have f2 : callW code ext 759 [.osl 0 0 2 vs.length cap, .clo 607 [.optr 1 0, .optr 2 0]] (allMem W B e R) = some (int64 (-1), allMem W B e R) := by
  rw [zb5 code ext c.c759]
  simp -implicitDefEqProofs [x759, f1]
 have f3 : callW code ext 749 [.osl 0 0 2 vs.length cap, .clo 607 [.optr 1 0, .optr 2 0]] (allMem W B e R) = some (avb false, allMem W B e R) := by
  rw [zb5 code ext c.c749]
  simp -implicitDefEqProofs [x749, f2]
 rw [zb5 code ext c.c606]
 simp -implicitDefEqProofs [x606, f3]
theorem all_nil (c : RowCode code) {W B : List Nat} {e : Nat} :
  callW code ext 606 [.optr 0 0, nilS, .clo 612 []] (hMem W B e) = some (avb true, hMem W B e) := by
 have hl : ∀ M : Mem, M = hcMem W B e → den code ext (.loop [0, 1, 7, 8] x759L1) ⟨5, [(0, nilS), (1, .clo 607 [.optr 0 0, .optr 1 0]), (7, int64 0), (8, int64 0)], M⟩ = some (.exit 0, ⟨5, [(0, nilS), (1, .clo 607 [.optr 0 0, .optr 1 0]), (7, int64 0), (8, int64 0), (9, avb false)], M⟩) := by
  rintro M rfl
  rw [zc5]
  simp -implicitDefEqProofs [x759L1]
 have f1 := hl _ rfl
 have f2 : callW code ext 759 [nilS, .clo 607 [.optr 0 0, .optr 1 0]] (hcMem W B e) = some (int64 (-1), hcMem W B e) := by
  rw [zb5 code ext c.c759]
  simp -implicitDefEqProofs [x759, f1]
 have f3 : callW code ext 749 [nilS, .clo 607 [.optr 0 0, .optr 1 0]] (hcMem W B e) = some (avb false, hcMem W B e) := by
  rw [zb5 code ext c.c749]
  simp -implicitDefEqProofs [x749, f2]
 rw [zb5 code ext c.c606]
 simp -implicitDefEqProofs [x606, f3]
end
end Go.EX


set_option linter.unusedVariables false
set_option linter.unusedSimpArgs false
namespace Go.EX
structure Fill (W0 B0 : List Nat) (e room : Nat) (vs : List Val) (W B : List Nat) : Prop where
 hi : HI W B (e + 2 * room + 1)
 items : ItemsAt W B (e + 2 * room + 1) e room vs
 old : ∀ i, i < e → W[i]? = W0[i]?
 bits : ∀ i, i < e → bitAt B i = bitAt B0 i
 sz : W.length = W0.length
 szB : B.length = B0.length
def ValRow (o : AObj) (vs : List Val) : Prop := o = .flat (tVal.row vs) false ∨ o = .rich ((tVal.row vs).map .imm)
theorem zcy {α β : Type} (f : α → β) {l r : List α} {a b : Nat} (h : cut l a b = some r) : cut (l.map f) a b = some (r.map f) := by
 obtain ⟨h1, h2⟩ := zcz h
 refine cut_mk ?_ (by rw [List.length_map]; exact h2)
 rw [h1, List.map_take, List.map_drop]
theorem zmi : ∀ l : List IV, AV.refs.refsL (l.map AV.imm) = []
 | [] => rfl
 | x :: l => by simp only [List.map_cons, AV.refs.refsL, AV.refs, List.nil_append, zmi l]
theorem zmq (f : Nat → Option Nat) : ∀ l : List IV, AV.ren.renL f (l.map AV.imm) = l.map AV.imm
 | [] => rfl
 | x :: l => by simp only [List.map_cons, AV.ren.renL, AV.ren, zmq f l]
section
variable {code : Nat → Option XFun} {ext : Calls'}
abbrev flEnv (n i : Nat) (cap : Option Nat) : Env := [(6, .optr 4 0), (8, .optr 5 0), (9, int64 0), (21, .osl 1 0 2 n cap), (22, int64 n), (23, int64 i)]
abbrev flMem (W B : List Nat) (e p : Nat) (o : AObj) : Mem := [.rich [.osl 2 0 1 W.length (some W.length), .osl 3 0 1 B.length (some B.length), int64 e], o, .flat (urow W) false, .flat (urow B) false, .rich [.imm (.val (.pointer none)), int64 0, uint8 0], .rich [.optr 0 0, int64 p, uint8 8]]
theorem zfg (c : RowCode code) {W B : List Nat} {e p room i : Nat} {vs : List Val} {o : AObj} {cap : Option Nat} (ho : ValRow o vs) (hi : HI W B e) (h : ItemsAt W B e p room (vs.take i)) (hil : i < vs.length) (hroom : vs.length ≤ room) (hok : ∀ v ∈ vs, v.ok3) {v : Val} (hv : vs[i]? = some v) :
  ∃ s', den code ext x609L1 ⟨4, flEnv vs.length i cap, flMem W B e p o⟩ = some (.normal, s') ∧ s'.tidy [6, 8, 9, 21, 22, 23] = ⟨4, flEnv vs.length (i + 1) cap, flMem ((W.set (p + 1 + 2 * i) v.k.toNat).set (p + 1 + (2 * i + 1)) (toW v.n)) B e p o⟩ := by
 obtain ⟨ws, g1, g2, _⟩ := h.vals
 have htop := g1.top; have ht2 := hi.top; have ht3 := hi.bd
 obtain ⟨j, hj⟩ : ∃ j, j = 2 * i := ⟨_, rfl⟩
 have f1 := zgm (ext := ext) c (i := j) hi g1 (by omega) (hok v (List.mem_of_getElem? hv))
 have hcut : cut (tVal.row vs) (i * 2) 2 = some [.val (.int .u8 v.k), .val (.int .i64 v.n)] := zfm (t := tVal) hv
 have hcut2 := zcy AV.imm hcut
 simp only [List.map_cons, List.map_nil] at hcut2
 have e1 : (i : Int) < vs.length := by omega
 have e2 : IntKind.wrap .i64 (2 * (i : Int)) = (j : Int) := by rw [wrapI64 (by omega) (by omega)]; omega
 obtain ⟨i1, hi1⟩ : ∃ i1, i1 = i + 1 := ⟨_, rfl⟩
 have e3 : IntKind.wrap .i64 ((i : Int) + 1) = (i1 : Int) := by rw [wrapI64 (by omega) (by omega)]; omega
 have l2 : ((W.set (p + 1 + j) v.k.toNat).set (p + 1 + (j + 1)) (toW v.n)).length = W.length := by rw [List.length_set, List.length_set]
 rw [← hj, ← hi1]
 generalize (W.set (p + 1 + j) v.k.toNat).set (p + 1 + (j + 1)) (toW v.n) = W2 at *
 simp only [hMem, l2] at f1
 rcases ho with rfl | rfl
 ·generalize tVal.row vs = R at *
  refine ⟨⟨4, flEnv vs.length i1 cap, flMem W2 B e p (.flat R false) ++ [.rich [uint8 v.k, int64 v.n]]⟩, ?_, ?_⟩
  ·simp -implicitDefEqProofs [x609L1, e1, hil, hcut, f1, e2, e3, l2]
  ·simp -implicitDefEqProofs []
 ·have hre : AV.refs.refsL ((tVal.row vs).map AV.imm) = [] := zmi _
  have hrn : ∀ f, AV.ren.renL f ((tVal.row vs).map AV.imm) = (tVal.row vs).map AV.imm := fun f => zmq f _
  generalize (tVal.row vs).map AV.imm = R at *
  refine ⟨⟨4, flEnv vs.length i1 cap, flMem W2 B e p (.rich R) ++ [.rich [uint8 v.k, int64 v.n]]⟩, ?_, ?_⟩
  ·simp -implicitDefEqProofs [x609L1, e1, hil, hcut2, f1, e2, e3, l2, hre, hrn]
  ·simp -implicitDefEqProofs [hre, hrn]
theorem zff (c : RowCode code) {W0 B : List Nat} {e p room : Nat} {vs : List Val} {o : AObj} {cap : Option Nat} (ho : ValRow o vs) (hroom : vs.length ≤ room) (hok : ∀ v ∈ vs, v.ok3) : ∀ (m : Nat) (st : St), (∃ i W, m + i = vs.length ∧ HI W B e ∧ ItemsAt W B e p room (vs.take i) ∧ (∀ j, j < p → W[j]? = W0[j]?) ∧ W.length = W0.length ∧ st.tidy [6, 8, 9, 21, 22, 23] = ⟨4, flEnv vs.length i cap, flMem W B e p o⟩) →
  ∃ x s', den code ext (.loop [6, 8, 9, 21, 22, 23] x609L1) st = some (x, s') ∧ x ≠ .normal ∧ (x = .exit 0 ∧ ∃ W, HI W B e ∧ ItemsAt W B e p room vs ∧ (∀ j, j < p → W[j]? = W0[j]?) ∧ W.length = W0.length ∧ s' = ⟨4, flEnv vs.length vs.length cap ++ [(24, avb false)], flMem W B e p o⟩) := by
 refine zic _ _ ?_
 rintro m st ⟨i, W, hm, hi, h, hold, hsz, hst⟩
 rw [hst]
 by_cases hil : i < vs.length
 ·obtain ⟨v, hv⟩ : ∃ v, vs[i]? = some v := ⟨_, List.getElem?_eq_getElem hil⟩
  obtain ⟨s', h1, h2⟩ := zfg (code := code) (ext := ext) (cap := cap) c ho hi h hil hroom hok hv
  obtain ⟨ws, g1, g2, _⟩ := h.vals
  have htop := g1.top; have ht2 := hi.top
  have hvo := hok v (List.mem_of_getElem? hv)
  obtain ⟨o1, o2, o3, o4⟩ := hvo
  have hlen : (vs.take i).length = i := by rw [List.length_take]; omega
  have htake : vs.take (i + 1) = vs.take i ++ [v] := by rw [List.take_add_one, hv]; rfl
  have h3 := h.hold (j := i) (us := vs.take (i + 1)) ht2 ⟨o1, o2, o3, o4⟩ (by omega) (.inr ⟨hlen.symm, htake⟩)
  have hi2 := hi.write g1.bit (k := 2 * i) (v := v.k.toNat) (by rw [g1.hd]; omega) (by omega)
  have g3 := g1.write (i := 2 * i) (v := v.k.toNat) (by omega) ht2
  have hi3 := hi2.write g3.bit (k := 2 * i + 1) (v := toW v.n) (by rw [g3.hd, List.length_set]; omega) (toW_lt v.n)
  refine ⟨.normal, s', h1, .inl ⟨rfl, m - 1, by omega, i + 1, _, by omega, hi3, h3, fun j hj => ?_, by rw [List.length_set, List.length_set]; exact hsz, h2⟩⟩
  rw [List.getElem?_set_ne (by omega), List.getElem?_set_ne (by omega)]
  exact hold j hj
 ·have hie : i = vs.length := by omega
  subst hie
  rw [List.take_length] at h
  refine ⟨.exit 0, ⟨4, flEnv vs.length vs.length cap ++ [(24, avb false)], flMem W B e p o⟩, ?_, .inr ⟨by simp, rfl, W, hi, h, hold, hsz, rfl⟩⟩
  simp -implicitDefEqProofs [x609L1]
theorem zeu (c : RowCode code) {W B : List Nat} {e room : Nat} {vs : List Val} {o : AObj} {cap : Option Nat} (ho : ValRow o vs) (hi : HI W B e) (hroom : vs.length ≤ room) (hok : ∀ v ∈ vs, v.ok3) (hn : 2 * room + e < W.length) :
  ∃ W' B', Fill W B e room vs W' B' ∧ callW code ext 609 [.optr 0 0, int64 room, .osl 1 0 2 vs.length cap] (kMem W B e o) = some (.tup [objV e 8, int64 0], kMem W' B' (e + 2 * room + 1) o) := by
 have ht2 := hi.top; have ht3 := hi.bd
 obtain ⟨r2, hr2⟩ : ∃ r2, r2 = 2 * room := ⟨_, rfl⟩
 have f1 := zii (ext := ext) c.toTextCode hi (k := 8) (n := r2) (by decide) (by decide) (by omega)
 have hg := grown3 (n := r2) (k := 8) hi (by decide) (by omega)
 have hit := ItemsAt.new hg hr2
 have l1 := hg.sz
 have l2 := hg.szB
 obtain ⟨e', he'⟩ : ∃ e', e' = e + r2 + 1 := ⟨_, rfl⟩
 rw [← he'] at f1 hit
 have hhi := hg.hi
 rw [← he'] at hhi
 have hold := hg.old
 have hbits := hg.bits
 generalize setAll (W.set e (r2 * 256 + 8)) (e + 1) (List.replicate r2 0) = W1 at *
 generalize setBit B e = B1 at *
 have hrf : o.refs = [] := by
  rcases ho with rfl | rfl
  ·rfl
  ·exact zmi _
 have hrn : ∀ f, o.ren f = o := fun f => by
  rcases ho with rfl | rfl
  ·rfl
  ·exact congrArg AObj.rich (zmq f _)
 obtain ⟨x, s', f2, _, rfl, W2, k1, k2, k3, k4, rfl⟩ := zff (code := code) (ext := ext) (cap := cap) c (W0 := W1) (B := B1) (e := e') (p := e) ho hroom hok vs.length ⟨4, [(6, .optr 4 0), (8, .optr 5 0), (9, int64 0), (21, .osl 1 0 2 vs.length cap), (22, int64 vs.length), (23, int64 0)], flMem W1 B1 e' e o⟩
  ⟨0, W1, rfl, hhi, by rw [List.take_zero]; exact hit, fun _ _ => rfl, rfl, by rcases ho with rfl | rfl <;> (generalize tVal.row vs = R at *; simp -implicitDefEqProofs [zmi, zmq])⟩
 refine ⟨W2, B1, ⟨by rw [← hr2, ← he']; exact k1, by rw [← hr2, ← he']; exact k2, fun i hi2 => (k3 i hi2).trans (hold i hi2), hbits, k4.trans l1, l2⟩, ?_⟩
 rw [← hr2, ← he']
 have e1 : IntKind.wrap .i64 (2 * (room : Int)) = (r2 : Int) := by rw [wrapI64 (by omega) (by omega)]; omega
 simp only [hMem, l1, l2, Int.cast_ofNat_Int] at f1
 simp only [flEnv, flMem, l1, l2, k4, Int.natCast_zero, List.cons_append, List.nil_append] at f2
 have l3 : W2.length = W.length := k4.trans l1
 rw [zb5 code ext c.c609]
 rcases ho with rfl | rfl
 ·generalize tVal.row vs = R at *
  simp -implicitDefEqProofs [x609, f1, f2, e1, l1, l2, l3]
 ·have hre := zmi (tVal.row vs)
  have hrn := fun f => zmq f (tVal.row vs)
  generalize (tVal.row vs).map AV.imm = R at *
  simp -implicitDefEqProofs [x609, f1, f2, e1, l1, l2, l3, hre, hrn]
end
end Go.EX


set_option linter.unusedVariables false
set_option linter.unusedSimpArgs false
namespace Go.EX
section
variable {code : Nat → Option XFun} {ext : Calls'}
abbrev puEnv (n l i : Nat) (cap : Option Nat) : Env := [(2, .osl 1 0 2 l cap), (3, .optr 4 0), (7, int64 n), (10, .optr 5 0), (56, .osl 1 0 2 l cap), (57, int64 l), (58, int64 i)]
abbrev puMem (W B : List Nat) (e m : Nat) (k : Int) (p : Nat) (R : List IV) : Mem := [.rich [.osl 2 0 1 W.length (some W.length), .osl 3 0 1 B.length (some B.length), int64 e], .flat R false, .flat (urow W) false, .flat (urow B) false, .rich [.optr 0 0, int64 m, uint8 k], .rich [.optr 0 0, int64 p, uint8 8]]
theorem zll (c : RowCode code) {W B : List Nat} {e m p room n i : Nat} {k : Int} {vs us : List Val} {cap : Option Nat} (hi : HI W B e) (h : ItemsAt W B e p room vs) (hn : vs.length = n + i) (hil : i < us.length) (hroom : n + us.length ≤ room) (hok : ∀ v ∈ us, v.ok3) {v : Val} (hv : us[i]? = some v) :
  ∃ s', den code ext x279L1 ⟨4, puEnv n us.length i cap, puMem W B e m k p (tVal.row us)⟩ = some (.normal, s') ∧ s'.tidy [2, 3, 7, 10, 56, 57, 58] = ⟨4, puEnv n us.length (i + 1) cap, puMem ((W.set (p + 1 + 2 * (n + i)) v.k.toNat).set (p + 1 + (2 * (n + i) + 1)) (toW v.n)) B e m k p (tVal.row us)⟩ := by
 obtain ⟨ws, g1, g2, _⟩ := h.vals
 have htop := g1.top; have ht2 := hi.top; have ht3 := hi.bd
 obtain ⟨j, hj⟩ : ∃ j, j = 2 * (n + i) := ⟨_, rfl⟩
 obtain ⟨ni, hni⟩ : ∃ ni, ni = n + i := ⟨_, rfl⟩
 have f1 := zgm (ext := ext) c (i := j) hi g1 (by omega) (hok v (List.mem_of_getElem? hv))
 have hcut : cut (tVal.row us) (i * 2) 2 = some [.val (.int .u8 v.k), .val (.int .i64 v.n)] := zfm (t := tVal) hv
 have e1 : (i : Int) < us.length := by omega
 have e2 : IntKind.wrap .i64 ((n : Int) + (i : Int)) = (ni : Int) := by rw [wrapI64 (by omega) (by omega)]; omega
 have e2' : IntKind.wrap .i64 (2 * (ni : Int)) = (j : Int) := by rw [wrapI64 (by omega) (by omega)]; omega
 obtain ⟨i1, hi1⟩ : ∃ i1, i1 = i + 1 := ⟨_, rfl⟩
 have e3 : IntKind.wrap .i64 ((i : Int) + 1) = (i1 : Int) := by rw [wrapI64 (by omega) (by omega)]; omega
 have l2 : ((W.set (p + 1 + j) v.k.toNat).set (p + 1 + (j + 1)) (toW v.n)).length = W.length := by rw [List.length_set, List.length_set]
 rw [← hj, ← hi1]
 generalize (W.set (p + 1 + j) v.k.toNat).set (p + 1 + (j + 1)) (toW v.n) = W2 at *
 simp only [hMem, l2] at f1
 refine ⟨⟨4, puEnv n us.length i1 cap, puMem W2 B e m k p (tVal.row us) ++ [.rich [uint8 v.k, int64 v.n]]⟩, ?_, ?_⟩
 ·generalize tVal.row us = R at *
  simp -implicitDefEqProofs [x279L1, e1, hil, hcut, f1, e2, e2', e3, l2]
 ·generalize tVal.row us = R at *
  simp -implicitDefEqProofs []
theorem zlk (c : RowCode code) {W0 B : List Nat} {e m p room n : Nat} {k : Int} {vs us : List Val} {cap : Option Nat} (hn : vs.length = n) (hroom : n + us.length ≤ room) (hok : ∀ v ∈ us, v.ok3) (K : List Nat → Prop) (hK : ∀ W j x ws, K W → HI W B e → At W B e p 8 ws → j < ws.length → K (W.set (p + 1 + j) x)) : ∀ (l : Nat) (st : St), (∃ i W, l + i = us.length ∧ HI W B e ∧ ItemsAt W B e p room (vs ++ us.take i) ∧ K W ∧ W.length = W0.length ∧ st.tidy [2, 3, 7, 10, 56, 57, 58] = ⟨4, puEnv n us.length i cap, puMem W B e m k p (tVal.row us)⟩) →
  ∃ x s', den code ext (.loop [2, 3, 7, 10, 56, 57, 58] x279L1) st = some (x, s') ∧ x ≠ .normal ∧ (x = .exit 0 ∧ ∃ W, HI W B e ∧ ItemsAt W B e p room (vs ++ us) ∧ K W ∧ W.length = W0.length ∧ s' = ⟨4, puEnv n us.length us.length cap ++ [(59, avb false)], puMem W B e m k p (tVal.row us)⟩) := by
 refine zic _ _ ?_
 rintro l st ⟨i, W, hm, hi, h, hKW, hsz, hst⟩
 rw [hst]
 by_cases hil : i < us.length
 ·obtain ⟨v, hv⟩ : ∃ v, us[i]? = some v := ⟨_, List.getElem?_eq_getElem hil⟩
  have hlen : (vs ++ us.take i).length = n + i := by rw [List.length_append, List.length_take, hn]; omega
  obtain ⟨s', h1, h2⟩ := zll (code := code) (ext := ext) (cap := cap) (m := m) (k := k) c hi h hlen hil hroom hok hv
  obtain ⟨ws, g1, g2, _⟩ := h.vals
  have htop := g1.top; have ht2 := hi.top
  obtain ⟨o1, o2, o3, o4⟩ := hok v (List.mem_of_getElem? hv)
  have htake : vs ++ us.take (i + 1) = (vs ++ us.take i) ++ [v] := by rw [List.take_add_one, hv, List.append_assoc]; rfl
  have h3 := h.hold (j := n + i) (us := vs ++ us.take (i + 1)) ht2 ⟨o1, o2, o3, o4⟩ (by omega) (.inr ⟨hlen.symm, htake⟩)
  have hi2 := hi.write g1.bit (k := 2 * (n + i)) (v := v.k.toNat) (by rw [g1.hd]; omega) (by omega)
  have g3 := g1.write (i := 2 * (n + i)) (v := v.k.toNat) (by omega) ht2
  have hi3 := hi2.write g3.bit (k := 2 * (n + i) + 1) (v := toW v.n) (by rw [g3.hd, List.length_set]; omega) (toW_lt v.n)
  have hK2 := hK W (2 * (n + i)) v.k.toNat ws hKW hi g1 (by omega)
  have hK3 := hK _ (2 * (n + i) + 1) (toW v.n) _ hK2 hi2 g3 (by rw [List.length_set]; omega)
  exact ⟨.normal, s', h1, .inl ⟨rfl, l - 1, by omega, i + 1, _, by omega, hi3, h3, hK3, by rw [List.length_set, List.length_set]; exact hsz, h2⟩⟩
 ·have hie : i = us.length := by omega
  subst hie
  rw [List.take_length] at h
  refine ⟨.exit 0, ⟨4, puEnv n us.length us.length cap ++ [(59, avb false)], puMem W B e m k p (tVal.row us)⟩, ?_, .inr ⟨by simp, rfl, W, hi, h, hKW, hsz, rfl⟩⟩
  generalize tVal.row us = R at *
  simp -implicitDefEqProofs [x279L1]
theorem At.ne {W B : List Nat} {e a b k l : Nat} {ws us : List Nat} (h : At W B e a k ws) (g : At W B e b l us) (hkl : k ≠ l) : a ≠ b := by
 rintro rfl
 have h1 := h.head
 rw [g.head] at h1
 have := Option.some.inj h1
 have := h.small
 have := g.small
 omega
structure Pushed (W B : List Nat) (e m k room : Nat) (vs : List Val) (W' B' : List Nat) (e' : Nat) : Prop where
 hi : HI W' B' e'
 row : LM W' B' e' m k room vs
 keys : ∀ v q, KeyAt W B e v q → KeyAt W' B' e' v q
 sz : W'.length = W.length
 szB : B'.length = B.length
 le : e ≤ e'
theorem zln (c : RowCode code) {W B : List Nat} {e m k room : Nat} {vs us : List Val} {cap : Option Nat} (least : Nat) (hk : k = 4 ∨ k = 5) (hi : HI W B e) (h : LM W B e m k room vs) (hus : us ≠ []) (hroom : vs.length + us.length ≤ room) (hok : ∀ v ∈ us, v.ok3) :
  ∃ W', Pushed W B e m k room (vs ++ us) W' B e ∧ callW code ext 279 [objV m k, int64 least, .osl 1 0 2 us.length cap] (kMem W B e (.flat (tVal.row us) false)) = some (int64 0, kMem W' B e (.flat (tVal.row us) false)) := by
 have hus1 : 0 < us.length := List.length_pos_iff.2 hus
 obtain ⟨hr0, p, hm, hit⟩ : 0 < room ∧ ∃ p, At W B e m k [vs.length, p + 1] ∧ ItemsAt W B e p room vs := by
  rcases h with ⟨h1, _, _⟩ | h
  ·omega
  ·exact h
 have f1 : callW code ext 286 [objV m k, int64 0] (hMem W B e) = some (uint64 vs.length, hMem W B e) := zbo (ext := ext) c.toTextCode hi hm (i := 0) (v := vs.length) rfl k
 have f2 := znb (ext := ext) c hi (.inr ⟨hr0, p, hm, hit⟩ : LM W B e m k room vs) k
 have f3 := zg9 (ext := ext) c hi hm hit k
 obtain ⟨ws, g1, g2, _⟩ := hit.vals
 have htop := g1.top; have ht2 := hi.top; have ht3 := hi.bd
 obtain ⟨x, s', f4, _, rfl, W2, k1, k2, k3, k4, rfl⟩ := zlk (code := code) (ext := ext) (cap := cap) c (W0 := W) (B := B) (e := e) (m := m) (p := p) (room := room) (k := k) (n := vs.length) (vs := vs) rfl hroom hok
  (fun V => At V B e m k [vs.length, p + 1] ∧ ∀ v q, KeyAt W B e v q → KeyAt V B e v q)
  (fun V j x us' ⟨a1, a2⟩ b1 b2 b3 => ⟨At.other b1 b2 b3 a1 (At.ne b2 a1 (by omega)), fun v q hq => (a2 v q hq).other b1 b2 b3 (by omega)⟩) us.length
  ⟨4, [(2, .osl 1 0 2 us.length cap), (3, .optr 4 0), (7, int64 vs.length), (10, .optr 5 0), (56, .osl 1 0 2 us.length cap), (57, int64 us.length), (58, int64 0)], puMem W B e m k p (tVal.row us)⟩
  ⟨0, W, rfl, hi, by rw [List.take_zero, List.append_nil]; exact hit, ⟨hm, fun _ _ h => h⟩, rfl, by generalize tVal.row us = R; simp -implicitDefEqProofs []⟩
 obtain ⟨k3a, k3b⟩ := k3
 obtain ⟨l1, hl1⟩ : ∃ l1, l1 = vs.length + us.length := ⟨_, rfl⟩
 have f5 := zrk (ext := ext) c.small c.c178 (k3a.obj k1) (k := 0) (v := l1) (by simp)
 have hi3 := k1.write k3a.bit (k := 0) (v := l1) (by rw [k3a.hd]; simp) (by omega)
 have hm3 := k3a.write (i := 0) (v := l1) (by simp) k1.top
 have hsz : (W2.set (m + 1 + 0) l1).length = W.length := by rw [List.length_set]; exact k4
 refine ⟨W2.set (m + 1 + 0) l1, ⟨hi3, .inr ⟨hr0, p, ?_, ?_⟩, fun v q hq => (k3b v q hq).other k1 k3a (by simp) (by omega), hsz, rfl, Nat.le_refl _⟩, ?_⟩
 ·have : [vs.length, p + 1].set 0 l1 = [(vs ++ us).length, p + 1] := by simp [hl1]
  rw [← this]; exact hm3
 ·obtain ⟨ws2, b1, _, _⟩ := k2.vals
  exact k2.other k1 k3a (by simp) (At.ne k3a b1 (by omega))
 ·have e0 : IntKind.wrap .i64 (vs.length : Int) = (vs.length : Int) := wrapI64 (by omega) (by omega)
  have e1 : IntKind.wrap .i64 ((vs.length : Int) + (us.length : Int)) = (l1 : Int) := by rw [wrapI64 (by omega) (by omega)]; omega
  have e2 : ¬ (room : Int) < l1 := by omega
  have e2' : ¬ room < l1 := by omega
  have e3 : IntKind.wrap .u64 (l1 : Int) = (l1 : Int) := wrapU64 (by omega) (by omega)
  generalize W2.set (m + 1 + 0) l1 = W3 at *
  simp only [hMem, hsz, k4, Int.natCast_zero] at f5
  simp only [puEnv, k4, Int.natCast_zero, List.cons_append, List.nil_append] at f4
  generalize tVal.row us = R at *
  rw [zb5 code ext c.c279]
  simp -implicitDefEqProofs [x279, f1, f2, f3, f4, f5, e0, e1, e2, e2', e3, hsz, k4]
end
end Go.EX


set_option linter.unusedVariables false
set_option linter.unusedSimpArgs false
namespace Go.EX
section
variable {code : Nat → Option XFun} {ext : Calls'}
theorem zlm (c : RowCode code) {W B : List Nat} {e m k room : Nat} {vs us : List Val} (least : Nat) (hk : k = 4 ∨ k = 5) (hi : HI W B e) (h : LM W B e m k room vs) (hus : us ≠ []) (hroom : room < vs.length + us.length) (hok : ∀ v ∈ us, v.ok3) (hokv : ∀ v ∈ vs, v.ok3) (r : Nat) (hr : r = max least (2 * room)) (hr1 : vs.length + us.length ≤ r) (hn : 2 * r + e < W.length) :
  ∃ W' B', Pushed W B e m k r (vs ++ us) W' B' (e + 2 * r + 1) ∧ callW code ext 279 [objV m k, int64 least, .osl 1 0 2 us.length (some us.length)] (kMem W B e (.flat (tVal.row us) false)) = some (int64 0, kMem W' B' (e + 2 * r + 1) (.flat (tVal.row us) false)) := by
 have hus1 : 0 < us.length := List.length_pos_iff.2 hus
 have ht2 := hi.top; have ht3 := hi.bd
 have hfit := h.fit
 obtain ⟨w, hm⟩ := h.at_
 have f1 : callW code ext 286 [objV m k, int64 0] (hMem W B e) = some (uint64 vs.length, hMem W B e) := zbo (ext := ext) c.toTextCode hi hm (i := 0) (v := vs.length) rfl k
 have f2 := znb (ext := ext) c hi h k
 have f3 := zkh (ext := ext) c hi h k
 have hok2 : ∀ v ∈ vs ++ us, v.ok3 := fun v hv => by
  rcases List.mem_append.1 hv with hv | hv
  ·exact hokv v hv
  ·exact hok v hv
 obtain ⟨W1, B1, hfl, f4⟩ := zeu (code := code) (ext := ext) (cap := none) c (o := .rich ((tVal.row (vs ++ us)).map .imm)) (.inr rfl) hi (room := r) (by rw [List.length_append]; exact hr1) hok2 hn
 obtain ⟨e', he'⟩ : ∃ e', e' = e + 2 * r + 1 := ⟨_, rfl⟩
 rw [← he'] at f4 ⊢
 have hhi := hfl.hi
 have hit := hfl.items
 rw [← he'] at hhi hit
 have hmtop := hm.top
 have hm1 := hm.more (e' := e') (by omega) hfl.old hfl.bits
 obtain ⟨q, hq⟩ : ∃ q, q = e + 1 := ⟨_, rfl⟩
 have f5 := zrk (ext := ext) c.small c.c178 (hm1.obj hhi) (k := 1) (v := q) (by simp)
 have hi2 := hhi.write hm1.bit (k := 1) (v := q) (by rw [hm1.hd]; simp) (by have := hhi.top; have := hhi.bd; omega)
 have hm2 := hm1.write (i := 1) (v := q) (by simp) hhi.top
 obtain ⟨ws, g1, _, _⟩ := hit.vals
 have hne : m ≠ e := At.ne hm1 g1 (by omega)
 have hit2 := hit.other (i := 1) (v := q) hhi hm1 (by simp) hne
 obtain ⟨l1, hl1⟩ : ∃ l1, l1 = vs.length + us.length := ⟨_, rfl⟩
 have f6 := zrk (ext := ext) c.small c.c178 (hm2.obj hi2) (k := 0) (v := l1) (by simp)
 have hi3 := hi2.write hm2.bit (k := 0) (v := l1) (by rw [hm2.hd]; simp) (by omega)
 have hm3 := hm2.write (i := 0) (v := l1) (by simp) hi2.top
 have hit3 := hit2.other (i := 0) (v := l1) hi2 hm2 (by simp) hne
 have s1 := hfl.sz
 have s2 := hfl.szB
 have s3 : (W1.set (m + 1 + 1) q).length = W.length := by rw [List.length_set]; exact s1
 have s4 : ((W1.set (m + 1 + 1) q).set (m + 1 + 0) l1).length = W.length := by rw [List.length_set]; exact s3
 refine ⟨(W1.set (m + 1 + 1) q).set (m + 1 + 0) l1, B1, ⟨hi3, .inr ⟨by omega, e, ?_, hit3⟩, fun v x hx => ?_, s4, s2, by omega⟩, ?_⟩
 ·have : ([vs.length, w].set 1 q).set 0 l1 = [(vs ++ us).length, e + 1] := by simp [hl1, hq]
  rw [← this]; exact hm3
 ·have h1 := hx.more (e' := e') (by omega) hfl.old hfl.bits
  exact (h1.other (x := q) hhi hm1 (i := 1) (by simp) (by omega)).other (x := l1) hi2 hm2 (i := 0) (by simp) (by omega)
 ·have e0 : IntKind.wrap .i64 (vs.length : Int) = (vs.length : Int) := wrapI64 (by omega) (by omega)
  have e1 : IntKind.wrap .i64 ((vs.length : Int) + (us.length : Int)) = (l1 : Int) := by rw [wrapI64 (by omega) (by omega)]; omega
  have e2 : (room : Int) < l1 := by omega
  have e2' : room < l1 := by omega
  have e3 : IntKind.wrap .u64 (l1 : Int) = (l1 : Int) := wrapU64 (by omega) (by omega)
  obtain ⟨r2, hr2⟩ : ∃ r2, r2 = 2 * room := ⟨_, rfl⟩
  have e4 : IntKind.wrap .i64 (2 * (room : Int)) = (r2 : Int) := by rw [wrapI64 (by omega) (by omega)]; omega
  have e5 : (if (least : Int) < (r2 : Int) then (r2 : Int) else least) = (r : Int) := by split <;> omega
  have e5' : (if least < r2 then (r2 : Int) else least) = (r : Int) := by split <;> omega
  have e6 : IntKind.wrap .u64 (e : Int) = (e : Int) := wrapU64 (by omega) (by omega)
  have e7 : IntKind.wrap .u64 ((e : Int) + 1) = (q : Int) := by rw [wrapU64 (by omega) (by omega)]; omega
  have e8 : ¬ us.length = 0 := by omega
  have e9 : l1 * 16 ≤ 140737488355328 := by omega
  have e10 : us.length * 16 ≤ 140737488355328 := by omega
  have hcu : cut (tVal.row us) 0 (us.length * 2) = some (tVal.row us) := zct _ (zq7 us)
  have hap : (tVal.row vs).map AV.imm ++ (tVal.row us).map AV.imm = (tVal.row (vs ++ us)).map AV.imm := by rw [zni, List.map_append]
  have hre := zmi (tVal.row (vs ++ us))
  have hrn := fun f => zmq f (tVal.row (vs ++ us))
  rw [List.length_append, ← hl1] at f4
  generalize (W1.set (m + 1 + 1) q).set (m + 1 + 0) l1 = W3 at *
  generalize W1.set (m + 1 + 1) q = W2 at *
  simp only [kMem, s1, s2] at f4
  simp only [hMem, s1, s2, s3, s4, Int.natCast_zero, Int.natCast_one] at f5 f6
  rw [zb5 code ext c.c279]
  by_cases hv : vs = []
  ·subst hv
   have hl2 : l1 = us.length := by rw [hl1]; simp
   have e12 : IntKind.wrap .i64 (us.length : Int) = (us.length : Int) := wrapI64 (by omega) (by omega)
   have g2 : gV 3 [] = nilS := rfl
   have g3 : gM [] = [] := rfl
   simp only [g2, g3, List.append_nil] at f3
   simp only [List.nil_append] at f4 hre hrn
   simp only [List.length_nil, Int.natCast_zero] at f1 e0 e1
   subst hl2
   clear hap
   generalize tVal.row us = R at *
   generalize hRR : R.map AV.imm = RR at *
   simp -implicitDefEqProofs [x279, f1, f2, f3, f4, f5, f6, e0, e1, e12, e2, e2', e3, e4, e5, e5', e6, e7, e8, e9, hcu, hRR, hre, hrn, exLook, exTouch, exAppendR, elemsR, sameLoad, oldLoad, AV.same, s1, s2, s3, s4]
  ·have g2 : gV 3 vs = .osl 3 0 2 vs.length none := by unfold gV; rw [if_neg hv]
   have g3 : gM vs = [.flat (tVal.row vs) false] := by unfold gM; rw [if_neg hv]
   simp only [g2, g3] at f3
   have hcv : cut (tVal.row vs) 0 (vs.length * 2) = some (tVal.row vs) := zct _ (zq7 vs)
   have e11 : vs.length + us.length = l1 := hl1.symm
   generalize tVal.row us = R at *
   generalize tVal.row vs = V at *
   generalize hRR : (tVal.row (vs ++ us)).map AV.imm = RR at *
   simp -implicitDefEqProofs [x279, f1, f2, f3, f4, f5, f6, e0, e1, e2, e2', e3, e4, e5, e5', e6, e7, e8, e9, e11, hcu, hcv, hap, hre, hrn, exLook, exTouch, exAppendR, elemsR, sameLoad, oldLoad, AV.same, s1, s2, s3, s4]
end
end Go.EX


set_option linter.unusedVariables false
set_option linter.unusedSimpArgs false
namespace Go.EX
section
variable {code : Nat → Option XFun} {ext : Calls'}
theorem zk2 {qs : List Key} {q : Key} {j : Nat} {r : Int} (h : PlaceOf qs q r) (hq : qs[j]? = some q) (hno : ∀ l, l < j → qs[l]? ≠ some q) : r = (2 * j + 1 : Nat) := by
 rcases h with ⟨i, g1, g2, g3⟩ | ⟨g1, _⟩
 ·have : i = j := by
   rcases Nat.lt_trichotomy i j with hh | hh | hh
   ·exact absurd g1 (hno i hh)
   ·exact hh
   ·exact absurd hq (g2 j hh)
  rw [g3, this]
 ·exact absurd (List.mem_of_getElem? hq) g1
theorem zk5 {qs : List Key} {q : Key} {r : Int} (h : PlaceOf qs q r) (hq : q ∉ qs) : r = -1 := by
 rcases h with ⟨i, g1, _⟩ | ⟨_, g1⟩
 ·exact absurd (List.mem_of_getElem? g1) hq
 ·exact g1
theorem zai (c : RowCode code) {W B : List Nat} {e m room j : Nat} {vs : List Val} {qs : List Key} {v x : Val} {q : Key} (hi : HI W B e) (h : LM W B e m 5 room vs) (hl : vs.length ≤ 131072) (hk : KeysAt W B e vs qs) (hv : KeyAt W B e v q) (hhv : Held W B e v) (hhx : Held W B e x) (hx : x.ok3)
  (hq : qs[j]? = some q) (hno : ∀ l, l < j → qs[l]? ≠ some q) :
  ∃ W', Pushed W B e m 5 room (vs.set (2 * j + 1) x) W' B e ∧ callW code ext 602 [.optr 0 0, valV 5 m, valA v, valA x] (hMem W B e) = some (int64 0, hMem W' B e) := by
 have hlen := hk.1
 have hjq : j < qs.length := (List.getElem?_eq_some_iff.1 hq).1
 have f1 := ze9 (ext := ext) c hi h hl (by omega) [4, 5] (by decide) 2 rfl (by decide)
 have hr : kRow [4, 5] = [.val (.int .u8 4), .val (.int .u8 5)] := rfl
 rw [hr] at f1
 obtain ⟨r, hpl, f2⟩ := zfe (code := code) (ext := ext) c hi h hk hv
 rw [zk2 hpl hq hno] at f2
 obtain ⟨w, hw⟩ := h.at_
 have f0 : callW code ext 286 [objV m 5, int64 0] (hMem W B e) = some (uint64 vs.length, hMem W B e) := zbo (ext := ext) c.toTextCode hi hw (i := 0) (v := vs.length) rfl 5
 have f3 := zgl (ext := ext) c hi hhv
 have f4 := zgl (ext := ext) c hi hhx
 rcases h with ⟨h1, h2, h3⟩ | ⟨h1, p, h2, h3⟩
 ·subst h2; simp at hlen; omega
 ·have f5 := zg9 (ext := ext) c hi h2 h3 5
  obtain ⟨ws, g1, g2, _⟩ := h3.vals
  have htop := g1.top; have ht2 := hi.top; have ht3 := hi.bd; have hfit := h3.fit
  obtain ⟨i, hii⟩ : ∃ i, i = 2 * j + 1 := ⟨_, rfl⟩
  rw [← hii] at f2 ⊢
  obtain ⟨i2, hi2⟩ : ∃ i2, i2 = 2 * i := ⟨_, rfl⟩
  have f6 := zgm (ext := ext) c (i := i2) hi g1 (by omega) hx
  have hil : i < vs.length := by omega
  obtain ⟨o1, o2, o3, o4⟩ := hx
  have k1 := h3.hold (j := i) (us := vs.set i x) ht2 ⟨o1, o2, o3, o4⟩ (by omega) (.inl ⟨hil, rfl⟩)
  rw [← hi2] at k1
  have hi3 := hi.write g1.bit (k := i2) (v := x.k.toNat) (by rw [g1.hd]; omega) (by omega)
  have g3 := g1.write (i := i2) (v := x.k.toNat) (by omega) ht2
  have hi4 := hi3.write g3.bit (k := i2 + 1) (v := toW x.n) (by rw [g3.hd, List.length_set]; omega) (toW_lt x.n)
  have hm1 := (At.other hi g1 (i := i2) (v := x.k.toNat) (by omega) h2 (At.ne g1 h2 (by decide)))
  have hm2 := (At.other hi3 g3 (i := i2 + 1) (v := toW x.n) (by rw [List.length_set]; omega) hm1 (At.ne g1 h2 (by decide)))
  have l2 : ((W.set (p + 1 + i2) x.k.toNat).set (p + 1 + (i2 + 1)) (toW x.n)).length = W.length := by rw [List.length_set, List.length_set]
  refine ⟨(W.set (p + 1 + i2) x.k.toNat).set (p + 1 + (i2 + 1)) (toW x.n), ⟨hi4, .inr ⟨h1, p, by rw [List.length_set]; exact hm2, k1⟩, fun u y hu => ?_, l2, rfl, Nat.le_refl _⟩, ?_⟩
  ·exact (hu.other (x := x.k.toNat) hi g1 (i := i2) (by omega) (by decide)).other (x := toW x.n) hi3 g3 (i := i2 + 1) (by rw [List.length_set]; omega) (by decide)
  ·have e0 : IntKind.wrap .i64 (vs.length : Int) = (vs.length : Int) := wrapI64 (by omega) (by omega)
   have e1 : ¬ (i : Int) < 0 := by omega
   have e2 : IntKind.wrap .i64 (2 * (i : Int)) = (i2 : Int) := by rw [wrapI64 (by omega) (by omega)]; omega
   have e3 : IntKind.wrap .i64 (i : Int) = (i : Int) := wrapI64 (by omega) (by omega)
   generalize (W.set (p + 1 + i2) x.k.toNat).set (p + 1 + (i2 + 1)) (toW x.n) = W2 at *
   simp only [hMem, l2] at f6
   rw [zb5 code ext c.c602]
   simp -implicitDefEqProofs [x602, f0, f1, f2, f3, f4, f5, f6, e0, e1, e2, e3, l2]
theorem zah (c : RowCode code) {W B : List Nat} {e m room : Nat} {vs : List Val} {qs : List Key} {v x : Val} {q : Key} (hi : HI W B e) (h : LM W B e m 5 room vs) (hl : vs.length < 131072) (hk : KeysAt W B e vs qs) (hv : KeyAt W B e v q) (hhv : Held W B e v) (hhx : Held W B e x) (hov : v.ok3) (hx : x.ok3) (hokv : ∀ v ∈ vs, v.ok3)
  (hq : q ∉ qs) (hn : 2 * max 8 (2 * room) + e < W.length) :
  ∃ W' B' e' r, Pushed W B e m 5 r (vs ++ [v, x]) W' B' e' ∧ ((r = room ∧ e' = e) ∨ (room < vs.length + 2 ∧ r = max 8 (2 * room) ∧ e' = e + 2 * r + 1)) ∧ callW code ext 602 [.optr 0 0, valV 5 m, valA v, valA x] (hMem W B e) = some (int64 0, hMem W' B' e') := by
 have hlen := hk.1
 have hfit := h.fit
 have f1 := ze9 (ext := ext) c hi h (by omega) (by omega) [4, 5] (by decide) 2 rfl (by decide)
 have hr : kRow [4, 5] = [.val (.int .u8 4), .val (.int .u8 5)] := rfl
 rw [hr] at f1
 obtain ⟨r, hpl, f2⟩ := zfe (code := code) (ext := ext) c hi h hk hv
 rw [zk5 hpl hq] at f2
 obtain ⟨w, hw⟩ := h.at_
 have f0 : callW code ext 286 [objV m 5, int64 0] (hMem W B e) = some (uint64 vs.length, hMem W B e) := zbo (ext := ext) c.toTextCode hi hw (i := 0) (v := vs.length) rfl 5
 have f3 := zgl (ext := ext) c hi hhv
 have f4 := zgl (ext := ext) c hi hhx
 have hok : ∀ u ∈ [v, x], u.ok3 := fun u hu => by
  simp only [List.mem_cons, List.not_mem_nil, or_false] at hu
  rcases hu with rfl | rfl
  ·exact hov
  ·exact hx
 have key : ∃ W' B' e' r, Pushed W B e m 5 r (vs ++ [v, x]) W' B' e' ∧ ((r = room ∧ e' = e) ∨ (room < vs.length + 2 ∧ r = max 8 (2 * room) ∧ e' = e + 2 * r + 1)) ∧ callW code ext 279 [objV m 5, int64 8, .osl 1 0 2 2 (some 2)] (kMem W B e (.flat (tVal.row [v, x]) false)) = some (int64 0, kMem W' B' e' (.flat (tVal.row [v, x]) false)) := by
  by_cases hroom : vs.length + 2 ≤ room
  ·obtain ⟨W', g1, g2⟩ := zln (code := code) (ext := ext) (cap := some 2) c 8 (.inr rfl) hi h (us := [v, x]) (by simp) (by simpa using hroom) hok
   exact ⟨W', B, e, room, g1, .inl ⟨rfl, rfl⟩, g2⟩
  ·obtain ⟨W', B', g1, g2⟩ := zlm (code := code) (ext := ext) c 8 (.inr rfl) hi h (us := [v, x]) (by simp) (by simp; omega) hok hokv (max 8 (2 * room)) rfl (by simp; omega) hn
   exact ⟨W', B', _, _, g1, .inr ⟨by omega, rfl, rfl⟩, g2⟩
 obtain ⟨W', B', e', r', g1, g2, f5⟩ := key
 refine ⟨W', B', e', r', g1, g2, ?_⟩
 have l1 := g1.sz
 have l2 := g1.szB
 have hrow : tVal.row [v, x] = [.val (.int .u8 v.k), .val (.int .i64 v.n), .val (.int .u8 x.k), .val (.int .i64 x.n)] := rfl
 rw [hrow] at f5
 simp only [kMem, l1, l2] at f5
 have e0 : IntKind.wrap .i64 (vs.length : Int) = (vs.length : Int) := wrapI64 (by omega) (by omega)
 have e1 : ¬ (vs.length : Int) = 131072 := by omega
 have e1' : ¬ vs.length = 131072 := by omega
 have e3 : IntKind.wrap .i64 (-1 : Int) = -1 := rfl
 rw [zb5 code ext c.c602]
 simp -implicitDefEqProofs [x602, f0, f1, f2, f3, f4, f5, e0, e1, e1', e3, l1, l2]
end
end Go.EX


set_option linter.unusedVariables false
set_option linter.unusedSimpArgs false
namespace Go.EX
structure Laid3 (W B : List Nat) (e k room : Nat) (vs : List Val) (W' B' : List Nat) (e' : Nat) : Prop where
 hi : HI W' B' e'
 row : LM W' B' e' e k room vs
 keys : ∀ v q, KeyAt W B e v q → KeyAt W' B' e' v q
 sz : W'.length = W.length
 szB : B'.length = B.length
 le : e ≤ e'
section
variable {code : Nat → Option XFun} {ext : Calls'}
theorem znn (c : RowCode code) {W B : List Nat} {e k : Nat} (hk : k = 4 ∨ k = 5) (hi : HI W B e) (hn : 2 + e < W.length) :
  ∃ W' B', Laid3 W B e k 0 [] W' B' (e + 3) ∧ callW code ext 617 [.optr 0 0, uint8 k, int64 0, nilS] (hMem W B e) = some (.tup [valV k e, int64 0], hMem W' B' (e + 3)) := by
 have f1 := zii (ext := ext) c.toTextCode hi (k := k) (n := 2) (by omega) (by omega) hn
 have hg := grown3 (n := 2) (k := k) hi (by omega) hn
 have e3 : e + 2 + 1 = e + 3 := by omega
 rw [e3] at f1
 have hhi := hg.hi
 have hat := hg.at_
 rw [e3] at hhi hat
 refine ⟨_, _, ⟨hhi, .inl ⟨rfl, rfl, hat⟩, fun v q hq => hq.more (by omega) hg.old hg.bits, hg.sz, hg.szB, by omega⟩, ?_⟩
 have l1 := hg.sz
 have l2 := hg.szB
 clear hg hat
 generalize setAll (W.set e (2 * 256 + k)) (e + 1) (List.replicate 2 0) = W1 at *
 generalize setBit B e = B1 at *
 have f2 := zqb (ext := ext) c.toTextCode W1 B1 (e + 3) e k
 generalize e + 3 = e' at *
 simp only [hMem, l1, l2, Int.cast_ofNat_Int] at f1 f2
 have e0 : IntKind.wrap .i64 (4 + IntKind.wrap .i64 (2 * 0)) = 4 := by decide
 rw [zb5 code ext c.c617]
 simp -implicitDefEqProofs [x617, f1, f2, l1, l2]
theorem znm (c : RowCode code) {W B : List Nat} {e k room : Nat} {vs : List Val} {cap : Option Nat} (hk : k = 4 ∨ k = 5) (hi : HI W B e) (hr0 : 0 < room) (hroom : vs.length ≤ room) (hok : ∀ v ∈ vs, v.ok3) (hn : 4 + 2 * room + e < W.length) :
  ∃ W' B', Laid3 W B e k room vs W' B' (e + 3 + 2 * room + 1) ∧ callW code ext 617 [.optr 0 0, uint8 k, int64 room, .osl 1 0 2 vs.length cap] (kMem W B e (.flat (tVal.row vs) false)) = some (.tup [valV k e, int64 0], kMem W' B' (e + 3 + 2 * room + 1) (.flat (tVal.row vs) false)) := by
 have ht2 := hi.top; have ht3 := hi.bd
 have f1 := zii (ext := ext) c.toTextCode hi (k := k) (n := 2) (by omega) (by omega) (by omega)
 have hg := grown3 (n := 2) (k := k) hi (by omega) (by omega)
 have e3 : e + 2 + 1 = e + 3 := by omega
 rw [e3] at f1
 have hhi := hg.hi
 have hat := hg.at_
 have hold := hg.old
 have hbits := hg.bits
 have l1 := hg.sz
 have l2 := hg.szB
 rw [e3] at hhi hat
 clear hg
 generalize setAll (W.set e (2 * 256 + k)) (e + 1) (List.replicate 2 0) = W1 at *
 generalize setBit B e = B1 at *
 obtain ⟨p, hp⟩ : ∃ p, p = e + 3 := ⟨_, rfl⟩
 rw [← hp] at f1 hhi hat ⊢
 obtain ⟨W2, B2, hfl, f2⟩ := zeu (code := code) (ext := ext) (cap := cap) c (o := .flat (tVal.row vs) false) (.inl rfl) hhi (room := room) hroom hok (by omega)
 obtain ⟨e', he'⟩ : ∃ e', e' = p + 2 * room + 1 := ⟨_, rfl⟩
 rw [← he'] at f2 ⊢
 have hhi2 := hfl.hi
 have hit := hfl.items
 rw [← he'] at hhi2 hit
 have l3 : W2.length = W.length := hfl.sz.trans l1
 have l4 : B2.length = B.length := hfl.szB.trans l2
 have hm1 := hat.more (e' := e') (by omega) hfl.old hfl.bits
 have hrep : List.replicate 2 0 = [0, 0] := rfl
 rw [hrep] at hm1
 obtain ⟨ws, g1, _, _⟩ := hit.vals
 have hne : e ≠ p := by omega
 have f3 := zrk (ext := ext) c.small c.c178 (hm1.obj hhi2) (k := 0) (v := vs.length) (by simp)
 have hi3 := hhi2.write hm1.bit (k := 0) (v := vs.length) (by rw [hm1.hd]; simp) (by omega)
 have hm2 := hm1.write (i := 0) (v := vs.length) (by simp) hhi2.top
 have hit2 := hit.other (i := 0) (v := vs.length) hhi2 hm1 (by simp) hne
 obtain ⟨q, hq⟩ : ∃ q, q = p + 1 := ⟨_, rfl⟩
 have f4 := zrk (ext := ext) c.small c.c178 (hm2.obj hi3) (k := 1) (v := q) (by simp)
 have hi4 := hi3.write hm2.bit (k := 1) (v := q) (by rw [hm2.hd]; simp) (by omega)
 have hm3 := hm2.write (i := 1) (v := q) (by simp) hi3.top
 have hit3 := hit2.other (i := 1) (v := q) hi3 hm2 (by simp) hne
 have s3 : (W2.set (e + 1 + 0) vs.length).length = W.length := by rw [List.length_set]; exact l3
 have s4 : ((W2.set (e + 1 + 0) vs.length).set (e + 1 + 1) q).length = W.length := by rw [List.length_set]; exact s3
 refine ⟨(W2.set (e + 1 + 0) vs.length).set (e + 1 + 1) q, B2, ⟨hi4, .inr ⟨hr0, p, ?_, hit3⟩, fun v x hx => ?_, s4, l4, by omega⟩, ?_⟩
 ·have : ([0, 0].set 0 vs.length).set 1 q = [vs.length, p + 1] := by simp [hq]
  rw [← this]; exact hm3
 ·have h1 := (hx.more (e' := p) (by omega) hold hbits).more (e' := e') (by omega) hfl.old hfl.bits
  exact (h1.other (x := vs.length) hhi2 hm1 (i := 0) (by simp) (by omega)).other (x := q) hi3 hm2 (i := 1) (by simp) (by omega)
 ·generalize (W2.set (e + 1 + 0) vs.length).set (e + 1 + 1) q = W4 at *
  generalize W2.set (e + 1 + 0) vs.length = W3 at *
  have f5 := zqb (ext := ext) c.toTextCode W4 B2 e' e k
  have f6 := zrg (ext := ext) c.c177 W B e
  have f7 := zq2 (ext := ext) c.c176 W B e
  obtain ⟨r2, hr2⟩ : ∃ r2, r2 = 2 * room := ⟨_, rfl⟩
  obtain ⟨r4, hr4⟩ : ∃ r4, r4 = 4 + r2 := ⟨_, rfl⟩
  obtain ⟨d, hd⟩ : ∃ d, d = W.length - e := ⟨_, rfl⟩
  have e4 : IntKind.wrap .i64 (2 * (room : Int)) = (r2 : Int) := by rw [wrapI64 (by omega) (by omega)]; omega
  have e5 : IntKind.wrap .i64 (4 + (r2 : Int)) = (r4 : Int) := by rw [wrapI64 (by omega) (by omega)]; omega
  have e6 : IntKind.wrap .i64 ((W.length : Int) - (e : Int)) = (d : Int) := by rw [wrapI64 (by omega) (by omega)]; omega
  have e7 : ¬ (d : Int) < r4 := by omega
  have e7' : ¬ d < r4 := by omega
  have e8 : (0 : Int) < room := by omega
  have e9 : ¬ room = 0 := by omega
  have e10 : IntKind.wrap .u64 (vs.length : Int) = (vs.length : Int) := wrapU64 (by omega) (by omega)
  have e11 : IntKind.wrap .u64 (p : Int) = (p : Int) := wrapU64 (by omega) (by omega)
  have e12 : IntKind.wrap .u64 ((p : Int) + 1) = (q : Int) := by rw [wrapU64 (by omega) (by omega)]; omega
  have t1 := hfl.sz
  have t2 := hfl.szB
  simp only [hMem, l1, l2, Int.cast_ofNat_Int] at f1
  simp only [kMem, l1, l2, l3, l4] at f2
  simp only [hMem, l3, l4, s3, s4, Int.natCast_zero, Int.natCast_one] at f3 f4 f5
  rw [zb5 code ext c.c617]
  generalize tVal.row vs = R at *
  simp -implicitDefEqProofs [x617, f1, f2, f3, f4, f5, f6, f7, e4, e5, e6, e7, e7', e8, e9, hr0, e10, e11, e12, l1, l2, l3, l4, s3, s4]
end
end Go.EX


set_option linter.unusedVariables false
set_option linter.unusedSimpArgs false
namespace Go.EX
def findQ : List Key → Key → Option Nat
 | [], _ => none
 | r :: qs, q => if q = r then some 0 else (findQ qs q).map (· + 1)
def seenFrom : Nat → List Key → List (AV × AV)
 | _, [] => []
 | i, q :: r => (.agg [uint8 q.k, int64 q.n, strO q.s], int64 (2 * i : Nat)) :: seenFrom (i + 1) r
abbrev seenQ (qs : List Key) : List (AV × AV) := seenFrom 0 qs
theorem zop : ∀ (qs : List Key) (i : Nat) (q : Key), seenFrom i qs ++ [(.agg [uint8 q.k, int64 q.n, strO q.s], int64 (2 * (i + qs.length) : Nat))] = seenFrom i (qs ++ [q])
 | [], i, q => rfl
 | r :: qs, i, q => by
  have ih := zop qs (i + 1) q
  rw [show i + 1 + qs.length = i + (r :: qs).length by simp; omega] at ih
  show _ :: (seenFrom (i + 1) qs ++ _) = _ :: seenFrom (i + 1) (qs ++ [q])
  rw [ih]
theorem zoq : ∀ (qs : List Key) (i j : Nat) (q : Key), qs[j]? = some q → (seenFrom i qs)[j]? = some (.agg [uint8 q.k, int64 q.n, strO q.s], int64 (2 * (i + j) : Nat))
 | r :: qs, i, 0, q, h => by cases h; rfl
 | r :: qs, i, j + 1, q, h => by
  have := zoq qs (i + 1) j q h
  show (seenFrom (i + 1) qs)[j]? = _
  rw [this, show i + 1 + j = i + (j + 1) by omega]
theorem zoo (f : Nat → Option Nat) : ∀ (qs : List Key) (i : Nat), List.map (fun p => (AV.ren f p.1, AV.ren f p.2)) (seenFrom i qs) = seenFrom i qs
 | [], _ => rfl
 | q :: r, i => by
  show _ :: List.map _ (seenFrom (i + 1) r) = _
  rw [zoo f r (i + 1)]; rfl
theorem zom : ∀ (qs : List Key) (i : Nat), AV.refs.refsL (List.map (fun x => x.1) (seenFrom i qs)) = []
 | [], _ => rfl
 | q :: r, i => zom r (i + 1)
theorem zon : ∀ (qs : List Key) (i : Nat), AV.refs.refsL (List.map (fun x => x.2) (seenFrom i qs)) = []
 | [], _ => rfl
 | q :: r, i => zon r (i + 1)
theorem ze2 (m : Mem) (q : Key) : ∀ (qs : List Key) (i n : Nat), findK m 57 (.agg [uint8 q.k, int64 q.n, strO q.s]) (seenFrom i qs) n = some ((findQ qs q).map (· + n))
 | [], i, n => rfl
 | r :: qs, i, n => by
  have hk : keyEq m 57 (.agg [uint8 q.k, int64 q.n, strO q.s]) (.agg [uint8 r.k, int64 r.n, strO r.s]) = some (decide (q = r)) := key_eq q r
  show (match keyEq m 57 (.agg [uint8 q.k, int64 q.n, strO q.s]) (.agg [uint8 r.k, int64 r.n, strO r.s]) with
   | some true => some (some n)
   | some false => findK m 57 (.agg [uint8 q.k, int64 q.n, strO q.s]) (seenFrom (i + 1) qs) (n + 1)
   | none => none) = _
  rw [hk]
  unfold findQ
  by_cases h : q = r
  ·rw [if_pos h, decide_eq_true h]; simp
  ·rw [if_neg h, decide_eq_false h]
   simp only
   rw [ze2 m q qs (i + 1) (n + 1)]
   cases findQ qs q with
   | none => rfl
   | some j => simp; omega
theorem ze6 : ∀ {qs : List Key} {q : Key} {j : Nat}, findQ qs q = some j → qs[j]? = some q ∧ ∀ l, l < j → qs[l]? ≠ some q
 | r :: qs, q, j, h => by
  unfold findQ at h
  by_cases hq : q = r
  ·rw [if_pos hq] at h
   cases h
   exact ⟨by rw [hq]; rfl, fun l hl => absurd hl (Nat.not_lt_zero l)⟩
  ·rw [if_neg hq] at h
   cases hf : findQ qs q with
   | none => rw [hf] at h; cases h
   | some i =>
    rw [hf] at h
    cases h
    obtain ⟨h1, h2⟩ := ze6 hf
    refine ⟨h1, fun l hl => ?_⟩
    cases l with
    | zero => exact fun hh => hq (Option.some.inj hh).symm
    | succ l =>
     have hl' : l + 1 < i + 1 := hl
     exact h2 l (by omega)
theorem ze5 : ∀ {qs : List Key} {q : Key}, findQ qs q = none → q ∉ qs
 | [], _, _ => by simp
 | r :: qs, q, h => by
  unfold findQ at h
  by_cases hq : q = r
  ·rw [if_pos hq] at h; cases h
  ·rw [if_neg hq] at h
   cases hf : findQ qs q with
   | none => rw [List.mem_cons]; exact fun hh => hh.elim hq (ze5 hf)
   | some i => rw [hf] at h; cases h
def putM (s : List Key × List Val) (q : Key) (v x : Val) : List Key × List Val :=
 match findQ s.1 q with
 | some j => (s.1, s.2.set (2 * j + 1) x)
 | none => (s.1 ++ [q], s.2 ++ [v, x])
theorem zls {s : List Key × List Val} {q : Key} {v x : Val} {j : Nat} (h : findQ s.1 q = some j) : putM s q v x = (s.1, s.2.set (2 * j + 1) x) := by unfold putM; rw [h]
theorem zlr {s : List Key × List Val} {q : Key} {v x : Val} (h : findQ s.1 q = none) : putM s q v x = (s.1 ++ [q], s.2 ++ [v, x]) := by unfold putM; rw [h]
theorem KeysAt.put {W B : List Nat} {e : Nat} {s : List Key × List Val} {q : Key} {v x : Val} (h : KeysAt W B e s.2 s.1) (hv : KeyAt W B e v q) : KeysAt W B e (putM s q v x).2 (putM s q v x).1 := by
 obtain ⟨h1, h2⟩ := h
 cases hf : findQ s.1 q with
 | some j =>
  rw [zls hf]
  refine ⟨by simpa using h1, fun i r hr => ?_⟩
  obtain ⟨u, hu, hk⟩ := h2 i r hr
  exact ⟨u, by show (s.2.set (2 * j + 1) x)[2 * i]? = _; rw [List.getElem?_set_ne (by omega)]; exact hu, hk⟩
 | none =>
  rw [zlr hf]
  refine ⟨by simp [h1]; omega, fun i r hr => ?_⟩
  change (s.1 ++ [q])[i]? = some r at hr
  by_cases hi : i < s.1.length
  ·rw [List.getElem?_append_left hi] at hr
   obtain ⟨u, hu, hk⟩ := h2 i r hr
   exact ⟨u, by show (s.2 ++ [v, x])[2 * i]? = _; rw [List.getElem?_append_left (by omega)]; exact hu, hk⟩
  ·rw [List.getElem?_append_right (by omega)] at hr
   have hi0 : i - s.1.length = 0 := by
    have := (List.getElem?_eq_some_iff.1 hr).1
    simpa using this
   rw [hi0] at hr
   cases hr
   exact ⟨v, by show (s.2 ++ [v, x])[2 * i]? = _; rw [List.getElem?_append_right (by omega), show 2 * i - s.2.length = 0 by omega]; rfl, hv⟩
theorem zlp {s : List Key × List Val} {q : Key} {v x u : Val} (h : u ∈ (putM s q v x).2) : u ∈ s.2 ∨ u = v ∨ u = x := by
 cases hf : findQ s.1 q with
 | some j =>
  rw [zls hf] at h
  rcases List.mem_or_eq_of_mem_set h with h | h
  ·exact .inl h
  ·exact .inr (.inr h)
 | none =>
  rw [zlr hf] at h
  simpa using h
theorem zlo {s : List Key × List Val} {q : Key} {v x : Val} : s.2.length ≤ (putM s q v x).2.length ∧ (putM s q v x).2.length ≤ s.2.length + 2 := by
 cases hf : findQ s.1 q with
 | some j => rw [zls hf]; simp
 | none => rw [zlr hf]; simp
abbrev Tri : Type := Key × Val × Val
abbrev flatT (ts : List Tri) : List Val := ts.flatMap fun t => [t.2.1, t.2.2]
abbrev madeT (ts : List Tri) : List Key × List Val := ts.foldl (fun s t => putM s t.1 t.2.1 t.2.2) ([], [])
theorem zfl (ts : List Tri) : (flatT ts).length = 2 * ts.length := by
 induction ts with
 | nil => rfl
 | cons t r ih =>
  show ([t.2.1, t.2.2] ++ flatT r).length = _
  rw [List.length_append, ih]; simp; omega
theorem zfk : ∀ (ts : List Tri) (i : Nat) (t : Tri), ts[i]? = some t → (flatT ts)[2 * i]? = some t.2.1 ∧ (flatT ts)[2 * i + 1]? = some t.2.2
 | u :: ts, 0, t, h => by cases h; exact ⟨rfl, rfl⟩
 | u :: ts, i + 1, t, h => by
  obtain ⟨h1, h2⟩ := zfk ts i t h
  exact ⟨by rw [show 2 * (i + 1) = 2 * i + 1 + 1 by omega]; exact h1, by rw [show 2 * (i + 1) + 1 = 2 * i + 1 + 1 + 1 by omega]; exact h2⟩
theorem zig (ts : List Tri) (t : Tri) : madeT (ts ++ [t]) = putM (madeT ts) t.1 t.2.1 t.2.2 := by
 show (ts ++ [t]).foldl _ _ = _
 rw [List.foldl_append]; rfl
theorem zih {ts : List Tri} {i : Nat} {t : Tri} (h : ts[i]? = some t) : madeT (ts.take (i + 1)) = putM (madeT (ts.take i)) t.1 t.2.1 t.2.2 := by
 rw [List.take_add_one, h]; exact zig _ _
structure TriOk (W B : List Nat) (e : Nat) (t : Tri) : Prop where
 key : KeyAt W B e t.2.1 t.1
 h1 : Held W B e t.2.1
 h2 : Held W B e t.2.2
 o1 : t.2.1.ok3
 o2 : t.2.2.ok3
structure MadeOk (W B : List Nat) (e n : Nat) (s : List Key × List Val) : Prop where
 keys : KeysAt W B e s.2 s.1
 ok : ∀ v ∈ s.2, v.ok3
 len : s.2.length ≤ n
theorem MadeOk.put {W B : List Nat} {e n : Nat} {s : List Key × List Val} {q : Key} {v x : Val} (h : MadeOk W B e n s) (hk : KeyAt W B e v q) (hv : v.ok3) (hx : x.ok3) : MadeOk W B e (n + 2) (putM s q v x) :=
 ⟨h.keys.put hk, fun u hu => (zlp hu).elim (h.ok u) (fun h1 => h1.elim (fun e => e ▸ hv) (fun e => e ▸ hx)), by have := zlo (s := s) (q := q) (v := v) (x := x); have := h.len; omega⟩
theorem zif {W B : List Nat} {e : Nat} {ts : List Tri} (h : ∀ t ∈ ts, TriOk W B e t) : ∀ i, i ≤ ts.length → MadeOk W B e (2 * i) (madeT (ts.take i))
 | 0, _ => ⟨⟨rfl, fun j q hq => by cases hq⟩, fun v hv => (by cases hv), Nat.le_refl _⟩
 | i + 1, hi => by
  have hg : ts[i]? = some ts[i] := List.getElem?_eq_getElem (by omega)
  have ht := h ts[i] (List.getElem_mem _)
  rw [zih hg]
  exact (zif h i (by omega)).put ht.key ht.o1 ht.o2
theorem znk (vs : List Val) (i : Nat) (x : Val) (hi : i < vs.length) : setAll (tVal.row vs) (i * 2) (tVal.enc x) = tVal.row (vs.set i x) := by
 induction vs generalizing i with
 | nil => simp at hi
 | cons v vs ih =>
  cases i with
  | zero => rfl
  | succ i =>
   have := ih i (by simpa using hi)
   show setAll (tVal.enc v ++ tVal.row vs) _ _ = tVal.enc v ++ tVal.row (vs.set i x)
   rw [← this, show (i + 1) * 2 = i * 2 + 1 + 1 by omega]
   rfl
end Go.EX


set_option maxHeartbeats 1000000
set_option linter.unusedVariables false
set_option linter.unusedSimpArgs false
namespace Go.EX
theorem step_3 {p : Option (XExit × St)} {k : List Nat} {X : St} (h : p.map (fun q => (q.1, q.2.tidy k)) = some (.normal, X)) : ∃ s', p = some (.normal, s') ∧ s'.tidy k = X := by
 cases p with
 | none => cases h
 | some q =>
  obtain ⟨e, s'⟩ := q
  simp only [Option.map_some, Option.some.injEq, Prod.mk.injEq] at h
  obtain ⟨rfl, h⟩ := h
  exact ⟨s', rfl, h⟩
section
variable {code : Nat → Option XFun} {ext : Calls'}
abbrev nmEnv (n : Nat) (m : AV) (k i : Nat) : Env := [(0, .optr 0 0), (1, .osl 1 0 2 n none), (4, .optr 4 0), (6, m), (7, .omap k), (8, int64 i)]
abbrev nmMem (W B : List Nat) (e : Nat) (R : List IV) (l : Mem) : Mem := [.rich [.osl 2 0 1 W.length (some W.length), .osl 3 0 1 B.length (some B.length), int64 e], .flat R false, .flat (urow W) false, .flat (urow B) false, .rich [uint8 0, int64 0]] ++ l
def nmSt (W B : List Nat) (e : Nat) (us : List Val) (s : List Key × List Val) (i : Nat) : St :=
 if s.2 = [] then ⟨4, nmEnv us.length nilS 5 i, nmMem W B e (tVal.row us) [.map (seenQ s.1)]⟩
 else ⟨4, nmEnv us.length (.osl 5 0 2 s.2.length none) 6 i, nmMem W B e (tVal.row us) [.flat (tVal.row s.2) false, .map (seenQ s.1)]⟩
theorem zjd (c : RowCode code) {W B : List Nat} {e i : Nat} {us : List Val} {q : Key} {v x : Val} (hi : HI W B e) (hk : KeyAt W B e v q) (hl : us.length ≤ 1000) (hiu : i + 1 < us.length) (hv : us[i]? = some v) (hx : us[i + 1]? = some x) :
  ∃ s', den code ext x598L1 (nmSt W B e us ([], []) i) = some (.normal, s') ∧ s'.tidy [0, 1, 4, 6, 7, 8] = nmSt W B e us (putM ([], []) q v x) (i + 2) := by
 have f1 := zja (ext := ext) c hi hk
 have c1 : cut (tVal.row us) (i * 2) 2 = some [.val (.int .u8 v.k), .val (.int .i64 v.n)] := zfm (t := tVal) hv
 have c2 : cut (tVal.row us) ((i + 1) * 2) 2 = some [.val (.int .u8 x.k), .val (.int .i64 x.n)] := zfm (t := tVal) hx
 have hr := zq7 us
 have e0 : nmSt W B e us ([], []) i = ⟨4, nmEnv us.length nilS 5 i, nmMem W B e (tVal.row us) [.map []]⟩ := rfl
 have e1 : nmSt W B e us (putM ([], []) q v x) (i + 2) = ⟨4, nmEnv us.length (.osl 5 0 2 2 none) 6 (i + 2), nmMem W B e (tVal.row us) [.flat [.val (.int .u8 v.k), .val (.int .i64 v.n), .val (.int .u8 x.k), .val (.int .i64 x.n)] false, .map [(.agg [uint8 q.k, int64 q.n, strO q.s], int64 0)]]⟩ := rfl
 rw [e0, e1]
 obtain ⟨i1, hi1⟩ : ∃ i1, i1 = i + 1 := ⟨_, rfl⟩
 obtain ⟨i2, hi2⟩ : ∃ i2, i2 = i + 2 := ⟨_, rfl⟩
 have e2 : (i : Int) < us.length := by omega
 have e2' : i < us.length := by omega
 have e3 : IntKind.wrap .i64 ((i : Int) + 1) = (i1 : Int) := by rw [wrapI64 (by omega) (by omega)]; omega
 have e4 : IntKind.wrap .i64 ((i : Int) + 2) = (i2 : Int) := by rw [wrapI64 (by omega) (by omega)]; omega
 have e5 : (i1 : Int) < us.length := by omega
 have e5' : i1 < us.length := by omega
 rw [← hi1] at c2
 rw [← hi2]
 clear hv hx hk hi
 generalize tVal.row us = R at *
 generalize us.length = n at *
 have hd : digits 64 53 = [0, 0, 2] := rfl
 have hs : sameCells [0, 0, 2] [uint8 q.k, int64 q.n, strO q.s] [uint8 q.k, int64 q.n, strO q.s] = some true := (key_eq q q).trans (by rw [decide_eq_true rfl])
 refine step_3 ?_
 simp -implicitDefEqProofs [-sameCells, hd, hs, x598L1, f1, c1, c2, e2, e2', e3, e4, e5, e5', exAppendX, exAppend, elems, findK]
theorem zje (c : RowCode code) {W B : List Nat} {e i j : Nat} {us : List Val} {s : List Key × List Val} {q : Key} {v x : Val} (hi : HI W B e) (hk : KeyAt W B e v q) (hl : us.length ≤ 1000) (hiu : i + 1 < us.length) (hv : us[i]? = some v) (hx : us[i + 1]? = some x) (hne : s.2 ≠ []) (hks : KeysAt W B e s.2 s.1) (hsl : s.2.length ≤ 1000) (hf : findQ s.1 q = some j) :
  ∃ s', den code ext x598L1 (nmSt W B e us s i) = some (.normal, s') ∧ s'.tidy [0, 1, 4, 6, 7, 8] = nmSt W B e us (putM s q v x) (i + 2) := by
 have f1 := zja (ext := ext) c hi hk
 have c1 : cut (tVal.row us) (i * 2) 2 = some [.val (.int .u8 v.k), .val (.int .i64 v.n)] := zfm (t := tVal) hv
 have c2 : cut (tVal.row us) ((i + 1) * 2) 2 = some [.val (.int .u8 x.k), .val (.int .i64 x.n)] := zfm (t := tVal) hx
 obtain ⟨qs, vs⟩ := s
 simp only at hne hks hsl hf
 obtain ⟨hlen, _⟩ := hks
 obtain ⟨hq, _⟩ := ze6 hf
 have hjl : j < qs.length := (List.getElem?_eq_some_iff.1 hq).1
 obtain ⟨j2, hj2⟩ : ∃ j2, j2 = 2 * j := ⟨_, rfl⟩
 obtain ⟨j3, hj3⟩ : ∃ j3, j3 = 2 * j + 1 := ⟨_, rfl⟩
 have hK := fun m => ze2 m q qs 0 0
 rw [hf] at hK
 have hG := zoq qs 0 j q hq
 rw [Nat.zero_add, ← hj2] at hG
 have hset := znk vs j3 x (by omega)
 have henc : tVal.enc x = [.val (.int .u8 x.k), .val (.int .i64 x.n)] := rfl
 rw [henc] at hset
 have hr := zq7 vs
 have e0 : nmSt W B e us (qs, vs) i = ⟨4, nmEnv us.length (.osl 5 0 2 vs.length none) 6 i, nmMem W B e (tVal.row us) [.flat (tVal.row vs) false, .map (seenQ qs)]⟩ := if_neg hne
 have e1 : nmSt W B e us (putM (qs, vs) q v x) (i + 2) = ⟨4, nmEnv us.length (.osl 5 0 2 vs.length none) 6 (i + 2), nmMem W B e (tVal.row us) [.flat (tVal.row (vs.set j3 x)) false, .map (seenQ qs)]⟩ := by
  rw [zls hf]
  unfold nmSt
  rw [if_neg (by show vs.set (2 * j + 1) x ≠ []; intro h; exact hne (by simpa using h))]
  simp only [List.length_set, hj3]
 rw [e0, e1]
 obtain ⟨i1, hi1⟩ : ∃ i1, i1 = i + 1 := ⟨_, rfl⟩
 obtain ⟨i2, hi2⟩ : ∃ i2, i2 = i + 2 := ⟨_, rfl⟩
 have e2 : (i : Int) < us.length := by omega
 have e2' : i < us.length := by omega
 have e3 : IntKind.wrap .i64 ((i : Int) + 1) = (i1 : Int) := by rw [wrapI64 (by omega) (by omega)]; omega
 have e4 : IntKind.wrap .i64 ((i : Int) + 2) = (i2 : Int) := by rw [wrapI64 (by omega) (by omega)]; omega
 have e5 : (i1 : Int) < us.length := by omega
 have e5' : i1 < us.length := by omega
 have e6 : IntKind.wrap .i64 ((j2 : Int) + 1) = (j3 : Int) := by rw [wrapI64 (by omega) (by omega)]; omega
 have e7 : (j3 : Int) < vs.length := by omega
 have e7' : j3 < vs.length := by omega
 have e8 : j3 * 2 + 2 ≤ (tVal.row vs).length := by omega
 have r1 := fun f => zoo f qs 0
 have r2 := zom qs 0
 have r3 := zon qs 0
 rw [← hi1] at c2
 rw [← hi2]
 have hd : digits 64 53 = [0, 0, 2] := rfl
 have hs : sameCells [0, 0, 2] [uint8 q.k, int64 q.n, strO q.s] [uint8 q.k, int64 q.n, strO q.s] = some true := (key_eq q q).trans (by rw [decide_eq_true rfl])
 clear hv hx hk hi hf
 show ∃ s', den code ext x598L1 ⟨4, nmEnv us.length (.osl 5 0 2 vs.length none) 6 i, nmMem W B e (tVal.row us) [.flat (tVal.row vs) false, .map (seenFrom 0 qs)]⟩ = some (.normal, s') ∧ s'.tidy [0, 1, 4, 6, 7, 8] = ⟨4, nmEnv us.length (.osl 5 0 2 vs.length none) 6 i2, nmMem W B e (tVal.row us) [.flat (tVal.row (vs.set j3 x)) false, .map (seenFrom 0 qs)]⟩
 generalize seenFrom 0 qs = S at *
 generalize tVal.row (vs.set j3 x) = V2 at *
 generalize tVal.row vs = V at *
 generalize tVal.row us = R at *
 generalize us.length = n at *
 generalize vs.length = l at *
 refine step_3 ?_
 simp -implicitDefEqProofs [-sameCells, hd, hs, x598L1, f1, c1, c2, e2, e2', e3, e4, e5, e5', e6, e7, e7', e8, hK, hG, hset, r1, r2, r3]
theorem nm_new (c : RowCode code) {W B : List Nat} {e i : Nat} {us : List Val} {s : List Key × List Val} {q : Key} {v x : Val} (hi : HI W B e) (hk : KeyAt W B e v q) (hl : us.length ≤ 1000) (hiu : i + 1 < us.length) (hv : us[i]? = some v) (hx : us[i + 1]? = some x) (hne : s.2 ≠ []) (hks : KeysAt W B e s.2 s.1) (hsl : s.2.length ≤ 1000) (hf : findQ s.1 q = none) :
  ∃ s', den code ext x598L1 (nmSt W B e us s i) = some (.normal, s') ∧ s'.tidy [0, 1, 4, 6, 7, 8] = nmSt W B e us (putM s q v x) (i + 2) := by
 have f1 := zja (ext := ext) c hi hk
 have c1 : cut (tVal.row us) (i * 2) 2 = some [.val (.int .u8 v.k), .val (.int .i64 v.n)] := zfm (t := tVal) hv
 have c2 : cut (tVal.row us) ((i + 1) * 2) 2 = some [.val (.int .u8 x.k), .val (.int .i64 x.n)] := zfm (t := tVal) hx
 obtain ⟨qs, vs⟩ := s
 simp only at hne hks hsl hf
 obtain ⟨hlen, _⟩ := hks
 have hK := fun m => ze2 m q qs 0 0
 rw [hf] at hK
 obtain ⟨l2, hl2⟩ : ∃ l2, l2 = vs.length + 2 := ⟨_, rfl⟩
 have hS := zop qs 0 q
 rw [show 2 * (0 + qs.length) = vs.length by omega] at hS
 have hrow : tVal.row vs ++ [.val (.int .u8 v.k), .val (.int .i64 v.n), .val (.int .u8 x.k), .val (.int .i64 x.n)] = tVal.row (vs ++ [v, x]) := by
  rw [zni]; rfl
 have hcut : cut (tVal.row vs) 0 (vs.length * 2) = some (tVal.row vs) := zct _ (zq7 vs)
 have hfit : l2 * 16 ≤ 140737488355328 := by omega
 have hr := zq7 vs
 have e0 : nmSt W B e us (qs, vs) i = ⟨4, nmEnv us.length (.osl 5 0 2 vs.length none) 6 i, nmMem W B e (tVal.row us) [.flat (tVal.row vs) false, .map (seenFrom 0 qs)]⟩ := if_neg hne
 have e1 : nmSt W B e us (putM (qs, vs) q v x) (i + 2) = ⟨4, nmEnv us.length (.osl 5 0 2 l2 none) 6 (i + 2), nmMem W B e (tVal.row us) [.flat (tVal.row (vs ++ [v, x])) false, .map (seenFrom 0 (qs ++ [q]))]⟩ := by
  rw [zlr hf]
  unfold nmSt
  rw [if_neg (by simp)]
  simp [hl2]
 rw [e0, e1]
 obtain ⟨i1, hi1⟩ : ∃ i1, i1 = i + 1 := ⟨_, rfl⟩
 obtain ⟨i2, hi2⟩ : ∃ i2, i2 = i + 2 := ⟨_, rfl⟩
 have e2 : (i : Int) < us.length := by omega
 have e2' : i < us.length := by omega
 have e3 : IntKind.wrap .i64 ((i : Int) + 1) = (i1 : Int) := by rw [wrapI64 (by omega) (by omega)]; omega
 have e4 : IntKind.wrap .i64 ((i : Int) + 2) = (i2 : Int) := by rw [wrapI64 (by omega) (by omega)]; omega
 have e5 : (i1 : Int) < us.length := by omega
 have e5' : i1 < us.length := by omega
 have e6 : (vs.length : Int) + 2 = l2 := by omega
 have e7 : ¬ vs.length = 0 := fun h => hne (List.eq_nil_of_length_eq_zero h)
 have r1 := fun f => zoo f qs 0
 have r2 := zom qs 0
 have r3 := zon qs 0
 have r1' := fun f => zoo f (qs ++ [q]) 0
 have r2' := zom (qs ++ [q]) 0
 have r3' := zon (qs ++ [q]) 0
 rw [← hi1] at c2
 rw [← hi2]
 have hd : digits 64 53 = [0, 0, 2] := rfl
 have hs : sameCells [0, 0, 2] [uint8 q.k, int64 q.n, strO q.s] [uint8 q.k, int64 q.n, strO q.s] = some true := (key_eq q q).trans (by rw [decide_eq_true rfl])
 clear hv hx hk hi hf
 generalize seenFrom 0 (qs ++ [q]) = S2 at *
 generalize seenFrom 0 qs = S at *
 generalize tVal.row (vs ++ [v, x]) = V2 at *
 generalize tVal.row vs = V at *
 generalize tVal.row us = R at *
 generalize us.length = n at *
 generalize vs.length = l at *
 refine step_3 ?_
 simp -implicitDefEqProofs [-sameCells, hd, hs, x598L1, f1, c1, c2, e2, e2', e3, e4, e5, e5', e6, e7, hK, hS, r1, r2, r3, r1', r2', r3', exAppendX, exAppend, elems, hr, hrow, ← hl2, hcut, hfit]
end
end Go.EX


set_option linter.unusedVariables false
set_option linter.unusedSimpArgs false
namespace Go.EX
section
variable {code : Nat → Option XFun} {ext : Calls'}
theorem zlq {W B : List Nat} {e n : Nat} (s : List Key × List Val) (q : Key) (v x : Val) (h : MadeOk W B e n s) : (putM s q v x).2 ≠ [] := by
 cases hf : findQ s.1 q with
 | some j =>
  rw [zls hf]
  have hj := (List.getElem?_eq_some_iff.1 (ze6 hf).1).1
  have := h.keys.1
  intro hh
  have := congrArg List.length hh
  have h2 : s.2.length = 0 := by simpa using this
  omega
 | none => rw [zlr hf]; simp
theorem zjg (c : RowCode code) {W B : List Nat} {e i : Nat} {ts : List Tri} {t : Tri} (hi : HI W B e) (hts : ∀ t ∈ ts, TriOk W B e t) (hl : ts.length ≤ 60) (ht : ts[i]? = some t) :
  ∃ s', den code ext x598L1 (nmSt W B e (flatT ts) (madeT (ts.take i)) (2 * i)) = some (.normal, s') ∧ s'.tidy [0, 1, 4, 6, 7, 8] = nmSt W B e (flatT ts) (madeT (ts.take (i + 1))) (2 * (i + 1)) := by
 have hil := (List.getElem?_eq_some_iff.1 ht).1
 have hlen := zfl ts
 obtain ⟨hv, hx⟩ := zfk ts i t ht
 have htk := (hts t (List.mem_of_getElem? ht)).key
 have hm := zif hts i (by omega)
 rw [zih ht, show 2 * (i + 1) = 2 * i + 2 by omega]
 by_cases h0 : (madeT (ts.take i)).2 = []
 ·have h1 : madeT (ts.take i) = ([], []) := by
   have h2 := hm.keys.1
   rw [h0] at h2
   have h3 : (madeT (ts.take i)).1 = [] := List.eq_nil_of_length_eq_zero (by simp at h2; omega)
   exact Prod.ext h3 h0
  rw [h1]
  exact zjd c hi htk (by omega) (by omega) hv hx
 ·have hle := hm.len
  cases hf : findQ (madeT (ts.take i)).1 t.1 with
  | some j => exact zje c hi htk (by omega) (by omega) hv hx h0 hm.keys (by omega) hf
  | none => exact nm_new c hi htk (by omega) (by omega) hv hx h0 hm.keys (by omega) hf
theorem zjf (c : RowCode code) {W B : List Nat} {e : Nat} {ts : List Tri} (hi : HI W B e) (hts : ∀ t ∈ ts, TriOk W B e t) (hl : ts.length ≤ 60) (hne : ts ≠ []) : ∀ (m : Nat) (st : St), (∃ i, m + i = ts.length ∧ st.tidy [0, 1, 4, 6, 7, 8] = nmSt W B e (flatT ts) (madeT (ts.take i)) (2 * i)) →
  ∃ x s', den code ext (.loop [0, 1, 4, 6, 7, 8] x598L1) st = some (x, s') ∧ x ≠ .normal ∧ (x = .exit 1 ∧ s' = ⟨4, nmEnv (flatT ts).length (.osl 5 0 2 (madeT ts).2.length none) 6 (flatT ts).length ++ [(37, avb false)], nmMem W B e (tVal.row (flatT ts)) [.flat (tVal.row (madeT ts).2) false, .map (seenQ (madeT ts).1)]⟩) := by
 refine zic _ _ ?_
 rintro m st ⟨i, hm, hst⟩
 rw [hst]
 have hlen := zfl ts
 by_cases hil : i < ts.length
 ·obtain ⟨s', h1, h2⟩ := zjg (ext := ext) c hi hts hl (List.getElem?_eq_getElem hil)
  exact ⟨.normal, s', h1, .inl ⟨rfl, m - 1, by omega, i + 1, by omega, h2⟩⟩
 ·have hie : i = ts.length := by omega
  subst hie
  rw [List.take_length]
  have h0 : (madeT ts).2 ≠ [] := by
   obtain ⟨us, t, rfl⟩ : ∃ us t, ts = us ++ [t] := ⟨ts.dropLast, ts.getLast hne, (List.dropLast_concat_getLast hne).symm⟩
   rw [zig]
   have h2 := zif (ts := us) (W := W) (B := B) (e := e) (fun t ht => hts t (by simp [ht])) us.length (Nat.le_refl _)
   rw [List.take_length] at h2
   exact zlq _ _ _ _ h2
  have e0 : nmSt W B e (flatT ts) (madeT ts) (2 * ts.length) = ⟨4, nmEnv (flatT ts).length (.osl 5 0 2 (madeT ts).2.length none) 6 (flatT ts).length, nmMem W B e (tVal.row (flatT ts)) [.flat (tVal.row (madeT ts).2) false, .map (seenQ (madeT ts).1)]⟩ := by
   unfold nmSt
   rw [if_neg h0, hlen]
  rw [e0]
  refine ⟨.exit 1, _, ?_, .inr ⟨by simp, rfl, rfl⟩⟩
  have r1 := fun f => zoo f (madeT ts).1 0
  have r2 := zom (madeT ts).1 0
  have r3 := zon (madeT ts).1 0
  unfold seenQ
  generalize seenFrom 0 (madeT ts).1 = S at *
  generalize tVal.row (flatT ts) = R at *
  generalize tVal.row (madeT ts).2 = V at *
  generalize (flatT ts).length = n at *
  simp -implicitDefEqProofs [x598L1, r1, r2, r3]
set_option maxHeartbeats 1000000 in
theorem zaf (c : RowCode code) {W B : List Nat} {e : Nat} {ts : List Tri} {cap : Option Nat} (hcap : cap = none) (hi : HI W B e) (hts : ∀ t ∈ ts, TriOk W B e t) (hl : ts.length ≤ 60) (hne : ts ≠ []) (hn : 4 + 4 * ts.length + e < W.length) :
  ∃ W' B', Laid3 W B e 5 (2 * ts.length) (madeT ts).2 W' B' (e + 3 + 4 * ts.length + 1) ∧ callW code ext 598 [.optr 0 0, .osl 1 0 2 (2 * ts.length) cap] (kMem W B e (.flat (tVal.row (flatT ts)) false)) = some (.tup [valV 5 e, int64 0], kMem W' B' (e + 3 + 4 * ts.length + 1) (.flat (tVal.row (flatT ts)) false)) := by
 subst hcap
 have hlen := zfl ts
 have hm := zif hts ts.length (Nat.le_refl _)
 rw [List.take_length] at hm
 have hml := hm.len
 have hpos : 0 < ts.length := List.length_pos_iff.2 hne
 obtain ⟨x, s', f1, _, rfl, rfl⟩ := zjf (code := code) (ext := ext) c hi hts hl hne ts.length ⟨4, [(0, .optr 0 0), (1, .osl 1 0 2 (flatT ts).length none), (4, .optr 4 0), (6, nilS), (7, .omap 5), (8, int64 0)], kMem W B e (.flat (tVal.row (flatT ts)) false) ++ [.rich [uint8 0, int64 0], .map []]⟩ ⟨0, by omega, by
  have e0 : nmSt W B e (flatT ts) (madeT (ts.take 0)) (2 * 0) = ⟨4, nmEnv (flatT ts).length nilS 5 0, nmMem W B e (tVal.row (flatT ts)) [.map []]⟩ := rfl
  rw [e0]
  generalize tVal.row (flatT ts) = R at *
  generalize (flatT ts).length = n at *
  simp -implicitDefEqProofs []⟩
 obtain ⟨room, hroom⟩ : ∃ r, r = 2 * ts.length := ⟨_, rfl⟩
 obtain ⟨W', B', g1, f2⟩ := znm (code := code) (ext := ext) (cap := none) c (.inr rfl) hi (room := room) (vs := (madeT ts).2) (by omega) (by omega) hm.ok (by omega)
 rw [← hroom, show e + 3 + 4 * ts.length + 1 = e + 3 + 2 * room + 1 by omega]
 refine ⟨W', B', g1, ?_⟩
 have f3 := zjr (ext := ext) c.toTextCode W B e hi.pos
 have f4 := za4 (code := code) (ext := ext) (cap := none) c hi (vs := flatT ts) (by omega) (fun v hv => by
  obtain ⟨t, ht, hv⟩ := List.mem_flatMap.1 hv
  simp only [List.mem_cons, List.not_mem_nil, or_false] at hv
  rcases hv with rfl | rfl
  ·exact (hts t ht).h1
  ·exact (hts t ht).h2)
 have l1 := g1.sz
 have l2 := g1.szB
 rw [hlen, ← hroom] at f1 f4
 have e1 : ¬ (room : Int).tmod 2 = 1 := by rw [Int.tmod_eq_emod_of_nonneg (by omega)]; omega
 have e2 : ¬ (131072 : Int) < room := by omega
 have e2' : ¬ 131072 < room := by omega
 have r1 := fun f => zoo f (madeT ts).1 0
 have r2 := zom (madeT ts).1 0
 have r3 := zon (madeT ts).1 0
 generalize e + 3 + 2 * room + 1 = e' at *
 simp only [kMem, l1, l2, Int.cast_ofNat_Int] at f2 f4
 simp only [hMem] at f3
 simp only [kMem, List.cons_append, List.nil_append, seenQ] at f1
 generalize seenFrom 0 (madeT ts).1 = S at *
 generalize tVal.row (flatT ts) = R at *
 generalize tVal.row (madeT ts).2 = V at *
 generalize (madeT ts).2.length = l at *
 rw [zb5 code ext c.c598]
 simp -implicitDefEqProofs [x598, f1, f2, f3, f4, e1, e2, e2', r1, r2, r3, l1, l2, exPeek]
theorem zae (c : RowCode code) {W B : List Nat} {e : Nat} (hi : HI W B e) (hn : 2 + e < W.length) :
  ∃ W' B', Laid3 W B e 5 0 [] W' B' (e + 3) ∧ callW code ext 598 [.optr 0 0, nilS] (hMem W B e) = some (.tup [valV 5 e, int64 0], hMem W' B' (e + 3)) := by
 obtain ⟨W', B', g1, f1⟩ := znn (code := code) (ext := ext) c (.inr rfl) hi hn
 refine ⟨W', B', g1, ?_⟩
 have hl : ∀ M : Mem, M = hMem W B e ++ [.rich [uint8 0, int64 0], .map []] → den code ext (.loop [0, 1, 4, 6, 7, 8] x598L1) ⟨3, [(0, .optr 0 0), (1, nilS), (4, .optr 3 0), (6, nilS), (7, .omap 4), (8, int64 0)], M⟩ = some (.exit 1, ⟨3, [(0, .optr 0 0), (1, nilS), (4, .optr 3 0), (6, nilS), (7, .omap 4), (8, int64 0), (37, avb false)], hMem W B e ++ [.rich [uint8 0, int64 0], .map []]⟩) := by
  rintro M rfl
  rw [zc5]
  simp -implicitDefEqProofs [x598L1]
 have f2 := hl _ rfl
 have f3 := zjr (ext := ext) c.toTextCode W B e hi.pos
 have f4 := all_nil (code := code) (ext := ext) c (W := W) (B := B) (e := e)
 have l1 := g1.sz
 have l2 := g1.szB
 generalize e + 3 = e' at *
 simp only [hMem, l1, l2, Int.natCast_zero, Int.cast_ofNat_Int] at f1 f2 f3 f4
 simp only [hMem, List.cons_append, List.nil_append] at f2
 rw [zb5 code ext c.c598]
 simp -implicitDefEqProofs [x598, f1, f2, f3, f4, l1, l2]
end
end Go.EX


set_option linter.unusedVariables false
set_option linter.unusedSimpArgs false
namespace Go.EX
def nm (tx : Bool) (n : Int) : Int := if tx then IntKind.wrap .u8 n else n.tmod 64
def kq (tx : Bool) (z : Int) : Key := if tx then ⟨3, 0, [61, UInt8.ofNat z.toNat, 107]⟩ else ⟨2, z, []⟩
def NmOk (tx : Bool) (z : Int) : Prop := if tx then 0 ≤ z ∧ z < 256 else -64 < z ∧ z < 64
theorem nm_ok (tx : Bool) (n : Int) : NmOk tx (nm tx n) := by
 unfold NmOk nm
 cases tx
 ·simp only [Bool.false_eq_true, if_false]
  have h1 := Int.tmod_lt_of_pos n (show (0 : Int) < 64 by decide)
  have h2 := Int.tmod_lt_of_pos (-n) (show (0 : Int) < 64 by decide)
  rw [Int.neg_tmod] at h2
  omega
 ·simp only [if_true]
  simp only [IntKind.wrap, IntKind.signed, IntKind.bits]
  simp
  omega
theorem kq_inj {tx : Bool} {y z : Int} (hy : NmOk tx y) (hz : NmOk tx z) (h : kq tx y = kq tx z) : y = z := by
 unfold NmOk at hy hz
 unfold kq at h
 cases tx
 ·simpa using h
 ·simp only [if_true] at hy hz h
  have h2 : UInt8.ofNat y.toNat = UInt8.ofNat z.toNat := by
   have := congrArg Key.s h
   simpa using this
  have h3 := congrArg UInt8.toNat h2
  have a1 : y.toNat < 256 := by omega
  have a2 : z.toNat < 256 := by omega
  rw [UInt8.toNat_ofNat_of_lt' a1, UInt8.toNat_ofNat_of_lt' a2] at h3
  omega
structure Keyed (W B : List Nat) (e : Nat) (v : Val) (q : Key) (W' B' : List Nat) (e' : Nat) : Prop where
 hi : HI W' B' e'
 key : KeyAt W' B' e' v q
 held : Held W' B' e' v
 ok : v.ok3
 sz : W'.length = W.length
 szB : B'.length = B.length
 le : e ≤ e'
 le3 : e' ≤ e + 3
 old : ∀ i, i < e → W'[i]? = W[i]?
 bits : ∀ i, i < e → bitAt B' i = bitAt B i
section
variable {code : Nat → Option XFun} {ext : Calls'}
theorem zjj (c : TextCode code) (n : Int) : callW code ext 437 [int64 n] [] = some (valV 2 n, []) := by
 rw [zb5 code ext c.c437]
 simp -implicitDefEqProofs [x437]
abbrev kyMem (tx : Bool) (W B : List Nat) (e : Nat) : Mem := [.rich [avb tx], .rich [.optr 2 0], .rich [.osl 3 0 1 W.length (some W.length), .osl 4 0 1 B.length (some B.length), int64 e], .flat (urow W) false, .flat (urow B) false]
theorem zhi (c : RowCode code) (h429 : code 429 = some x429) {tx : Bool} {W B : List Nat} {e : Nat} (hi : HI W B e) (n : Int) (hn : 3 + e < W.length) :
  ∃ v W' B' e', Keyed W B e v (kq tx (nm tx n)) W' B' e' ∧ callW code ext 429 [int64 n, .optr 0 0, .optr 1 0] (kyMem tx W B e) = some (valA v, kyMem tx W' B' e') := by
 cases tx
 ·refine ⟨⟨2, n.tmod 64⟩, W, B, e, ⟨hi, .inr ⟨by simp, by simp, rfl⟩, .inl rfl, ?_, rfl, rfl, Nat.le_refl _, by omega, fun _ _ => rfl, fun _ _ => rfl⟩, ?_⟩
  ·have := nm_ok false n
   unfold NmOk nm at this
   simp only [Bool.false_eq_true, if_false] at this
   exact ⟨by simp, by simp, by simp only; omega, by simp only; omega⟩
  ·have f1 := zjj (ext := ext) c.toTextCode (n.tmod 64)
   have e1 : IntKind.wrap .i64 (n.tmod 64) = n.tmod 64 := by
    have := nm_ok false n
    unfold NmOk nm at this
    simp only [Bool.false_eq_true, if_false] at this
    rw [wrapI64 (by omega) (by omega)]
   rw [zb5 code ext h429]
   simp -implicitDefEqProofs [-intBin, show ∀ x : Int, intBin .rem .i64 x 64 = some (.int .i64 (x.tmod 64)) from fun x => rfl, x429, f1]
 ·have hz := nm_ok true n
  unfold NmOk at hz
  simp only [if_true] at hz
  have hk : kq true (nm true n) = ⟨3, 0, 61 :: [UInt8.ofNat (nm true n).toNat, 107]⟩ := rfl
  have ht : tN [UInt8.ofNat (nm true n).toNat, 107] = 1 := by simp [tN]
  obtain ⟨W', B', g1, f1⟩ := zag (code := code) (ext := ext) c.toTextCode hi [UInt8.ofNat (nm true n).toNat, 107] (by simp) (by rw [ht]; omega)
  have g2 := g1.text
  have g3 := g1.hi
  rw [ht] at f1 g2 g3
  have hbd := g3.bd
  have htop := g3.top
  have hb : bsO [UInt8.ofNat (nm true n).toNat, 107] = pushAll [nm true n, 107] := rfl
  refine ⟨⟨3, e⟩, W', B', e + 2 + 1, ⟨g3, .inl ⟨rfl, e, _, rfl, g2, by simp, hk⟩, .inr ⟨rfl, e, _, rfl, g2⟩, ⟨by simp, by simp, by simp only; omega, by simp only; omega⟩, g1.sz, ?_, by omega, by omega, g1.old, g1.bits⟩, ?_⟩
  ·rw [g3.bl, hi.bl, g1.sz]
  ·have l1 := g1.sz
   have l2 : B'.length = B.length := by rw [g3.bl, hi.bl, g1.sz]
   have hnm : IntKind.wrap .u8 n = nm true n := rfl
   simp only [strO, hb, hMem, l1, l2] at f1
   generalize e + 2 + 1 = e' at *
   generalize nm true n = z at *
   rw [zb5 code ext h429]
   simp -implicitDefEqProofs [x429, f1, hnm, strOfV, elems, u8s, l1, l2]
theorem zi8 (h430 : code 430 = some x430) (tx : Bool) (n : Int) : callW code ext 430 [int64 n, .optr 0 0] [.rich [avb tx]] = some (int64 (nm tx n), [.rich [avb tx]]) := by
 have e1 : IntKind.wrap .i64 (IntKind.wrap .u8 n) = IntKind.wrap .u8 n := by
  have hz := nm_ok true n
  unfold NmOk nm at hz
  simp only [if_true] at hz
  rw [wrapI64 (by omega) (by omega)]
 rw [zb5 code ext h430]
 cases tx
 ·simp -implicitDefEqProofs [-intBin, show ∀ x : Int, intBin .rem .i64 x 64 = some (.int .i64 (x.tmod 64)) from fun x => rfl, x430, nm]
 ·simp -implicitDefEqProofs [x430, nm, e1]
end
end Go.EX

