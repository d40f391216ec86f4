import Derived.Test.YtmpldniokcfmbaaDoorK12
import Derived.Test.YtmpldniokcfmbaaDoorK10
import Derived.Test.YtmpldniokcfmbaaDoorK9
import Derived.KernelRfl
set_option linter.unusedVariables false
set_option linter.unusedSimpArgs false
namespace Go.EX
def Nums (vs : List Val) : Prop := ∀ v ∈ vs, v.k = 2
section
variable {code : Nat → Option XFun} {ext : Calls'}
theorem zhk {W B : List Nat} {e p room : Nat} {vs : List Val} (h : ItemsAt W B e p room vs) (hv : Nums vs) {ws : List Nat} (g : At W B e p 8 ws) {j : Nat} (hj : j < room) :
  ∃ k n : Nat, ws[2 * j]? = some k ∧ ws[2 * j + 1]? = some n ∧ (k = 2 ∨ k = 0) ∧ n < 18446744073709551616 := by
 obtain ⟨us, h1, h2, h3, h4⟩ := h.vals
 have hl : ws.length = us.length := by
  have a1 := g.head
  rw [h1.head] at a1
  have := Option.some.inj a1
  omega
 have hw : ∀ i, i < us.length → ws[i]? = us[i]? := fun i hi => by
  rw [← g.word i (by omega), h1.word i hi]
 by_cases hjv : j < vs.length
 ·obtain ⟨b1, b2⟩ := h3 j vs[j] (List.getElem?_eq_getElem hjv)
  refine ⟨_, _, (hw _ (by omega)).trans b1, (hw _ (by omega)).trans b2, .inl ?_, toW_lt _⟩
  rw [hv _ (List.getElem_mem hjv)]; rfl
 ·exact ⟨0, 0, (hw _ (by omega)).trans (h4 _ (by omega) (by omega)), (hw _ (by omega)).trans (h4 _ (by omega) (by omega)), .inr rfl, by decide⟩
abbrev hlEnv (n i : Nat) : Env := [(0, .yld 0), (1, .optr 1 0), (6, int64 n), (8, .clo 295 [.optr 1 0, .optr 2 0]), (13, int64 i)]
theorem stepOf {p : Option (XExit × St)} {k : List Nat} {X : St} (h : p.map (fun q => (q.1, q.2.tidy k)) = some (.normal, X)) : ∃ s', p = some (.normal, s') ∧ s'.tidy k = X := by
 cases p with
 | none => cases h
 | some q =>
  obtain ⟨e, s'⟩ := q
  simp only [Option.map_some, Option.some.injEq, Prod.mk.injEq] at h
  obtain ⟨rfl, h⟩ := h
  exact ⟨s', rfl, h⟩
theorem zm4 (c : GcCode code) {W B : List Nat} {e p room : Nat} {vs : List Val} (hi : HI W B e) (h : ItemsAt W B e p room vs) (hv : Nums vs) {ws : List Nat} (g : At W B e p 8 ws) (j : Nat) (hj : j < room) (n : Nat) (hn : n = 2 * room) (hr : room ≤ 1048576) (out : AV) (t : Mem) (l : List Nat) (i i' : Nat) (hi0 : i = 2 * j) (hi' : i' = 2 * j + 2) (hs : RowShape 10 l out t) :
  ∃ s', den code ext x294L1 ⟨10 + t.length, hlEnv n i, rhMem W B e p out l t⟩ = some (.normal, s') ∧ s'.tidy [0, 1, 6, 8, 13] = ⟨10 + t.length, hlEnv n i', rhMem W B e p out l t⟩ := by
 obtain ⟨k, x, k1, k2, k3, k4⟩ := zhk h hv g hj
 rw [← hi0] at k1 k2
 have f1 := zgx (ext := ext) c.toRowCode c.g295 hi g k1
 have f2 := zgx (ext := ext) c.toRowCode c.g295 hi g k2
 obtain ⟨i1, hi1⟩ : ∃ i1, i1 = i + 1 := ⟨_, rfl⟩
 rw [← hi1] at f2
 have e1 : IntKind.wrap .i64 ((i : Int) + 1) = (i1 : Int) := by rw [wrapI64 (by omega) (by omega)]; omega
 have e2 : IntKind.wrap .i64 ((i : Int) + 2) = (i' : Int) := by rw [wrapI64 (by omega) (by omega)]; omega
 have e3 : (i1 : Int) < n := by omega
 have e3' : i1 < n := by omega
 have e4 : min (k : Int) 255 = (k : Int) := by omega
 have e4' : ¬ (255 : Int) < k := by omega
 have e4'' : ¬ 255 < k := by omega
 have e4''' : (k : Int) ≤ 255 := by omega
 have e5 : IntKind.wrap .u8 (k : Int) = (k : Int) := wrapU8 (by omega) (by omega)
 obtain ⟨y, hy⟩ : ∃ y, IntKind.wrap .i64 (x : Int) = y := ⟨_, rfl⟩
 have f3 := zgd (ext := ext) c.toRowCode c.g296 hi (k : Int) y (by omega)
 have p2 := zkv
 have p3 := zkw
 refine stepOf ?_
 cases hs with
 | none => simp -implicitDefEqProofs [-intBin, b_add, b_lss, x294L1, hy, f1, f2, f3, e1, e2, e3, e3', e4, e4', e4'', e4''', e5]
 | one z => simp -implicitDefEqProofs [-intBin, b_add, b_lss, x294L1, hy, f1, f2, f3, e1, e2, e3, e3', e4, e4', e4'', e4''', e5]
 | more l hl => simp -implicitDefEqProofs [-intBin, b_add, b_lss, x294L1, hy, f1, f2, f3, e1, e2, e3, e3', e4, e4', e4'', e4''', e5, p2, p3]
end
end Go.EX


set_option linter.unusedVariables false
set_option linter.unusedSimpArgs false
namespace Go.EX
section
variable {code : Nat → Option XFun} {ext : Calls'}
theorem zm2 (c : GcCode code) {W B : List Nat} {e p room : Nat} {vs : List Val} (hi : HI W B e) (h : ItemsAt W B e p room vs) (hv : Nums vs) {ws : List Nat} (g : At W B e p 8 ws) (n : Nat) (hn : n = 2 * room) (hr : room ≤ 1048576) (out : AV) (t : Mem) (l : List Nat) (hs : RowShape 10 l out t) :
  ∀ (k : Nat) (st : St), (∃ j, k + j = room ∧ st.tidy [0, 1, 6, 8, 13] = ⟨10 + t.length, hlEnv n (2 * j), rhMem W B e p out l t⟩) →
   ∃ x s', den code ext (.loop [0, 1, 6, 8, 13] x294L1) st = some (x, s') ∧ x ≠ .normal ∧ (x = .exit 1 ∧ s' = ⟨10 + t.length, hlEnv n n ++ [(72, avb false)], rhMem W B e p out l t⟩) := by
 refine ziu _ _ ?_
 rintro k st ⟨j, hk, hst⟩
 rw [hst]
 by_cases hj : j < room
 ·obtain ⟨s', g1, g2⟩ := zm4 (ext := ext) c hi h hv g j hj n hn hr out t l (2 * j) (2 * j + 2) rfl rfl hs
  exact ⟨.normal, s', g1, .inl ⟨rfl, k - 1, by omega, j + 1, by omega, by rw [g2, Nat.mul_succ]⟩⟩
 ·have hjn : 2 * j = n := by omega
  rw [hjn]
  obtain ⟨n1, hn1⟩ : ∃ n1, n1 = n + 1 := ⟨_, rfl⟩
  have e1 : IntKind.wrap .i64 ((n : Int) + 1) = (n1 : Int) := by rw [wrapI64 (by omega) (by omega)]; omega
  have e2 : ¬ (n1 : Int) < n := by omega
  have e2' : ¬ n1 < n := by omega
  refine ⟨.exit 1, ⟨10 + t.length, hlEnv n n ++ [(72, avb false)], rhMem W B e p out l t⟩, ?_, .inr ⟨by simp, rfl, rfl⟩⟩
  simp -implicitDefEqProofs [-intBin, b_add, b_lss, x294L1, e1, e2, e2']
theorem rh_row (c : GcCode code) {W B : List Nat} {e p room : Nat} {vs : List Val} (hi : HI W B e) (h : ItemsAt W B e p room vs) (hv : Nums vs) (m : Nat) :
  callW code ext 294 [.yld 0, .optr 1 0, .optr 2 0] (rhMem W B e p (.osl 10 0 1 2 none) [m, p] [.rich (pcells [m, p])]) = some (.tup [], rhMem W B e p (.osl 10 0 1 2 none) [m, p] [.rich (pcells [m, p])]) := by
 obtain ⟨ws, g, hwl, _⟩ := h.vals
 have htop := g.top; have ht2 := hi.top; have ht3 := hi.bd
 have f1 := zh0 (ext := ext) c.toTextCode (g.obj hi) g.head
 rw [g.kind] at f1
 have f2 := zo2 (ext := ext) c.small c.c175 (g.obj hi)
 rw [hwl] at f2
 obtain ⟨n, hn⟩ : ∃ n, n = 2 * room := ⟨_, rfl⟩
 rw [← hn] at f2
 obtain ⟨x, s', h1, _, rfl, rfl⟩ := zm2 (ext := ext) c hi h hv g n hn (by omega) (.osl 10 0 1 2 none) [.rich (pcells [m, p])] [m, p] (.more [m, p] (by simp)) room ⟨11, hlEnv n 0, rhMem W B e p (.osl 10 0 1 2 none) [m, p] [.rich (pcells [m, p])]⟩ ⟨0, by omega, by
  have p2 := zkv
  have p3 := zkw
  simp -implicitDefEqProofs [p2, p3]⟩
 have p2 := zkv
 have p3 := zkw
 simp only [hlEnv, rhMem, Int.natCast_zero, List.cons_append, List.nil_append, List.length_cons, List.length_nil] at h1
 rw [zbw code ext c.g294]
 simp -implicitDefEqProofs [x294, f1, f2, h1, p2, p3]
end
end Go.EX


set_option linter.unusedVariables false
set_option linter.unusedSimpArgs false
namespace Go.EX
structure SortOk (code : Nat → Option XFun) (ext : Calls') : Prop where
 s1 : ∀ m : Nat, callW code ext 768 [.osl 0 0 1 1 none] [.flat [i64v m] false] = some (.tup [], [.flat [i64v m] false])
 s2 : ∀ m p : Nat, m < p → callW code ext 768 [.osl 0 0 1 2 none] [.rich (pcells [m, p])] = some (.tup [], [.rich (pcells [m, p])])
section
variable {code : Nat → Option XFun} {ext : Calls'}
theorem zf9 (c : GcCode code) (W B : List Nat) (e a : Nat) :
  callW code ext 293 [.optr 0 0, int64 a] (hMem W B e) = some (.clo 294 [.optr 3 0, .optr 4 0], hMem W B e ++ [.rich [.optr 0 0], .rich [int64 a]]) := by
 rw [zbw code ext c.g293]
 simp -implicitDefEqProofs [x293]
theorem zl5 (c : GcCode code) (s : SortOk code ext) {W B : List Nat} {e m : Nat} (hi : HI W B e) (h : At W B e m 4 [0, 0]) :
  callW code ext 300 [.optr 0 0, .osl 1 0 2 1 (some 1)] (kMem W B e (.flat [.val (.int .u8 4), .val (.int .i64 m)] false)) = some (.osl 4 0 1 1 none, kMem W B e (.flat [.val (.int .u8 4), .val (.int .i64 m)] false) ++ [.flat [i64v m] false]) := by
 have f1 := radd0 (ext := ext) c.g301 m
 have f2 := zf9 (ext := ext) c W B e m
 have f3 := zm3 (ext := ext) c hi h
 have f4 := s.s1 m
 have w1 : IntKind.wrap .i64 (1 : Int) = 1 := rfl
 rw [show seenL [] = [] from rfl] at f1
 simp only [rhMem, List.cons_append, List.nil_append] at f3
 have hst : x300L2.still = true := rfl
 rw [zbw code ext c.g300]
 simp -implicitDefEqProofs [x300]
 rw [zc3]
 simp -implicitDefEqProofs [x300L1, f1, w1]
 rw [zc3]
 simp -implicitDefEqProofs [x300L1]
 rw [zc3]
 simp -implicitDefEqProofs [x300L3, f2, f3, w1, zc5, exRange, XCode.still, hst]
 rw [zc3]
 simp -implicitDefEqProofs [x300L3, f4]
theorem zl4 (c : GcCode code) (s : SortOk code ext) {W B : List Nat} {e m p room n : Nat} {vs : List Val} (hi : HI W B e) (h : At W B e m 4 [n, p + 1]) (g : ItemsAt W B e p room vs) (hv : Nums vs) (hmp : m < p) :
  callW code ext 300 [.optr 0 0, .osl 1 0 2 1 (some 1)] (kMem W B e (.flat [.val (.int .u8 4), .val (.int .i64 m)] false)) = some (.osl 4 0 1 2 none, kMem W B e (.flat [.val (.int .u8 4), .val (.int .i64 m)] false) ++ [.rich (pcells [m, p])]) := by
 obtain ⟨ws, gp, _⟩ := g.vals
 have f1 := radd0 (ext := ext) c.g301 m
 have f2 := zf9 (ext := ext) c W B e m
 have f3 := zm1 (ext := ext) c hi h gp
 have f5 := zf9 (ext := ext) c W B e p
 have f6 := rh_row (ext := ext) c hi g hv m
 have f4 := s.s2 m p hmp
 have w1 : IntKind.wrap .i64 (1 : Int) = 1 := rfl
 have w2 : IntKind.wrap .i64 (2 : Int) = 2 := rfl
 have hst : x300L2.still = true := rfl
 have p2 := zkv
 have p3 := zkw
 have g1 : (pcells [m, p])[1]? = some (int64 p) := rfl
 rw [show seenL [] = [] from rfl] at f1
 simp only [rhMem, List.cons_append, List.nil_append] at f3 f6
 rw [zbw code ext c.g300]
 simp -implicitDefEqProofs [x300]
 rw [zc3]
 simp -implicitDefEqProofs [x300L1, f1, w1]
 rw [zc3]
 simp -implicitDefEqProofs [x300L1]
 rw [zc3]
 simp -implicitDefEqProofs [x300L3, f2, f3, w1, zc5, exRange, XCode.still, hst, p2, p3]
 rw [zc3]
 simp -implicitDefEqProofs [x300L3, f5, f6, g1, w2, zc5, exRange, XCode.still, hst, p2, p3]
 rw [zc3]
 simp -implicitDefEqProofs [x300L3, f4, p2, p3]
end
end Go.EX


set_option linter.unusedVariables false
set_option linter.unusedSimpArgs false
namespace Go.EX
section
variable {code : Nat → Option XFun} {ext : Calls'}
abbrev rootO (m : Nat) : AObj := .flat [.val (.int .u8 4), .val (.int .i64 m)] false
theorem zgh (c : GcCode code) {W B : List Nat} {e m : Nat} {ws : List Nat} (hi : HI W B e) (h : At W B e m 4 ws) :
  callW code ext 298 [.optr 0 0, .osl 1 0 2 1 (some 1)] (kMem W B e (rootO m)) = some (avb true, kMem W B e (rootO m)) := by
 have f1 : callW code ext 299 [valV 4 m, .optr 0 0] (hcell W B e) = some (avb false, hcell W B e) := zgg (ext := ext) c.toRowCode c.g296 c.g299 hi (k := 4) h (by decide)
 have w1 : IntKind.wrap .i64 (1 : Int) = 1 := rfl
 have f2 : callW code ext 759 [.osl 0 0 2 1 (some 1), .clo 299 [.optr 1 0]] [rootO m, .rich [.optr 2 0], .rich [.osl 3 0 1 W.length (some W.length), .osl 4 0 1 B.length (some B.length), int64 e], .flat (urow W) false, .flat (urow B) false] = some (int64 (-1), [rootO m, .rich [.optr 2 0], .rich [.osl 3 0 1 W.length (some W.length), .osl 4 0 1 B.length (some B.length), int64 e], .flat (urow W) false, .flat (urow B) false]) := by
  rw [zbw code ext c.c759]
  simp -implicitDefEqProofs [x759]
  rw [zc3]
  simp -implicitDefEqProofs [x759L1, f1, w1, exPeek]
  rw [zc3]
  simp -implicitDefEqProofs [x759L1]
 have f3 : callW code ext 749 [.osl 0 0 2 1 (some 1), .clo 299 [.optr 1 0]] [rootO m, .rich [.optr 2 0], .rich [.osl 3 0 1 W.length (some W.length), .osl 4 0 1 B.length (some B.length), int64 e], .flat (urow W) false, .flat (urow B) false] = some (avb false, [rootO m, .rich [.optr 2 0], .rich [.osl 3 0 1 W.length (some W.length), .osl 4 0 1 B.length (some B.length), int64 e], .flat (urow W) false, .flat (urow B) false]) := by
  rw [zbw code ext c.c749]
  simp -implicitDefEqProofs [x749, f2]
 rw [zbw code ext c.g298]
 simp -implicitDefEqProofs [x298, f3, exPeek]
theorem zgf (c : GcCode code) {W B : List Nat} {e m : Nat} {ws : List Nat} (hi : HI W B e) (h : At W B e m 4 ws) :
  callW code ext 297 [.optr 0 0, .osl 1 0 2 1 (some 1)] (kMem W B e (rootO m)) = some (int64 0, kMem W B e (rootO m)) := by
 have f1 := zgh (ext := ext) c hi h
 have f2 := zrf (ext := ext) c.c177 W B e
 have hp := hi.pos
 have e1 : ¬ (W.length : Int) = 0 := by omega
 have e1' : ¬ W.length = 0 := by omega
 have e1'' : ¬ W = [] := fun h => e1' (by rw [h]; rfl)
 rw [zbw code ext c.g297]
 simp -implicitDefEqProofs [x297, f1, f2, e1, e1', e1'', exPeek]
theorem zak (c : GcCode code) (s : SortOk code ext) {W B : List Nat} {e m : Nat} (hi : HI W B e) (h : At W B e m 4 [0, 0]) :
  ∃ n, callW code ext 292 [.optr 0 0, .osl 1 0 2 1 (some 1)] (kMem W B e (rootO m)) = some (.tup [.osl 4 0 1 1 none, int64 n, int64 0], kMem W B e (rootO m) ++ [.flat [i64v m] false]) := by
 have f1 := zgf (ext := ext) c hi h
 have f2 := zl5 (ext := ext) c s hi h
 have f3 := zo2 (ext := ext) c.small c.c175 (h.obj hi)
 have w1 : IntKind.wrap .i64 (1 : Int) = 1 := rfl
 refine ⟨3, ?_⟩
 rw [zbw code ext c.g292]
 simp -implicitDefEqProofs [x292, f1, f2]
 rw [zc3]
 simp -implicitDefEqProofs [x292L1, f3, w1, exPeek, show IntKind.wrap .i64 (2 : Int) = 2 from rfl, show IntKind.wrap .i64 (3 : Int) = 3 from rfl]
 rw [zc3]
 simp -implicitDefEqProofs [x292L1]
theorem zaj (c : GcCode code) (s : SortOk code ext) {W B : List Nat} {e m p room n : Nat} {vs : List Val} (hi : HI W B e) (h : At W B e m 4 [n, p + 1]) (g : ItemsAt W B e p room vs) (hv : Nums vs) (hmp : m < p) :
  ∃ z, callW code ext 292 [.optr 0 0, .osl 1 0 2 1 (some 1)] (kMem W B e (rootO m)) = some (.tup [.osl 4 0 1 2 none, int64 z, int64 0], kMem W B e (rootO m) ++ [.rich (pcells [m, p])]) := by
 obtain ⟨ws, gp, hwl, _⟩ := g.vals
 have htop := gp.top; have ht2 := hi.top; have ht3 := hi.bd
 have f1 := zgf (ext := ext) c hi h
 have f2 := zl4 (ext := ext) c s hi h g hv hmp
 have f3 := zo2 (ext := ext) c.small c.c175 (h.obj hi)
 have f4 := zo2 (ext := ext) c.small c.c175 (gp.obj hi)
 have w1 : IntKind.wrap .i64 (1 : Int) = 1 := rfl
 have w2 : IntKind.wrap .i64 (2 : Int) = 2 := rfl
 have w3 : IntKind.wrap .i64 (3 : Int) = 3 := rfl
 have p2 := zkv
 have p3 := zkw
 have g0 : (pcells [m, p])[0]? = some (int64 m) := rfl
 have g1 : (pcells [m, p])[1]? = some (int64 p) := rfl
 obtain ⟨q, hq⟩ : ∃ q : Int, IntKind.wrap .i64 ((ws.length : Int) + 1) = q := ⟨_, rfl⟩
 obtain ⟨z, hz⟩ : ∃ z : Int, IntKind.wrap .i64 (3 + q) = z := ⟨_, rfl⟩
 refine ⟨z, ?_⟩
 rw [zbw code ext c.g292]
 simp -implicitDefEqProofs [x292, f1, f2, p2, p3]
 rw [zc3]
 simp -implicitDefEqProofs [x292L1, f3, w1, w2, w3, exPeek, g0, p2, p3]
 rw [zc3]
 simp -implicitDefEqProofs [-intBin, b_add, b_lss, x292L1, f4, w1, w2, w3, exPeek, g1, hq, hz, p2, p3]
 rw [zc3]
 simp -implicitDefEqProofs [x292L1, p2, p3]
end
end Go.EX


set_option linter.unusedVariables false
set_option linter.unusedSimpArgs false
namespace Go.EX
section
variable {code : Nat → Option XFun} {ext : Calls'}
structure PlainCode (code : Nat → Option XFun) : Prop extends GcCode code where
 p600 : code 600 = some x600
 p601 : code 601 = some x601
 p608 : code 608 = some x608
theorem zgu (c : RowCode code) {W B : List Nat} {e m : Nat} {ws : List Nat} (hi : HI W B e) (h : At W B e m 4 ws) :
  callW code ext 612 [.optr 0 0, valV 4 m] (hMem W B e) = some (avb true, hMem W B e) := by
 have f1 : callW code ext 613 [.optr 0 0, valV 4 m] (hMem W B e) = some (.tup [objV m 4, avb true], hMem W B e) := zbb (ext := ext) c.toTextCode hi h (by decide)
 rw [zbw code ext c.c612]
 simp -implicitDefEqProofs [x612, f1]
theorem zq2 (c : GcCode code) {W B : List Nat} {e m room : Nat} {vs : List Val} (hi : HI W B e) (h : LM W B e m 4 room vs) :
  callW code ext 285 [objV m 4] (hMem W B e) = some (gV 3 vs, hMem W B e ++ gM vs) := by
 have f1 := zkq (ext := ext) c.toRowCode hi h 4
 rw [zbw code ext c.g285]
 by_cases hn : vs = []
 ·subst hn
  have g2 : gV 3 [] = nilS := rfl
  have g3 : gM [] = [] := rfl
  simp only [g2, g3, List.append_nil] at f1 ⊢
  simp -implicitDefEqProofs [x285, f1, exLook]
 ·have g2 : gV 3 vs = .osl 3 0 2 vs.length none := by unfold gV; rw [if_neg hn]
  have g3 : gM vs = [.flat (tVal.row vs) false] := by unfold gM; rw [if_neg hn]
  simp only [g2, g3] at f1 ⊢
  generalize tVal.row vs = R at *
  simp -implicitDefEqProofs [x285, f1, exLook]
abbrev numMem (m : Nat) : Mem := [.rich [.omap 1], .map [(int64 m, int64 1)]]
theorem zjs (c : PlainCode code) (m : Nat) : callW code ext 601 [valV 4 m, .optr 0 0] (numMem m) = some (valV 4 1, numMem m) := by
 have k1 : ∀ (M : Mem) (v : AV), findK M 0 (int64 m) [(int64 m, v)] 0 = some (some 0) := fun _ _ => by simp [findK, keyEq]
 rw [zbw code ext c.p601]
 simp -implicitDefEqProofs [x601, k1]
theorem number_num (c : PlainCode code) (m : Nat) (n : Int) : callW code ext 601 [valV 2 n, .optr 0 0] (numMem m) = some (valV 2 n, numMem m) := by
 rw [zbw code ext c.p601]
 simp -implicitDefEqProofs [x601]
theorem zah (c : PlainCode code) (s : SortOk code ext) {W B : List Nat} {e m : Nat} (hi : HI W B e) (h : At W B e m 4 [0, 0]) :
  callW code ext 600 [.optr 0 0, valV 4 m] (hMem W B e) = some (.tup [.osl 3 0 5 1 none, valV 4 1, int64 0], hMem W B e ++ [.flat [.val (.int .u8 4), .val (.string .empty), .val (.slice none 0 0), .val (.int .i64 0), .val (.int .i64 0)] false]) := by
 have hlm : LM W B e m 4 0 [] := .inl ⟨rfl, rfl, h⟩
 have f1 := zj0 (ext := ext) c.toTextCode W B e hi.pos
 have f2 := zgu (ext := ext) c.toRowCode hi h
 obtain ⟨z, f3⟩ := zak (ext := ext) c.toGcCode s hi h
 have f4 : callW code ext 613 [.optr 0 0, valV 4 m] (hMem W B e) = some (.tup [objV m 4, avb true], hMem W B e) := zbb (ext := ext) c.toTextCode hi h (by decide)
 have f5 := zi8 (ext := ext) c.toRowCode hi hlm (by decide)
 have f6 := zq2 (ext := ext) c.toGcCode hi hlm
 have f7 := all_nil (code := code) (ext := ext) c.toRowCode (W := W) (B := B) (e := e)
 have f8 : callW code ext 171 [.optr 0 0, int64 m] (hMem W B e) = some (.tup [uint8 (4 : Int), int64 0], hMem W B e) := by
  have := zh0 (ext := ext) c.toTextCode (h.obj hi) h.head
  rwa [h.kind] at this
 have f9 := zm8 (ext := ext) c.toRowCode hi hlm 4
 have g2 : gV 3 [] = nilS := rfl
 have g3 : gM [] = [] := rfl
 simp only [g2, g3, List.append_nil] at f6
 have w1 : IntKind.wrap .i64 (1 : Int) = 1 := rfl
 rw [zbw code ext c.p600]
 have k0 : ∀ (M : Mem) (x : AV), findK M 0 x [] 0 = some none := fun _ _ => rfl
 have k1 : ∀ (M : Mem) (v : AV), findK M 0 (int64 m) [(int64 m, v)] 0 = some (some 0) := fun _ _ => by simp [findK, keyEq]
 have f10 := zjs (ext := ext) c m
 simp -implicitDefEqProofs [x600, f1, f2, f3, k0]
 rw [zc3]
 simp -implicitDefEqProofs [x600L2, f4, f5, f6, f7, w1, exPeek]
 rw [zc3]
 simp -implicitDefEqProofs [x600L1, w1]
 rw [zc3]
 simp -implicitDefEqProofs [x600L2, w1]
 rw [zc3]
 simp -implicitDefEqProofs [x600L3, f8, k1, w1, exPeek, exAppendX, exAppend, exAppendR, elemsR, elems]
 rw [zc3]
 simp -implicitDefEqProofs [x600L3, w1]
 rw [zc3]
 simp -implicitDefEqProofs [x600L5, f6, w1, exPeek, exAppendX, exAppend, exAppendR, elemsR, elems]
 rw [zc3]
 simp -implicitDefEqProofs [x600L4, f9, w1, exPeek, exAppendX, exAppend, exAppendR, elemsR, elems]
 rw [zc3]
 simp -implicitDefEqProofs [x600L5, f10, w1, exPeek]
end
end Go.EX


set_option linter.unusedVariables false
set_option linter.unusedSimpArgs false
namespace Go.EX
section
variable {code : Nat → Option XFun} {ext : Calls'}
theorem Nums.held {vs : List Val} (h : Nums vs) (W B : List Nat) (e : Nat) : ∀ v ∈ vs, Held W B e v := fun v hv => .inl (h v hv)
abbrev pa1Mem (W B : List Nat) (e m p : Nat) (R : List IV) : Mem :=
 [.rich [.osl 1 0 1 W.length (some W.length), .osl 2 0 1 B.length (some B.length), int64 e], .flat (urow W) false, .flat (urow B) false, .rich [uint8 4, int64 m], .rich [uint8 0, int64 0], .rich (pcells [m, p]), rootO m, .rich [.omap 9], .flat R false, .map [(int64 m, int64 0)]]
abbrev pa1Env (n i : Nat) : Env :=
 [(0, .optr 0 0), (3, .optr 3 0), (5, .optr 4 0), (7, .osl 5 0 1 2 none), (10, .osl 6 0 2 1 (some 1)), (11, .optr 7 0), (12, int64 0), (103, .osl 8 0 2 n none), (104, int64 n), (105, int64 i)]
theorem zll {W B : List Nat} {e m p : Nat} {vs : List Val} (hv : Nums vs) (hl : vs.length ≤ 1000000) :
  ∀ (k : Nat) (st : St), (∃ i, k + i = vs.length ∧ st.tidy [0, 3, 5, 7, 10, 11, 12, 103, 104, 105] = ⟨3, pa1Env vs.length i, pa1Mem W B e m p (tVal.row vs)⟩) →
   ∃ x s', den code ext (.loop [0, 3, 5, 7, 10, 11, 12, 103, 104, 105] x600L1) st = some (x, s') ∧ x ≠ .normal ∧ (x = .exit 3 ∧ s' = ⟨3, pa1Env vs.length vs.length ++ [(106, avb false)], pa1Mem W B e m p (tVal.row vs)⟩) := by
 have p2 := zkv
 have p3 := zkw
 refine ziu _ _ ?_
 rintro k st ⟨i, hk, hst⟩
 rw [hst]
 by_cases hil : i < vs.length
 ·obtain ⟨v, hvi⟩ : ∃ v, vs[i]? = some v := ⟨_, List.getElem?_eq_getElem hil⟩
  have hv2 := hv v (List.mem_of_getElem? hvi)
  have hcut : cut (tVal.row vs) (i * 2) 2 = some [.val (.int .u8 v.k), .val (.int .i64 v.n)] := zfm (t := tVal) hvi
  rw [hv2] at hcut
  obtain ⟨i1, hi1⟩ : ∃ i1, i1 = i + 1 := ⟨_, rfl⟩
  have e1 : (i : Int) < vs.length := by omega
  have e3 : IntKind.wrap .i64 ((i : Int) + 1) = (i1 : Int) := by rw [wrapI64 (by omega) (by omega)]; omega
  generalize tVal.row vs = R at *
  generalize vs.length = n at *
  have key : ∃ s', den code ext x600L1 ⟨3, pa1Env n i, pa1Mem W B e m p R⟩ = some (.normal, s') ∧ s'.tidy [0, 3, 5, 7, 10, 11, 12, 103, 104, 105] = ⟨3, pa1Env n i1, pa1Mem W B e m p R⟩ := by
   refine stepOf ?_
   by_cases hm : v.n = m
   ·have hf : ∀ M : Mem, findK M 0 (int64 v.n) [(int64 m, int64 0)] 0 = some (some 0) := fun M => by simp [findK, keyEq, hm]
    simp -implicitDefEqProofs [-intBin, b_add, b_lss, b_geq, x600L1, hcut, hf, e1, e3, hil, p2, p3]
   ·have hf : ∀ M : Mem, findK M 0 (int64 v.n) [(int64 m, int64 0)] 0 = some none := fun M => by simp [findK, keyEq, hm]
    simp -implicitDefEqProofs [-intBin, b_add, b_lss, b_geq, x600L1, hcut, hf, e1, e3, hil, p2, p3]
  obtain ⟨s', g1, g2⟩ := key
  exact ⟨.normal, s', g1, .inl ⟨rfl, k - 1, by omega, i1, by omega, g2⟩⟩
 ·have hie : i = vs.length := by omega
  rw [hie]
  generalize tVal.row vs = R at *
  generalize vs.length = n at *
  refine ⟨.exit 3, ⟨3, pa1Env n n ++ [(106, avb false)], pa1Mem W B e m p R⟩, ?_, .inr ⟨by simp, rfl, rfl⟩⟩
  simp -implicitDefEqProofs [x600L1]
abbrev pa4Mem (W B : List Nat) (e m : Nat) (R : List IV) (lv : AV) : Mem :=
 [.rich [.osl 1 0 1 W.length (some W.length), .osl 2 0 1 B.length (some B.length), int64 e], .flat (urow W) false, .flat (urow B) false, .rich [uint8 4, int64 m], .rich [uint8 0, int64 0], .rich [.omap 10], .rich [.optr 0 0, int64 m, uint8 4], .rich [uint8 4, .imm (.val (.string .empty)), lv, int64 0, int64 0], .rich [.optr 0 0, int64 m, uint8 4], .flat R false, .map [(int64 m, int64 1)]]
abbrev pa4Env (n i : Nat) : Env :=
 [(3, .optr 3 0), (5, .optr 4 0), (27, .clo 601 [.optr 5 0]), (28, nilS), (30, .optr 6 0), (31, .optr 7 0), (163, .osl 8 0 3 1 none), (164, int64 1), (165, int64 0), (173, .osl 9 0 2 n none), (174, int64 n), (175, int64 i)]
theorem zlm (c : PlainCode code) {W B : List Nat} {e m : Nat} {vs : List Val} (hv : Nums vs) (hl : vs.length ≤ 1000000) :
  ∀ (k : Nat) (st : St), (∃ i, k + i = vs.length ∧ st.tidy [3, 5, 27, 28, 30, 31, 163, 164, 165, 173, 174, 175] = ⟨3, pa4Env vs.length i, pa4Mem W B e m (tVal.row vs) (gV 11 (vs.take i)) ++ gM (vs.take i)⟩) →
   ∃ x s', den code ext (.loop [3, 5, 27, 28, 30, 31, 163, 164, 165, 173, 174, 175] x600L4) st = some (x, s') ∧ x ≠ .normal ∧ (x = .exit 9 ∧ s' = ⟨3, pa4Env vs.length vs.length ++ [(176, avb false)], pa4Mem W B e m (tVal.row vs) (gV 11 vs) ++ gM vs⟩) := by
 refine ziu _ _ ?_
 rintro k st ⟨i, hk, hst⟩
 rw [hst]
 by_cases hil : i < vs.length
 ·obtain ⟨v, hvi⟩ : ∃ v, vs[i]? = some v := ⟨_, List.getElem?_eq_getElem hil⟩
  have hv2 := hv v (List.mem_of_getElem? hvi)
  have hcut : cut (tVal.row vs) (i * 2) 2 = some [.val (.int .u8 v.k), .val (.int .i64 v.n)] := zfm (t := tVal) hvi
  rw [hv2] at hcut
  have henc : tVal.enc v = [.val (.int .u8 2), .val (.int .i64 v.n)] := by rw [← hv2]; rfl
  have htake : vs.take (i + 1) = vs.take i ++ [v] := by rw [List.take_add_one, hvi]; rfl
  have hlen : (vs.take i).length = i := by rw [List.length_take]; omega
  have hvl := zq4 (vs.take i)
  rw [hlen] at hvl
  have f1 := number_num (ext := ext) c m v.n
  obtain ⟨i1, hi1⟩ : ∃ i1, i1 = i + 1 := ⟨_, rfl⟩
  have e1 : (i : Int) < vs.length := by omega
  have e3 : IntKind.wrap .i64 ((i : Int) + 1) = (i1 : Int) := by rw [wrapI64 (by omega) (by omega)]; omega
  have hne : vs.take i1 ≠ [] := by rw [hi1, htake]; simp
  have hl1 : (vs.take i1).length = i1 := by rw [List.length_take]; omega
  have hsn : tVal.row (vs.take i) ++ tVal.enc v = tVal.row (vs.take i1) := by rw [zne, hi1, htake]
  have hg : gV 11 (vs.take i1) = .osl 11 0 2 i1 none := by unfold gV; rw [if_neg hne, hl1]
  have hg2 : gM (vs.take i1) = [.flat (tVal.row (vs.take i1)) false] := by unfold gM; rw [if_neg hne]
  have key : ∃ s', den code ext x600L4 ⟨3, pa4Env vs.length i, pa4Mem W B e m (tVal.row vs) (gV 11 (vs.take i)) ++ gM (vs.take i)⟩ = some (.normal, s') ∧ s'.tidy [3, 5, 27, 28, 30, 31, 163, 164, 165, 173, 174, 175] = ⟨3, pa4Env vs.length i1, pa4Mem W B e m (tVal.row vs) (gV 11 (vs.take i1)) ++ gM (vs.take i1)⟩ := by
   refine stepOf ?_
   rw [hg, hg2]
   by_cases h0 : i = 0
   ·subst h0
    have hr1 : tVal.row (vs.take i1) = [.val (.int .u8 2), .val (.int .i64 v.n)] := by rw [← hsn, ← henc]; rfl
    have hz : gV 11 (vs.take 0) = nilS := rfl
    have hz2 : gM (vs.take 0) = [] := rfl
    have hi11 : i1 = 1 := by omega
    subst hi11
    rw [hz, hz2, hr1]
    simp only [Int.natCast_zero] at e1 e3
    rw [Nat.zero_mul] at hcut
    generalize tVal.row vs = R at *
    generalize vs.length = n at *
    simp -implicitDefEqProofs [x600L4, hcut, f1, e1, e3, hil, exPeek, exAppendX, exAppend, elems, show IntKind.wrap .i64 1 = 1 from rfl]
   ·have hne0 : vs.take i ≠ [] := fun hh => by rw [hh] at hlen; simp at hlen; omega
    have hg0 : gV 11 (vs.take i) = .osl 11 0 2 i none := by unfold gV; rw [if_neg hne0, hlen]
    have hg02 : gM (vs.take i) = [.flat (tVal.row (vs.take i)) false] := by unfold gM; rw [if_neg hne0]
    rw [hg0, hg02]
    have hcut2 : cut (tVal.row (vs.take i)) 0 (i * 2) = some (tVal.row (vs.take i)) := zcq _ hvl
    have e5 : i1 * 16 ≤ 140737488355328 := by omega
    rw [← hsn, henc]
    have e6 : i + 1 = i1 := hi1.symm
    clear hg hg2 hg0 hg02 hne hl1 hlen htake hne0
    generalize tVal.row (vs.take i) = R0 at *
    generalize tVal.row vs = R at *
    generalize vs.length = n at *
    simp -implicitDefEqProofs [x600L4, hcut, hcut2, f1, e1, e3, e5, e6, hil, exPeek, exAppendX, exAppend, elems]
  obtain ⟨s', g1, g2⟩ := key
  exact ⟨.normal, s', g1, .inl ⟨rfl, k - 1, by omega, i1, by omega, g2⟩⟩
 ·have hie : i = vs.length := by omega
  rw [hie, List.take_length]
  refine ⟨.exit 9, ⟨3, pa4Env vs.length vs.length ++ [(176, avb false)], pa4Mem W B e m (tVal.row vs) (gV 11 vs) ++ gM vs⟩, ?_, .inr ⟨by simp, rfl, rfl⟩⟩
  generalize gV 11 vs = L at *
  generalize tVal.row vs = R at *
  generalize vs.length = n at *
  simp -implicitDefEqProofs [x600L4]
theorem zag (c : PlainCode code) (s : SortOk code ext) {W B : List Nat} {e m p room : Nat} {vs : List Val} (hi : HI W B e) (hr : 0 < room) (h : At W B e m 4 [vs.length, p + 1]) (g : ItemsAt W B e p room vs) (hv : Nums vs) (hmp : m < p) (hne : vs ≠ []) (hl : vs.length ≤ 65536) :
  callW code ext 600 [.optr 0 0, valV 4 m] (hMem W B e) = some (.tup [.osl 3 0 5 1 none, valV 4 1, int64 0], hMem W B e ++ [.rich [uint8 4, .imm (.val (.string .empty)), .osl 4 0 2 vs.length none, int64 room, int64 0], .flat (tVal.row vs) false]) := by
 have hlm : LM W B e m 4 room vs := .inr ⟨hr, p, h, g⟩
 have f1 := zj0 (ext := ext) c.toTextCode W B e hi.pos
 have f2 := zgu (ext := ext) c.toRowCode hi h
 obtain ⟨z, f3⟩ := zaj (ext := ext) c.toGcCode s hi h g hv hmp
 have f4 : callW code ext 613 [.optr 0 0, valV 4 m] (hMem W B e) = some (.tup [objV m 4, avb true], hMem W B e) := zbb (ext := ext) c.toTextCode hi h (by decide)
 have f5 := zi8 (ext := ext) c.toRowCode hi hlm hl
 have f6 := zq2 (ext := ext) c.toGcCode hi hlm
 have f7 := zau (code := code) (ext := ext) (cap := none) c.toRowCode hi (vs := vs) (by omega) (hv.held W B e)
 have f8 : callW code ext 171 [.optr 0 0, int64 m] (hMem W B e) = some (.tup [uint8 (4 : Int), int64 0], hMem W B e) := by
  have := zh0 (ext := ext) c.toTextCode (h.obj hi) h.head
  rwa [h.kind] at this
 have f9 := zm8 (ext := ext) c.toRowCode hi hlm 4
 have f10 := zjs (ext := ext) c m
 have g2 : gV 3 vs = .osl 3 0 2 vs.length none := by unfold gV; rw [if_neg hne]
 have g3 : gM vs = [.flat (tVal.row vs) false] := by unfold gM; rw [if_neg hne]
 have hpm : ¬ (p : Int) = m := by omega
 simp only [g2, g3] at f6
 have w1 : IntKind.wrap .i64 (1 : Int) = 1 := rfl
 have w2 : IntKind.wrap .i64 (2 : Int) = 2 := rfl
 have p2 := zkv
 have p3 := zkw
 have q0 : (pcells [m, p])[0]? = some (int64 m) := rfl
 have q1 : (pcells [m, p])[1]? = some (int64 p) := rfl
 have hpos : 0 < vs.length := List.length_pos_iff.2 hne
 rw [zbw code ext c.p600]
 have k0 : ∀ (M : Mem) (x : AV), findK M 0 x [] 0 = some none := fun _ _ => rfl
 have k1 : ∀ (M : Mem) (v : AV), findK M 0 (int64 m) [(int64 m, v)] 0 = some (some 0) := fun _ _ => by simp [findK, keyEq]
 have k2 : ∀ (M : Mem) (v : AV), findK M 0 (int64 p) [(int64 m, v)] 0 = some none := fun _ _ => by simp [findK, keyEq, hpm]
 obtain ⟨x1, s1, l1, _, rfl, rfl⟩ := zll (code := code) (ext := ext) (W := W) (B := B) (e := e) (m := m) (p := p) hv (by omega) vs.length
  ⟨3, [(0, .optr 0 0), (3, .optr 3 0), (5, .optr 4 0), (7, .osl 5 0 1 2 none), (10, .osl 6 0 2 1 (some 1)), (11, .optr 7 0), (12, int64 0), (103, .osl 11 0 2 vs.length none), (104, int64 vs.length), (105, int64 0)],
   [.rich [.osl 1 0 1 W.length (some W.length), .osl 2 0 1 B.length (some B.length), int64 e], .flat (urow W) false, .flat (urow B) false, .rich [uint8 4, int64 m], .rich [uint8 0, int64 0], .rich (pcells [m, p]), rootO m, .rich [.omap 8], .map [(int64 m, int64 0)], .rich [.optr 0 0, int64 m, uint8 4], .flat (tVal.row vs) false, .flat (tVal.row vs) false]⟩ ⟨0, rfl, by
    generalize tVal.row vs = R at *
    generalize vs.length = n at *
    simp -implicitDefEqProofs [p2, p3]⟩
 obtain ⟨x4, s4, l4, _, rfl, rfl⟩ := zlm (code := code) (ext := ext) c (W := W) (B := B) (e := e) (m := m) hv (by omega) vs.length
  ⟨3, [(3, .optr 3 0), (5, .optr 4 0), (27, .clo 601 [.optr 5 0]), (28, nilS), (30, .optr 8 0), (31, .optr 9 0), (163, .osl 6 0 3 1 none), (164, int64 1), (165, int64 0), (173, .osl 10 0 2 vs.length none), (174, int64 vs.length), (175, int64 0)],
   [.rich [.osl 1 0 1 W.length (some W.length), .osl 2 0 1 B.length (some B.length), int64 e], .flat (urow W) false, .flat (urow B) false, .rich [uint8 4, int64 m], .rich [uint8 0, int64 0], .rich [.omap 7], .rich [.optr 0 0, int64 m, uint8 4], .map [(int64 m, int64 1)], .rich [.optr 0 0, int64 m, uint8 4], .rich [uint8 4, .imm (.val (.string .empty)), nilS, int64 0, int64 0], .flat (tVal.row vs) false]⟩ ⟨0, rfl, by
    have z1 : gV 11 (vs.take 0) = nilS := rfl
    have z2 : gM (vs.take 0) = [] := rfl
    rw [z1, z2]
    generalize tVal.row vs = R at *
    generalize vs.length = n at *
    simp -implicitDefEqProofs []⟩
 have g2' : gV 11 vs = .osl 11 0 2 vs.length none := by unfold gV; rw [if_neg hne]
 rw [g2', g3] at l4
 generalize tVal.row vs = R at *
 generalize vs.length = n at *
 simp only [pa1Env, pa1Mem, List.cons_append, List.nil_append] at l1
 simp only [pa4Env, pa4Mem, List.cons_append, List.nil_append] at l4
 simp -implicitDefEqProofs [x600, f1, f2, f3, k0, p2, p3]
 rw [zc3]
 simp -implicitDefEqProofs [x600L2, f4, f5, f6, f7, l1, w1, exPeek, p2, p3]
 rw [zc3]
 simp -implicitDefEqProofs [x600L2, w1, p2, p3]
 rw [zc3]
 simp -implicitDefEqProofs [x600L3, f8, k1, k2, q0, q1, w1, exPeek, exAppendX, exAppend, exAppendR, elemsR, elems, p2, p3]
 rw [zc3]
 simp -implicitDefEqProofs [x600L3, f8, k1, k2, q0, q1, w1, w2, exPeek, exAppendX, exAppend, exAppendR, elemsR, elems, p2, p3]
 rw [zc3]
 simp -implicitDefEqProofs [x600L3, w1, w2, exPeek, exAppendX, exAppend, exAppendR, elemsR, elems, p2, p3]
 rw [zc3]
 simp -implicitDefEqProofs [x600L5, f6, l4, f9, w1, exPeek, exAppendX, exAppend, exAppendR, elemsR, elems, p2, p3]
 rw [zc3]
 simp -implicitDefEqProofs [x600L5, f10, w1, exPeek]
end
end Go.EX


set_option linter.unusedVariables false
set_option linter.unusedSimpArgs false
namespace Go.EX
def toL (l : List (Nat × Nat)) : List (AV × AV) := l.map fun q => (int64 q.1, int64 q.2)
@[simp] theorem toL_ren (f : Nat → Option Nat) (l : List (Nat × Nat)) : List.map (fun p => (AV.ren f p.1, AV.ren f p.2)) (toL l) = toL l := by
 simp [toL, AV.ren]
@[simp] theorem refs_toL1 (l : List (Nat × Nat)) : AV.refs.refsL (List.map (fun x => x.1) (toL l)) = [] := by
 unfold toL
 induction l with
 | nil => rfl
 | cons x r ih => simp only [List.map_cons, AV.refs.refsL, ih, AV.refs]; rfl
@[simp] theorem refs_toL2 (l : List (Nat × Nat)) : AV.refs.refsL (List.map (fun x => x.2) (toL l)) = [] := by
 unfold toL
 induction l with
 | nil => rfl
 | cons x r ih => simp only [List.map_cons, AV.refs.refsL, ih, AV.refs]; rfl
theorem zfc (m z p y : Nat) (M : Mem) : findK M 0 (int64 m) (toL [(m, z), (p, y)]) 0 = some (some 0) := by simp [toL, findK, keyEq]
theorem zfd {m z p y : Nat} (h : p ≠ m) (M : Mem) : findK M 0 (int64 p) (toL [(m, z), (p, y)]) 0 = some (some 1) := by
 have : ¬ (p : Int) = m := by omega
 simp [toL, findK, keyEq, this]
section
variable {code : Nat → Option XFun} {ext : Calls'}
abbrev clLoop (a b c d : Nat) : AObj := .loop [(2, .optr a 0), (8, .optr b 0), (14, .optr c 0), (16, .optr d 0)] [64] (.region [2, 8, 14, 16, 17] [⟨(some 17), .alloc [(.int .i64 0), (.int .u64 0), (.int .i64 0)], none⟩,
  ⟨none, .store 3 (.t 17) (.t 64), none⟩]) x290L2 false
theorem cyield (hy : code yieldNo = none) (W B : List Nat) (e m p : Nat) (es : List (Nat × Nat)) (i w : Nat) :
  callW code ext yieldNo [.yld 0, slotV i w p] [clLoop 1 2 3 4, .rich [.optr 5 0], .rich [.omap 6], .rich [nilS], .rich [int64 m], .rich [.osl 7 0 1 W.length (some W.length), .osl 8 0 1 B.length (some B.length), int64 e], .map (toL es), .flat (urow W) false, .flat (urow B) false] =
   some (avb true, [clLoop 1 2 3 4, .rich [.optr 5 0], .rich [.omap 6], .rich [.osl 9 0 1 1 none], .rich [int64 m], .rich [.osl 7 0 1 W.length (some W.length), .osl 8 0 1 B.length (some B.length), int64 e], .map (toL es), .flat (urow W) false, .flat (urow B) false,
    .rich [.clo 291 [.optr 1 0, .optr 2 0, .optr 4 0, .optr 10 0]], .rich [int64 i, uint64 w, int64 p]]) := by
 have hb : ∀ A C, den code ext x290L2 ⟨9, [(2, .optr 1 0), (8, .optr 2 0), (14, .optr 3 0), (16, .optr 4 0), (17, .optr 9 0)], [.loop [(2, .optr 1 0), (8, .optr 2 0), (14, .optr 3 0), (16, .optr 4 0)] [64] A C true, .rich [.optr 5 0], .rich [.omap 6], .rich [nilS], .rich [int64 m], .rich [.osl 7 0 1 W.length (some W.length), .osl 8 0 1 B.length (some B.length), int64 e], .map (toL es), .flat (urow W) false, .flat (urow B) false, .rich [int64 i, uint64 w, int64 p]]⟩ =
   some (.normal, ⟨9, [], [.loop [(2, .optr 1 0), (8, .optr 2 0), (14, .optr 3 0), (16, .optr 4 0)] [64] A C true, .rich [.optr 5 0], .rich [.omap 6], .rich [.osl 11 0 1 1 none], .rich [int64 m], .rich [.osl 7 0 1 W.length (some W.length), .osl 8 0 1 B.length (some B.length), int64 e], .map (toL es), .flat (urow W) false, .flat (urow B) false, .rich [int64 i, uint64 w, int64 p],
    .rich [.clo 291 [.optr 1 0, .optr 2 0, .optr 4 0, .optr 9 0]], .rich [.clo 291 [.optr 1 0, .optr 2 0, .optr 4 0, .optr 9 0]]]⟩) := by
  intro A C
  simp -implicitDefEqProofs [x290L2, exAppendX, exAppend, exAppendR, elemsR, elems]
 rw [zby code ext hy]
 simp -implicitDefEqProofs [exRound, Env.enterAt, Mem.trim, hb]
abbrev chMem (W B : List Nat) (e m a : Nat) (es : List (Nat × Nat)) : Mem :=
 [clLoop 3 4 5 6, .rich [.optr 7 0], .rich [int64 m], .rich [.optr 7 0], .rich [.omap 8], .rich [nilS], .rich [int64 a], .rich [.osl 9 0 1 W.length (some W.length), .osl 10 0 1 B.length (some B.length), int64 e], .map (toL es), .flat (urow W) false, .flat (urow B) false]
theorem zb6 (c : GcCode code) {W B : List Nat} {e m : Nat} (es : List (Nat × Nat)) (hi : HI W B e) (h : At W B e m 4 [0, 0]) :
  callW code ext 294 [.yld 0, .optr 1 0, .optr 2 0] (chMem W B e m m es) = some (.tup [], chMem W B e m m es) := by
 have f1 := zh0 (ext := ext) c.toTextCode (h.obj hi) h.head
 rw [h.kind] at f1
 have f2 : callW code ext 175 [.optr 0 0, int64 m] (hMem W B e) = some (.tup [int64 2, int64 0], hMem W B e) := zo2 (ext := ext) c.small c.c175 (h.obj hi)
 have f3 : callW code ext 295 [int64 1, .optr 0 0, .optr 1 0] (hoMem W B e m) = some (uint64 0, hoMem W B e m) := zgx (ext := ext) c.toRowCode c.g295 hi h (i := 1) (v := 0) rfl
 rw [zbw code ext c.g294]
 simp -implicitDefEqProofs [x294, f1, f2, f3]
theorem zb4 (c : GcCode code) {W B : List Nat} {e m p n : Nat} {ws : List Nat} (es : List (Nat × Nat)) (hi : HI W B e) (h : At W B e m 4 [n, p + 1]) (g : At W B e p 8 ws) :
  callW code ext 294 [.yld 0, .optr 1 0, .optr 2 0] (chMem W B e m m es) = some (.tup [], [clLoop 3 4 5 6, .rich [.optr 7 0], .rich [int64 m], .rich [.optr 7 0], .rich [.omap 8], .rich [.osl 11 0 1 1 none], .rich [int64 m], .rich [.osl 9 0 1 W.length (some W.length), .osl 10 0 1 B.length (some B.length), int64 e], .map (toL es), .flat (urow W) false, .flat (urow B) false,
   .rich [.clo 291 [.optr 3 0, .optr 4 0, .optr 6 0, .optr 12 0]], .rich [int64 1, .imm (.val (.int .u64 1)), int64 p]]) := by
 have htop := g.top; have ht2 := hi.top; have ht3 := hi.bd
 have f1 := zh0 (ext := ext) c.toTextCode (h.obj hi) h.head
 rw [h.kind] at f1
 have f2 : callW code ext 175 [.optr 0 0, int64 m] (hMem W B e) = some (.tup [int64 2, int64 0], hMem W B e) := zo2 (ext := ext) c.small c.c175 (h.obj hi)
 have f3 : callW code ext 295 [int64 1, .optr 0 0, .optr 1 0] (hoMem W B e m) = some (uint64 (p + 1), hoMem W B e m) := zgx (ext := ext) c.toRowCode c.g295 hi h (i := 1) (v := p + 1) rfl
 have f4 := zh0 (ext := ext) c.toTextCode (g.obj hi) g.head
 rw [g.kind] at f4
 have f5 := cyield (ext := ext) c.gy W B e m p es 1 1
 simp only [slotV, uint64, u64v, Int.natCast_one] at f5
 obtain ⟨q, hq⟩ : ∃ q, q = p + 1 := ⟨_, rfl⟩
 have e1 : IntKind.wrap .u64 ((q : Int) - 1) = (p : Int) := by rw [wrapU64 (by omega) (by omega)]; omega
 have e2 : IntKind.wrap .i64 (p : Int) = (p : Int) := wrapI64 (by omega) (by omega)
 have e3 : ¬ (q : Int) = 0 := by omega
 have e4 : ¬ q = 0 := by omega
 rw [← hq] at f3
 rw [zbw code ext c.g294]
 simp -implicitDefEqProofs [x294, f1, f2, f3, f4, f5, e1, e2, e3, e4]
abbrev ch2Mem (W B : List Nat) (e m p : Nat) (es : List (Nat × Nat)) : Mem :=
 [clLoop 3 4 5 6, .rich [.optr 7 0], .rich [int64 p], .rich [.optr 7 0], .rich [.omap 8], .rich [.osl 9 0 1 1 none], .rich [int64 p], .rich [.osl 10 0 1 W.length (some W.length), .osl 11 0 1 B.length (some B.length), int64 e], .map (toL es), .rich [.clo 291 [.optr 3 0, .optr 4 0, .optr 12 0, .optr 13 0]], .flat (urow W) false, .flat (urow B) false, .rich [int64 m], .rich [int64 1, .imm (.val (.int .u64 1)), int64 p]]
theorem zb7 (c : GcCode code) {W B : List Nat} {e p room : Nat} {vs : List Val} (hi : HI W B e) (h : ItemsAt W B e p room vs) (hv : Nums vs) {ws : List Nat} (g : At W B e p 8 ws) (j : Nat) (hj : j < room) (n : Nat) (hn : n = 2 * room) (hr : room ≤ 1048576) (m : Nat) (es : List (Nat × Nat)) (i i' : Nat) (hi0 : i = 2 * j) (hi' : i' = 2 * j + 2) :
  ∃ s', den code ext x294L1 ⟨14, hlEnv n i, ch2Mem W B e m p es⟩ = some (.normal, s') ∧ s'.tidy [0, 1, 6, 8, 13] = ⟨14, hlEnv n i', ch2Mem W B e m p es⟩ := by
 obtain ⟨k, x, k1, k2, k3, k4⟩ := zhk h hv g hj
 rw [← hi0] at k1 k2
 have f1 := zgx (ext := ext) c.toRowCode c.g295 hi g k1
 have f2 := zgx (ext := ext) c.toRowCode c.g295 hi g k2
 obtain ⟨i1, hi1⟩ : ∃ i1, i1 = i + 1 := ⟨_, rfl⟩
 rw [← hi1] at f2
 have e1 : IntKind.wrap .i64 ((i : Int) + 1) = (i1 : Int) := by rw [wrapI64 (by omega) (by omega)]; omega
 have e2 : IntKind.wrap .i64 ((i : Int) + 2) = (i' : Int) := by rw [wrapI64 (by omega) (by omega)]; omega
 have e3 : (i1 : Int) < n := by omega
 have e3' : i1 < n := by omega
 have e4 : min (k : Int) 255 = (k : Int) := by omega
 have e4' : ¬ (255 : Int) < k := by omega
 have e4'' : ¬ 255 < k := by omega
 have e4''' : (k : Int) ≤ 255 := by omega
 have e5 : IntKind.wrap .u8 (k : Int) = (k : Int) := wrapU8 (by omega) (by omega)
 obtain ⟨y, hy⟩ : ∃ y, IntKind.wrap .i64 (x : Int) = y := ⟨_, rfl⟩
 have f3 := zgd (ext := ext) c.toRowCode c.g296 hi (k : Int) y (by omega)
 refine stepOf ?_
 simp -implicitDefEqProofs [-intBin, b_add, b_lss, x294L1, hy, f1, f2, f3, e1, e2, e3, e3', e4, e4', e4'', e4''', e5]
theorem zb5 (c : GcCode code) {W B : List Nat} {e p room : Nat} {vs : List Val} (hi : HI W B e) (h : ItemsAt W B e p room vs) (hv : Nums vs) {ws : List Nat} (g : At W B e p 8 ws) (n : Nat) (hn : n = 2 * room) (hr : room ≤ 1048576) (m : Nat) (es : List (Nat × Nat)) :
  ∀ (k : Nat) (st : St), (∃ j, k + j = room ∧ st.tidy [0, 1, 6, 8, 13] = ⟨14, hlEnv n (2 * j), ch2Mem W B e m p es⟩) →
   ∃ x s', den code ext (.loop [0, 1, 6, 8, 13] x294L1) st = some (x, s') ∧ x ≠ .normal ∧ (x = .exit 1 ∧ s' = ⟨14, hlEnv n n ++ [(72, avb false)], ch2Mem W B e m p es⟩) := by
 refine ziu _ _ ?_
 rintro k st ⟨j, hk, hst⟩
 rw [hst]
 by_cases hj : j < room
 ·obtain ⟨s', g1, g2⟩ := zb7 (ext := ext) c hi h hv g j hj n hn hr m es (2 * j) (2 * j + 2) rfl rfl
  exact ⟨.normal, s', g1, .inl ⟨rfl, k - 1, by omega, j + 1, by omega, by rw [g2, Nat.mul_succ]⟩⟩
 ·have hjn : 2 * j = n := by omega
  rw [hjn]
  obtain ⟨n1, hn1⟩ : ∃ n1, n1 = n + 1 := ⟨_, rfl⟩
  have e1 : IntKind.wrap .i64 ((n : Int) + 1) = (n1 : Int) := by rw [wrapI64 (by omega) (by omega)]; omega
  have e2 : ¬ (n1 : Int) < n := by omega
  have e2' : ¬ n1 < n := by omega
  refine ⟨.exit 1, ⟨14, hlEnv n n ++ [(72, avb false)], ch2Mem W B e m p es⟩, ?_, .inr ⟨by simp, rfl, rfl⟩⟩
  simp -implicitDefEqProofs [-intBin, b_add, b_lss, x294L1, e1, e2, e2']
theorem ch_row (c : GcCode code) {W B : List Nat} {e p room : Nat} {vs : List Val} (hi : HI W B e) (h : ItemsAt W B e p room vs) (hv : Nums vs) (m : Nat) (es : List (Nat × Nat)) :
  callW code ext 294 [.yld 0, .optr 1 0, .optr 2 0] (ch2Mem W B e m p es) = some (.tup [], ch2Mem W B e m p es) := by
 obtain ⟨ws, g, hwl, _⟩ := h.vals
 have htop := g.top; have ht2 := hi.top; have ht3 := hi.bd
 have f1 := zh0 (ext := ext) c.toTextCode (g.obj hi) g.head
 rw [g.kind] at f1
 have f2 := zo2 (ext := ext) c.small c.c175 (g.obj hi)
 rw [hwl] at f2
 obtain ⟨n, hn⟩ : ∃ n, n = 2 * room := ⟨_, rfl⟩
 rw [← hn] at f2
 obtain ⟨x, s', h1, _, rfl, rfl⟩ := zb5 (ext := ext) c hi h hv g n hn (by omega) m es room ⟨14, hlEnv n 0, ch2Mem W B e m p es⟩ ⟨0, by omega, by simp -implicitDefEqProofs []⟩
 simp only [hlEnv, Int.natCast_zero, List.cons_append, List.nil_append] at h1
 rw [zbw code ext c.g294]
 simp -implicitDefEqProofs [x294, f1, f2, h1]
end
end Go.EX


set_option maxHeartbeats 4000000
set_option linter.unusedVariables false
set_option linter.unusedSimpArgs false
namespace Go.EX
section
variable {code : Nat → Option XFun} {ext : Calls'}
theorem zcf (h : code 742 = some x742) (m : Nat) : callW code ext 742 [.osl 0 0 2 1 (some 1)] [rootO m] = some (.osl 1 0 2 1 none, [rootO m, rootO m]) := by
 rw [zbw code ext h]
 simp -implicitDefEqProofs [x742, exAppendX, exAppend, exAppendR, elemsR, elems]
theorem zh6 (c : GcCode code) {m p : Nat} (hne : p ≠ m) (W B : List Nat) (e : Nat) (W' B' : List Nat) (e' : Nat) (z : Int) (l1 : W'.length = W.length) (l2 : B'.length = B.length)
  (hw : callW code ext 178 [.optr 0 0, int64 0, int64 1, .imm (.val (.int .u64 4))] (hMem W B e) = some (int64 z, hMem W' B' e')) :
  callW code ext 291 [.optr 0 0, .optr 1 0, .optr 2 0, .optr 3 0] [.rich [.optr 4 0], .rich [.omap 5], .rich [int64 m], .rich [int64 1, .imm (.val (.int .u64 1)), int64 p], .rich [.osl 6 0 1 W.length (some W.length), .osl 7 0 1 B.length (some B.length), int64 e], .map (toL [(m, 0), (p, 3)]), .flat (urow W) false, .flat (urow B) false] =
   some (.tup [], [.rich [.optr 4 0], .rich [.omap 5], .rich [int64 m], .rich [int64 1, .imm (.val (.int .u64 1)), int64 p], .rich [.osl 6 0 1 W.length (some W.length), .osl 7 0 1 B.length (some B.length), int64 e'], .map (toL [(m, 0), (p, 3)]), .flat (urow W') false, .flat (urow B') false]) := by
 have k1 := zfc m 0 p 3
 have k2 := zfd (m := m) (z := 0) (p := p) (y := 3) hne
 have g1 : (toL [(m, 0), (p, 3)])[0]? = some (int64 m, int64 0) := rfl
 have g2 : (toL [(m, 0), (p, 3)])[1]? = some (int64 p, int64 3) := rfl
 have e3 : IntKind.wrap .u64 (3 : Int) = 3 := rfl
 have e4 : IntKind.wrap .u64 (4 : Int) = 4 := rfl
 simp only [hMem, l1, l2] at hw
 rw [zbw code ext c.g291]
 simp -implicitDefEqProofs [x291, k1, k2, g1, g2, e3, e4, hw, l1, l2]
theorem zaa (c : GcCode code) (s : SortOk code ext) {W B : List Nat} {e m p room n : Nat} {vs : List Val} (hi : HI W B e) (h : At W B e m 4 [n, p + 1]) (g : ItemsAt W B e p room vs) (hv : Nums vs) (hmp : m < p)
  {W1 B1 W2 B2 B3 W3 : List Nat} {sz : Nat} {z : Int} (hsz : sz = 4 + 2 * room) (l1 : W1.length = W.length) (b1 : B1.length = B.length) (l2 : W2.length = W.length) (b2 : B2.length = B.length) (b3 : B3.length = B.length) (l3 : W3.length = W.length)
  (hm1 : callW code ext 172 [.optr 0 0, int64 m, int64 0] (hMem W B e) = some (int64 0, hMem W1 B1 e))
  (hm2 : callW code ext 172 [.optr 0 0, int64 p, int64 3] (hMem W1 B1 e) = some (int64 0, hMem W2 B2 e))
  (hc : callW code ext 170 [.optr 0 0, int64 sz] (hMem W2 B2 e) = some (int64 0, hMem W2 B3 sz))
  (hw : callW code ext 178 [.optr 0 0, int64 0, int64 1, .imm (.val (.int .u64 4))] (hMem W2 B3 sz) = some (int64 z, hMem W3 B3 sz)) :
  callW code ext 290 [.optr 0 0, .osl 1 0 2 1 (some 1)] (kMem W B e (rootO m)) = some (.tup [.osl 4 0 2 1 none, int64 0], kMem W3 B3 sz (rootO m) ++ [.flat [.val (.int .u8 4), .val (.int .i64 0)] false]) := by
 obtain ⟨ws, gp, hwl, _⟩ := g.vals
 have htop := gp.top; have ht2 := hi.top; have ht3 := hi.bd
 have f1 := zgf (ext := ext) c hi h
 have f2 := zl4 (ext := ext) c s hi h g hv hmp
 have f3 : callW code ext 175 [.optr 0 0, int64 m] (hMem W B e) = some (.tup [int64 2, int64 0], hMem W B e) := zo2 (ext := ext) c.small c.c175 (h.obj hi)
 have f4 := zo2 (ext := ext) c.small c.c175 (gp.obj hi)
 have hne : p ≠ m := by omega
 have hpm : ¬ (p : Int) = m := by omega
 have w1 : IntKind.wrap .i64 (1 : Int) = 1 := rfl
 have w2 : IntKind.wrap .i64 (2 : Int) = 2 := rfl
 have w3 : IntKind.wrap .i64 (3 : Int) = 3 := rfl
 have p2 := zkv
 have p3 := zkw
 have q0 : (pcells [m, p])[0]? = some (int64 m) := rfl
 have q1 : (pcells [m, p])[1]? = some (int64 p) := rfl
 have k0 : ∀ (M : Mem) (x : AV), findK M 0 x [] 0 = some none := fun _ _ => rfl
 have k2 : ∀ (M : Mem) (v : AV), findK M 0 (int64 p) [(int64 m, v)] 0 = some none := fun _ _ => by simp [findK, keyEq, hpm]
 have hto : [(int64 m, int64 0), (int64 p, int64 3)] = toL [(m, 0), (p, 3)] := rfl
 have f5 := zf9 (ext := ext) c W B e m
 have f6 := zb4 (ext := ext) c [(m, 0), (p, 3)] hi h gp
 have f7 := zf9 (ext := ext) c W B e p
 have f8 := ch_row (ext := ext) c hi g hv m [(m, 0), (p, 3)]
 simp only [chMem] at f6
 have t1 := toL_ren
 have e1 : IntKind.wrap .i64 ((ws.length : Int) + 1) = (ws.length : Int) + 1 := wrapI64 (by omega) (by omega)
 have e2 : IntKind.wrap .i64 (3 + ((ws.length : Int) + 1)) = (sz : Int) := by rw [wrapI64 (by omega) (by omega)]; omega
 have hst : x290L2.still = true := rfl
 have f9 := zcf (ext := ext) c.g742 m
 have f10 := zh6 (ext := ext) c hne W2 B3 sz W3 B3 sz z (by omega) rfl hw
 have k3 := zfc m 0 p 3
 have k4 := zfd (m := m) (z := 0) (p := p) (y := 3) hne
 have t3 : (toL [(m, 0), (p, 3)])[0]? = some (int64 m, int64 0) := rfl
 have t4 : (toL [(m, 0), (p, 3)])[1]? = some (int64 p, int64 3) := rfl
 simp only [hMem, l1, b1, l2, b2, b3, l3] at hm1 hm2 hc hw f10
 rw [zbw code ext c.g290]
 simp -implicitDefEqProofs [x290, f1, f2, p2, p3]
 rw [zc3]
 simp -implicitDefEqProofs [x290L1, f3, k0, w1, w2, w3, exPeek, q0, p2, p3]
 rw [zc3]
 simp -implicitDefEqProofs [-intBin, b_add, b_lss, x290L1, f4, k2, w1, w2, w3, exPeek, q1, e1, e2, p2, p3]
 rw [zc3]
 simp -implicitDefEqProofs [x290L1, hto, p2, p3]
 rw [zc3]
 simp -implicitDefEqProofs [x290L3, f5, f6, w1, q0, zc5, exRange, XCode.still, hst, p2, p3]
 rw [zc3]
 simp -implicitDefEqProofs [x290L3, f7, f8, w1, w2, q1, zc5, exRange, XCode.still, hst, p2, p3]
 rw [zc3]
 simp -implicitDefEqProofs [x290L3, f9, w1, w2, p2, p3]
 rw [zc3]
 simp -implicitDefEqProofs [x290L4, w1, w2, k3, k4, t3, t4, p2, p3]
 rw [zc3]
 simp -implicitDefEqProofs [x290L4, w1, w2, p2, p3]
 rw [zc3]
 simp -implicitDefEqProofs [x290L5, w1, w2, k3, k4, q0, t3, t4, hm1, p2, p3]
 rw [zc3]
 simp -implicitDefEqProofs [x290L5, w1, w2, k3, k4, q1, t3, t4, hm2, p2, p3]
 rw [zc3]
 simp -implicitDefEqProofs [x290L5, w1, w2, hc, p2, p3]
 rw [zc3]
 simp -implicitDefEqProofs [x290L6, w1, f10, p2, p3]
 rw [zc3]
 simp -implicitDefEqProofs [x290L6, w1, l3, b3, p2, p3]
theorem zab (c : GcCode code) (s : SortOk code ext) {W B : List Nat} {e m : Nat} (hi : HI W B e) (h : At W B e m 4 [0, 0])
  {W1 B1 B3 : List Nat} (l1 : W1.length = W.length) (b1 : B1.length = B.length) (b3 : B3.length = B.length)
  (hm1 : callW code ext 172 [.optr 0 0, int64 m, int64 0] (hMem W B e) = some (int64 0, hMem W1 B1 e))
  (hc : callW code ext 170 [.optr 0 0, int64 3] (hMem W1 B1 e) = some (int64 0, hMem W1 B3 3)) :
  callW code ext 290 [.optr 0 0, .osl 1 0 2 1 (some 1)] (kMem W B e (rootO m)) = some (.tup [.osl 4 0 2 1 none, int64 0], kMem W1 B3 3 (rootO m) ++ [.flat [.val (.int .u8 4), .val (.int .i64 0)] false]) := by
 have f1 := zgf (ext := ext) c hi h
 have f2 := zl5 (ext := ext) c s hi h
 have f3 : callW code ext 175 [.optr 0 0, int64 m] (hMem W B e) = some (.tup [int64 2, int64 0], hMem W B e) := zo2 (ext := ext) c.small c.c175 (h.obj hi)
 have w1 : IntKind.wrap .i64 (1 : Int) = 1 := rfl
 have w2 : IntKind.wrap .i64 (2 : Int) = 2 := rfl
 have w3 : IntKind.wrap .i64 (3 : Int) = 3 := rfl
 have k0 : ∀ (M : Mem) (x : AV), findK M 0 x [] 0 = some none := fun _ _ => rfl
 have hto : [(int64 m, int64 0)] = toL [(m, 0)] := rfl
 have f5 := zf9 (ext := ext) c W B e m
 have f6 := zb6 (ext := ext) c [(m, 0)] hi h
 simp only [chMem] at f6
 have hst : x290L2.still = true := rfl
 have f9 := zcf (ext := ext) c.g742 m
 have k3 : ∀ M : Mem, findK M 0 (int64 m) (toL [(m, 0)]) 0 = some (some 0) := fun M => by simp [toL, findK, keyEq]
 have t3 : (toL [(m, 0)])[0]? = some (int64 m, int64 0) := rfl
 simp only [hMem, l1, b1, b3, Int.cast_ofNat_Int] at hm1 hc
 rw [zbw code ext c.g290]
 simp -implicitDefEqProofs [x290, f1, f2]
 rw [zc3]
 simp -implicitDefEqProofs [x290L1, f3, k0, w1, w2, w3, exPeek]
 rw [zc3]
 simp -implicitDefEqProofs [x290L1, hto]
 rw [zc3]
 simp -implicitDefEqProofs [x290L3, f5, f6, w1, zc5, exRange, XCode.still, hst]
 rw [zc3]
 simp -implicitDefEqProofs [x290L3, f9, w1]
 rw [zc3]
 simp -implicitDefEqProofs [x290L4, w1, w2, k3, t3]
 rw [zc3]
 simp -implicitDefEqProofs [x290L4, w1, w2]
 rw [zc3]
 simp -implicitDefEqProofs [x290L5, w1, w2, k3, t3, hm1]
 rw [zc3]
 simp -implicitDefEqProofs [x290L5, w1, w2, hc]
 rw [zc3]
 simp -implicitDefEqProofs [x290L6, w1, l1, b3]
end
end Go.EX


set_option linter.unusedVariables false
set_option linter.unusedSimpArgs false
namespace Go.EX
def Has (W B : List Nat) (s : Nat → Nat) (wv : Nat → Nat → Nat) (j y : Nat) : Prop := bitAt B y = true ∧ hd W y = s j ∧ ∀ k, k < s j → W[y + 1 + k]? = some (wv j k)
theorem zgo {W W' : List Nat} {x y : Nat} (h : W'[x]? = W[y]?) : hd W' x = hd W y := by unfold hd; rw [h]
def cnt (g : Nat → Bool) (i : Nat) : Nat := ((List.range i).filter fun j => !g j).length
theorem zcg (g : Nat → Bool) (i : Nat) : cnt g (i + 1) = cnt g i + if g i = true then 0 else 1 := by
 unfold cnt
 rw [List.range_succ, List.filter_append]
 cases h : g i <;> simp [h]
structure K1 (W B : List Nat) (e : Nat) (L : List Nat) (s : Nat → Nat) (wv : Nat → Nat → Nat) (i : Nat) : Prop where
 hi : HI W B e
 len : W.length = 60000
 top : e ≤ 256 * i
 ln : L.length = i
 has : ∀ j y, L[j]? = some y → Has W B s wv j y
 up : L.Pairwise (· < ·)
structure KW (W B : List Nat) (e : Nat) (L : List Nat) (s : Nat → Nat) (wv : Nat → Nat → Nat) (i p k : Nat) : Prop where
 hi : HI W B e
 len : W.length = 60000
 top : e ≤ 256 * (i + 1)
 ln : L.length = i + 1
 has : ∀ j y, j < i → L[j]? = some y → Has W B s wv j y
 at_ : L[i]? = some p
 bit : bitAt B p = true
 size : hd W p = s i
 wd : ∀ l, l < k → W[p + 1 + l]? = some (wv i l)
 up : L.Pairwise (· < ·)
variable {W B : List Nat} {e : Nat} {L : List Nat} {s : Nat → Nat} {wv : Nat → Nat → Nat} {i p k : Nat}
theorem up_at {L : List Nat} (h : L.Pairwise (· < ·)) {i j y z : Nat} (hi : L[i]? = some y) (hj : L[j]? = some z) (hij : i < j) : y < z := by
 obtain ⟨h3, rfl⟩ := List.getElem?_eq_some_iff.1 hi
 obtain ⟨h4, rfl⟩ := List.getElem?_eq_some_iff.1 hj
 exact List.pairwise_iff_getElem.1 h i j h3 h4 hij
theorem K1.alloc (h : K1 W B e L s wv i) (hs : s i ≤ 255) (hi200 : i ≤ 200) :
  KW (setAll (W.set e (s i * 256 + 8)) (e + 1) (List.replicate (s i) 0)) (setBit B e) (e + s i + 1) (L ++ [e]) s wv i e 0 := by
 have hlen := h.len
 have htop := h.top
 have hn : s i + e < W.length := by omega
 have hl : e + 1 + (List.replicate (s i) 0).length ≤ (W.set e (s i * 256 + 8)).length := by simp; omega
 have hq := h.hi.q h.hi.top
 have hold : ∀ x, x < e → (setAll (W.set e (s i * 256 + 8)) (e + 1) (List.replicate (s i) 0))[x]? = W[x]? := by
  intro x hx
  rw [zoh _ _ _ _ hl, if_neg (by omega), List.getElem?_set_ne (by omega)]
 have hhd : ∀ x, x < e → hd (setAll (W.set e (s i * 256 + 8)) (e + 1) (List.replicate (s i) 0)) x = hd W x := fun x hx => zgo (hold x hx)
 have hlt : ∀ j y, L[j]? = some y → y < e := fun j y hj => by have := h.hi.inn y (h.has j y hj).1; omega
 refine ⟨h.hi.alloc (by decide) hn, by rw [zoj]; simpa using hlen, by omega, by simp [h.ln], fun j y hj hy => ?_, ?_, ?_, ?_, fun l hl => absurd hl (Nat.not_lt_zero l), ?_⟩
 ·rw [List.getElem?_append_left (by rw [h.ln]; exact hj)] at hy
  obtain ⟨h1, h2, h3⟩ := h.has j y hy
  have hin := h.hi.inn y h1
  refine ⟨by rw [zbn hq, h1]; rfl, by rw [hhd y (by omega)]; exact h2, fun k hk => ?_⟩
  rw [hold _ (by omega)]; exact h3 k hk
 ·rw [List.getElem?_append_right (by rw [h.ln]; exact Nat.le_refl _), h.ln, Nat.sub_self]; rfl
 ·rw [zbn hq]; simp
 ·unfold hd
  rw [zoh _ _ _ _ hl, if_neg (by omega), List.getElem?_set_self (by omega)]
  simp; omega
 ·rw [List.pairwise_append]
  refine ⟨h.up, by simp, fun a ha b hb => ?_⟩
  simp at hb; subst hb
  obtain ⟨j, hj⟩ := List.getElem?_of_mem ha
  exact hlt j a hj
theorem KW.write (h : KW W B e L s wv i p k) (hk : k < s i) (hv : wv i k < 18446744073709551616) : KW (W.set (p + 1 + k) (wv i k)) B e L s wv i p (k + 1) := by
 have hin := h.hi.inn p h.bit
 have htop := h.hi.top
 have hsz := h.size
 refine ⟨h.hi.write h.bit (by rw [h.size]; exact hk) hv, by simpa using h.len, h.top, h.ln, fun j y hj hy => ?_, h.at_, h.bit, ?_, fun l hl => ?_, h.up⟩
 ·obtain ⟨h1, h2, h3⟩ := h.has j y hj hy
  have hlt := up_at h.up hy h.at_ hj
  have hap := h.hi.apart y p h1 h.bit hlt
  refine ⟨h1, by rw [zgq (by omega)]; exact h2, fun l hl => ?_⟩
  rw [List.getElem?_set_ne (by omega)]; exact h3 l hl
 ·rw [zgq (by omega)]; exact h.size
 ·by_cases hlk : l = k
  ·subst hlk
   rw [List.getElem?_set_self (by omega)]
  ·rw [List.getElem?_set_ne (by omega)]; exact h.wd l (by omega)
theorem KW.done (h : KW W B e L s wv i p (s i)) : K1 W B e L s wv (i + 1) := by
 refine ⟨h.hi, h.len, h.top, h.ln, fun j y hy => ?_, h.up⟩
 have hj := (List.getElem?_eq_some_iff.1 hy).1
 rw [h.ln] at hj
 by_cases hji : j = i
 ·subst hji
  obtain rfl : p = y := Option.some.inj (h.at_.symm.trans hy)
  exact ⟨h.bit, h.size, h.wd⟩
 ·exact h.has j y (by omega) hy
structure K3 (W B : List Nat) (e : Nat) (L : List Nat) (s : Nat → Nat) (wv : Nat → Nat → Nat) (g : Nat → Bool) (n i to : Nat) : Prop where
 hi : HI W B e
 len : W.length = 60000
 top : e ≤ 256 * n
 ln : L.length = n
 toe : to ≤ e
 has : ∀ j y, L[j]? = some y → i ≤ j ∨ g j = false → Has W B s wv j y
 lo : ∀ j y, L[j]? = some y → j < i → g j = false → y + 1 + s j ≤ to
 up : ∀ j y, L[j]? = some y → i ≤ j → to ≤ y
 inc : ∀ j l y z, L[j]? = some y → L[l]? = some z → i ≤ j → j < l → y < z
 clear : Clear W B to
 num : (placesTo B to).length = cnt g i
variable {g : Nat → Bool} {n to : Nat}
theorem K1.start (h : K1 W B e L s wv n) : K3 W B e L s wv g n 0 0 :=
 ⟨h.hi, h.len, h.top, h.ln, Nat.zero_le _, fun j y hy _ => h.has j y hy, fun j y _ hj => absurd hj (Nat.not_lt_zero j), fun _ y _ _ => Nat.zero_le y, fun j l y z h1 h2 _ h3 => up_at h.up h1 h2 h3, fun j hj => absurd hj (Nat.not_lt_zero j), rfl⟩
theorem K3.skip (h : K3 W B e L s wv g n i to) (hg : g i = true) : K3 W B e L s wv g n (i + 1) to := by
 refine ⟨h.hi, h.len, h.top, h.ln, h.toe, fun j y hy hj => h.has j y hy (hj.imp (fun h => by omega) id), fun j y hy hj hgj => ?_, fun j y hy hj => h.up j y hy (by omega), fun j l y z h1 h2 h3 h4 => h.inc j l y z h1 h2 (by omega) h4, h.clear, ?_⟩
 ·by_cases hji : j = i
  ·subst hji; rw [hg] at hgj; cases hgj
  ·exact h.lo j y hy (by omega) hgj
 ·rw [h.num, zcg, if_pos hg]; rfl
theorem K3.move (h : K3 W B e L s wv g n i to) (hg : g i = false) {f : Nat} (hf : L[i]? = some f) {B' : List Nat} (hB : Cleared B to (f + 1) B') :
  K3 (setAll W to ((W.drop f).take (hd W f + 1))) (setBit B' to) e (L.set i to) s wv g n (i + 1) (to + s i + 1) := by
 have hilt := (List.getElem?_eq_some_iff.1 hf).1
 obtain ⟨b1, b2, b3⟩ := h.has i f hf (.inl (Nat.le_refl _))
 have htf := h.up i f hf (Nat.le_refl _)
 have hin := h.hi.inn f b1
 have htop := h.hi.top
 obtain ⟨hHI, hbit⟩ := h.hi.move b1 htf h.clear hB
 have hL : ((W.drop f).take (hd W f + 1)).length = hd W f + 1 := by simp; omega
 have hl : to + ((W.drop f).take (hd W f + 1)).length ≤ W.length := by rw [hL]; omega
 have hold : ∀ x, (x < to ∨ to + s i + 1 ≤ x) → (setAll W to ((W.drop f).take (hd W f + 1)))[x]? = W[x]? := by
  intro x hx
  rw [zoh _ _ _ _ hl, if_neg (by rw [hL]; omega)]
 have hnew : ∀ x, x ≤ s i → (setAll W to ((W.drop f).take (hd W f + 1)))[to + x]? = W[f + x]? := by
  intro x hx
  rw [zoh _ _ _ _ hl, if_pos (by rw [hL]; omega), List.getElem?_take, if_pos (by omega), List.getElem?_drop]
  congr 1; omega
 have hhd : ∀ x, (x < to ∨ to + s i + 1 ≤ x) → hd (setAll W to ((W.drop f).take (hd W f + 1))) x = hd W x := fun x hx => zgo (hold x hx)
 have hht : hd (setAll W to ((W.drop f).take (hd W f + 1))) to = s i := by
  rw [← b2]
  exact zgo (x := to) (y := f) (hnew 0 (Nat.zero_le _))
 have hset : ∀ j y, (L.set i to)[j]? = some y → (j = i ∧ y = to) ∨ (j ≠ i ∧ L[j]? = some y) := by
  intro j y hy
  by_cases hji : j = i
  ·subst hji
   rw [List.getElem?_set_self hilt] at hy
   exact .inl ⟨rfl, (Option.some.inj hy).symm⟩
  ·rw [List.getElem?_set_ne (Ne.symm hji)] at hy
   exact .inr ⟨hji, hy⟩
 have hbt : bitAt (setBit B' to) to = true := by rw [hbit]; simp
 have hfar : ∀ j y, L[j]? = some y → i < j → f + s i + 1 ≤ y ∧ bitAt B y = true := by
  intro j y hy hj
  have hby := (h.has j y hy (.inl (by omega))).1
  have := h.hi.apart f y b1 hby (h.inc i j f y hf hy (Nat.le_refl _) hj)
  exact ⟨by omega, hby⟩
 have hbit' : ∀ x, x < to → bitAt (setBit B' to) x = bitAt B x := by
  intro x hx
  rw [hbit]
  have h1 : ¬ to ≤ x := by omega
  have h2 : ¬ x = to := by omega
  simp [h1, h2]
 refine ⟨hHI, by rw [zoj]; exact h.len, h.top, by rw [List.length_set]; exact h.ln, by omega, fun j y hy hj => ?_, fun j y hy hj hgj => ?_, fun j y hy hj => ?_, fun j l y z h1 h2 h3 h4 => ?_, ?_, ?_⟩
 ·rcases hset j y hy with ⟨rfl, rfl⟩ | ⟨hji, hy⟩
  ·refine ⟨hbt, hht, fun k hk => ?_⟩
   have := hnew (1 + k) (by omega)
   rw [← Nat.add_assoc, ← Nat.add_assoc] at this
   rw [this]; exact b3 k hk
  ·rcases Nat.lt_or_ge j i with hlt | hge
   ·have hgj : g j = false := hj.resolve_left (by omega)
    obtain ⟨c1, c2, c3⟩ := h.has j y hy (.inr hgj)
    have hlo := h.lo j y hy hlt hgj
    refine ⟨by rw [hbit' y (by omega)]; exact c1, by rw [hhd y (.inl (by omega))]; exact c2, fun k hk => ?_⟩
    rw [hold _ (.inl (by omega))]; exact c3 k hk
   ·obtain ⟨hy2, _⟩ := hfar j y hy (by omega)
    obtain ⟨c1, c2, c3⟩ := h.has j y hy (.inl (by omega))
    have h1 : ¬ y < f + 1 := by omega
    refine ⟨by rw [hbit, c1]; simp [h1], by rw [hhd y (.inr (by omega))]; exact c2, fun k hk => ?_⟩
    rw [hold _ (.inr (by omega))]; exact c3 k hk
 ·rcases hset j y hy with ⟨rfl, rfl⟩ | ⟨hji, hy⟩
  ·omega
  ·have := h.lo j y hy (by omega) hgj; omega
 ·rcases hset j y hy with ⟨rfl, rfl⟩ | ⟨hji, hy⟩
  ·omega
  ·have := (hfar j y hy (by omega)).1; omega
 ·rcases hset j y h1 with ⟨rfl, rfl⟩ | ⟨hji, hy⟩
  ·omega
  ·rcases hset l z h2 with ⟨rfl, rfl⟩ | ⟨hli, hz⟩
   ·omega
   ·exact h.inc j l y z hy hz (by omega) h4
 ·intro y hy hby
  rcases Nat.lt_trichotomy y to with hlt | rfl | hgt
  ·rw [hbit' y hlt] at hby
   have := h.clear y hlt hby
   rw [hhd y (.inl hlt)]; omega
  ·rw [hht]; omega
  ·have := hHI.apart to y hbt hby hgt
   rw [hht] at this
   omega
 ·have h1 : placesTo (setBit B' to) (to + s i + 1) = placesTo (setBit B' to) (to + 1) := zld (by omega) fun y h2 h3 => by
   cases hby : bitAt (setBit B' to) y with
   | false => rfl
   | true =>
    have := hHI.apart to y hbt hby (by omega)
    rw [hht] at this
    omega
  have h2 : placesTo (setBit B' to) to = placesTo B to := by
   unfold placesTo
   refine List.filter_congr fun x hx => ?_
   exact hbit' x (List.mem_range.1 hx)
  rw [h1, zlc hbt, h2, List.length_append, h.num, zcg, if_neg (by rw [hg]; decide)]
  rfl
theorem K3.cut (h : K3 W B e L s wv g n n to) {B' : List Nat} (hB : Cleared B to e B') :
  HI W B' to ∧ (∀ j y, L[j]? = some y → g j = false → Has W B' s wv j y) ∧ (placesTo B' to).length = cnt g n := by
 have hbit' : ∀ x, x < to → bitAt B' x = bitAt B x := by
  intro x hx
  rw [hB.bit]
  have h1 : ¬ to ≤ x := by omega
  simp [h1]
 refine ⟨h.hi.cut h.toe h.clear hB, fun j y hy hgj => ?_, ?_⟩
 ·obtain ⟨c1, c2, c3⟩ := h.has j y hy (.inr hgj)
  have hj := (List.getElem?_eq_some_iff.1 hy).1
  have hlo := h.lo j y hy (by have := h.ln; omega) hgj
  exact ⟨by rw [hbit' y (by omega)]; exact c1, c2, c3⟩
 ·have h2 : placesTo B' to = placesTo B to := by
   unfold placesTo
   refine List.filter_congr fun x hx => ?_
   exact hbit' x (List.mem_range.1 hx)
  rw [h2, h.num]
end Go.EX


set_option linter.unusedVariables false
set_option linter.unusedSimpArgs false
namespace Go.EX
section
variable {code : Nat → Option XFun} {ext : Calls'}
theorem zjm (c : Heaps code ext) {W B : List Nat} {e : Nat} (hi : HI W B e) {f t : Nat} (hb : bitAt B f = true) (ht : t ≤ f) (hc : Clear W B t) :
  ∃ B', Cleared B t (f + 1) B' ∧ callW code ext 172 [.optr 0 0, int64 f, int64 t] (hMem W B e) = some (int64 0, hMem (setAll W t ((W.drop f).take (hd W f + 1))) (setBit B' t) e) := by
 have hin := hi.inn f hb
 have htop := hi.top
 have hbd := hi.bd
 obtain ⟨w, g1, g2⟩ := zrd (ext := ext) c.small c.c187 c.lz hi t (by omega)
 have hw : w = false := by
  cases w with
  | false => rfl
  | true => exact absurd (g2.1 rfl) ((hi.clear_iff (by omega)).1 hc)
 subst hw
 exact zjj c hi f t (hd W f + 1) hb rfl ht g1
theorem zcz (c : Heaps code ext) {W B : List Nat} {e : Nat} (hi : HI W B e) {t : Nat} (ht : t ≤ e) (hc : Clear W B t) :
  ∃ B', Cleared B t e B' ∧ callW code ext 170 [.optr 0 0, int64 t] (hMem W B e) = some (int64 0, hMem W B' t) := by
 have htop := hi.top
 have hbd := hi.bd
 obtain ⟨w, g1, g2⟩ := zrd (ext := ext) c.small c.c187 c.lz hi t (by omega)
 have hw : w = false := by
  cases w with
  | false => rfl
  | true => exact absurd (g2.1 rfl) ((hi.clear_iff (by omega)).1 hc)
 subst hw
 exact cut_ok c hi t ht g1
end
end Go.EX


set_option linter.unusedVariables false
set_option linter.unusedSimpArgs false
namespace Go.EX
theorem zol (W : List Nat) (k : Nat) : setAll W 0 ((W.drop 0).take k) = W := by
 apply List.ext_getElem?
 intro j
 rw [zoi]
 by_cases h : 0 ≤ j ∧ j < 0 + ((W.drop 0).take k).length ∧ j < W.length
 ·rw [if_pos h]
  have h2 := h.2.1
  simp only [List.drop_zero, List.length_take] at h2 ⊢
  rw [Nat.sub_zero, List.getElem?_take, if_pos (by omega)]
 ·rw [if_neg h]
section
variable {code : Nat → Option XFun} {ext : Calls'}
theorem zo6 (c : Heaps code ext) {W B : List Nat} {e : Nat} (hi : HI W B e) (h : At W B e 0 4 [0, 0]) :
  ∃ B1 B3, B1.length = B.length ∧ B3.length = B.length ∧
   callW code ext 172 [.optr 0 0, int64 0, int64 0] (hMem W B e) = some (int64 0, hMem W B1 e) ∧
   callW code ext 170 [.optr 0 0, int64 3] (hMem W B1 e) = some (int64 0, hMem W B3 3) := by
 have hh : hd W 0 = 2 := h.hd
 have hcl : Clear W B 0 := fun j hj => absurd hj (Nat.not_lt_zero j)
 obtain ⟨B', hB', f1⟩ := zjm (ext := ext) c hi h.bit (Nat.le_refl 0) hcl
 obtain ⟨hi1, bits1⟩ := hi.move h.bit (Nat.le_refl 0) hcl hB'
 rw [zol] at f1 hi1
 have htop := h.top
 have hbit : ∀ j, bitAt (setBit B' 0) j = bitAt B j := fun j => by
  rw [bits1]
  by_cases hj : j = 0
  ·subst hj; simp [h.bit]
  ·have : ¬ j < 1 := by omega
   simp [hj]
 have hcl2 : Clear W (setBit B' 0) 3 := fun j hj hb => by
  rw [hbit] at hb
  by_cases hj0 : j = 0
  ·subst hj0; rw [hh]; decide
  ·have := hi.apart 0 j h.bit hb (by omega)
   rw [hh] at this
   omega
 obtain ⟨B3, hB3, f2⟩ := zcz (ext := ext) c hi1 (t := 3) (by simpa using htop) hcl2
 exact ⟨_, B3, by simp [setBit, hB'.len], by rw [hB3.len]; simp [setBit, hB'.len], f1, f2⟩
theorem zo5 (c : Heaps code ext) {W B : List Nat} {e p room n : Nat} {ws : List Nat} (hi : HI W B e) (h : At W B e 0 4 [n, p + 1]) (g : At W B e p 8 ws) (hw : ws.length = 2 * room) (hp : 0 < p) (sz : Nat) (hsz : sz = 4 + 2 * room) :
  ∃ B1 W2 B2 B3 W3, B1.length = B.length ∧ W2.length = W.length ∧ B2.length = B.length ∧ B3.length = B.length ∧ W3.length = W.length ∧
   callW code ext 172 [.optr 0 0, int64 0, int64 0] (hMem W B e) = some (int64 0, hMem W B1 e) ∧
   callW code ext 172 [.optr 0 0, int64 p, int64 3] (hMem W B1 e) = some (int64 0, hMem W2 B2 e) ∧
   callW code ext 170 [.optr 0 0, int64 sz] (hMem W2 B2 e) = some (int64 0, hMem W2 B3 sz) ∧
   callW code ext 178 [.optr 0 0, int64 0, int64 1, .imm (.val (.int .u64 4))] (hMem W2 B3 sz) = some (int64 0, hMem W3 B3 sz) := by
 have hh : hd W 0 = 2 := h.hd
 have hhp : hd W p = 2 * room := by rw [g.hd, hw]
 have hcl : Clear W B 0 := fun j hj => absurd hj (Nat.not_lt_zero j)
 obtain ⟨B', hB', f1⟩ := zjm (ext := ext) c hi h.bit (Nat.le_refl 0) hcl
 obtain ⟨hi1, bits1⟩ := hi.move h.bit (Nat.le_refl 0) hcl hB'
 rw [zol] at f1 hi1
 have htop := h.top
 have htop2 := g.top
 have ht3 := hi.top
 have hbit : ∀ j, bitAt (setBit B' 0) j = bitAt B j := fun j => by
  rw [bits1]
  by_cases hj : j = 0
  ·subst hj; simp [h.bit]
  ·simp [hj]
 have hp3 : 3 ≤ p := by
  have := hi.apart 0 p h.bit g.bit hp
  rw [hh] at this
  omega
 have l1 : (setBit B' 0).length = B.length := by simp [setBit, hB'.len]
 generalize setBit B' 0 = B1 at *
 have hcl2 : Clear W B1 3 := fun j hj hb => by
  rw [hbit] at hb
  by_cases hj0 : j = 0
  ·subst hj0; rw [hh]; decide
  ·have := hi.apart 0 j h.bit hb (by omega)
   rw [hh] at this
   omega
 have hbp : bitAt B1 p = true := by rw [hbit]; exact g.bit
 obtain ⟨B'', hB'', f2⟩ := zjm (ext := ext) c hi1 hbp hp3 hcl2
 obtain ⟨hi2, bits2⟩ := hi1.move hbp hp3 hcl2 hB''
 rw [hhp] at f2 hi2
 have htl : ((W.drop p).take (2 * room + 1)).length = 2 * room + 1 := by
  rw [List.length_take, List.length_drop]; omega
 have hd0 : hd (setAll W 3 ((W.drop p).take (2 * room + 1))) 0 = 2 := by
  rw [zgp (by rw [htl]; omega), if_neg (by omega), hh]
 have hd3 : hd (setAll W 3 ((W.drop p).take (2 * room + 1))) 3 = 2 * room := by
  rw [zgp (by rw [htl]; omega), if_pos (by rw [htl]; omega)]
  unfold hd at hhp ⊢
  rw [List.getElem?_take, if_pos (by omega), List.getElem?_drop]
  simpa using hhp
 have l2 : (setAll W 3 ((W.drop p).take (2 * room + 1))).length = W.length := zoj _ _ _
 have m2 : (setBit B'' 3).length = B.length := by simp [setBit, hB''.len, l1]
 generalize setAll W 3 ((W.drop p).take (2 * room + 1)) = W2 at *
 generalize setBit B'' 3 = B2 at *
 have hcl3 : Clear W2 B2 sz := fun j hj hb => by
  rw [bits2] at hb
  by_cases hj3 : j = 3
  ·subst hj3; rw [hd3]; omega
  ·simp only [hj3, decide_false, Bool.or_false, Bool.and_eq_true, Bool.not_eq_true', Bool.and_eq_false_iff, decide_eq_false_iff_not] at hb
   obtain ⟨hb1, hb2⟩ := hb
   rw [hbit] at hb1
   by_cases hj0 : j = 0
   ·subst hj0; rw [hd0]; omega
   ·have h1 := hi.apart 0 j h.bit hb1 (by omega)
    rw [hh] at h1
    have h2 := hi.apart p j g.bit hb1 (by omega)
    rw [hhp] at h2
    omega
 obtain ⟨B3, hB3, f3⟩ := zcz (ext := ext) c hi2 (t := sz) (by omega) hcl3
 have hi3 := hi2.cut (a := sz) (by omega) hcl3 hB3
 have hb0 : bitAt B3 0 = true := by
  rw [hB3.bit, bits2, hbit, h.bit]
  have : ¬ sz ≤ 0 := by omega
  simp [this]
 have o := hi3.obj hb0
 rw [hd0] at o
 have f4 : callW code ext 178 [.optr 0 0, int64 0, int64 1, .imm (.val (.int .u64 4))] (hMem W2 B3 sz) = some (int64 0, hMem (W2.set (0 + 1 + 1) 4) B3 sz) := zrj (ext := ext) c.small c.c178 o (k := 1) (v := 4) (by omega)
 exact ⟨B1, W2, B2, B3, _, l1, l2, m2, by rw [hB3.len, m2], by rw [List.length_set, l2], f1, f2, f3, f4⟩
end
end Go.EX


set_option linter.unusedVariables false
set_option linter.unusedSimpArgs false
namespace Go.EX
def numVs (l : List Int) : List Val := l.map fun n => ⟨2, n⟩
theorem zjp (l : List Int) : (numVs l).length = l.length := by simp [numVs]
theorem zjr (l : List Int) (n : Int) : numVs l ++ [⟨2, n⟩] = numVs (l ++ [n]) := by simp [numVs]
theorem zjq (l : List Int) : Nums (numVs l) := fun v hv => by
 obtain ⟨n, _, rfl⟩ := List.mem_map.1 hv
 rfl
section
variable {code : Nat → Option XFun} {ext : Calls'}
abbrev inMem (W B : List Nat) (e : Nat) (vs : List Val) : Mem := if vs = [] then hMem W B e else kMem W B e (.flat (tVal.row vs) false)
abbrev li1Env (fv lv : IV) (vs : List Val) (i : Nat) : Env := [(0, .imm fv), (1, .imm lv), (5, .optr 0 0), (6, if vs = [] then nilS else .osl 1 0 2 vs.length none), (7, int64 i)]
theorem zih (c437 : ∀ n : Int, callW code ext 437 [int64 n] [] = some (valV 2 n, [])) {fv lv : IV} {fs : List Int} (hr : Reads (tInt .i64) fv fs) (hl : fs.length ≤ 1000) (W B : List Nat) (e : Nat) :
  ∀ (k : Nat) (st : St), (∃ i, k + i = fs.length ∧ st.tidy [0, 1, 5, 6, 7] = ⟨0, li1Env fv lv (numVs (fs.take i)) i, inMem W B e (numVs (fs.take i))⟩) →
   ∃ x s', den code ext (.loop [0, 1, 5, 6, 7] x432L1) st = some (x, s') ∧ x ≠ .normal ∧ (x = .exit 0 ∧ s' = ⟨0, li1Env fv lv (numVs fs) fs.length ++ [(35, avb false)], inMem W B e (numVs fs)⟩) := by
 have elen := zl9 hr
 refine ziu _ _ ?_
 rintro k st ⟨i, hk, hst⟩
 rw [hst]
 by_cases hil : i < fs.length
 ·obtain ⟨x, hx⟩ : ∃ x, fs[i]? = some x := ⟨_, List.getElem?_eq_getElem hil⟩
  have hrow : ∃ row off cap, fv = .slice row off fs.length cap ∧ row[off + i]? = some (.val (.int .i64 x)) := by
   obtain ⟨row, off, cap, hiv, _, _, hcut⟩ := zma hr hx
   exact ⟨row, off, cap, hiv, zcw (by simpa [tInt] using hcut)⟩
  obtain ⟨row, off, cap, rfl, hel⟩ := hrow
  have f1 := c437 x
  have htake : fs.take (i + 1) = fs.take i ++ [x] := by rw [List.take_add_one, hx]; rfl
  have hlen : (numVs (fs.take i)).length = i := by rw [zjp, List.length_take]; omega
  obtain ⟨i1, hi1⟩ : ∃ i1, i1 = i + 1 := ⟨_, rfl⟩
  have e1 : (i : Int) < fs.length := by omega
  have e3 : IntKind.wrap .i64 ((i : Int) + 1) = (i1 : Int) := by rw [wrapI64 (by omega) (by omega)]; omega
  have hne : numVs (fs.take i1) ≠ [] := by rw [hi1, htake]; simp [numVs]
  have hl1 : (numVs (fs.take i1)).length = i1 := by rw [zjp, List.length_take]; omega
  have hsn : tVal.row (numVs (fs.take i)) ++ [.val (.int .u8 2), .val (.int .i64 x)] = tVal.row (numVs (fs.take i1)) := by rw [hi1, htake, ← zjr, ← zne]; rfl
  have hvl := zq4 (numVs (fs.take i))
  rw [hlen] at hvl
  have key : ∃ s', den code ext x432L1 ⟨0, li1Env (.slice row off fs.length cap) lv (numVs (fs.take i)) i, inMem W B e (numVs (fs.take i))⟩ = some (.normal, s') ∧ s'.tidy [0, 1, 5, 6, 7] = ⟨0, li1Env (.slice row off fs.length cap) lv (numVs (fs.take i1)) i1, inMem W B e (numVs (fs.take i1))⟩ := by
   refine stepOf ?_
   unfold li1Env inMem
   rw [if_neg hne, if_neg hne, hl1]
   by_cases h0 : i = 0
   ·subst h0
    have hi11 : i1 = 1 := by omega
    subst hi11
    have hz : numVs (fs.take 0) = [] := rfl
    rw [hz] at hsn
    have hsn' : tVal.row (numVs (fs.take 1)) = [.val (.int .u8 2), .val (.int .i64 x)] := hsn.symm
    rw [hz, if_pos rfl, if_pos rfl, hsn']
    simp only [Int.natCast_zero] at e1 e3
    rw [Nat.add_zero] at hel
    generalize fs.length = n at *
    simp -implicitDefEqProofs [x432L1, f1, hel, e1, e3, hil, exAppendX, exAppend, elems, show IntKind.wrap .i64 1 = 1 from rfl]
   ·have hne0 : numVs (fs.take i) ≠ [] := fun hh => by rw [hh] at hlen; simp at hlen; omega
    rw [if_neg hne0, if_neg hne0, hlen, ← hsn]
    have hcut2 : cut (tVal.row (numVs (fs.take i))) 0 (i * 2) = some (tVal.row (numVs (fs.take i))) := zcq _ hvl
    have e5 : i1 * 16 ≤ 140737488355328 := by omega
    have e6 : i + 1 = i1 := hi1.symm
    clear hsn hne hl1 hlen htake hne0
    generalize tVal.row (numVs (fs.take i)) = R0 at *
    generalize fs.length = n at *
    simp -implicitDefEqProofs [x432L1, f1, hel, hcut2, e1, e3, e5, e6, hil, exAppendX, exAppend, elems]
  obtain ⟨s', g1, g2⟩ := key
  exact ⟨.normal, s', g1, .inl ⟨rfl, k - 1, by omega, i1, by omega, g2⟩⟩
 ·have hie : i = fs.length := by omega
  rw [hie, List.take_length]
  refine ⟨.exit 0, ⟨0, li1Env fv lv (numVs fs) fs.length ++ [(35, avb false)], inMem W B e (numVs fs)⟩, ?_, .inr ⟨by simp, rfl, rfl⟩⟩
  unfold li1Env inMem
  by_cases hn : numVs fs = []
  ·rw [if_pos hn, if_pos hn]
   generalize fs.length = n at *
   simp -implicitDefEqProofs [x432L1, elen]
  ·rw [if_neg hn, if_neg hn]
   generalize fs.length = n at *
   generalize (numVs fs).length = n2 at *
   generalize tVal.row (numVs fs) = R0 at *
   simp -implicitDefEqProofs [x432L1, elen]
end
end Go.EX


set_option linter.unusedVariables false
set_option linter.unusedSimpArgs false
namespace Go.EX
theorem i64_wf {x : Int} (h : (tInt .i64).wf x) : -9223372036854775808 ≤ x ∧ x ≤ 9223372036854775807 := by
 have h : (Lit.int .i64 x).wf = true := h
 simp [Lit.wf, IntKind.min, IntKind.max, IntKind.bits, IntKind.signed] at h
 omega
structure LI (room : Nat) (vs : List Val) (W B : List Nat) (e : Nat) : Prop where
 hi : HI W B e
 row : LM W B e 0 4 room vs
 sz : W.length = 20000
 szB : B.length = 313
 cap : e ≤ 5 * room + 4
 none : vs = [] → room = 0
 rb : room ≤ 1200
 ok : ∀ v ∈ vs, v.ok3
section
variable {code : Nat → Option XFun} {ext : Calls'}
def l2St (lv : IV) (room : Nat) (vs : List Val) (i : Nat) (W B : List Nat) (e : Nat) : St :=
 if vs = [] then ⟨0, [(1, .imm lv), (5, .optr 0 0), (6, nilS), (8, .optr 1 0), (9, int64 0), (10, int64 room), (11, int64 i)], [.rich [.osl 2 0 1 20000 (some 20000), .osl 3 0 1 313 (some 313), int64 e], .rich [uint8 4, int64 0], .flat (urow W) false, .flat (urow B) false]⟩
 else ⟨0, [(1, .imm lv), (5, .optr 0 0), (6, .osl 1 0 2 vs.length none), (8, .optr 2 0), (9, int64 0), (10, int64 room), (11, int64 i)], [.rich [.osl 3 0 1 20000 (some 20000), .osl 4 0 1 313 (some 313), int64 e], .flat (tVal.row vs) false, .rich [uint8 4, int64 0], .flat (urow W) false, .flat (urow B) false]⟩
theorem zh3 (c : RowCode code) {lv : IV} {fs ls : List Int} (hf : fs.length ≤ 300) (hr : Reads (tInt .i64) lv ls) (hl : ls.length ≤ 300) {i room : Nat} (hil : i < ls.length) {W B : List Nat} {e : Nat} (h : LI room (numVs (fs ++ ls.take i)) W B e) :
  ∃ s' room' W' B' e', den code ext x432L2 (l2St lv room (numVs (fs ++ ls.take i)) i W B e) = some (.normal, s') ∧ LI room' (numVs (fs ++ ls.take (i + 1))) W' B' e' ∧ s'.tidy [1, 5, 6, 8, 9, 10, 11] = l2St lv room' (numVs (fs ++ ls.take (i + 1))) (i + 1) W' B' e' := by
 obtain ⟨x, hx⟩ : ∃ x, ls[i]? = some x := ⟨_, List.getElem?_eq_getElem hil⟩
 have hrow : ∃ row off cap, lv = .slice row off ls.length cap ∧ row[off + i]? = some (.val (.int .i64 x)) := by
  obtain ⟨row, off, cap, hiv, _, _, hcut⟩ := zma hr hx
  exact ⟨row, off, cap, hiv, zcw (by simpa [tInt] using hcut)⟩
 have hwx : (tInt .i64).wf x := hr.1 x (List.mem_of_getElem? hx)
 obtain ⟨row, off, cap, rfl, hel⟩ := hrow
 have htake : ls.take (i + 1) = ls.take i ++ [x] := by rw [List.take_add_one, hx]; rfl
 have hlen : (numVs (fs ++ ls.take i)).length = fs.length + i := by rw [zjp, List.length_append, List.length_take]; omega
 have hvs : numVs (fs ++ ls.take (i + 1)) = numVs (fs ++ ls.take i) ++ [⟨2, x⟩] := by rw [htake, zjr, List.append_assoc]
 have hok3 : Val.ok3 ⟨2, x⟩ := ⟨show (0 : Int) ≤ 2 by decide, show (2 : Int) ≤ 255 by decide, (i64_wf hwx).1, (i64_wf hwx).2⟩
 rw [hvs]
 generalize numVs (fs ++ ls.take i) = vs at *
 have hfit := h.row.fit
 have hcap := h.cap
 have hroom := h.rb
 obtain ⟨W', B', e', r, g1, g2, f1⟩ := zai (code := code) (ext := ext) c h.hi h.row (x := ⟨2, x⟩) (by omega) (.inl rfl) hok3 h.ok (by rw [h.sz]; omega)
 have f1 : callW code ext 602 [.optr 0 0, valV 4 0, valV 2 (vs.length : Int), valV 2 x] (hMem W B e) = some (int64 0, hMem W' B' e') := f1
 have c437 : ∀ n : Int, callW code ext 437 [int64 n] [] = some (valV 2 n, []) := fun n => by
  rw [zbw code ext c.c437]
  simp -implicitDefEqProofs [x437]
 have hLI : LI r (vs ++ [⟨2, x⟩]) W' B' e' := by
  refine ⟨g1.hi, g1.row, by rw [g1.sz, h.sz], by rw [g1.szB, h.szB], ?_, fun hh => by simp at hh, ?_, fun v hv => ?_⟩
  ·rcases g2 with ⟨a1, a2, a3⟩ | ⟨a1, a2, a3⟩
   ·omega
   ·by_cases h0 : room = 0
    ·subst h0; simp at a2; omega
    ·omega
  ·rcases g2 with ⟨a1, a2, a3⟩ | ⟨a1, a2, a3⟩ <;> omega
  ·rcases List.mem_append.1 hv with h4 | h4
   ·exact h.ok v h4
   ·rw [List.mem_singleton.1 h4]; exact hok3
 have z1 := g1.sz
 have z2 := g1.szB
 have z3 := h.sz
 have z4 := h.szB
 rw [z3] at z1
 rw [z4] at z2
 simp only [hMem, z1, z2, z3, z4] at f1
 obtain ⟨i1, hi1⟩ : ∃ i1, i1 = i + 1 := ⟨_, rfl⟩
 rw [← hi1]
 have e1 : (i : Int) < ls.length := by omega
 have e3 : IntKind.wrap .i64 ((i : Int) + 1) = (i1 : Int) := by rw [wrapI64 (by omega) (by omega)]; omega
 obtain ⟨r2, hr2⟩ : ∃ r2 : Nat, r2 = 2 * room := ⟨_, rfl⟩
 have e4 : IntKind.wrap .i64 (2 * (room : Int)) = (r2 : Int) := by rw [wrapI64 (by omega) (by omega)]; omega
 have hne : vs ++ [⟨2, x⟩] ≠ [] := by simp
 have hl1 : (vs ++ [⟨2, x⟩] : List Val).length = vs.length + 1 := by simp
 have henc : tVal.row (vs ++ [⟨2, x⟩]) = tVal.row vs ++ [.val (.int .u8 2), .val (.int .i64 x)] := (zne ..).symm
 obtain ⟨n1, hn1⟩ : ∃ n1, n1 = vs.length + 1 := ⟨_, rfl⟩
 have key : ∃ s', den code ext x432L2 (l2St (.slice row off ls.length cap) room vs i W B e) = some (.normal, s') ∧ s'.tidy [1, 5, 6, 8, 9, 10, 11] = l2St (.slice row off ls.length cap) r (vs ++ [⟨2, x⟩]) i1 W' B' e' := by
  refine stepOf ?_
  unfold l2St
  rw [if_neg hne, hl1, henc, ← hn1]
  by_cases h0 : vs = []
  ·have hr0 := h.none h0
   subst h0 hr0
   simp only [List.length_nil, Int.natCast_zero] at f1 hn1 e4 g2
   have hr4 : r = 4 := by rcases g2 with ⟨a, _⟩ | ⟨_, a, _⟩ <;> simp at a <;> omega
   subst hn1 hr4
   rw [if_pos rfl]
   have hz : tVal.row [] = [] := rfl
   rw [hz, List.nil_append]
   have hr20 : r2 = 0 := by omega
   subst hr20
   have c0 := c437 0
   have cx := c437 x
   generalize ls.length = n at *
   simp -implicitDefEqProofs [x432L2, f1, c0, cx, hel, e1, e3, hil, exAppendX, exAppend, elems, show IntKind.wrap .i64 1 = 1 from rfl, show IntKind.wrap .i64 0 = 0 from rfl]
  ·rw [if_neg h0]
   have hcut2 : cut (tVal.row vs) 0 (vs.length * 2) = some (tVal.row vs) := zcq _ (zq4 vs)
   have e5 : n1 * 16 ≤ 140737488355328 := by omega
   have e6 : vs.length + 1 = n1 := hn1.symm
   have c0 := c437 vs.length
   have cx := c437 x
   have hvl := zq4 vs
   clear henc hl1 hne hvs hLI hok3
   rcases g2 with ⟨a1, a2, a3⟩ | ⟨a1, a2, a3⟩
   ·have b1 : ¬ (room : Int) < n1 := by omega
    have b1' : ¬ room < n1 := by omega
    subst a2
    generalize tVal.row vs = R0 at *
    generalize vs.length = n0 at *
    generalize ls.length = n at *
    simp -implicitDefEqProofs [x432L2, f1, c0, cx, hel, e1, e3, e5, e6, hcut2, hil, b1, b1', exAppendX, exAppend, elems]
   ·have b1 : (room : Int) < n1 := by omega
    have b1' : room < n1 := by omega
    by_cases b2 : (4 : Int) < r2
    ·have hrr : r = r2 := by omega
     have b2' : 4 < r2 := by omega
     subst hrr
     generalize tVal.row vs = R0 at *
     generalize vs.length = n0 at *
     generalize ls.length = n at *
     simp -implicitDefEqProofs [x432L2, f1, c0, cx, hel, e1, e3, e4, e5, e6, hcut2, hil, b1, b1', b2, b2', exAppendX, exAppend, elems]
    ·have hrr : r = 4 := by omega
     have b2' : ¬ 4 < r2 := by omega
     subst hrr
     generalize tVal.row vs = R0 at *
     generalize vs.length = n0 at *
     generalize ls.length = n at *
     simp -implicitDefEqProofs [x432L2, f1, c0, cx, hel, e1, e3, e4, e5, e6, hcut2, hil, b1, b1', b2, b2', exAppendX, exAppend, elems]
 obtain ⟨s', k1, k2⟩ := key
 exact ⟨s', r, W', B', e', k1, hLI, k2⟩
end
end Go.EX


set_option linter.unusedVariables false
namespace Go.EX
def x432E : XCode :=
 (.seq (.region [5, 6, 8, 9, 10, 12, 13] [⟨(some 91), .mv (.t 5), none⟩,
  ⟨(some 92), .load (some 2) (.t 8), none⟩,
  ⟨(some 93), .call .look 593 [(.t 91), (.t 92)], none⟩,
  ⟨(some 90), .mv (.t 93), none⟩,
  ⟨(some 94), .extract (.t 90) 0, none⟩,
  ⟨(some 95), .extract (.t 90) 1, none⟩,
  ⟨(some 12), .mv (.t 94), none⟩,
  ⟨(some 13), .mv (.t 95), none⟩])
 (.seq (.region [5, 6, 8, 9, 10, 12, 13, 14, 15, 16] [⟨(some 97), .mv (.t 5), none⟩,
  ⟨(some 98), .load (some 2) (.t 8), none⟩,
  ⟨(some 99), .call .share 600 [(.t 97), (.t 98)], none⟩,
  ⟨(some 96), .mv (.t 99), none⟩,
  ⟨(some 100), .extract (.t 96) 0, none⟩,
  ⟨(some 101), .extract (.t 96) 1, none⟩,
  ⟨(some 102), .extract (.t 96) 2, none⟩,
  ⟨(some 15), .alloc [(.int .u8 0), (.int .i64 0)], none⟩,
  ⟨(some 14), .mv (.t 100), none⟩,
  ⟨none, .store 2 (.t 15) (.t 101), none⟩,
  ⟨(some 16), .mv (.t 102), none⟩])
 (.seq (.seq (.region [5, 8, 10, 136] [⟨(some 103), .mv (.t 9), none⟩,
  ⟨(some 104), .bin .neq (.t 103) (.c (.int .i64 0)), none⟩,
  ⟨(some 105), .mv (.t 104), none⟩,
  ⟨(some 106), .mv (.t 13), some (105, false)⟩,
  ⟨(some 107), .bin .neq (.t 106) (.c (.int .i64 0)), some (105, false)⟩,
  ⟨(some 108), .pick (.t 105) (.c (.bool true)) (.t 107), none⟩,
  ⟨(some 109), .mv (.t 108), none⟩,
  ⟨(some 110), .mv (.t 16), some (109, false)⟩,
  ⟨(some 111), .bin .neq (.t 110) (.c (.int .i64 0)), some (109, false)⟩,
  ⟨(some 112), .pick (.t 109) (.c (.bool true)) (.t 111), none⟩,
  ⟨(some 113), .mv (.t 112), none⟩,
  ⟨(some 114), .mv (.t 12), some (113, false)⟩,
  ⟨(some 115), .mv (.t 6), some (113, false)⟩,
  ⟨(some 116), .call .peek 357 [(.t 114), (.t 115)], some (113, false)⟩,
  ⟨(some 117), .un .not (.t 116), some (113, false)⟩,
  ⟨(some 118), .pick (.t 113) (.c (.bool true)) (.t 117), none⟩,
  ⟨(some 119), .mv (.t 118), none⟩,
  ⟨(some 120), .mv (.t 14), some (119, false)⟩,
  ⟨(some 121), .len (.t 120), some (119, false)⟩,
  ⟨(some 122), .bin .neq (.t 121) (.c (.int .i64 1)), some (119, false)⟩,
  ⟨(some 123), .pick (.t 119) (.c (.bool true)) (.t 122), none⟩,
  ⟨(some 124), .mv (.t 123), none⟩,
  ⟨(some 125), .mv (.t 14), some (124, false)⟩,
  ⟨(some 126), .idxA 5 (.t 125) (.c (.int .i64 0)), some (124, false)⟩,
  ⟨(some 127), .fieldA 3 (.t 126), some (124, false)⟩,
  ⟨(some 128), .load none (.t 127), some (124, false)⟩,
  ⟨(some 129), .mv (.t 10), some (124, false)⟩,
  ⟨(some 130), .bin .neq (.t 128) (.t 129), some (124, false)⟩,
  ⟨(some 131), .pick (.t 124) (.c (.bool true)) (.t 130), none⟩,
  ⟨(some 132), .mv (.t 131), none⟩,
  ⟨(some 133), .load (some 2) (.t 15), some (132, false)⟩,
  ⟨(some 134), .build [(.int .u8 0), (.int .i64 0)] [(0, 1, (.c (.int .u8 4))), (1, 1, (.c (.int .i64 1)))], some (132, false)⟩,
  ⟨(some 135), .eqCells true [0, 0] (.t 133) (.t 134), some (132, false)⟩,
  ⟨(some 136), .pick (.t 132) (.c (.bool true)) (.t 135), none⟩])
 (.cond (.t 136)
  (.seq (.region [4] [⟨(some 4), .mv (.c (.bool false)), none⟩])
  .ret)
  .skip))
 (.seq (.region [5, 9, 10] [⟨(some 138), .mv (.t 5), none⟩,
  ⟨(some 139), .load (some 2) (.t 8), none⟩,
  ⟨(some 140), .buildSlice 2 [(.int .u8 0), (.int .i64 0)] 1 [(0, 2, (.t 139))], none⟩,
  ⟨(some 141), .call .share 290 [(.t 138), (.t 140)], none⟩,
  ⟨(some 137), .mv (.t 141), none⟩,
  ⟨(some 142), .extract (.t 137) 0, none⟩,
  ⟨(some 143), .extract (.t 137) 1, none⟩,
  ⟨(some 9), .mv (.t 143), none⟩])
 (.seq (.region [5, 9, 10, 17] [⟨(some 17), .mv (.c (.int .i64 3)), none⟩])
 (.seq (.seq (.region [5, 9, 10, 17, 145] [⟨(some 144), .mv (.t 10), none⟩,
  ⟨(some 145), .bin .gtr (.t 144) (.c (.int .i64 0)), none⟩])
 (.cond (.t 145)
  (.region [5, 9, 17] [⟨(some 146), .mv (.t 10), none⟩,
   ⟨(some 147), .bin .mul (.c (.int .i64 2)) (.t 146), none⟩,
   ⟨(some 148), .bin .add (.c (.int .i64 4)) (.t 147), none⟩,
   ⟨(some 17), .mv (.t 148), none⟩])
  .skip))
 (.seq (.region [4] [⟨(some 149), .mv (.t 9), none⟩,
  ⟨(some 150), .bin .eql (.t 149) (.c (.int .i64 0)), none⟩,
  ⟨(some 151), .mv (.t 150), none⟩,
  ⟨(some 152), .mv (.t 5), some (151, true)⟩,
  ⟨(some 153), .call .peek 176 [(.t 152)], some (151, true)⟩,
  ⟨(some 154), .mv (.t 17), some (151, true)⟩,
  ⟨(some 155), .bin .eql (.t 153) (.t 154), some (151, true)⟩,
  ⟨(some 156), .pick (.t 151) (.t 155) (.c (.bool false)), none⟩,
  ⟨(some 4), .mv (.t 156), none⟩])
 .ret)))))))
def x432H : XFun := ⟨[.tmp 4],
 (.seq (.region [0, 1] [⟨(some 4), .mv (.c (.bool false)), none⟩])
 (.seq (.seq (.region [0, 1, 29] [⟨(some 18), .call .view 434 [], none⟩,
  ⟨(some 19), .un .not (.t 18), none⟩,
  ⟨(some 20), .mv (.t 19), none⟩,
  ⟨(some 21), .mv (.t 0), some (20, false)⟩,
  ⟨(some 22), .len (.t 21), some (20, false)⟩,
  ⟨(some 23), .bin .gtr (.t 22) (.c (.int .i64 300)), some (20, false)⟩,
  ⟨(some 24), .pick (.t 20) (.c (.bool true)) (.t 23), none⟩,
  ⟨(some 25), .mv (.t 24), none⟩,
  ⟨(some 26), .mv (.t 1), some (25, false)⟩,
  ⟨(some 27), .len (.t 26), some (25, false)⟩,
  ⟨(some 28), .bin .gtr (.t 27) (.c (.int .i64 300)), some (25, false)⟩,
  ⟨(some 29), .pick (.t 25) (.c (.bool true)) (.t 28), none⟩])
 (.cond (.t 29)
  (.seq (.region [4] [⟨(some 30), .call .view 434 [], none⟩,
   ⟨(some 4), .mv (.t 30), none⟩])
  .ret)
  .skip))
 (.seq (.region [0, 1, 5] [⟨(some 31), .call .own 436 [(.c (.int .i64 20000))], none⟩,
  ⟨(some 5), .mv (.t 31), none⟩])
 (.seq (.region [0, 1, 5, 6] [⟨(some 6), .mv (.c (.slice none 0 0)), none⟩])
 (.seq (.seq (.region [0, 1, 5, 6, 7] [⟨(some 7), .mv (.c (.int .i64 0)), none⟩])
 (.block 0 (.loop [0, 1, 5, 6, 7] x432L1)))
 (.seq (.region [0, 1, 5, 6, 8, 9] [⟨(some 47), .mv (.t 5), none⟩,
  ⟨(some 48), .mv (.t 6), none⟩,
  ⟨(some 49), .call .share 597 [(.t 47), (.t 48)], none⟩,
  ⟨(some 46), .mv (.t 49), none⟩,
  ⟨(some 50), .extract (.t 46) 0, none⟩,
  ⟨(some 51), .extract (.t 46) 1, none⟩,
  ⟨(some 8), .alloc [(.int .u8 0), (.int .i64 0)], none⟩,
  ⟨none, .store 2 (.t 8) (.t 50), none⟩,
  ⟨(some 9), .mv (.t 51), none⟩])
 (.seq (.region [1, 5, 6, 8, 9, 10] [⟨(some 52), .mv (.t 0), none⟩,
  ⟨(some 53), .len (.t 52), none⟩,
  ⟨(some 10), .mv (.t 53), none⟩])
 (.seq (.seq (.region [1, 5, 6, 8, 9, 10, 11] [⟨(some 11), .mv (.c (.int .i64 0)), none⟩])
 (.block 2 (.loop [1, 5, 6, 8, 9, 10, 11] x432L2)))
 x432E))))))))⟩
theorem zrk : x432 = x432H := rfl
end Go.EX


set_option maxHeartbeats 8000000
set_option linter.unusedVariables false
set_option linter.unusedSimpArgs false
namespace Go.EX
section
variable {code : Nat → Option XFun} {ext : Calls'}
theorem zob (h : code 357 = some x357) : callW code ext 357 [nilS, nilS] [] = some (avb true, []) := by
 rw [zbw code ext h]
 simp -implicitDefEqProofs [x357]
 rw [zc3]
 simp -implicitDefEqProofs [x357L1]
theorem zod {vs : List Val} {c1 c2 : Option Nat} (hl : vs.length ≤ 1000000) : ∀ (k : Nat) (st : St), (∃ i, k + i = vs.length ∧ st.tidy [0, 1, 5] = ⟨2, [(0, .osl 0 0 2 vs.length c1), (1, .osl 1 0 2 vs.length c2), (5, int64 i)], [.flat (tVal.row vs) false, .flat (tVal.row vs) false]⟩) →
  ∃ x s', den code ext (.loop [0, 1, 5] x357L1) st = some (x, s') ∧ x ≠ .normal ∧ (x = .exit 0 ∧ s' = ⟨2, [(0, .osl 0 0 2 vs.length c1), (1, .osl 1 0 2 vs.length c2), (5, int64 vs.length), (14, avb false)], [.flat (tVal.row vs) false, .flat (tVal.row vs) false]⟩) := by
 refine ziu _ _ ?_
 rintro k st ⟨i, hk, hst⟩
 rw [hst]
 by_cases hil : i < vs.length
 ·obtain ⟨v, hvi⟩ : ∃ v, vs[i]? = some v := ⟨_, List.getElem?_eq_getElem hil⟩
  have hcut : cut (tVal.row vs) (i * 2) 2 = some [.val (.int .u8 v.k), .val (.int .i64 v.n)] := zfm (t := tVal) hvi
  obtain ⟨i1, hi1⟩ : ∃ i1, i1 = i + 1 := ⟨_, rfl⟩
  have e1 : (i : Int) < vs.length := by omega
  have e3 : IntKind.wrap .i64 ((i : Int) + 1) = (i1 : Int) := by rw [wrapI64 (by omega) (by omega)]; omega
  generalize tVal.row vs = R at *
  generalize vs.length = n at *
  refine ⟨.normal, ⟨2, [(0, .osl 0 0 2 n c1), (1, .osl 1 0 2 n c2), (5, int64 i1)], [.flat R false, .flat R false]⟩, ?_, .inl ⟨rfl, k - 1, by omega, i1, by omega, by simp -implicitDefEqProofs []⟩⟩
  simp -implicitDefEqProofs [x357L1, hcut, e1, e3, hil, digits, sameCells]
 ·have hie : i = vs.length := by omega
  rw [hie]
  generalize tVal.row vs = R at *
  generalize vs.length = n at *
  refine ⟨.exit 0, ⟨2, [(0, .osl 0 0 2 n c1), (1, .osl 1 0 2 n c2), (5, int64 n), (14, avb false)], [.flat R false, .flat R false]⟩, ?_, .inr ⟨by simp, rfl, rfl⟩⟩
  simp -implicitDefEqProofs [x357L1]
theorem zoc (h : code 357 = some x357) {vs : List Val} {c1 c2 : Option Nat} (hl : vs.length ≤ 1000000) :
  callW code ext 357 [.osl 0 0 2 vs.length c1, .osl 1 0 2 vs.length c2] [.flat (tVal.row vs) false, .flat (tVal.row vs) false] = some (avb true, [.flat (tVal.row vs) false, .flat (tVal.row vs) false]) := by
 obtain ⟨x, s', h1, _, rfl, rfl⟩ := zod (code := code) (ext := ext) (c1 := c1) (c2 := c2) hl vs.length ⟨2, [(0, .osl 0 0 2 vs.length c1), (1, .osl 1 0 2 vs.length c2), (5, int64 0)], [.flat (tVal.row vs) false, .flat (tVal.row vs) false]⟩ ⟨0, rfl, by
  generalize tVal.row vs = R at *
  generalize vs.length = n at *
  simp -implicitDefEqProofs []⟩
 generalize tVal.row vs = R at *
 generalize vs.length = n at *
 rw [zbw code ext h]
 simp -implicitDefEqProofs [x357, h1]
structure ListCode (code : Nat → Option XFun) (ext : Calls') : Prop extends PlainCode code where
 heaps : Heaps code ext
 c357 : code 357 = some x357
 sort : SortOk code ext
theorem zh2 (c : RowCode code) {lv : IV} {fs ls : List Int} (hf : fs.length ≤ 300) (hr : Reads (tInt .i64) lv ls) (hl : ls.length ≤ 300) :
  ∀ (k : Nat) (st : St), (∃ i room W B e, k + i = ls.length ∧ LI room (numVs (fs ++ ls.take i)) W B e ∧ st.tidy [1, 5, 6, 8, 9, 10, 11] = l2St lv room (numVs (fs ++ ls.take i)) i W B e) →
   ∃ x s', den code ext (.loop [1, 5, 6, 8, 9, 10, 11] x432L2) st = some (x, s') ∧ x ≠ .normal ∧ (x = .exit 2 ∧ ∃ room W B e, LI room (numVs (fs ++ ls)) W B e ∧ s' = ⟨0, (l2St lv room (numVs (fs ++ ls)) ls.length W B e).env ++ [(61, avb false)], (l2St lv room (numVs (fs ++ ls)) ls.length W B e).mem⟩) := by
 have elen := zl9 hr
 refine ziu _ _ ?_
 rintro k st ⟨i, room, W, B, e, hk, hLI, hst⟩
 rw [hst]
 by_cases hil : i < ls.length
 ·obtain ⟨s', r', W', B', e', g1, g2, g3⟩ := zh3 (code := code) (ext := ext) c hf hr hl hil hLI
  exact ⟨.normal, s', g1, .inl ⟨rfl, k - 1, by omega, i + 1, r', W', B', e', by omega, g2, g3⟩⟩
 ·have hie : i = ls.length := by omega
  subst hie
  rw [List.take_length] at hLI ⊢
  refine ⟨.exit 2, _, ?_, .inr ⟨by simp, rfl, room, W, B, e, hLI, rfl⟩⟩
  unfold l2St
  by_cases h0 : numVs (fs ++ ls) = []
  ·rw [if_pos h0]
   generalize ls.length = n at *
   simp -implicitDefEqProofs [x432L2, elen]
  ·rw [if_neg h0]
   generalize tVal.row (numVs (fs ++ ls)) = R0 at *
   generalize (numVs (fs ++ ls)).length = n0 at *
   generalize ls.length = n at *
   simp -implicitDefEqProofs [x432L2, elen]
theorem zdn (c : ListCode code ext) {lv : IV} {i : Nat} {W B : List Nat} {e : Nat} (h : LI 0 [] W B e) :
  ∃ M, den code ext x432E ⟨0, (l2St lv 0 [] i W B e).env ++ [(61, avb false)], (l2St lv 0 [] i W B e).mem⟩ = some (.ret, ⟨0, [(4, avb true)], M⟩) := by
 have hi := h.hi
 have hat : At W B e 0 4 [0, 0] := by
  rcases h.row with ⟨_, _, h3⟩ | ⟨h1, _⟩
  ·exact h3
  ·omega
 have f1 := zac (ext := ext) c.toRowCode hi h.row (by decide)
 have f2 := zah (ext := ext) c.toPlainCode c.sort hi hat
 have f3 := zob (ext := ext) c.c357
 obtain ⟨B1, B3, b1, b3, s1, s2⟩ := zo6 (ext := ext) c.heaps hi hat
 have f4 := zab (ext := ext) c.toGcCode c.sort hi hat rfl b1 b3 s1 s2
 have f5 := zqx (ext := ext) c.c176 W B3 3
 have z3 := h.sz
 have z4 := h.szB
 have g2 : gV 3 [] = nilS := rfl
 have g3 : gM [] = [] := rfl
 rw [z4] at b3
 simp only [g2, g3, List.append_nil, hMem, kMem, rootO, z3, z4, b3, Int.natCast_zero, Int.cast_ofNat_Int] at f1 f2 f4 f5
 unfold l2St
 rw [if_pos rfl]
 simp -implicitDefEqProofs [x432E, f1, f2, f3, f4, f5, exLook, exPeek]
theorem zdm (c : ListCode code ext) {lv : IV} {i room : Nat} {vs : List Val} {W B : List Nat} {e : Nat} (h : LI room vs W B e) (hne : vs ≠ []) (hv : Nums vs) (hl : vs.length ≤ 65536) :
  ∃ M, den code ext x432E ⟨0, (l2St lv room vs i W B e).env ++ [(61, avb false)], (l2St lv room vs i W B e).mem⟩ = some (.ret, ⟨0, [(4, avb true)], M⟩) := by
 have hi := h.hi
 obtain ⟨hr, p, hat, g⟩ : 0 < room ∧ ∃ p, At W B e 0 4 [vs.length, p + 1] ∧ ItemsAt W B e p room vs := by
  rcases h.row with ⟨_, h2, _⟩ | h2
  ·exact absurd h2 hne
  ·exact h2
 obtain ⟨ws, gp, hwl, _⟩ := g.vals
 have hp : 0 < p := by
  rcases Nat.eq_zero_or_pos p with h0 | h0
  ·subst h0
   have a1 := gp.head
   rw [hat.head] at a1
   have := Option.some.inj a1
   simp at this
   omega
  ·exact h0
 have f1 := zac (ext := ext) c.toRowCode hi h.row hl
 have f2 := zag (ext := ext) c.toPlainCode c.sort hi hr hat g hv hp hne hl
 have f3 := zoc (code := code) (ext := ext) (c1 := none) (c2 := none) c.c357 (vs := vs) (by omega)
 obtain ⟨sz, hsz⟩ : ∃ sz, sz = 4 + 2 * room := ⟨_, rfl⟩
 obtain ⟨B1, W2, B2, B3, W3, b1, w2, b2, b3, w3, s1, s2, s3, s4⟩ := zo5 (ext := ext) c.heaps hi hat gp hwl hp sz hsz
 have f4 := zaa (ext := ext) c.toGcCode c.sort hi hat g hv hp hsz rfl b1 w2 b2 b3 w3 s1 s2 s3 s4
 have f5 := zqx (ext := ext) c.c176 W3 B3 sz
 have z3 := h.sz
 have z4 := h.szB
 have hrb := h.rb
 have g2 : gV 3 vs = .osl 3 0 2 vs.length none := by unfold gV; rw [if_neg hne]
 have g3 : gM vs = [.flat (tVal.row vs) false] := by unfold gM; rw [if_neg hne]
 rw [z4] at b3
 rw [z3] at w3
 have e1 : (room : Int) > 0 := by omega
 have e1' : (0 : Int) < room := by omega
 obtain ⟨r2, hr2⟩ : ∃ r2 : Nat, r2 = 2 * room := ⟨_, rfl⟩
 have e2 : IntKind.wrap .i64 (2 * (room : Int)) = (r2 : Int) := by rw [wrapI64 (by omega) (by omega)]; omega
 have e3 : IntKind.wrap .i64 (4 + (r2 : Int)) = (sz : Int) := by rw [wrapI64 (by omega) (by omega)]; omega
 clear s1 s2 s3 s4
 simp only [g2, g3, hMem, kMem, rootO, z3, z4, b3, w3, Int.natCast_zero, Int.cast_ofNat_Int] at f1 f2 f4 f5
 unfold l2St
 rw [if_neg hne]
 generalize tVal.row vs = R at *
 generalize vs.length = n at *
 simp -implicitDefEqProofs [x432E, f1, f2, f3, f4, f5, e1, e1', e2, e3, hr, exLook, exPeek]
end
end Go.EX


set_option linter.unusedVariables false
set_option linter.unusedSimpArgs false
namespace Go.EX
section
variable {code : Nat → Option XFun} {ext : Calls'}
theorem zgj (c : TextCode code) : callW code ext 436 [int64 20000] [] = some (.optr 0 0, hMem (List.replicate 20000 0) (List.replicate 313 0) 0) := by
 have h1 : callW code ext 567 [int64 20000] [] = some (.tup [.optr 0 0, int64 0], hMem (List.replicate 20000 0) (List.replicate 313 0) 0) := new_ok (ext := ext) c.c567 20000 (by decide) (by decide)
 have e1 : (List.replicate 20000 (0 : Nat)).length = 20000 := List.length_replicate
 have e2 : (List.replicate 313 (0 : Nat)).length = 313 := List.length_replicate
 generalize List.replicate 20000 (0 : Nat) = W at *
 generalize List.replicate 313 (0 : Nat) = B at *
 simp only [hMem, e1, e2] at h1
 rw [zbw code ext c.c436]
 simp -implicitDefEqProofs [x436, h1, e1, e2]
set_option maxHeartbeats 8000000 in
theorem zjz (c : ListCode code ext) (h432 : code 432 = some x432) (hal : callW code ext 434 [] [] = some (avb true, [])) {fv lv : IV} {fs ls : List Int} (ha : Reads (tInt .i64) fv fs) (hl : Reads (tInt .i64) lv ls) :
  ∃ M, callW code ext 432 [.imm fv, .imm lv] [] = some (avb true, M) := by
 rw [zbw code ext h432, zrk]
 have e1 := zl9 ha
 have e2 := zl9 hl
 by_cases hA : fs.length ≤ 300
 ·by_cases hB : ls.length ≤ 300
  ·have f1 := zgj (code := code) (ext := ext) c.toTextCode
   have hi0 : HI (List.replicate 20000 0) (List.replicate 313 0) 0 := HI.new 20000 (by decide) (by decide)
   have l1 : (List.replicate 20000 (0 : Nat)).length = 20000 := List.length_replicate
   have l2 : (List.replicate 313 (0 : Nat)).length = 313 := List.length_replicate
   generalize List.replicate 20000 (0 : Nat) = W at *
   generalize List.replicate 313 (0 : Nat) = B at *
   have c437 : ∀ n : Int, callW code ext 437 [int64 n] [] = some (valV 2 n, []) := fun n => by
    rw [zbw code ext c.c437]
    simp -implicitDefEqProofs [x437]
   obtain ⟨x, s', f2, _, rfl, rfl⟩ := zih (code := code) (ext := ext) (lv := lv) c437 ha (by omega) W B 0 fs.length ⟨0, [(0, .imm fv), (1, .imm lv), (5, .optr 0 0), (6, nilS), (7, int64 0)], hMem W B 0⟩ ⟨0, rfl, by
    have hz : numVs (fs.take 0) = [] := rfl
    unfold li1Env inMem
    rw [hz, if_pos rfl, if_pos rfl]
    simp -implicitDefEqProofs []⟩
   have hok : ∀ v ∈ numVs fs, v.ok3 := fun v hv => by
    obtain ⟨n, hn, rfl⟩ := List.mem_map.1 hv
    exact ⟨show (0 : Int) ≤ 2 by decide, show (2 : Int) ≤ 255 by decide, (i64_wf (ha.1 n hn)).1, (i64_wf (ha.1 n hn)).2⟩
   have hall : ∀ room W1 B1 e1, LI room (numVs (fs ++ ls)) W1 B1 e1 → ∃ M, den code ext x432E ⟨0, (l2St lv room (numVs (fs ++ ls)) ls.length W1 B1 e1).env ++ [(61, avb false)], (l2St lv room (numVs (fs ++ ls)) ls.length W1 B1 e1).mem⟩ = some (.ret, ⟨0, [(4, avb true)], M⟩) := fun room W1 B1 e1 h => by
    by_cases h0 : numVs (fs ++ ls) = []
    ·have hr0 := h.none h0
     subst hr0
     rw [h0] at h ⊢
     exact zdn c h
    ·exact zdm c h h0 (zjq _) (by rw [zjp, List.length_append]; omega)
   have e3 : ¬ (300 : Int) < fs.length := by omega
   have e3' : ¬ 300 < fs.length := by omega
   have e4 : ¬ (300 : Int) < ls.length := by omega
   have e4' : ¬ 300 < ls.length := by omega
   simp only [hMem, l1, l2, Int.natCast_zero] at f1 f2
   by_cases hn : numVs fs = []
   ·obtain ⟨W1, B1, g1, f3⟩ := zae (code := code) (ext := ext) c.toRowCode hi0 (by omega)
    have z1 := g1.sz
    have z2 := g1.szB
    rw [l1] at z1
    rw [l2] at z2
    have hfs : fs = [] := by
     cases fs with
     | nil => rfl
     | cons a b => simp [numVs] at hn
    subst hfs
    obtain ⟨x2, s2, f4, _, rfl, room, W2, B2, e2', hLI, rfl⟩ := zh2 (code := code) (ext := ext) (fs := []) c.toRowCode (by decide) hl hB ls.length ⟨0, [(1, .imm lv), (5, .optr 0 0), (6, nilS), (8, .optr 3 0), (9, int64 0), (10, int64 0), (11, int64 0)], [.rich [.osl 1 0 1 20000 (some 20000), .osl 2 0 1 313 (some 313), int64 3], .flat (urow W1) false, .flat (urow B1) false, .rich [uint8 4, int64 0]]⟩
     ⟨0, 0, W1, B1, 3, by omega, ⟨g1.hi, g1.row, z1, z2, by decide, fun _ => rfl, by decide, fun v hv => by cases hv⟩, by
      have hz : numVs ([] ++ ls.take 0) = [] := rfl
      unfold l2St; rw [hz, if_pos rfl]; simp -implicitDefEqProofs []⟩
    obtain ⟨M, f5⟩ := hall room W2 B2 e2' hLI
    unfold li1Env inMem at f2
    simp only [hn, if_true] at f2
    simp only [hMem, l1, l2, z1, z2, Int.natCast_zero, List.length_nil] at f2 f3
    generalize (l2St lv room (numVs ([] ++ ls)) ls.length W2 B2 e2').env ++ [(61, avb false)] = E2 at *
    generalize (l2St lv room (numVs ([] ++ ls)) ls.length W2 B2 e2').mem = M2 at *
    simp only [List.length_nil, Int.natCast_zero] at e1 e3 e3'
    simp -implicitDefEqProofs [x432H, hal, f1, f2, f3, f4, f5, e1, e2, e3, e3', e4, e4']
    by_cases hM : M = []
    ·exact ⟨M, by rw [if_pos hM]⟩
    ·exact ⟨[], by rw [if_neg hM]⟩
   ·have hne : numVs fs ≠ [] := hn
    have hflen : (numVs fs).length = fs.length := zjp fs
    obtain ⟨W1, B1, g1, f3⟩ := zaf (code := code) (ext := ext) (cap := none) c.toRowCode hi0 hne (by omega) ((zjq fs).held _ _ _) hok (by omega)
    have z1 := g1.sz
    have z2 := g1.szB
    rw [l1] at z1
    rw [l2] at z2
    obtain ⟨eN, heN⟩ : ∃ eN, eN = 0 + 3 + 2 * (numVs fs).length + 1 := ⟨_, rfl⟩
    rw [← heN] at f3 g1
    obtain ⟨x2, s2, f4, _, rfl, room, W2, B2, e2', hLI, rfl⟩ := zh2 (code := code) (ext := ext) (fs := fs) c.toRowCode hA hl hB ls.length ⟨0, [(1, .imm lv), (5, .optr 0 0), (6, .osl 1 0 2 (numVs fs).length none), (8, .optr 4 0), (9, int64 0), (10, int64 (numVs fs).length), (11, int64 0)], [.rich [.osl 2 0 1 20000 (some 20000), .osl 3 0 1 313 (some 313), int64 eN], .flat (tVal.row (numVs fs)) false, .flat (urow W1) false, .flat (urow B1) false, .rich [uint8 4, int64 0]]⟩
     ⟨0, (numVs fs).length, W1, B1, eN, by omega, by
      have hz : numVs (fs ++ ls.take 0) = numVs fs := by simp
      rw [hz]
      exact ⟨g1.hi, g1.row, z1, z2, by omega, fun h => absurd h hne, by omega, hok⟩, by
      have hz : numVs (fs ++ ls.take 0) = numVs fs := by simp
      unfold l2St; rw [hz, if_neg hne]
      generalize tVal.row (numVs fs) = R at *
      generalize (numVs fs).length = n at *
      simp -implicitDefEqProofs []⟩
    obtain ⟨M, f5⟩ := hall room W2 B2 e2' hLI
    unfold li1Env inMem at f2
    simp only [if_neg hne] at f2
    generalize (l2St lv room (numVs (fs ++ ls)) ls.length W2 B2 e2').env ++ [(61, avb false)] = E2 at *
    generalize (l2St lv room (numVs (fs ++ ls)) ls.length W2 B2 e2').mem = M2 at *
    clear hok hall hLI g1 hne hn
    rw [← hflen] at e1 e3 e3' f2
    generalize tVal.row (numVs fs) = R at *
    generalize (numVs fs).length = n at *
    simp only [kMem, l1, l2, z1, z2, Int.natCast_zero] at f2 f3
    simp -implicitDefEqProofs [x432H, hal, f1, f2, f3, f4, f5, e1, e2, e3, e3', e4, e4']
    by_cases hM : M = []
    ·exact ⟨M, by rw [if_pos hM]⟩
    ·exact ⟨[], by rw [if_neg hM]⟩
  ·have e3 : ¬ (300 : Int) < fs.length := by omega
   have e3' : ¬ 300 < fs.length := by omega
   have e4 : (300 : Int) < ls.length := by omega
   have e4' : 300 < ls.length := by omega
   simp -implicitDefEqProofs [x432H, hal, e1, e2, e3, e3', e4, e4']
 ·have e3 : (300 : Int) < fs.length := by omega
  have e3' : 300 < fs.length := by omega
  simp -implicitDefEqProofs [x432H, hal, e1, e2, e3, e3']
end
end Go.EX


set_option linter.unusedVariables false
namespace Go.EX
def code3l : Nat → Option XFun
 | 169 => some x169
 | 170 => some x170
 | 171 => some x171
 | 172 => some x172
 | 173 => some x173
 | 174 => some x174
 | 175 => some x175
 | 176 => some x176
 | 177 => some x177
 | 178 => some x178
 | 179 => some x179
 | 180 => some x180
 | 181 => some x181
 | 182 => some x182
 | 183 => some x183
 | 184 => some x184
 | 185 => some x185
 | 186 => some x186
 | 187 => some x187
 | 274 => some x274
 | 275 => some x275
 | 276 => some x276
 | 277 => some x277
 | 278 => some x278
 | 279 => some x279
 | 280 => some x280
 | 281 => some x281
 | 282 => some x282
 | 283 => some x283
 | 284 => some x284
 | 285 => some x285
 | 286 => some x286
 | 290 => some x290
 | 291 => some x291
 | 292 => some x292
 | 293 => some x293
 | 294 => some x294
 | 295 => some x295
 | 296 => some x296
 | 297 => some x297
 | 298 => some x298
 | 299 => some x299
 | 300 => some x300
 | 301 => some x301
 | 357 => some x357
 | 432 => some x432
 | 434 => some x434
 | 436 => some x436
 | 437 => some x437
 | 567 => some x567
 | 592 => some x592
 | 593 => some x593
 | 594 => some x594
 | 597 => some x597
 | 598 => some x598
 | 599 => some x599
 | 600 => some x600
 | 601 => some x601
 | 602 => some x602
 | 603 => some x603
 | 605 => some x605
 | 606 => some x606
 | 607 => some x607
 | 608 => some x608
 | 609 => some x609
 | 610 => some x610
 | 611 => some x611
 | 612 => some x612
 | 613 => some x613
 | 614 => some x614
 | 615 => some x615
 | 616 => some x616
 | 617 => some x617
 | 618 => some x618
 | 700 => some x700
 | 701 => some x701
 | 730 => some x730
 | 732 => some x732
 | 742 => some x742
 | 749 => some x749
 | 752 => some x752
 | 759 => some x759
 | 762 => some x762
 | 768 => some x768
 | 772 => some x772
 | 780 => some x780
 | _ => none
end Go.EX


set_option linter.unusedVariables false
set_option linter.unusedSimpArgs false
namespace Go.EX
theorem zo7 (ext : Calls') (m : Nat) : callW code3l ext 768 [.osl 0 0 1 1 none] [.flat [i64v m] false] = some (.tup [], [.flat [i64v m] false]) := (zbx code3l ext).2 ⟨60, by kernel_rfl⟩
theorem zif (ext : Calls') : callW code3l ext 730 [.imm (.val (.int .u64 2))] [] = some (int64 2, []) := (zbx code3l ext).2 ⟨60, by kernel_rfl⟩
theorem zhg (ext : Calls') (m p : Nat) (h : m < p) : callW code3l ext 772 [.osl 0 0 1 2 none, int64 0, int64 2] [.rich (pcells [m, p])] = some (.tup [], [.rich (pcells [m, p])]) := by
 have f1 : callW code3l ext 700 [int64 p, int64 m] [] = some (avb false, []) := by
  have e1 : ¬ (p : Int) < m := by omega
  have e1' : ¬ p < m := by omega
  have f0 : ∀ x : Nat, callW code3l ext 701 [int64 x] [] = some (avb false, []) := fun x => by
   rw [zbw code3l ext (show code3l 701 = some x701 from rfl)]
   simp -implicitDefEqProofs [x701]
  rw [zbw code3l ext (show code3l 700 = some x700 from rfl)]
  simp -implicitDefEqProofs [x700, f0, e1, e1']
 have g0 : (pcells [m, p])[0]? = some (int64 m) := rfl
 have g1 : (pcells [m, p])[1]? = some (int64 p) := rfl
 have w0 : IntKind.wrap .i64 (0 : Int) = 0 := rfl
 have w1 : IntKind.wrap .i64 (1 : Int) = 1 := rfl
 have w2 : IntKind.wrap .i64 (2 : Int) = 2 := rfl
 have w2u : IntKind.wrap .u64 (2 : Int) = 2 := rfl
 have p2 := zkv
 have p3 := zkw
 have hl1 : den code3l ext (.loop [0, 1, 2, 6, 7] x772L1) ⟨1, [(0, .osl 0 0 1 2 none), (1, int64 0), (2, int64 2), (6, int64 1), (7, int64 1)], [.rich (pcells [m, p])]⟩ = some (.exit 2, ⟨1, [(0, .osl 0 0 1 2 none), (1, int64 0), (2, int64 2), (6, int64 1), (7, int64 1), (30, avb false)], [.rich (pcells [m, p])]⟩) := by
  rw [zc3]
  simp -implicitDefEqProofs [x772L1, w0, f1, g0, g1, p2, p3]
 have hl2 : den code3l ext (.loop [0, 1, 2, 6] x772L2) ⟨1, [(0, .osl 0 0 1 2 none), (1, int64 0), (2, int64 2), (6, int64 1)], [.rich (pcells [m, p])]⟩ = some (.exit 0, ⟨1, [(0, .osl 0 0 1 2 none), (1, int64 0), (2, int64 2), (6, int64 2), (12, avb false)], [.rich (pcells [m, p])]⟩) := by
  rw [zc3]
  simp -implicitDefEqProofs [x772L2, w1, w2, hl1, p2, p3]
  rw [zc3]
  simp -implicitDefEqProofs [x772L2, p2, p3]
 rw [zbw code3l ext (show code3l 772 = some x772 from rfl)]
 simp -implicitDefEqProofs [x772, w1, hl2, p2, p3]
theorem zo8 (ext : Calls') (m p : Nat) (h : m < p) : callW code3l ext 768 [.osl 0 0 1 2 none] [.rich (pcells [m, p])] = some (.tup [], [.rich (pcells [m, p])]) := by
 have f1 := zhg ext m p h
 have f2 := zif ext
 have w0 : IntKind.wrap .i64 (0 : Int) = 0 := rfl
 have w1 : IntKind.wrap .i64 (1 : Int) = 1 := rfl
 have w2 : IntKind.wrap .i64 (2 : Int) = 2 := rfl
 have w2u : IntKind.wrap .u64 (2 : Int) = 2 := rfl
 have p2 := zkv
 have p3 := zkw
 have f3 : callW code3l ext 780 [.osl 0 0 1 2 none, int64 0, int64 2, int64 2] [.rich (pcells [m, p])] = some (.tup [], [.rich (pcells [m, p])]) := by
  have hl : den code3l ext (.loop [0, 1, 2, 3, 8, 9] x780L1) ⟨1, [(0, .osl 0 0 1 2 none), (1, int64 0), (2, int64 2), (3, int64 2), (8, avb true), (9, avb true)], [.rich (pcells [m, p])]⟩ = some (.ret, ⟨1, [], [.rich (pcells [m, p])]⟩) := by
   rw [zc3]
   simp -implicitDefEqProofs [x780L1, w2, f1, p2, p3]
  rw [zbw code3l ext (show code3l 780 = some x780 from rfl)]
  simp -implicitDefEqProofs [x780, hl, p2, p3]
 rw [zbw code3l ext (show code3l 768 = some x768 from rfl)]
 simp -implicitDefEqProofs [x768, w2, w2u, f2, f3, p2, p3]
end Go.EX

