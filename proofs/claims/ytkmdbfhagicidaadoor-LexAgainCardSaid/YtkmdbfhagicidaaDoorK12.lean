import Derived.Test.YtkmdbfhagicidaaDoorK11
set_option linter.unusedVariables false
set_option linter.unusedSimpArgs false
namespace Go.EX
open Go.Lib
section
variable {code : Nat → Option XFun} {ext : Calls'}
structure ToldCode (code : Nat → Option XFun) (ext : Calls') : Prop where
 c454 : code 454 = some x454
 c455 : code 455 = some x455
 c456 : code 456 = some x456
theorem zn8 (c : ToldCode code ext) {w : W5} (h : OkW w) : callW code ext 456 [.agg [.imm (.val (.int .u8 w.k)), strV (bs w.s), int64 w.n, int64 w.line]] [] = some (strV (bs (toldL w)), []) := by
 rw [zbj code ext c.c456]
 obtain ⟨k, s, n, ln⟩ := w
 dsimp only
 rcases h with ⟨h1, h2, h3, h4, x, q, h5, h6⟩ | ⟨h1, h2, h3, h4⟩ | ⟨h1, h2, h3⟩ | ⟨h1, h2, h3⟩
 ·dsimp only at h1 h2
  subst h1 h2
  have ht : toldL ⟨1, s, 0, ln⟩ = s := rfl
  rw [ht]
  clear h3 h4 h5
  generalize bs s = S at *
  simp -implicitDefEqProofs [x456]
 ·dsimp only at h1 h2 h3 h4
  subst h1 h2
  obtain ⟨u, rfl⟩ : ∃ u : Nat, n = u := ⟨n.toNat, by omega⟩
  have ht : toldL ⟨2, [], (u : Int), ln⟩ = decDigits u := by unfold toldL; simp
  have hd := zc3 (ext := ext) c.c454 u (by omega)
  rw [ht]
  generalize bs (decDigits u) = D at *
  generalize bs [] = E at *
  simp -implicitDefEqProofs [x456, hd]
 ·dsimp only at h1 h2 h3
  subst h1 h2
  have ht : toldL ⟨3, s, 0, ln⟩ = quoteL s := rfl
  have hq := zj1 (ext := ext) c.c455 s (by omega)
  rw [ht]
  clear h3
  generalize bs (quoteL s) = Q at *
  generalize bs s = S at *
  simp -implicitDefEqProofs [x456, hq]
 ·dsimp only at h1 h2
  subst h1 h2
  have ht : toldL ⟨4, s, 0, ln⟩ = s := rfl
  rw [ht]
  clear h3
  generalize bs s = S at *
  simp -implicitDefEqProofs [x456]
def tM (T : List UInt8) : Mem := if T.length = 0 then [] else [.flat (rowB T) false]
theorem zk2 (l : List UInt8) : rowOfS (bs l) = rowB l := rfl
theorem zah (c : ToldCode code ext) {ws : List W5} {w : W5} (hx : ws[0]? = some w) (h : OkW w) :
  den code ext x449L1 ⟨0, [(3, .osl 0 0 4 ws.length none), (6, nilS), (7, int64 0)], [.flat (rowW ws) false]⟩ =
   some (.normal, ⟨0, [(3, .osl 0 0 4 ws.length none), (6, .osl 1 0 1 (toldL w).length none), (7, int64 1)], [.flat (rowW ws) false, .flat (rowB (toldL w)) false]⟩) := by
 have hcut := zk6 hx
 unfold W5.cells at hcut
 have hlt : 0 < ws.length := (List.getElem?_eq_some_iff.1 hx).1
 have hlt' : (0 : Int) < ws.length := by omega
 obtain ⟨t1, t2⟩ := zoa h
 have ht := zn8 c h
 have hsz := zba (toldL w)
 have hln := zk1 (toldL w)
 have hc2 : cut (rowB (toldL w)) 0 (toldL w).length = some (rowB (toldL w)) := zcb _ hln
 have hne : ¬ (toldL w).length = 0 := fun e => t2 (List.eq_nil_of_length_eq_zero e)
 have hle : (toldL w).length ≤ 140737488355328 := by omega
 have hle2 : ¬ (65536 : Int) < ((toldL w).length : Int) := by omega
 have hro := zk2 (toldL w)
 have e2 : IntKind.wrap .i64 1 = 1 := by decide
 clear t1 t2 hx h
 generalize rowW ws = RW at *
 generalize ws.length = wl at *
 generalize rowB (toldL w) = RT at *
 generalize bs (toldL w) = T at *
 generalize (toldL w).length = tl at *
 generalize bs w.s = S at *
 simp -implicitDefEqProofs [x449L1, hlt, hlt', hcut, ht, hsz, hc2, hne, hle, hle2, hro, e2, exAppendX, exAppend, elems]
theorem zaj (c : ToldCode code ext) {ws : List W5} {i : Nat} {v w : W5} (hv : ws[i]? = some v) (hx : ws[i + 1]? = some w) (h : OkW w) (hline : v.line ≤ w.line) (hi : i ≤ 1000000) (T : List UInt8) (hT0 : ¬ T.length = 0) (hT : T.length ≤ 65536) :
  (¬ 65536 < (T ++ [32] ++ toldL w).length → ∃ J, den code ext x449L1 ⟨0, [(3, .osl 0 0 4 ws.length none), (6, .osl 1 0 1 T.length none), (7, int64 (i + 1 : Nat))], [.flat (rowW ws) false, .flat (rowB T) false]⟩ =
   some (.normal, ⟨0, [(3, .osl 0 0 4 ws.length none), (6, .osl 1 0 1 (T ++ [32] ++ toldL w).length none), (7, int64 (i + 2 : Nat))], [.flat (rowW ws) false, .flat (rowB (T ++ [32] ++ toldL w)) false, .flat J false]⟩)) ∧
  (65536 < (T ++ [32] ++ toldL w).length → ∃ J, den code ext x449L1 ⟨0, [(3, .osl 0 0 4 ws.length none), (6, .osl 1 0 1 T.length none), (7, int64 (i + 1 : Nat))], [.flat (rowW ws) false, .flat (rowB T) false]⟩ =
   some (.ret, ⟨0, [(2, avb true)], J⟩)) := by
 have hcut := zk6 hx
 unfold W5.cells at hcut
 have hl1 : (rowW ws)[(i + 1) * 4 + 3]? = some (.val (.int .i64 (w.line : Nat))) := zk5 hx 3 (by decide)
 have hl2 : (rowW ws)[i * 4 + 3]? = some (.val (.int .i64 (v.line : Nat))) := zk5 hv 3 (by decide)
 have hlt0 : i < ws.length := (List.getElem?_eq_some_iff.1 hv).1
 have hlt : i + 1 < ws.length := (List.getElem?_eq_some_iff.1 hx).1
 obtain ⟨t1, t2⟩ := zoa h
 have ht := zn8 c h
 have hsz := zba (toldL w)
 have hln := zk1 (toldL w)
 have hc2 : cut (rowB (toldL w)) 0 (toldL w).length = some (rowB (toldL w)) := zcb _ hln
 have hc1 : cut (rowB T) 0 T.length = some (rowB T) := zcb _ (zk1 T)
 have hc3 : cut (rowB T ++ [.val (.int .u8 32)]) 0 (T.length + 1) = some (rowB T ++ [.val (.int .u8 32)]) := zcb _ (by rw [List.length_append, zk1]; rfl)
 have hle1 : T.length ≤ 140737488355327 := by omega
 have hle2 : T.length + 1 + (toldL w).length ≤ 140737488355328 := by omega
 have hro := zk2 (toldL w)
 have hrow : rowB T ++ .val (.int .u8 32) :: rowB (toldL w) = rowB (T ++ [32] ++ toldL w) := by unfold rowB; simp
 have hrow' : (rowB T ++ [.val (.int .u8 32)]) ++ rowB (toldL w) = rowB (T ++ [32] ++ toldL w) := by unfold rowB; simp
 have hlen : (T ++ [32] ++ toldL w).length = T.length + 1 + (toldL w).length := by simp only [List.length_append, List.length_singleton]
 have e2 : IntKind.wrap .i64 (((i + 1 : Nat) : Int) + 1) = ((i + 2 : Nat) : Int) := by rw [wrapI64 (by omega) (by omega)]; omega
 have e3 : IntKind.wrap .i64 (((i + 1 : Nat) : Int) - 1) = (i : Int) := by rw [wrapI64 (by omega) (by omega)]; omega
 have hp : (0 : Int) < ((i + 1 : Nat) : Int) := by omega
 have hp' : 0 < i + 1 := by omega
 have hnl : ¬ ((w.line : Nat) : Int) < ((v.line : Nat) : Int) := by omega
 have hnl' : ¬ w.line < v.line := by omega
 rw [hlen]
 clear hx hv h hT hi t1 t2 hln hlen
 constructor
 ·intro hbig
  have hbig' : ¬ (65536 : Int) < ((T.length + 1 + (toldL w).length : Nat) : Int) := by omega
  refine ⟨[.val (.int .u8 32)], ?_⟩
  generalize i + 2 = i2 at *
  generalize i + 1 = i1 at *
  generalize rowB (T ++ [32] ++ toldL w) = R2 at *
  generalize rowW ws = RW at *
  generalize ws.length = wl at *
  generalize rowB (toldL w) = RT at *
  generalize bs (toldL w) = TT at *
  generalize hsum : T.length + 1 + (toldL w).length = sum at *
  generalize (toldL w).length = tl at *
  generalize rowB T = R1 at *
  generalize T.length = n at *
  generalize bs w.s = S at *
  simp -implicitDefEqProofs [x449L1, hlt, hlt0, hp, hp', hcut, hl1, hl2, ht, hsz, hc1, hc2, hc3, hle1, hle2, hro, hrow, hrow', e2, e3, hnl, hnl', hbig, hbig', hsum, exAppendX, exAppend, elems]
 ·intro hbig
  have hbig' : (65536 : Int) < ((T.length + 1 + (toldL w).length : Nat) : Int) := by omega
  refine ⟨[.flat (rowW ws) false, .flat (rowB (T ++ [32] ++ toldL w)) false, .flat [.val (.int .u8 32)] false], ?_⟩
  generalize i + 1 = i1 at *
  generalize rowB (T ++ [32] ++ toldL w) = R2 at *
  generalize rowW ws = RW at *
  generalize ws.length = wl at *
  generalize rowB (toldL w) = RT at *
  generalize bs (toldL w) = TT at *
  generalize hsum : T.length + 1 + (toldL w).length = sum at *
  generalize (toldL w).length = tl at *
  generalize rowB T = R1 at *
  generalize T.length = n at *
  generalize bs w.s = S at *
  simp -implicitDefEqProofs [x449L1, hlt, hlt0, hp, hp', hcut, hl1, hl2, ht, hsz, hc1, hc2, hc3, hle1, hle2, hro, hrow, hrow', e2, e3, hnl, hnl', hbig, hbig', hsum, exAppendX, exAppend, elems]
end
end Go.EX


set_option linter.unusedVariables false
set_option linter.unusedSimpArgs false
namespace Go.EX
open Go.Lib
section
variable {code : Nat → Option XFun} {ext : Calls'}
theorem zai (c : ToldCode code ext) (ws : List W5) (h0 : ws.length ≠ 0) (hl : ws.length ≤ 1000000) (hok : ∀ w ∈ ws, OkW w) (hln : ∀ i v w, ws[i]? = some v → ws[i + 1]? = some w → v.line ≤ w.line) :
  ∃ e s', den code ext (.loop [3, 6, 7] x449L1) ⟨0, [(3, .osl 0 0 4 ws.length none), (6, nilS), (7, int64 0)], [.flat (rowW ws) false]⟩ = some (e, s') ∧ e ≠ .normal ∧
   ((e = .exit 0 ∧ (allT ws).length ≤ 65536 ∧ s' = ⟨0, [(3, .osl 0 0 4 ws.length none), (6, .osl 1 0 1 (allT ws).length none), (7, int64 ws.length), (34, avb false)], [.flat (rowW ws) false, .flat (rowB (allT ws)) false]⟩) ∨
    (e = .ret ∧ ∃ J, s' = ⟨0, [(2, avb true)], J⟩)) := by
 refine zhc (fun m s => (m = ws.length ∧ s.tidy [3, 6, 7] = ⟨0, [(3, .osl 0 0 4 ws.length none), (6, nilS), (7, int64 0)], [.flat (rowW ws) false]⟩) ∨
  ∃ i, i + 1 + m = ws.length ∧ (allT (ws.take (i + 1))).length ≤ 65536 ∧ ¬ (allT (ws.take (i + 1))).length = 0 ∧
   s.tidy [3, 6, 7] = ⟨0, [(3, .osl 0 0 4 ws.length none), (6, .osl 1 0 1 (allT (ws.take (i + 1))).length none), (7, int64 (i + 1 : Nat))], [.flat (rowW ws) false, .flat (rowB (allT (ws.take (i + 1)))) false]⟩) _ ?_ ws.length _ (.inl ⟨rfl, by simp -implicitDefEqProofs⟩)
 rintro m s (⟨hm, hst⟩ | ⟨i, hm, hT, hT0, hst⟩)
 ·rw [hst]
  obtain ⟨w, hx⟩ : ∃ w, ws[0]? = some w := ⟨_, List.getElem?_eq_getElem (by omega)⟩
  have hw := hok w (List.mem_of_getElem? hx)
  have htk : allT (ws.take 1) = toldL w := by
   rw [List.take_add_one, hx]
   show toldL w ++ tailT [] = toldL w
   exact List.append_nil _
  obtain ⟨t1, t2⟩ := zoa hw
  refine ⟨.normal, _, zah c hx hw, .inl ⟨rfl, ws.length - 1, by omega, .inr ⟨0, by omega, ?_, ?_, ?_⟩⟩⟩
  ·rw [htk]; omega
  ·rw [htk]; exact fun e => t2 (List.eq_nil_of_length_eq_zero e)
  ·rw [htk]
   generalize rowW ws = RW at *
   generalize rowB (toldL w) = RT at *
   simp -implicitDefEqProofs
 ·rw [hst]
  by_cases hlt : i + 1 < ws.length
  ·obtain ⟨v, hv⟩ : ∃ v, ws[i]? = some v := ⟨_, List.getElem?_eq_getElem (by omega)⟩
   obtain ⟨w, hx⟩ : ∃ w, ws[i + 1]? = some w := ⟨_, List.getElem?_eq_getElem hlt⟩
   have hw := hok w (List.mem_of_getElem? hx)
   have htk : allT (ws.take (i + 2)) = allT (ws.take (i + 1)) ++ [32] ++ toldL w := by
    rw [List.take_add_one, hx]
    exact zan _ _ (by intro e; have := congrArg List.length e; rw [List.length_take, List.length_nil] at this; omega)
   obtain ⟨n1, n2⟩ := zaj c hv hx hw (hln i v w hv hx) (by omega) (allT (ws.take (i + 1))) hT0 hT
   rw [← htk] at n1 n2
   by_cases hbig : 65536 < (allT (ws.take (i + 2))).length
   ·obtain ⟨J, hJ⟩ := n2 hbig
    exact ⟨.ret, _, hJ, .inr ⟨by simp, .inr ⟨rfl, J, rfl⟩⟩⟩
   ·obtain ⟨J, hJ⟩ := n1 hbig
    have hne : ¬ (allT (ws.take (i + 2))).length = 0 := by
     rw [htk]
     simp only [List.length_append, List.length_singleton]
     omega
    refine ⟨.normal, _, hJ, .inl ⟨rfl, m - 1, by omega, .inr ⟨i + 1, by omega, by show (allT (ws.take (i + 2))).length ≤ _; omega, hne, ?_⟩⟩⟩
    show St.tidy _ _ = ⟨0, [(3, .osl 0 0 4 ws.length none), (6, .osl 1 0 1 (allT (ws.take (i + 2))).length none), (7, int64 (i + 2 : Nat))], [.flat (rowW ws) false, .flat (rowB (allT (ws.take (i + 2)))) false]⟩
    generalize rowW ws = RW at *
    generalize rowB (allT (ws.take (i + 2))) = RT at *
    generalize i + 2 = i2 at *
    simp -implicitDefEqProofs
  ·have hil : i + 1 = ws.length := by omega
   rw [hil, List.take_length] at hT hT0 ⊢
   refine ⟨.exit 0, _, ?_, .inr ⟨by simp, .inl ⟨rfl, hT, rfl⟩⟩⟩
   generalize rowW ws = RW at *
   generalize rowB (allT ws) = RT at *
   generalize ws.length = wl at *
   simp -implicitDefEqProofs [x449L1]
theorem zbs (ws : List W5) (hl : ws.length ≤ 1000000) (s0 : St)
  (hs0 : s0.tidy [3, 8, 11] = ⟨0, [(3, .osl 0 0 4 ws.length none), (8, .osl 1 0 4 ws.length none), (11, int64 0)], [.flat (rowW ws) false, .flat (rowW (ws.map fun w => { w with line := 0 })) false]⟩) :
  den code ext (.loop [3, 8, 11] x449L2) s0 = some (.exit 2, ⟨0, [(3, .osl 0 0 4 ws.length none), (8, .osl 1 0 4 ws.length none), (11, int64 ws.length), (84, avb false)], [.flat (rowW ws) false, .flat (rowW (ws.map fun w => { w with line := 0 })) false]⟩) := by
 have L : ∃ e s', den code ext (.loop [3, 8, 11] x449L2) s0 = some (e, s') ∧ e ≠ .normal ∧
   (e = .exit 2 ∧ s' = ⟨0, [(3, .osl 0 0 4 ws.length none), (8, .osl 1 0 4 ws.length none), (11, int64 ws.length), (84, avb false)], [.flat (rowW ws) false, .flat (rowW (ws.map fun w => { w with line := 0 })) false]⟩) := by
  refine zhc (fun m s => ∃ i, i + m = ws.length ∧ s.tidy [3, 8, 11] = ⟨0, [(3, .osl 0 0 4 ws.length none), (8, .osl 1 0 4 ws.length none), (11, int64 i)], [.flat (rowW ws) false, .flat (rowW (ws.map fun w => { w with line := 0 })) false]⟩) _ ?_ ws.length _ ⟨0, by simp, hs0⟩
  clear hs0
  rintro m s ⟨i, hi, hst⟩
  rw [hst]
  clear hst
  by_cases hlt : i < ws.length
  ·obtain ⟨w, hx⟩ : ∃ w, ws[i]? = some w := ⟨_, List.getElem?_eq_getElem hlt⟩
   have hx0 : (ws.map fun w => ({ w with line := 0 } : W5))[i]? = some { w with line := 0 } := by rw [List.getElem?_map, hx]; rfl
   have hc1 : cut (rowW ws) (i * 4) 4 = some [.val (.int .u8 w.k), .val (.string (bs w.s)), .val (.int .i64 w.n), .val (.int .i64 (w.line : Nat))] := zk6 hx
   have hc0 : cut (rowW (ws.map fun w => { w with line := 0 })) (i * 4) 4 = some [.val (.int .u8 w.k), .val (.string (bs w.s)), .val (.int .i64 w.n), .val (.int .i64 0)] := zk6 hx0
   have e1 : IntKind.wrap .i64 ((i : Int) + 1) = ((i + 1 : Nat) : Int) := by rw [wrapI64 (by omega) (by omega)]; omega
   have hTT : (bs w.s == bs w.s) = true := (beq_self_eq_true w.s.toArray : (w.s.toArray == w.s.toArray) = true)
   refine ⟨.normal, ⟨0, [(3, .osl 0 0 4 ws.length none), (8, .osl 1 0 4 ws.length none), (11, int64 (i + 1 : Nat))], [.flat (rowW ws) false, .flat (rowW (ws.map fun w => { w with line := 0 })) false, .rich [.imm (.val (.int .u8 w.k)), strV (bs w.s), int64 w.n, int64 0]]⟩, ?_, .inl ⟨rfl, m - 1, by omega, i + 1, by omega, ?_⟩⟩
   ·clear hx hx0 hi
    generalize rowW (ws.map fun w => { w with line := 0 }) = R0 at *
    generalize rowW ws = RW at *
    generalize ws.length = wl at *
    generalize i + 1 = i1 at *
    generalize bs w.s = S at *
    simp -implicitDefEqProofs [x449L2, hlt, hc1, hc0, e1, hTT]
   ·clear hc1 hc0
    generalize rowW (ws.map fun w => { w with line := 0 }) = R0 at *
    generalize rowW ws = RW at *
    generalize ws.length = wl at *
    generalize i + 1 = i1 at *
    simp -implicitDefEqProofs
  ·have hil : i = ws.length := by omega
   subst hil
   refine ⟨.exit 2, _, ?_, .inr ⟨by simp, rfl, rfl⟩⟩
   generalize rowW (ws.map fun w => { w with line := 0 }) = R0 at *
   generalize rowW ws = RW at *
   generalize ws.length = wl at *
   simp -implicitDefEqProofs [x449L2]
 obtain ⟨e, s', l1, _, rfl, rfl⟩ := L
 exact l1
structure AgainCode (code : Nat → Option XFun) (ext : Calls') : Prop where
 l : LexCode code ext
 t : ToldCode code ext
 c449 : code 449 = some x449
 al : callW code ext 453 [] [] = some (avb true, [])
theorem zpe (c : LexCode code ext) (l : List UInt8) (hbig : 65536 < l.length) : callW code ext 568 [strV (bs l)] [] = some (.tup [nilS, int64 0, int64 3], []) := by
 rw [zbj code ext c.c568]
 have hz := zba l
 have hbig' : (65536 : Int) < l.length := by omega
 generalize bs l = B at *
 simp -implicitDefEqProofs [x568, hz, hbig, hbig']
theorem zag (c : AgainCode code ext) (l : List UInt8) (a e : Int) (he : ¬ e = 0) (h : callW code ext 568 [strV (bs l)] [] = some (.tup [nilS, int64 a, int64 e], [])) : callW code ext 449 [strV (bs l)] [] = some (avb true, []) := by
 have hal := c.al
 rw [zbj code ext c.c449]
 unfold x449
 generalize x449L1 = L1 at *
 generalize x449L2 = L2 at *
 generalize bs l = B at *
 simp -implicitDefEqProofs [h, hal, he]
theorem zak (c : AgainCode code ext) (l : List UInt8) (h : callW code ext 568 [strV (bs l)] [] = some (.tup [nilS, int64 0, int64 0], [])) : callW code ext 449 [strV (bs l)] [] = some (avb true, []) := by
 have hal := c.al
 have h2 := zpq c.l [] (by simp) (by unfold wordsL; rw [zmp 0 (by decide)]; exact zpm _)
 have he : bs [] = ByteArray.empty := rfl
 rw [he] at h2
 have l1 : den code ext (.loop [3, 6, 7] x449L1) ⟨0, [(3, nilS), (6, nilS), (7, int64 0)], []⟩ = some (.exit 0, ⟨0, [(3, nilS), (6, nilS), (7, int64 0), (34, avb false)], []⟩) := by
  rw [zct]
  have : den code ext x449L1 (St.tidy ⟨0, [(3, nilS), (6, nilS), (7, int64 0)], []⟩ [3, 6, 7]) = some (.exit 0, ⟨0, [(3, nilS), (6, nilS), (7, int64 0), (34, avb false)], []⟩) := by simp -implicitDefEqProofs [x449L1]
  rw [this]
  rfl
 have l2 : den code ext (.loop [3, 8, 11] x449L2) ⟨0, [(3, nilS), (8, nilS), (11, int64 0)], []⟩ = some (.exit 2, ⟨0, [(3, nilS), (8, nilS), (11, int64 0), (84, avb false)], []⟩) := by
  rw [zct]
  have : den code ext x449L2 (St.tidy ⟨0, [(3, nilS), (8, nilS), (11, int64 0)], []⟩ [3, 8, 11]) = some (.exit 2, ⟨0, [(3, nilS), (8, nilS), (11, int64 0), (84, avb false)], []⟩) := by simp -implicitDefEqProofs [x449L2]
  rw [this]
  rfl
 have hs : ∀ m, strOfV m nilS = some .empty := fun m => rfl
 rw [zbj code ext c.c449]
 unfold x449
 generalize x449L1 = L1 at *
 generalize x449L2 = L2 at *
 generalize bs l = B at *
 unfold nilS at *
 simp -implicitDefEqProofs [h, hal, h2, l1, l2, hs]
theorem zal (c : AgainCode code ext) (l : List UInt8) (hlen : l.length ≤ 65536) {ws : List W5} (hw : wordsL l 0 = .inl ws) (h0 : ws.length ≠ 0) : callW code ext 449 [strV (bs l)] [] = some (avb true, []) := by
 have hal := c.al
 have h := zps c.l l hlen hw h0
 obtain ⟨hok, hln⟩ := zph hw
 obtain ⟨b1, _⟩ := (zpg l 0).1 ws hw
 obtain ⟨e, s', l1, _, hor⟩ := zai c.t ws h0 (by omega) hok hln
 rw [zbj code ext c.c449]
 rcases hor with ⟨rfl, hT, rfl⟩ | ⟨rfl, J, rfl⟩
 ·have hw2 := zpi ws hok
  have h2 := zps c.l (allT ws) hT hw2 (by simpa using h0)
  rw [List.length_map] at h2
  have hst : ∀ x, strOfV [x, .flat (rowB (allT ws)) false] (.osl 1 0 1 (allT ws).length none) = some (bs (allT ws)) := by
   intro x
   have h3 : strOfV [.flat (rowB (allT ws)) false] (.osl 0 0 1 (allT ws).length none) = some (bs (allT ws)) := znc (allT ws) _ rfl
   rw [← h3]
   simp [strOfV, elems]
  have l2 := zbs (code := code) (ext := ext) ws (by omega) ⟨0, [(3, .osl 0 0 4 ws.length none), (8, .osl 2 0 4 ws.length none), (11, int64 0)], [.flat (rowW ws) false, .flat (rowB (allT ws)) false, .flat (rowW (ws.map fun w => { w with line := 0 })) false]⟩
   (by generalize rowW ws = RW at *; generalize rowW (ws.map fun w => { w with line := 0 }) = R0 at *; generalize rowB (allT ws) = RT at *; simp -implicitDefEqProofs)
  unfold x449
  clear hw hw2 hok hln b1 hT
  generalize x449L1 = L1 at *
  generalize x449L2 = L2 at *
  generalize rowW (ws.map fun w => { w with line := 0 }) = R0 at *
  generalize rowW ws = RW at *
  generalize rowB (allT ws) = RT at *
  generalize bs (allT ws) = T at *
  generalize (allT ws).length = tl at *
  generalize ws.length = wl at *
  generalize bs l = B at *
  simp -implicitDefEqProofs [h, hal, h2, l1, l2, hst]
 ·unfold x449
  clear hw hok hln b1
  generalize x449L1 = L1 at *
  generalize x449L2 = L2 at *
  generalize rowW ws = RW at *
  generalize ws.length = wl at *
  generalize bs l = B at *
  simp -implicitDefEqProofs [h, hal, l1]
theorem zaf (c : AgainCode code ext) (l : List UInt8) : callW code ext 449 [strV (bs l)] [] = some (avb true, []) := by
 by_cases hbig : 65536 < l.length
 ·exact zag c l 0 3 (by decide) (zpe c.l l hbig)
 ·cases hw : wordsL l 0 with
  | inr m => exact zag c l m 4 (by decide) (zpo c.l l (by omega) hw)
  | inl ws =>
   by_cases h0 : ws.length = 0
   ·have : ws = [] := List.eq_nil_of_length_eq_zero h0
    subst this
    exact zak c l (zpq c.l l (by omega) hw)
   ·exact zal c l (by omega) hw h0
end
end Go.EX


set_option linter.unusedVariables false
namespace Go.EX
theorem again5 : AgainCode code5 (ext5 dig) := ⟨lex5, ⟨rfl, rfl, rfl⟩, rfl, alive5⟩
theorem zg2 (s : ByteArray) : callW code5 (ext5 dig) 449 [strV s] [] = some (avb true, []) := by
 have h := zaf again5 s.data.toList
 rwa [bs_of] at h
end Go.EX

