import Derived.Test.YtedddogbgdbpmaaDoorK15
set_option linter.unusedVariables false
set_option linter.unusedSimpArgs false
namespace Go.EX
section
variable {code : Nat → Option XFun} {ext : Calls'}
def keysMemT (acc : List (Int × Int × ByteArray)) : Mem := [.map (normMap acc)]
theorem zii {sA : AV} {t : TP} {T : List Obj} (hT : StoreT code ext sA t T) (hb : T.length ≤ 1048576) {row : List IV} {off : Nat} {cap : Option Nat} {l : List Val} (hl : Reads tVal (.slice row off l.length cap) l) (i : Nat) (v : Val) (hv : l[i]? = some v) (acc : List (Int × Int × ByteArray)) :
  ∃ s', den code ext x650L1 ⟨0, [(0, sA), (1, .imm (.slice row off l.length cap)), (5, .omap 0), (6, int64 (i : Nat))], keysMemT acc⟩ = some (.normal, s') ∧
   s'.tidy [0, 1, 5, 6] = ⟨0, [(0, sA), (1, .imm (.slice row off l.length cap)), (5, .omap 0), (6, int64 ((i : Int) + 2))], keysMemT (addNorm acc (normOf T v))⟩ := by
 have hlt := (List.getElem?_eq_some_iff.1 hv).1
 obtain ⟨row', off', cap', he, hc, hcut, hget⟩ := zo7 hl hv
 cases he
 simp only [tVal] at hget
 have g0 : row[off + i * 2]? = some (.val (.int .u8 v.k)) := zdd hget 0 (by omega)
 have hbl := hl.2.1
 have hw := (hl.1 v (List.mem_of_getElem? hv)).2
 have e1 : IntKind.wrap .i64 ((i : Int) + 2) = (i : Int) + 2 := wrapI64 (by omega) (by omega)
 have hld := hT.lead v hw
 have hkey : ∀ x : Int × Int × ByteArray, (sameCells (digits 64 53) [.imm (.val (.int .u8 x.1)), int64 x.2.1, .imm (.val (.string x.2.2))] [.imm (.val (.int .u8 x.1)), int64 x.2.1, .imm (.val (.string x.2.2))]).isSome = true := key57
 by_cases k3 : v.k = 3
 ·rw [k3] at hget g0 hld
  cases hq : leadsOf T v with
  | none =>
   have hn : normOf T v = (3, v.n, .empty) := by simp [normOf, k3, hq]
   rw [hq, leadT] at hld
   try simp only [TP.at] at hld
   rw [hn]
   have hk1 := hkey (3, v.n, .empty)
   rcases findK57 (3, v.n, .empty) acc 0 with ⟨hm, hf⟩ | ⟨hm, j, hf, hj⟩
   ·have ha : normMap (addNorm acc (3, v.n, .empty)) = normMap (acc ++ [(3, v.n, .empty)]) := by rw [addNorm, if_neg hm]
    have hsn := zlr acc (3, v.n, .empty)
    simp only [keysMemT]
    rw [ha]
    clear ha hm
    simp only [keyAV, Nat.zero_add] at hf hk1 hsn ⊢
    simp -implicitDefEqProofs [x650L1, hT.refs, hT.ren, TP.at, hget, g0, hld, e1, hlt, hf, hk1, hsn]
   ·have ha : normMap (addNorm acc (3, v.n, .empty)) = normMap acc := by rw [addNorm, if_pos hm]
    have hset := zlq _ _ _ hj
    simp only [keysMemT]
    rw [ha]
    clear ha hm
    simp only [keyAV, Nat.zero_add] at hf hk1 hset ⊢
    simp -implicitDefEqProofs [x650L1, hT.refs, hT.ren, TP.at, hget, g0, hld, e1, hlt, hf, hk1, hset]
  | some p =>
   have hn : normOf T v = (3, 0, sAt T p) := by simp [normOf, k3, hq]
   rw [hq, leadT] at hld
   try simp only [TP.at] at hld
   obtain ⟨hpl, _, _, _, o, ho, _⟩ := ziy hq
   have hso : sAt T p = o.s := by rw [sAt, ho]
   have g1 : t.row[t.off + p * 5 + 1]? = some (.val (.string o.s)) := by
    have hcg := hT.obj p o ho
    exact zdd hcg 1 (by omega)
   rw [hso] at hn
   rw [hn]
   have hk1 := hkey (3, 0, o.s)
   rcases findK57 (3, 0, o.s) acc 0 with ⟨hm, hf⟩ | ⟨hm, j, hf, hj⟩
   ·have ha : normMap (addNorm acc (3, 0, o.s)) = normMap (acc ++ [(3, 0, o.s)]) := by rw [addNorm, if_neg hm]
    have hsn := zlr acc (3, 0, o.s)
    simp only [keysMemT]
    rw [ha]
    clear ha hm
    simp only [keyAV, Nat.zero_add] at hf hk1 hsn ⊢
    simp -implicitDefEqProofs [x650L1, hT.refs, hT.ren, TP.at, hget, g0, g1, hld, e1, hlt, hf, hk1, hsn]
   ·have ha : normMap (addNorm acc (3, 0, o.s)) = normMap acc := by rw [addNorm, if_pos hm]
    have hset := zlq _ _ _ hj
    simp only [keysMemT]
    rw [ha]
    clear ha hm
    simp only [keyAV, Nat.zero_add] at hf hk1 hset ⊢
    simp -implicitDefEqProofs [x650L1, hT.refs, hT.ren, TP.at, hget, g0, g1, hld, e1, hlt, hf, hk1, hset]
 ·have hn : normOf T v = (v.k, v.n, .empty) := by simp [normOf, k3]
  rw [hn]
  have hk1 := hkey (v.k, v.n, .empty)
  rcases findK57 (v.k, v.n, .empty) acc 0 with ⟨hm, hf⟩ | ⟨hm, j, hf, hj⟩
  ·have ha : normMap (addNorm acc (v.k, v.n, .empty)) = normMap (acc ++ [(v.k, v.n, .empty)]) := by rw [addNorm, if_neg hm]
   have hsn := zlr acc (v.k, v.n, .empty)
   simp only [keysMemT]
   rw [ha]
   clear ha hm
   simp only [keyAV, Nat.zero_add] at hf hk1 hsn ⊢
   simp -implicitDefEqProofs [x650L1, hT.refs, hT.ren, TP.at, hget, g0, k3, hld, e1, hlt, hf, hk1, hsn]
  ·have ha : normMap (addNorm acc (v.k, v.n, .empty)) = normMap acc := by rw [addNorm, if_pos hm]
   have hset := zlq _ _ _ hj
   simp only [keysMemT]
   rw [ha]
   clear ha hm
   simp only [keyAV, Nat.zero_add] at hf hk1 hset ⊢
   simp -implicitDefEqProofs [x650L1, hT.refs, hT.ren, TP.at, hget, g0, k3, hld, e1, hlt, hf, hk1, hset]
theorem zih {sA : AV} {t : TP} {T : List Obj} (hT : StoreT code ext sA t T) (h' : code 650 = some x650) (hb : T.length ≤ 1048576) {lv : IV} {l : List Val} (hl : Reads tVal lv l) (hev : l.length % 2 = 0) :
  callW code ext 650 [sA, .imm lv] [] = some (avb (decide ((normsTo T l l.length).length = l.length / 2)), []) := by
 have hlen := zo6 hl
 have hbl := hl.2.1
 have loop : ∃ e s', den code ext (.loop [0, 1, 5, 6] x650L1) ⟨0, [(0, sA), (1, .imm lv), (5, .omap 0), (6, int64 0)], keysMemT []⟩ = some (e, s') ∧ e ≠ .normal ∧
   (e = .exit 0 ∧ s' = ⟨0, [(0, sA), (1, .imm lv), (5, .omap 0), (6, int64 l.length), (13, avb false)], keysMemT (normsTo T l l.length)⟩) := by
  refine zjt (fun n s => ∃ (i : Nat), i + n = l.length ∧ i % 2 = 0 ∧ s.tidy [0, 1, 5, 6] = ⟨0, [(0, sA), (1, .imm lv), (5, .omap 0), (6, int64 (i : Nat))], keysMemT (normsTo T l i)⟩) _ ?_ l.length _ ⟨0, by simp, rfl, by simp -implicitDefEqProofs [keysMemT, hT.refs, hT.ren, TP.at, normsTo, normMap]⟩
  rintro n s ⟨i, hi, hi2, hs⟩
  rw [hs]
  by_cases hlt : i < l.length
  ·obtain ⟨row, off, cap, rfl, hc, hcut, hget⟩ := zo7 hl (List.getElem?_eq_getElem hlt)
   obtain ⟨s', g1, g2⟩ := zii (ext := ext) hT hb hl i l[i] (List.getElem?_eq_getElem hlt) (normsTo T l i)
   refine ⟨.normal, s', g1, .inl ⟨rfl, n - 2, by omega, i + 2, by omega, by omega, ?_⟩⟩
   rw [g2, zls T l i l[i] hi2 (List.getElem?_eq_getElem hlt)]
   rfl
  ·have : i = l.length := by omega
   subst this
   refine ⟨.exit 0, ⟨0, [(0, sA), (1, .imm lv), (5, .omap 0), (6, int64 l.length), (13, avb false)], keysMemT (normsTo T l l.length)⟩, ?_, .inr ⟨by simp, rfl, rfl⟩⟩
   simp -implicitDefEqProofs [x650L1, hT.refs, hT.ren, TP.at, keysMemT, hlen]
 obtain ⟨e, s', g1, _, rfl, rfl⟩ := loop
 rw [zbs code ext h']
 have hnl := zln (normsTo T l l.length)
 have e2 : IntKind.wrap .i64 ((l.length : Int) / 2) = (l.length : Int) / 2 := wrapI64 (by omega) (by omega)
 have hn0 : normMap [] = [] := rfl
 simp only [keysMemT, hn0] at g1
 simp -implicitDefEqProofs [x650, hT.refs, hT.ren, TP.at, hlen, g1, hnl, e2]
 omega
end
end Go.EX


set_option maxHeartbeats 1000000
namespace Go.EX
section
variable {code : Nat → Option XFun} {ext : Calls'}
theorem zj7 {sA : AV} {t : TP} {T : List Obj} (hT : StoreT code ext sA t T) (h' : code 656 = some x656) (h2 : code 653 = some x653) (h3 : code 759 = some x759) (h4 : code 749 = some x749) (h5 : code 650 = some x650) (h6 : code 652 = some x652) (hb : T.length ≤ 1048576) (k : Nat) (o : Obj) (ho : T[k]? = some o) (k3 : o.k = 3) (cS : ¬ o.s = .empty) : ∃ b : Bool, callW code ext 652 [sA, t.at k] [] = some (avb b, []) ∧ (b = true ↔ ObjOk T o) := by
 rw [zbs code ext h6]
 have hlen := zo6 o.l.ok
 have hok : ObjOk T o ↔ (o.s.size ≤ 4096 ∧ o.l.xs = [] ∧ o.room = 0 ∧ o.fn = 0) := by
  unfold ObjOk
  rw [if_pos k3]
 rw [hok]
 clear hok
 have g0 : t.row[t.off + k * 5]? = some (.val (.int .u8 o.k)) := zdd (hT.obj k o ho) 0 (by omega)
 have g1 : t.row[t.off + k * 5 + 1]? = some (.val (.string o.s)) := zdd (hT.obj k o ho) 1 (by omega)
 have g2 : t.row[t.off + k * 5 + 2]? = some (o.l.iv) := zdd (hT.obj k o ho) 2 (by omega)
 have g3 : t.row[t.off + k * 5 + 3]? = some (.val (.int .i64 o.room)) := zdd (hT.obj k o ho) 3 (by omega)
 have g4 : t.row[t.off + k * 5 + 4]? = some (.val (.int .i64 o.fn)) := zdd (hT.obj k o ho) 4 (by omega)
 have hba := zam (ext := ext) hT h' h2 h3 h4 hb k o ho o.l.ok
 rw [zao] at hba
 rw [show decide (o.k = 6) = false by simp; omega] at hba
 simp only [mayMemT, TP.at] at hba
 have cSt : (o.s = .empty) = False := eq_false cS
 by_cases hh : heldOf T o.l.xs false = true
 case neg =>
  have hhf : heldOf T o.l.xs false = false := by simpa using hh
  rw [hhf] at hba
  refine ⟨false, by simp -implicitDefEqProofs [x652, hT.refs, hT.ren, TP.at, hT.box, -AV.cells, zbz, zb2, zb1, zb0, zby, zb3, k3, g0, g1, g2, g3, g4, hlen, hba, cSt], ?_⟩
  refine ⟨fun c => (by cases c), ?_⟩
  rintro ⟨_, c, _⟩
  rw [c] at hhf
  cases hhf
 rw [hh] at hba
 by_cases cBn : o.s.size ≤ 4096
 case neg =>
  have cBt : ((o.s.size : Int) ≤ 4096) = False := eq_false (by omega)
  exact ⟨false, by simp -implicitDefEqProofs [x652, hT.refs, hT.ren, TP.at, hT.box, -AV.cells, zbz, zb2, zb1, zb0, zby, zb3, k3, g0, g1, g2, g3, g4, hlen, hba, cSt, cBt], by simp [cS, cBn]⟩
 have cBt : ((o.s.size : Int) ≤ 4096) = True := eq_true (by omega)
 by_cases cNn : o.l.xs = []
 case neg =>
  have cN0t : (o.l.xs = []) = False := eq_false cNn
  exact ⟨false, by simp -implicitDefEqProofs [x652, hT.refs, hT.ren, TP.at, hT.box, -AV.cells, zbz, zb2, zb1, zb0, zby, zb3, k3, g0, g1, g2, g3, g4, hlen, hba, cSt, cBt, cN0t], by simp [cS, cBn, cNn]⟩
 have cN0t : (o.l.xs = []) = True := eq_true cNn
 by_cases cZ : o.room = 0
 case neg =>
  have cZt : (o.room = 0) = False := eq_false cZ
  exact ⟨false, by simp -implicitDefEqProofs [x652, hT.refs, hT.ren, TP.at, hT.box, -AV.cells, zbz, zb2, zb1, zb0, zby, zb3, k3, g0, g1, g2, g3, g4, hlen, hba, cSt, cBt, cN0t, cZt], by simp [cS, cBn, cNn, cZ]⟩
 have cZt : (o.room = 0) = True := eq_true cZ
 by_cases cF : o.fn = 0
 case neg =>
  have cFt : (o.fn = 0) = False := eq_false cF
  exact ⟨false, by simp -implicitDefEqProofs [x652, hT.refs, hT.ren, TP.at, hT.box, -AV.cells, zbz, zb2, zb1, zb0, zby, zb3, k3, g0, g1, g2, g3, g4, hlen, hba, cSt, cBt, cN0t, cZt, cFt], by simp [cS, cBn, cNn, cZ, cF]⟩
 have cFt : (o.fn = 0) = True := eq_true cF
 exact ⟨true, by simp -implicitDefEqProofs [x652, hT.refs, hT.ren, TP.at, hT.box, -AV.cells, zbz, zb2, zb1, zb0, zby, zb3, k3, g0, g1, g2, g3, g4, hlen, hba, cSt, cBt, cN0t, cZt, cFt], by simp [cS, cBn, cNn, cZ, cF, hh]⟩
theorem zj8 {sA : AV} {t : TP} {T : List Obj} (hT : StoreT code ext sA t T) (h' : code 656 = some x656) (h2 : code 653 = some x653) (h3 : code 759 = some x759) (h4 : code 749 = some x749) (h5 : code 650 = some x650) (h6 : code 652 = some x652) (hb : T.length ≤ 1048576) (k : Nat) (o : Obj) (ho : T[k]? = some o) (k3 : o.k = 3) (cS : o.s = .empty) (cF : ¬ o.fn = 0) : ∃ b : Bool, callW code ext 652 [sA, t.at k] [] = some (avb b, []) ∧ (b = true ↔ ObjOk T o) := by
 rw [zbs code ext h6]
 have hlen := zo6 o.l.ok
 have hok : ObjOk T o ↔ (o.s.size ≤ 4096 ∧ o.l.xs = [] ∧ o.room = 0 ∧ o.fn = 0) := by
  unfold ObjOk
  rw [if_pos k3]
 rw [hok]
 clear hok
 have g0 : t.row[t.off + k * 5]? = some (.val (.int .u8 o.k)) := zdd (hT.obj k o ho) 0 (by omega)
 have g1 : t.row[t.off + k * 5 + 1]? = some (.val (.string o.s)) := zdd (hT.obj k o ho) 1 (by omega)
 have g2 : t.row[t.off + k * 5 + 2]? = some (o.l.iv) := zdd (hT.obj k o ho) 2 (by omega)
 have g3 : t.row[t.off + k * 5 + 3]? = some (.val (.int .i64 o.room)) := zdd (hT.obj k o ho) 3 (by omega)
 have g4 : t.row[t.off + k * 5 + 4]? = some (.val (.int .i64 o.fn)) := zdd (hT.obj k o ho) 4 (by omega)
 have hba := zam (ext := ext) hT h' h2 h3 h4 hb k o ho o.l.ok
 rw [zao] at hba
 rw [show decide (o.k = 6) = false by simp; omega] at hba
 simp only [mayMemT, TP.at] at hba
 have cSt : (o.s = .empty) = True := eq_true cS
 have cFt : (o.fn = 0) = False := eq_false cF
 by_cases hh : heldOf T o.l.xs false = true
 case neg =>
  have hhf : heldOf T o.l.xs false = false := by simpa using hh
  rw [hhf] at hba
  refine ⟨false, by simp -implicitDefEqProofs [x652, hT.refs, hT.ren, TP.at, hT.box, -AV.cells, zbz, zb2, zb1, zb0, zby, zb3, k3, g0, g1, g2, g3, g4, hlen, hba, cSt, cFt], ?_⟩
  refine ⟨fun c => (by cases c), ?_⟩
  rintro ⟨_, c, _⟩
  rw [c] at hhf
  cases hhf
 rw [hh] at hba
 have cB : o.s.size ≤ 4096 := by rw [cS]; decide
 have cBt : ((o.s.size : Int) ≤ 4096) = True := eq_true (by omega)
 by_cases cNn : o.l.xs = []
 case neg =>
  have cN0t : (o.l.xs = []) = False := eq_false cNn
  exact ⟨false, by simp -implicitDefEqProofs [x652, hT.refs, hT.ren, TP.at, hT.box, -AV.cells, zbz, zb2, zb1, zb0, zby, zb3, k3, g0, g1, g2, g3, g4, hlen, hba, cSt, cFt, cBt, cN0t], by simp [cS, cF, cB, cNn]⟩
 have cN0t : (o.l.xs = []) = True := eq_true cNn
 by_cases cZ : o.room = 0
 case neg =>
  have cZt : (o.room = 0) = False := eq_false cZ
  exact ⟨false, by simp -implicitDefEqProofs [x652, hT.refs, hT.ren, TP.at, hT.box, -AV.cells, zbz, zb2, zb1, zb0, zby, zb3, k3, g0, g1, g2, g3, g4, hlen, hba, cSt, cFt, cBt, cN0t, cZt], by simp [cS, cF, cB, cNn, cZ]⟩
 have cZt : (o.room = 0) = True := eq_true cZ
 exact ⟨false, by simp -implicitDefEqProofs [x652, hT.refs, hT.ren, TP.at, hT.box, -AV.cells, zbz, zb2, zb1, zb0, zby, zb3, k3, g0, g1, g2, g3, g4, hlen, hba, cSt, cFt, cBt, cN0t, cZt], by simp [cS, cF, cB, cNn, cZ, hh]⟩
theorem zj9 {sA : AV} {t : TP} {T : List Obj} (hT : StoreT code ext sA t T) (h' : code 656 = some x656) (h2 : code 653 = some x653) (h3 : code 759 = some x759) (h4 : code 749 = some x749) (h5 : code 650 = some x650) (h6 : code 652 = some x652) (hb : T.length ≤ 1048576) (k : Nat) (o : Obj) (ho : T[k]? = some o) (k3 : o.k = 3) (cS : o.s = .empty) (cF : o.fn = 0) (cR : ¬ (o.l.xs.length : Int) ≤ o.room) : ∃ b : Bool, callW code ext 652 [sA, t.at k] [] = some (avb b, []) ∧ (b = true ↔ ObjOk T o) := by
 rw [zbs code ext h6]
 have hlen := zo6 o.l.ok
 have hok : ObjOk T o ↔ (o.s.size ≤ 4096 ∧ o.l.xs = [] ∧ o.room = 0 ∧ o.fn = 0) := by
  unfold ObjOk
  rw [if_pos k3]
 rw [hok]
 clear hok
 have g0 : t.row[t.off + k * 5]? = some (.val (.int .u8 o.k)) := zdd (hT.obj k o ho) 0 (by omega)
 have g1 : t.row[t.off + k * 5 + 1]? = some (.val (.string o.s)) := zdd (hT.obj k o ho) 1 (by omega)
 have g2 : t.row[t.off + k * 5 + 2]? = some (o.l.iv) := zdd (hT.obj k o ho) 2 (by omega)
 have g3 : t.row[t.off + k * 5 + 3]? = some (.val (.int .i64 o.room)) := zdd (hT.obj k o ho) 3 (by omega)
 have g4 : t.row[t.off + k * 5 + 4]? = some (.val (.int .i64 o.fn)) := zdd (hT.obj k o ho) 4 (by omega)
 have hba := zam (ext := ext) hT h' h2 h3 h4 hb k o ho o.l.ok
 rw [zao] at hba
 rw [show decide (o.k = 6) = false by simp; omega] at hba
 simp only [mayMemT, TP.at] at hba
 have cSt : (o.s = .empty) = True := eq_true cS
 have cFt : (o.fn = 0) = True := eq_true cF
 have cRt : ((o.l.xs.length : Int) ≤ o.room) = False := eq_false cR
 by_cases hh : heldOf T o.l.xs false = true
 case neg =>
  have hhf : heldOf T o.l.xs false = false := by simpa using hh
  rw [hhf] at hba
  refine ⟨false, by simp -implicitDefEqProofs [x652, hT.refs, hT.ren, TP.at, hT.box, -AV.cells, zbz, zb2, zb1, zb0, zby, zb3, k3, g0, g1, g2, g3, g4, hlen, hba, cSt, cFt, cRt], ?_⟩
  refine ⟨fun c => (by cases c), ?_⟩
  rintro ⟨_, c, _⟩
  rw [c] at hhf
  cases hhf
 rw [hh] at hba
 have cB : o.s.size ≤ 4096 := by rw [cS]; decide
 have cBt : ((o.s.size : Int) ≤ 4096) = True := eq_true (by omega)
 by_cases cNn : o.l.xs = []
 case neg =>
  have cN0t : (o.l.xs = []) = False := eq_false cNn
  exact ⟨false, by simp -implicitDefEqProofs [x652, hT.refs, hT.ren, TP.at, hT.box, -AV.cells, zbz, zb2, zb1, zb0, zby, zb3, k3, g0, g1, g2, g3, g4, hlen, hba, cSt, cFt, cRt, cBt, cN0t], by simp [cS, cF, cR, cB, cNn]⟩
 have cN0t : (o.l.xs = []) = True := eq_true cNn
 by_cases cZ : o.room = 0
 case neg =>
  have cZt : (o.room = 0) = False := eq_false cZ
  exact ⟨false, by simp -implicitDefEqProofs [x652, hT.refs, hT.ren, TP.at, hT.box, -AV.cells, zbz, zb2, zb1, zb0, zby, zb3, k3, g0, g1, g2, g3, g4, hlen, hba, cSt, cFt, cRt, cBt, cN0t, cZt], by simp [cS, cF, cR, cB, cNn, cZ]⟩
 have cZt : (o.room = 0) = True := eq_true cZ
 exact ⟨true, by simp -implicitDefEqProofs [x652, hT.refs, hT.ren, TP.at, hT.box, -AV.cells, zbz, zb2, zb1, zb0, zby, zb3, k3, g0, g1, g2, g3, g4, hlen, hba, cSt, cFt, cRt, cBt, cN0t, cZt], by simp [cS, cF, cR, cB, cNn, cZ, hh]⟩
theorem zka {sA : AV} {t : TP} {T : List Obj} (hT : StoreT code ext sA t T) (h' : code 656 = some x656) (h2 : code 653 = some x653) (h3 : code 759 = some x759) (h4 : code 749 = some x749) (h5 : code 650 = some x650) (h6 : code 652 = some x652) (hb : T.length ≤ 1048576) (k : Nat) (o : Obj) (ho : T[k]? = some o) (k3 : o.k = 3) (cS : o.s = .empty) (cF : o.fn = 0) (cR : (o.l.xs.length : Int) ≤ o.room) (cQ : ¬ o.room ≤ 262144) : ∃ b : Bool, callW code ext 652 [sA, t.at k] [] = some (avb b, []) ∧ (b = true ↔ ObjOk T o) := by
 rw [zbs code ext h6]
 have hlen := zo6 o.l.ok
 have hok : ObjOk T o ↔ (o.s.size ≤ 4096 ∧ o.l.xs = [] ∧ o.room = 0 ∧ o.fn = 0) := by
  unfold ObjOk
  rw [if_pos k3]
 rw [hok]
 clear hok
 have g0 : t.row[t.off + k * 5]? = some (.val (.int .u8 o.k)) := zdd (hT.obj k o ho) 0 (by omega)
 have g1 : t.row[t.off + k * 5 + 1]? = some (.val (.string o.s)) := zdd (hT.obj k o ho) 1 (by omega)
 have g2 : t.row[t.off + k * 5 + 2]? = some (o.l.iv) := zdd (hT.obj k o ho) 2 (by omega)
 have g3 : t.row[t.off + k * 5 + 3]? = some (.val (.int .i64 o.room)) := zdd (hT.obj k o ho) 3 (by omega)
 have g4 : t.row[t.off + k * 5 + 4]? = some (.val (.int .i64 o.fn)) := zdd (hT.obj k o ho) 4 (by omega)
 have hba := zam (ext := ext) hT h' h2 h3 h4 hb k o ho o.l.ok
 rw [zao] at hba
 rw [show decide (o.k = 6) = false by simp; omega] at hba
 simp only [mayMemT, TP.at] at hba
 have cSt : (o.s = .empty) = True := eq_true cS
 have cFt : (o.fn = 0) = True := eq_true cF
 have cRt : ((o.l.xs.length : Int) ≤ o.room) = True := eq_true cR
 have cQt : (o.room ≤ 262144) = False := eq_false cQ
 by_cases hh : heldOf T o.l.xs false = true
 case neg =>
  have hhf : heldOf T o.l.xs false = false := by simpa using hh
  rw [hhf] at hba
  refine ⟨false, by simp -implicitDefEqProofs [x652, hT.refs, hT.ren, TP.at, hT.box, -AV.cells, zbz, zb2, zb1, zb0, zby, zb3, k3, g0, g1, g2, g3, g4, hlen, hba, cSt, cFt, cRt, cQt], ?_⟩
  refine ⟨fun c => (by cases c), ?_⟩
  rintro ⟨_, c, _⟩
  rw [c] at hhf
  cases hhf
 rw [hh] at hba
 have cB : o.s.size ≤ 4096 := by rw [cS]; decide
 have cBt : ((o.s.size : Int) ≤ 4096) = True := eq_true (by omega)
 by_cases cNn : o.l.xs = []
 case neg =>
  have cN0t : (o.l.xs = []) = False := eq_false cNn
  exact ⟨false, by simp -implicitDefEqProofs [x652, hT.refs, hT.ren, TP.at, hT.box, -AV.cells, zbz, zb2, zb1, zb0, zby, zb3, k3, g0, g1, g2, g3, g4, hlen, hba, cSt, cFt, cRt, cQt, cBt, cN0t], by simp [cS, cF, cR, cQ, cB, cNn]⟩
 have cN0t : (o.l.xs = []) = True := eq_true cNn
 by_cases cZ : o.room = 0
 case neg =>
  have cZt : (o.room = 0) = False := eq_false cZ
  exact ⟨false, by simp -implicitDefEqProofs [x652, hT.refs, hT.ren, TP.at, hT.box, -AV.cells, zbz, zb2, zb1, zb0, zby, zb3, k3, g0, g1, g2, g3, g4, hlen, hba, cSt, cFt, cRt, cQt, cBt, cN0t, cZt], by simp [cS, cF, cR, cQ, cB, cNn, cZ]⟩
 have cZt : (o.room = 0) = True := eq_true cZ
 exact ⟨true, by simp -implicitDefEqProofs [x652, hT.refs, hT.ren, TP.at, hT.box, -AV.cells, zbz, zb2, zb1, zb0, zby, zb3, k3, g0, g1, g2, g3, g4, hlen, hba, cSt, cFt, cRt, cQt, cBt, cN0t, cZt], by simp [cS, cF, cR, cQ, cB, cNn, cZ, hh]⟩
theorem zkb {sA : AV} {t : TP} {T : List Obj} (hT : StoreT code ext sA t T) (h' : code 656 = some x656) (h2 : code 653 = some x653) (h3 : code 759 = some x759) (h4 : code 749 = some x749) (h5 : code 650 = some x650) (h6 : code 652 = some x652) (hb : T.length ≤ 1048576) (k : Nat) (o : Obj) (ho : T[k]? = some o) (k3 : o.k = 3) (cS : o.s = .empty) (cF : o.fn = 0) (cR : (o.l.xs.length : Int) ≤ o.room) (cQ : o.room ≤ 262144) : ∃ b : Bool, callW code ext 652 [sA, t.at k] [] = some (avb b, []) ∧ (b = true ↔ ObjOk T o) := by
 rw [zbs code ext h6]
 have hlen := zo6 o.l.ok
 have hok : ObjOk T o ↔ (o.s.size ≤ 4096 ∧ o.l.xs = [] ∧ o.room = 0 ∧ o.fn = 0) := by
  unfold ObjOk
  rw [if_pos k3]
 rw [hok]
 clear hok
 have g0 : t.row[t.off + k * 5]? = some (.val (.int .u8 o.k)) := zdd (hT.obj k o ho) 0 (by omega)
 have g1 : t.row[t.off + k * 5 + 1]? = some (.val (.string o.s)) := zdd (hT.obj k o ho) 1 (by omega)
 have g2 : t.row[t.off + k * 5 + 2]? = some (o.l.iv) := zdd (hT.obj k o ho) 2 (by omega)
 have g3 : t.row[t.off + k * 5 + 3]? = some (.val (.int .i64 o.room)) := zdd (hT.obj k o ho) 3 (by omega)
 have g4 : t.row[t.off + k * 5 + 4]? = some (.val (.int .i64 o.fn)) := zdd (hT.obj k o ho) 4 (by omega)
 have hba := zam (ext := ext) hT h' h2 h3 h4 hb k o ho o.l.ok
 rw [zao] at hba
 rw [show decide (o.k = 6) = false by simp; omega] at hba
 simp only [mayMemT, TP.at] at hba
 have cSt : (o.s = .empty) = True := eq_true cS
 have cFt : (o.fn = 0) = True := eq_true cF
 have cRt : ((o.l.xs.length : Int) ≤ o.room) = True := eq_true cR
 have cQt : (o.room ≤ 262144) = True := eq_true cQ
 by_cases hh : heldOf T o.l.xs false = true
 case neg =>
  have hhf : heldOf T o.l.xs false = false := by simpa using hh
  rw [hhf] at hba
  refine ⟨false, by simp -implicitDefEqProofs [x652, hT.refs, hT.ren, TP.at, hT.box, -AV.cells, zbz, zb2, zb1, zb0, zby, zb3, k3, g0, g1, g2, g3, g4, hlen, hba, cSt, cFt, cRt, cQt], ?_⟩
  refine ⟨fun c => (by cases c), ?_⟩
  rintro ⟨_, c, _⟩
  rw [c] at hhf
  cases hhf
 rw [hh] at hba
 have cB : o.s.size ≤ 4096 := by rw [cS]; decide
 have cBt : ((o.s.size : Int) ≤ 4096) = True := eq_true (by omega)
 by_cases cNn : o.l.xs = []
 case neg =>
  have cN0t : (o.l.xs = []) = False := eq_false cNn
  exact ⟨false, by simp -implicitDefEqProofs [x652, hT.refs, hT.ren, TP.at, hT.box, -AV.cells, zbz, zb2, zb1, zb0, zby, zb3, k3, g0, g1, g2, g3, g4, hlen, hba, cSt, cFt, cRt, cQt, cBt, cN0t], by simp [cS, cF, cR, cQ, cB, cNn]⟩
 have cN0t : (o.l.xs = []) = True := eq_true cNn
 by_cases cZ : o.room = 0
 case neg =>
  have cZt : (o.room = 0) = False := eq_false cZ
  exact ⟨false, by simp -implicitDefEqProofs [x652, hT.refs, hT.ren, TP.at, hT.box, -AV.cells, zbz, zb2, zb1, zb0, zby, zb3, k3, g0, g1, g2, g3, g4, hlen, hba, cSt, cFt, cRt, cQt, cBt, cN0t, cZt], by simp [cS, cF, cR, cQ, cB, cNn, cZ]⟩
 have cZt : (o.room = 0) = True := eq_true cZ
 exact ⟨true, by simp -implicitDefEqProofs [x652, hT.refs, hT.ren, TP.at, hT.box, -AV.cells, zbz, zb2, zb1, zb0, zby, zb3, k3, g0, g1, g2, g3, g4, hlen, hba, cSt, cFt, cRt, cQt, cBt, cN0t, cZt], by simp [cS, cF, cR, cQ, cB, cNn, cZ, hh]⟩
theorem may3T {sA : AV} {t : TP} {T : List Obj} (hT : StoreT code ext sA t T) (h' : code 656 = some x656) (h2 : code 653 = some x653) (h3 : code 759 = some x759) (h4 : code 749 = some x749) (h5 : code 650 = some x650) (h6 : code 652 = some x652) (hb : T.length ≤ 1048576) (k : Nat) (o : Obj) (ho : T[k]? = some o) (k3 : o.k = 3) : ∃ b : Bool, callW code ext 652 [sA, t.at k] [] = some (avb b, []) ∧ (b = true ↔ ObjOk T o) := by
 by_cases cS : o.s = .empty
 case neg => exact zj7 hT h' h2 h3 h4 h5 h6 hb k o ho k3 cS
 by_cases cF : o.fn = 0
 case neg => exact zj8 hT h' h2 h3 h4 h5 h6 hb k o ho k3 cS cF
 by_cases cR : (o.l.xs.length : Int) ≤ o.room
 case neg => exact zj9 hT h' h2 h3 h4 h5 h6 hb k o ho k3 cS cF cR
 by_cases cQ : o.room ≤ 262144
 case neg => exact zka hT h' h2 h3 h4 h5 h6 hb k o ho k3 cS cF cR cQ
 exact zkb hT h' h2 h3 h4 h5 h6 hb k o ho k3 cS cF cR cQ
end
end Go.EX


set_option maxHeartbeats 1000000
namespace Go.EX
section
variable {code : Nat → Option XFun} {ext : Calls'}
theorem zkc {sA : AV} {t : TP} {T : List Obj} (hT : StoreT code ext sA t T) (h' : code 656 = some x656) (h2 : code 653 = some x653) (h3 : code 759 = some x759) (h4 : code 749 = some x749) (h5 : code 650 = some x650) (h6 : code 652 = some x652) (hb : T.length ≤ 1048576) (k : Nat) (o : Obj) (ho : T[k]? = some o) (k4 : o.k = 4) (cS : ¬ o.s = .empty) : ∃ b : Bool, callW code ext 652 [sA, t.at k] [] = some (avb b, []) ∧ (b = true ↔ ObjOk T o) := by
 rw [zbs code ext h6]
 have hlen := zo6 o.l.ok
 have hok : ObjOk T o ↔ (o.s = .empty ∧ o.fn = 0 ∧ (o.l.xs.length : Int) ≤ 65536 ∧ (o.l.xs.length : Int) ≤ o.room ∧ o.room ≤ 262144 ∧ heldOf T o.l.xs false = true) := by
  unfold ObjOk
  rw [if_neg (by omega), if_pos k4]
 rw [hok]
 clear hok
 have g0 : t.row[t.off + k * 5]? = some (.val (.int .u8 o.k)) := zdd (hT.obj k o ho) 0 (by omega)
 have g1 : t.row[t.off + k * 5 + 1]? = some (.val (.string o.s)) := zdd (hT.obj k o ho) 1 (by omega)
 have g2 : t.row[t.off + k * 5 + 2]? = some (o.l.iv) := zdd (hT.obj k o ho) 2 (by omega)
 have g3 : t.row[t.off + k * 5 + 3]? = some (.val (.int .i64 o.room)) := zdd (hT.obj k o ho) 3 (by omega)
 have g4 : t.row[t.off + k * 5 + 4]? = some (.val (.int .i64 o.fn)) := zdd (hT.obj k o ho) 4 (by omega)
 have hba := zam (ext := ext) hT h' h2 h3 h4 hb k o ho o.l.ok
 rw [zao] at hba
 rw [show decide (o.k = 6) = false by simp; omega] at hba
 simp only [mayMemT, TP.at] at hba
 have cSt : (o.s = .empty) = False := eq_false cS
 by_cases hh : heldOf T o.l.xs false = true
 case neg =>
  have hhf : heldOf T o.l.xs false = false := by simpa using hh
  rw [hhf] at hba
  exact ⟨false, by simp -implicitDefEqProofs [x652, hT.refs, hT.ren, TP.at, hT.box, -AV.cells, zbz, zb2, zb1, zb0, zby, zb3, k4, g0, g1, g2, g3, g4, hlen, hba, cSt], by simp [hhf]⟩
 rw [hh] at hba
 exact ⟨false, by simp -implicitDefEqProofs [x652, hT.refs, hT.ren, TP.at, hT.box, -AV.cells, zbz, zb2, zb1, zb0, zby, zb3, k4, g0, g1, g2, g3, g4, hlen, hba, cSt], by simp [cS, hh]⟩
theorem zkd {sA : AV} {t : TP} {T : List Obj} (hT : StoreT code ext sA t T) (h' : code 656 = some x656) (h2 : code 653 = some x653) (h3 : code 759 = some x759) (h4 : code 749 = some x749) (h5 : code 650 = some x650) (h6 : code 652 = some x652) (hb : T.length ≤ 1048576) (k : Nat) (o : Obj) (ho : T[k]? = some o) (k4 : o.k = 4) (cS : o.s = .empty) (cF : ¬ o.fn = 0) : ∃ b : Bool, callW code ext 652 [sA, t.at k] [] = some (avb b, []) ∧ (b = true ↔ ObjOk T o) := by
 rw [zbs code ext h6]
 have hlen := zo6 o.l.ok
 have hok : ObjOk T o ↔ (o.s = .empty ∧ o.fn = 0 ∧ (o.l.xs.length : Int) ≤ 65536 ∧ (o.l.xs.length : Int) ≤ o.room ∧ o.room ≤ 262144 ∧ heldOf T o.l.xs false = true) := by
  unfold ObjOk
  rw [if_neg (by omega), if_pos k4]
 rw [hok]
 clear hok
 have g0 : t.row[t.off + k * 5]? = some (.val (.int .u8 o.k)) := zdd (hT.obj k o ho) 0 (by omega)
 have g1 : t.row[t.off + k * 5 + 1]? = some (.val (.string o.s)) := zdd (hT.obj k o ho) 1 (by omega)
 have g2 : t.row[t.off + k * 5 + 2]? = some (o.l.iv) := zdd (hT.obj k o ho) 2 (by omega)
 have g3 : t.row[t.off + k * 5 + 3]? = some (.val (.int .i64 o.room)) := zdd (hT.obj k o ho) 3 (by omega)
 have g4 : t.row[t.off + k * 5 + 4]? = some (.val (.int .i64 o.fn)) := zdd (hT.obj k o ho) 4 (by omega)
 have hba := zam (ext := ext) hT h' h2 h3 h4 hb k o ho o.l.ok
 rw [zao] at hba
 rw [show decide (o.k = 6) = false by simp; omega] at hba
 simp only [mayMemT, TP.at] at hba
 have cSt : (o.s = .empty) = True := eq_true cS
 have cFt : (o.fn = 0) = False := eq_false cF
 by_cases hh : heldOf T o.l.xs false = true
 case neg =>
  have hhf : heldOf T o.l.xs false = false := by simpa using hh
  rw [hhf] at hba
  exact ⟨false, by simp -implicitDefEqProofs [x652, hT.refs, hT.ren, TP.at, hT.box, -AV.cells, zbz, zb2, zb1, zb0, zby, zb3, k4, g0, g1, g2, g3, g4, hlen, hba, cSt, cFt], by simp [hhf]⟩
 rw [hh] at hba
 exact ⟨false, by simp -implicitDefEqProofs [x652, hT.refs, hT.ren, TP.at, hT.box, -AV.cells, zbz, zb2, zb1, zb0, zby, zb3, k4, g0, g1, g2, g3, g4, hlen, hba, cSt, cFt], by simp [cS, cF, hh]⟩
theorem zke {sA : AV} {t : TP} {T : List Obj} (hT : StoreT code ext sA t T) (h' : code 656 = some x656) (h2 : code 653 = some x653) (h3 : code 759 = some x759) (h4 : code 749 = some x749) (h5 : code 650 = some x650) (h6 : code 652 = some x652) (hb : T.length ≤ 1048576) (k : Nat) (o : Obj) (ho : T[k]? = some o) (k4 : o.k = 4) (cS : o.s = .empty) (cF : o.fn = 0) (cR : ¬ (o.l.xs.length : Int) ≤ o.room) : ∃ b : Bool, callW code ext 652 [sA, t.at k] [] = some (avb b, []) ∧ (b = true ↔ ObjOk T o) := by
 rw [zbs code ext h6]
 have hlen := zo6 o.l.ok
 have hok : ObjOk T o ↔ (o.s = .empty ∧ o.fn = 0 ∧ (o.l.xs.length : Int) ≤ 65536 ∧ (o.l.xs.length : Int) ≤ o.room ∧ o.room ≤ 262144 ∧ heldOf T o.l.xs false = true) := by
  unfold ObjOk
  rw [if_neg (by omega), if_pos k4]
 rw [hok]
 clear hok
 have g0 : t.row[t.off + k * 5]? = some (.val (.int .u8 o.k)) := zdd (hT.obj k o ho) 0 (by omega)
 have g1 : t.row[t.off + k * 5 + 1]? = some (.val (.string o.s)) := zdd (hT.obj k o ho) 1 (by omega)
 have g2 : t.row[t.off + k * 5 + 2]? = some (o.l.iv) := zdd (hT.obj k o ho) 2 (by omega)
 have g3 : t.row[t.off + k * 5 + 3]? = some (.val (.int .i64 o.room)) := zdd (hT.obj k o ho) 3 (by omega)
 have g4 : t.row[t.off + k * 5 + 4]? = some (.val (.int .i64 o.fn)) := zdd (hT.obj k o ho) 4 (by omega)
 have hba := zam (ext := ext) hT h' h2 h3 h4 hb k o ho o.l.ok
 rw [zao] at hba
 rw [show decide (o.k = 6) = false by simp; omega] at hba
 simp only [mayMemT, TP.at] at hba
 have cSt : (o.s = .empty) = True := eq_true cS
 have cFt : (o.fn = 0) = True := eq_true cF
 have cRt : ((o.l.xs.length : Int) ≤ o.room) = False := eq_false cR
 by_cases hh : heldOf T o.l.xs false = true
 case neg =>
  have hhf : heldOf T o.l.xs false = false := by simpa using hh
  rw [hhf] at hba
  exact ⟨false, by simp -implicitDefEqProofs [x652, hT.refs, hT.ren, TP.at, hT.box, -AV.cells, zbz, zb2, zb1, zb0, zby, zb3, k4, g0, g1, g2, g3, g4, hlen, hba, cSt, cFt, cRt], by simp [hhf]⟩
 rw [hh] at hba
 exact ⟨false, by simp -implicitDefEqProofs [x652, hT.refs, hT.ren, TP.at, hT.box, -AV.cells, zbz, zb2, zb1, zb0, zby, zb3, k4, g0, g1, g2, g3, g4, hlen, hba, cSt, cFt, cRt], by simp [cS, cF, cR, hh]⟩
theorem zkf {sA : AV} {t : TP} {T : List Obj} (hT : StoreT code ext sA t T) (h' : code 656 = some x656) (h2 : code 653 = some x653) (h3 : code 759 = some x759) (h4 : code 749 = some x749) (h5 : code 650 = some x650) (h6 : code 652 = some x652) (hb : T.length ≤ 1048576) (k : Nat) (o : Obj) (ho : T[k]? = some o) (k4 : o.k = 4) (cS : o.s = .empty) (cF : o.fn = 0) (cR : (o.l.xs.length : Int) ≤ o.room) (cQ : ¬ o.room ≤ 262144) : ∃ b : Bool, callW code ext 652 [sA, t.at k] [] = some (avb b, []) ∧ (b = true ↔ ObjOk T o) := by
 rw [zbs code ext h6]
 have hlen := zo6 o.l.ok
 have hok : ObjOk T o ↔ (o.s = .empty ∧ o.fn = 0 ∧ (o.l.xs.length : Int) ≤ 65536 ∧ (o.l.xs.length : Int) ≤ o.room ∧ o.room ≤ 262144 ∧ heldOf T o.l.xs false = true) := by
  unfold ObjOk
  rw [if_neg (by omega), if_pos k4]
 rw [hok]
 clear hok
 have g0 : t.row[t.off + k * 5]? = some (.val (.int .u8 o.k)) := zdd (hT.obj k o ho) 0 (by omega)
 have g1 : t.row[t.off + k * 5 + 1]? = some (.val (.string o.s)) := zdd (hT.obj k o ho) 1 (by omega)
 have g2 : t.row[t.off + k * 5 + 2]? = some (o.l.iv) := zdd (hT.obj k o ho) 2 (by omega)
 have g3 : t.row[t.off + k * 5 + 3]? = some (.val (.int .i64 o.room)) := zdd (hT.obj k o ho) 3 (by omega)
 have g4 : t.row[t.off + k * 5 + 4]? = some (.val (.int .i64 o.fn)) := zdd (hT.obj k o ho) 4 (by omega)
 have hba := zam (ext := ext) hT h' h2 h3 h4 hb k o ho o.l.ok
 rw [zao] at hba
 rw [show decide (o.k = 6) = false by simp; omega] at hba
 simp only [mayMemT, TP.at] at hba
 have cSt : (o.s = .empty) = True := eq_true cS
 have cFt : (o.fn = 0) = True := eq_true cF
 have cRt : ((o.l.xs.length : Int) ≤ o.room) = True := eq_true cR
 have cQt : (o.room ≤ 262144) = False := eq_false cQ
 by_cases hh : heldOf T o.l.xs false = true
 case neg =>
  have hhf : heldOf T o.l.xs false = false := by simpa using hh
  rw [hhf] at hba
  exact ⟨false, by simp -implicitDefEqProofs [x652, hT.refs, hT.ren, TP.at, hT.box, -AV.cells, zbz, zb2, zb1, zb0, zby, zb3, k4, g0, g1, g2, g3, g4, hlen, hba, cSt, cFt, cRt, cQt], by simp [hhf]⟩
 rw [hh] at hba
 exact ⟨false, by simp -implicitDefEqProofs [x652, hT.refs, hT.ren, TP.at, hT.box, -AV.cells, zbz, zb2, zb1, zb0, zby, zb3, k4, g0, g1, g2, g3, g4, hlen, hba, cSt, cFt, cRt, cQt], by simp [cS, cF, cR, cQ, hh]⟩
theorem zkg {sA : AV} {t : TP} {T : List Obj} (hT : StoreT code ext sA t T) (h' : code 656 = some x656) (h2 : code 653 = some x653) (h3 : code 759 = some x759) (h4 : code 749 = some x749) (h5 : code 650 = some x650) (h6 : code 652 = some x652) (hb : T.length ≤ 1048576) (k : Nat) (o : Obj) (ho : T[k]? = some o) (k4 : o.k = 4) (cS : o.s = .empty) (cF : o.fn = 0) (cR : (o.l.xs.length : Int) ≤ o.room) (cQ : o.room ≤ 262144) : ∃ b : Bool, callW code ext 652 [sA, t.at k] [] = some (avb b, []) ∧ (b = true ↔ ObjOk T o) := by
 rw [zbs code ext h6]
 have hlen := zo6 o.l.ok
 have hok : ObjOk T o ↔ (o.s = .empty ∧ o.fn = 0 ∧ (o.l.xs.length : Int) ≤ 65536 ∧ (o.l.xs.length : Int) ≤ o.room ∧ o.room ≤ 262144 ∧ heldOf T o.l.xs false = true) := by
  unfold ObjOk
  rw [if_neg (by omega), if_pos k4]
 rw [hok]
 clear hok
 have g0 : t.row[t.off + k * 5]? = some (.val (.int .u8 o.k)) := zdd (hT.obj k o ho) 0 (by omega)
 have g1 : t.row[t.off + k * 5 + 1]? = some (.val (.string o.s)) := zdd (hT.obj k o ho) 1 (by omega)
 have g2 : t.row[t.off + k * 5 + 2]? = some (o.l.iv) := zdd (hT.obj k o ho) 2 (by omega)
 have g3 : t.row[t.off + k * 5 + 3]? = some (.val (.int .i64 o.room)) := zdd (hT.obj k o ho) 3 (by omega)
 have g4 : t.row[t.off + k * 5 + 4]? = some (.val (.int .i64 o.fn)) := zdd (hT.obj k o ho) 4 (by omega)
 have hba := zam (ext := ext) hT h' h2 h3 h4 hb k o ho o.l.ok
 rw [zao] at hba
 rw [show decide (o.k = 6) = false by simp; omega] at hba
 simp only [mayMemT, TP.at] at hba
 have cSt : (o.s = .empty) = True := eq_true cS
 have cFt : (o.fn = 0) = True := eq_true cF
 have cRt : ((o.l.xs.length : Int) ≤ o.room) = True := eq_true cR
 have cQt : (o.room ≤ 262144) = True := eq_true cQ
 by_cases hh : heldOf T o.l.xs false = true
 case neg =>
  have hhf : heldOf T o.l.xs false = false := by simpa using hh
  rw [hhf] at hba
  exact ⟨false, by simp -implicitDefEqProofs [x652, hT.refs, hT.ren, TP.at, hT.box, -AV.cells, zbz, zb2, zb1, zb0, zby, zb3, k4, g0, g1, g2, g3, g4, hlen, hba, cSt, cFt, cRt, cQt], by simp [hhf]⟩
 rw [hh] at hba
 by_cases cN4 : (o.l.xs.length : Int) ≤ 65536
 case neg =>
  have cN4t : ((o.l.xs.length : Int) ≤ 65536) = False := eq_false cN4
  exact ⟨false, by simp -implicitDefEqProofs [x652, hT.refs, hT.ren, TP.at, hT.box, -AV.cells, zbz, zb2, zb1, zb0, zby, zb3, k4, g0, g1, g2, g3, g4, hlen, hba, cSt, cFt, cRt, cQt, cN4t], by simp [cS, cF, cR, cQ, cN4]⟩
 have cN4t : ((o.l.xs.length : Int) ≤ 65536) = True := eq_true cN4
 exact ⟨true, by simp -implicitDefEqProofs [x652, hT.refs, hT.ren, TP.at, hT.box, -AV.cells, zbz, zb2, zb1, zb0, zby, zb3, k4, g0, g1, g2, g3, g4, hlen, hba, cSt, cFt, cRt, cQt, cN4t], by simp [cS, cF, cR, cQ, cN4, hh]⟩
theorem may4T {sA : AV} {t : TP} {T : List Obj} (hT : StoreT code ext sA t T) (h' : code 656 = some x656) (h2 : code 653 = some x653) (h3 : code 759 = some x759) (h4 : code 749 = some x749) (h5 : code 650 = some x650) (h6 : code 652 = some x652) (hb : T.length ≤ 1048576) (k : Nat) (o : Obj) (ho : T[k]? = some o) (k4 : o.k = 4) : ∃ b : Bool, callW code ext 652 [sA, t.at k] [] = some (avb b, []) ∧ (b = true ↔ ObjOk T o) := by
 by_cases cS : o.s = .empty
 case neg => exact zkc hT h' h2 h3 h4 h5 h6 hb k o ho k4 cS
 by_cases cF : o.fn = 0
 case neg => exact zkd hT h' h2 h3 h4 h5 h6 hb k o ho k4 cS cF
 by_cases cR : (o.l.xs.length : Int) ≤ o.room
 case neg => exact zke hT h' h2 h3 h4 h5 h6 hb k o ho k4 cS cF cR
 by_cases cQ : o.room ≤ 262144
 case neg => exact zkf hT h' h2 h3 h4 h5 h6 hb k o ho k4 cS cF cR cQ
 exact zkg hT h' h2 h3 h4 h5 h6 hb k o ho k4 cS cF cR cQ
end
end Go.EX


set_option maxHeartbeats 1000000
namespace Go.EX
section
variable {code : Nat → Option XFun} {ext : Calls'}
theorem zkh {sA : AV} {t : TP} {T : List Obj} (hT : StoreT code ext sA t T) (h' : code 656 = some x656) (h2 : code 653 = some x653) (h3 : code 759 = some x759) (h4 : code 749 = some x749) (h5 : code 650 = some x650) (h6 : code 652 = some x652) (hb : T.length ≤ 1048576) (k : Nat) (o : Obj) (ho : T[k]? = some o) (k5 : o.k = 5) (cS : ¬ o.s = .empty) : ∃ b : Bool, callW code ext 652 [sA, t.at k] [] = some (avb b, []) ∧ (b = true ↔ ObjOk T o) := by
 rw [zbs code ext h6]
 have hlen := zo6 o.l.ok
 have hok : ObjOk T o ↔ (o.s = .empty ∧ o.fn = 0 ∧ (o.l.xs.length : Int).tmod 2 = 0 ∧ (o.l.xs.length : Int) ≤ 131072 ∧ (o.l.xs.length : Int) ≤ o.room ∧ o.room ≤ 262144 ∧ heldOf T o.l.xs false = true ∧ KeysOk T o.l.xs) := by
  unfold ObjOk
  rw [if_neg (by omega), if_neg (by omega), if_pos k5]
 rw [hok]
 clear hok
 have g0 : t.row[t.off + k * 5]? = some (.val (.int .u8 o.k)) := zdd (hT.obj k o ho) 0 (by omega)
 have g1 : t.row[t.off + k * 5 + 1]? = some (.val (.string o.s)) := zdd (hT.obj k o ho) 1 (by omega)
 have g2 : t.row[t.off + k * 5 + 2]? = some (o.l.iv) := zdd (hT.obj k o ho) 2 (by omega)
 have g3 : t.row[t.off + k * 5 + 3]? = some (.val (.int .i64 o.room)) := zdd (hT.obj k o ho) 3 (by omega)
 have g4 : t.row[t.off + k * 5 + 4]? = some (.val (.int .i64 o.fn)) := zdd (hT.obj k o ho) 4 (by omega)
 have hba := zam (ext := ext) hT h' h2 h3 h4 hb k o ho o.l.ok
 rw [zao] at hba
 rw [show decide (o.k = 6) = false by simp; omega] at hba
 simp only [mayMemT, TP.at] at hba
 have cSt : (o.s = .empty) = False := eq_false cS
 by_cases hh : heldOf T o.l.xs false = true
 case neg =>
  have hhf : heldOf T o.l.xs false = false := by simpa using hh
  rw [hhf] at hba
  exact ⟨false, by simp -implicitDefEqProofs [x652, hT.refs, hT.ren, TP.at, hT.box, -AV.cells, zbz, zb2, zb1, zb0, zby, zb3, k5, g0, g1, g2, g3, g4, hlen, hba, cSt], by simp [hhf]⟩
 rw [hh] at hba
 exact ⟨false, by simp -implicitDefEqProofs [x652, hT.refs, hT.ren, TP.at, hT.box, -AV.cells, zbz, zb2, zb1, zb0, zby, zb3, k5, g0, g1, g2, g3, g4, hlen, hba, cSt], by simp [cS, hh]⟩
theorem zki {sA : AV} {t : TP} {T : List Obj} (hT : StoreT code ext sA t T) (h' : code 656 = some x656) (h2 : code 653 = some x653) (h3 : code 759 = some x759) (h4 : code 749 = some x749) (h5 : code 650 = some x650) (h6 : code 652 = some x652) (hb : T.length ≤ 1048576) (k : Nat) (o : Obj) (ho : T[k]? = some o) (k5 : o.k = 5) (cS : o.s = .empty) (cF : ¬ o.fn = 0) : ∃ b : Bool, callW code ext 652 [sA, t.at k] [] = some (avb b, []) ∧ (b = true ↔ ObjOk T o) := by
 rw [zbs code ext h6]
 have hlen := zo6 o.l.ok
 have hok : ObjOk T o ↔ (o.s = .empty ∧ o.fn = 0 ∧ (o.l.xs.length : Int).tmod 2 = 0 ∧ (o.l.xs.length : Int) ≤ 131072 ∧ (o.l.xs.length : Int) ≤ o.room ∧ o.room ≤ 262144 ∧ heldOf T o.l.xs false = true ∧ KeysOk T o.l.xs) := by
  unfold ObjOk
  rw [if_neg (by omega), if_neg (by omega), if_pos k5]
 rw [hok]
 clear hok
 have g0 : t.row[t.off + k * 5]? = some (.val (.int .u8 o.k)) := zdd (hT.obj k o ho) 0 (by omega)
 have g1 : t.row[t.off + k * 5 + 1]? = some (.val (.string o.s)) := zdd (hT.obj k o ho) 1 (by omega)
 have g2 : t.row[t.off + k * 5 + 2]? = some (o.l.iv) := zdd (hT.obj k o ho) 2 (by omega)
 have g3 : t.row[t.off + k * 5 + 3]? = some (.val (.int .i64 o.room)) := zdd (hT.obj k o ho) 3 (by omega)
 have g4 : t.row[t.off + k * 5 + 4]? = some (.val (.int .i64 o.fn)) := zdd (hT.obj k o ho) 4 (by omega)
 have hba := zam (ext := ext) hT h' h2 h3 h4 hb k o ho o.l.ok
 rw [zao] at hba
 rw [show decide (o.k = 6) = false by simp; omega] at hba
 simp only [mayMemT, TP.at] at hba
 have cSt : (o.s = .empty) = True := eq_true cS
 have cFt : (o.fn = 0) = False := eq_false cF
 by_cases hh : heldOf T o.l.xs false = true
 case neg =>
  have hhf : heldOf T o.l.xs false = false := by simpa using hh
  rw [hhf] at hba
  exact ⟨false, by simp -implicitDefEqProofs [x652, hT.refs, hT.ren, TP.at, hT.box, -AV.cells, zbz, zb2, zb1, zb0, zby, zb3, k5, g0, g1, g2, g3, g4, hlen, hba, cSt, cFt], by simp [hhf]⟩
 rw [hh] at hba
 exact ⟨false, by simp -implicitDefEqProofs [x652, hT.refs, hT.ren, TP.at, hT.box, -AV.cells, zbz, zb2, zb1, zb0, zby, zb3, k5, g0, g1, g2, g3, g4, hlen, hba, cSt, cFt], by simp [cS, cF, hh]⟩
theorem zkj {sA : AV} {t : TP} {T : List Obj} (hT : StoreT code ext sA t T) (h' : code 656 = some x656) (h2 : code 653 = some x653) (h3 : code 759 = some x759) (h4 : code 749 = some x749) (h5 : code 650 = some x650) (h6 : code 652 = some x652) (hb : T.length ≤ 1048576) (k : Nat) (o : Obj) (ho : T[k]? = some o) (k5 : o.k = 5) (cS : o.s = .empty) (cF : o.fn = 0) (cR : ¬ (o.l.xs.length : Int) ≤ o.room) : ∃ b : Bool, callW code ext 652 [sA, t.at k] [] = some (avb b, []) ∧ (b = true ↔ ObjOk T o) := by
 rw [zbs code ext h6]
 have hlen := zo6 o.l.ok
 have hok : ObjOk T o ↔ (o.s = .empty ∧ o.fn = 0 ∧ (o.l.xs.length : Int).tmod 2 = 0 ∧ (o.l.xs.length : Int) ≤ 131072 ∧ (o.l.xs.length : Int) ≤ o.room ∧ o.room ≤ 262144 ∧ heldOf T o.l.xs false = true ∧ KeysOk T o.l.xs) := by
  unfold ObjOk
  rw [if_neg (by omega), if_neg (by omega), if_pos k5]
 rw [hok]
 clear hok
 have g0 : t.row[t.off + k * 5]? = some (.val (.int .u8 o.k)) := zdd (hT.obj k o ho) 0 (by omega)
 have g1 : t.row[t.off + k * 5 + 1]? = some (.val (.string o.s)) := zdd (hT.obj k o ho) 1 (by omega)
 have g2 : t.row[t.off + k * 5 + 2]? = some (o.l.iv) := zdd (hT.obj k o ho) 2 (by omega)
 have g3 : t.row[t.off + k * 5 + 3]? = some (.val (.int .i64 o.room)) := zdd (hT.obj k o ho) 3 (by omega)
 have g4 : t.row[t.off + k * 5 + 4]? = some (.val (.int .i64 o.fn)) := zdd (hT.obj k o ho) 4 (by omega)
 have hba := zam (ext := ext) hT h' h2 h3 h4 hb k o ho o.l.ok
 rw [zao] at hba
 rw [show decide (o.k = 6) = false by simp; omega] at hba
 simp only [mayMemT, TP.at] at hba
 have cSt : (o.s = .empty) = True := eq_true cS
 have cFt : (o.fn = 0) = True := eq_true cF
 have cRt : ((o.l.xs.length : Int) ≤ o.room) = False := eq_false cR
 by_cases hh : heldOf T o.l.xs false = true
 case neg =>
  have hhf : heldOf T o.l.xs false = false := by simpa using hh
  rw [hhf] at hba
  exact ⟨false, by simp -implicitDefEqProofs [x652, hT.refs, hT.ren, TP.at, hT.box, -AV.cells, zbz, zb2, zb1, zb0, zby, zb3, k5, g0, g1, g2, g3, g4, hlen, hba, cSt, cFt, cRt], by simp [hhf]⟩
 rw [hh] at hba
 exact ⟨false, by simp -implicitDefEqProofs [x652, hT.refs, hT.ren, TP.at, hT.box, -AV.cells, zbz, zb2, zb1, zb0, zby, zb3, k5, g0, g1, g2, g3, g4, hlen, hba, cSt, cFt, cRt], by simp [cS, cF, cR, hh]⟩
theorem zkk {sA : AV} {t : TP} {T : List Obj} (hT : StoreT code ext sA t T) (h' : code 656 = some x656) (h2 : code 653 = some x653) (h3 : code 759 = some x759) (h4 : code 749 = some x749) (h5 : code 650 = some x650) (h6 : code 652 = some x652) (hb : T.length ≤ 1048576) (k : Nat) (o : Obj) (ho : T[k]? = some o) (k5 : o.k = 5) (cS : o.s = .empty) (cF : o.fn = 0) (cR : (o.l.xs.length : Int) ≤ o.room) (cQ : ¬ o.room ≤ 262144) : ∃ b : Bool, callW code ext 652 [sA, t.at k] [] = some (avb b, []) ∧ (b = true ↔ ObjOk T o) := by
 rw [zbs code ext h6]
 have hlen := zo6 o.l.ok
 have hok : ObjOk T o ↔ (o.s = .empty ∧ o.fn = 0 ∧ (o.l.xs.length : Int).tmod 2 = 0 ∧ (o.l.xs.length : Int) ≤ 131072 ∧ (o.l.xs.length : Int) ≤ o.room ∧ o.room ≤ 262144 ∧ heldOf T o.l.xs false = true ∧ KeysOk T o.l.xs) := by
  unfold ObjOk
  rw [if_neg (by omega), if_neg (by omega), if_pos k5]
 rw [hok]
 clear hok
 have g0 : t.row[t.off + k * 5]? = some (.val (.int .u8 o.k)) := zdd (hT.obj k o ho) 0 (by omega)
 have g1 : t.row[t.off + k * 5 + 1]? = some (.val (.string o.s)) := zdd (hT.obj k o ho) 1 (by omega)
 have g2 : t.row[t.off + k * 5 + 2]? = some (o.l.iv) := zdd (hT.obj k o ho) 2 (by omega)
 have g3 : t.row[t.off + k * 5 + 3]? = some (.val (.int .i64 o.room)) := zdd (hT.obj k o ho) 3 (by omega)
 have g4 : t.row[t.off + k * 5 + 4]? = some (.val (.int .i64 o.fn)) := zdd (hT.obj k o ho) 4 (by omega)
 have hba := zam (ext := ext) hT h' h2 h3 h4 hb k o ho o.l.ok
 rw [zao] at hba
 rw [show decide (o.k = 6) = false by simp; omega] at hba
 simp only [mayMemT, TP.at] at hba
 have cSt : (o.s = .empty) = True := eq_true cS
 have cFt : (o.fn = 0) = True := eq_true cF
 have cRt : ((o.l.xs.length : Int) ≤ o.room) = True := eq_true cR
 have cQt : (o.room ≤ 262144) = False := eq_false cQ
 by_cases hh : heldOf T o.l.xs false = true
 case neg =>
  have hhf : heldOf T o.l.xs false = false := by simpa using hh
  rw [hhf] at hba
  exact ⟨false, by simp -implicitDefEqProofs [x652, hT.refs, hT.ren, TP.at, hT.box, -AV.cells, zbz, zb2, zb1, zb0, zby, zb3, k5, g0, g1, g2, g3, g4, hlen, hba, cSt, cFt, cRt, cQt], by simp [hhf]⟩
 rw [hh] at hba
 exact ⟨false, by simp -implicitDefEqProofs [x652, hT.refs, hT.ren, TP.at, hT.box, -AV.cells, zbz, zb2, zb1, zb0, zby, zb3, k5, g0, g1, g2, g3, g4, hlen, hba, cSt, cFt, cRt, cQt], by simp [cS, cF, cR, cQ, hh]⟩
theorem zkl {sA : AV} {t : TP} {T : List Obj} (hT : StoreT code ext sA t T) (h' : code 656 = some x656) (h2 : code 653 = some x653) (h3 : code 759 = some x759) (h4 : code 749 = some x749) (h5 : code 650 = some x650) (h6 : code 652 = some x652) (hb : T.length ≤ 1048576) (k : Nat) (o : Obj) (ho : T[k]? = some o) (k5 : o.k = 5) (cS : o.s = .empty) (cF : o.fn = 0) (cR : (o.l.xs.length : Int) ≤ o.room) (cQ : o.room ≤ 262144) : ∃ b : Bool, callW code ext 652 [sA, t.at k] [] = some (avb b, []) ∧ (b = true ↔ ObjOk T o) := by
 rw [zbs code ext h6]
 have hlen := zo6 o.l.ok
 have hok : ObjOk T o ↔ (o.s = .empty ∧ o.fn = 0 ∧ (o.l.xs.length : Int).tmod 2 = 0 ∧ (o.l.xs.length : Int) ≤ 131072 ∧ (o.l.xs.length : Int) ≤ o.room ∧ o.room ≤ 262144 ∧ heldOf T o.l.xs false = true ∧ KeysOk T o.l.xs) := by
  unfold ObjOk
  rw [if_neg (by omega), if_neg (by omega), if_pos k5]
 rw [hok]
 clear hok
 have g0 : t.row[t.off + k * 5]? = some (.val (.int .u8 o.k)) := zdd (hT.obj k o ho) 0 (by omega)
 have g1 : t.row[t.off + k * 5 + 1]? = some (.val (.string o.s)) := zdd (hT.obj k o ho) 1 (by omega)
 have g2 : t.row[t.off + k * 5 + 2]? = some (o.l.iv) := zdd (hT.obj k o ho) 2 (by omega)
 have g3 : t.row[t.off + k * 5 + 3]? = some (.val (.int .i64 o.room)) := zdd (hT.obj k o ho) 3 (by omega)
 have g4 : t.row[t.off + k * 5 + 4]? = some (.val (.int .i64 o.fn)) := zdd (hT.obj k o ho) 4 (by omega)
 have hba := zam (ext := ext) hT h' h2 h3 h4 hb k o ho o.l.ok
 rw [zao] at hba
 rw [show decide (o.k = 6) = false by simp; omega] at hba
 simp only [mayMemT, TP.at] at hba
 have cSt : (o.s = .empty) = True := eq_true cS
 have cFt : (o.fn = 0) = True := eq_true cF
 have cRt : ((o.l.xs.length : Int) ≤ o.room) = True := eq_true cR
 have cQt : (o.room ≤ 262144) = True := eq_true cQ
 by_cases hh : heldOf T o.l.xs false = true
 case neg =>
  have hhf : heldOf T o.l.xs false = false := by simpa using hh
  rw [hhf] at hba
  exact ⟨false, by simp -implicitDefEqProofs [x652, hT.refs, hT.ren, TP.at, hT.box, -AV.cells, zbz, zb2, zb1, zb0, zby, zb3, k5, g0, g1, g2, g3, g4, hlen, hba, cSt, cFt, cRt, cQt], by simp [hhf]⟩
 rw [hh] at hba
 by_cases cE : (o.l.xs.length : Int).tmod 2 = 0
 case neg =>
  have cEt : ((o.l.xs.length : Int).tmod 2 = 0) = False := eq_false cE
  first
  | (exfalso; omega)
  | exact ⟨false, by simp -implicitDefEqProofs [x652, hT.refs, hT.ren, TP.at, hT.box, -AV.cells, zbz, zb2, zb1, zb0, zby, zb3, k5, g0, g1, g2, g3, g4, hlen, hba, cSt, cFt, cRt, cQt, cEt], by simp [cS, cF, cR, cQ, cE]⟩
 have cEt : ((o.l.xs.length : Int).tmod 2 = 0) = True := eq_true cE
 by_cases cN5 : (o.l.xs.length : Int) ≤ 131072
 case neg =>
  have cN5t : ((o.l.xs.length : Int) ≤ 131072) = False := eq_false cN5
  first
  | (exfalso; omega)
  | exact ⟨false, by simp -implicitDefEqProofs [x652, hT.refs, hT.ren, TP.at, hT.box, -AV.cells, zbz, zb2, zb1, zb0, zby, zb3, k5, g0, g1, g2, g3, g4, hlen, hba, cSt, cFt, cRt, cQt, cEt, cN5t], by simp [cS, cF, cR, cQ, cE, cN5]⟩
 have cN5t : ((o.l.xs.length : Int) ≤ 131072) = True := eq_true cN5
 have hev : o.l.xs.length % 2 = 0 := by
  have h9 := cE
  rw [Int.tmod_eq_emod_of_nonneg (by omega)] at h9
  omega
 have hkv : ∀ v ∈ o.l.xs, valOf T v = true := by
  intro v hv
  have h1 := List.all_eq_true.1 hh v hv
  simp only [Bool.and_eq_true] at h1
  exact h1.1
 have hkk := zih (ext := ext) hT h5 hb o.l.ok hev
 have hki := zij T o.l.xs hev hkv
 have hkb : (decide ((normsTo T o.l.xs o.l.xs.length).length = o.l.xs.length / 2) = true) ↔ KeysOk T o.l.xs := by rw [decide_eq_true_eq, hki]
 generalize decide ((normsTo T o.l.xs o.l.xs.length).length = o.l.xs.length / 2) = bk at hkk hkb
 refine ⟨bk, ?_, by rw [hkb]; simp [cS, cF, cR, cQ, cE, cN5, hh]⟩
 simp -implicitDefEqProofs [x652, hT.refs, hT.ren, TP.at, hT.box, -AV.cells, zbz, zb2, zb1, zb0, zby, zb3, k5, g0, g1, g2, g3, g4, hlen, hba, cSt, cFt, cRt, cQt, cEt, cN5t, hkk]
theorem may5T {sA : AV} {t : TP} {T : List Obj} (hT : StoreT code ext sA t T) (h' : code 656 = some x656) (h2 : code 653 = some x653) (h3 : code 759 = some x759) (h4 : code 749 = some x749) (h5 : code 650 = some x650) (h6 : code 652 = some x652) (hb : T.length ≤ 1048576) (k : Nat) (o : Obj) (ho : T[k]? = some o) (k5 : o.k = 5) : ∃ b : Bool, callW code ext 652 [sA, t.at k] [] = some (avb b, []) ∧ (b = true ↔ ObjOk T o) := by
 by_cases cS : o.s = .empty
 case neg => exact zkh hT h' h2 h3 h4 h5 h6 hb k o ho k5 cS
 by_cases cF : o.fn = 0
 case neg => exact zki hT h' h2 h3 h4 h5 h6 hb k o ho k5 cS cF
 by_cases cR : (o.l.xs.length : Int) ≤ o.room
 case neg => exact zkj hT h' h2 h3 h4 h5 h6 hb k o ho k5 cS cF cR
 by_cases cQ : o.room ≤ 262144
 case neg => exact zkk hT h' h2 h3 h4 h5 h6 hb k o ho k5 cS cF cR cQ
 exact zkl hT h' h2 h3 h4 h5 h6 hb k o ho k5 cS cF cR cQ
end
end Go.EX


set_option maxHeartbeats 1000000
namespace Go.EX
section
variable {code : Nat → Option XFun} {ext : Calls'}
theorem zkm {sA : AV} {t : TP} {T : List Obj} (hT : StoreT code ext sA t T) (h' : code 656 = some x656) (h2 : code 653 = some x653) (h3 : code 759 = some x759) (h4 : code 749 = some x749) (h5 : code 650 = some x650) (h6 : code 652 = some x652) (hb : T.length ≤ 1048576) (k : Nat) (o : Obj) (ho : T[k]? = some o) (k6 : o.k = 6) (cS : ¬ o.s = .empty) : ∃ b : Bool, callW code ext 652 [sA, t.at k] [] = some (avb b, []) ∧ (b = true ↔ ObjOk T o) := by
 rw [zbs code ext h6]
 have hlen := zo6 o.l.ok
 have hok : ObjOk T o ↔ (o.s = .empty ∧ o.room = 0 ∧ 0 ≤ o.fn ∧ o.fn < 256 ∧ heldOf T o.l.xs true = true) := by
  unfold ObjOk
  rw [if_neg (by omega), if_neg (by omega), if_neg (by omega), if_pos k6]
 rw [hok]
 clear hok
 have g0 : t.row[t.off + k * 5]? = some (.val (.int .u8 o.k)) := zdd (hT.obj k o ho) 0 (by omega)
 have g1 : t.row[t.off + k * 5 + 1]? = some (.val (.string o.s)) := zdd (hT.obj k o ho) 1 (by omega)
 have g2 : t.row[t.off + k * 5 + 2]? = some (o.l.iv) := zdd (hT.obj k o ho) 2 (by omega)
 have g3 : t.row[t.off + k * 5 + 3]? = some (.val (.int .i64 o.room)) := zdd (hT.obj k o ho) 3 (by omega)
 have g4 : t.row[t.off + k * 5 + 4]? = some (.val (.int .i64 o.fn)) := zdd (hT.obj k o ho) 4 (by omega)
 have hba := zam (ext := ext) hT h' h2 h3 h4 hb k o ho o.l.ok
 rw [zao] at hba
 rw [show decide (o.k = 6) = true by simp [k6]] at hba
 simp only [mayMemT, TP.at] at hba
 have cSt : (o.s = .empty) = False := eq_false cS
 by_cases hh : heldOf T o.l.xs true = true
 case neg =>
  have hhf : heldOf T o.l.xs true = false := by simpa using hh
  rw [hhf] at hba
  exact ⟨false, by simp -implicitDefEqProofs [x652, hT.refs, hT.ren, TP.at, hT.box, -AV.cells, zbz, zb2, zb1, zb0, zby, zb3, k6, g0, g1, g2, g3, g4, hlen, hba, cSt], by simp [hhf]⟩
 rw [hh] at hba
 exact ⟨false, by simp -implicitDefEqProofs [x652, hT.refs, hT.ren, TP.at, hT.box, -AV.cells, zbz, zb2, zb1, zb0, zby, zb3, k6, g0, g1, g2, g3, g4, hlen, hba, cSt], by simp [cS, hh]⟩
theorem zkn {sA : AV} {t : TP} {T : List Obj} (hT : StoreT code ext sA t T) (h' : code 656 = some x656) (h2 : code 653 = some x653) (h3 : code 759 = some x759) (h4 : code 749 = some x749) (h5 : code 650 = some x650) (h6 : code 652 = some x652) (hb : T.length ≤ 1048576) (k : Nat) (o : Obj) (ho : T[k]? = some o) (k6 : o.k = 6) (cS : o.s = .empty) (cF : ¬ o.fn = 0) : ∃ b : Bool, callW code ext 652 [sA, t.at k] [] = some (avb b, []) ∧ (b = true ↔ ObjOk T o) := by
 rw [zbs code ext h6]
 have hlen := zo6 o.l.ok
 have hok : ObjOk T o ↔ (o.s = .empty ∧ o.room = 0 ∧ 0 ≤ o.fn ∧ o.fn < 256 ∧ heldOf T o.l.xs true = true) := by
  unfold ObjOk
  rw [if_neg (by omega), if_neg (by omega), if_neg (by omega), if_pos k6]
 rw [hok]
 clear hok
 have g0 : t.row[t.off + k * 5]? = some (.val (.int .u8 o.k)) := zdd (hT.obj k o ho) 0 (by omega)
 have g1 : t.row[t.off + k * 5 + 1]? = some (.val (.string o.s)) := zdd (hT.obj k o ho) 1 (by omega)
 have g2 : t.row[t.off + k * 5 + 2]? = some (o.l.iv) := zdd (hT.obj k o ho) 2 (by omega)
 have g3 : t.row[t.off + k * 5 + 3]? = some (.val (.int .i64 o.room)) := zdd (hT.obj k o ho) 3 (by omega)
 have g4 : t.row[t.off + k * 5 + 4]? = some (.val (.int .i64 o.fn)) := zdd (hT.obj k o ho) 4 (by omega)
 have hba := zam (ext := ext) hT h' h2 h3 h4 hb k o ho o.l.ok
 rw [zao] at hba
 rw [show decide (o.k = 6) = true by simp [k6]] at hba
 simp only [mayMemT, TP.at] at hba
 have cSt : (o.s = .empty) = True := eq_true cS
 have cFt : (o.fn = 0) = False := eq_false cF
 by_cases hh : heldOf T o.l.xs true = true
 case neg =>
  have hhf : heldOf T o.l.xs true = false := by simpa using hh
  rw [hhf] at hba
  exact ⟨false, by simp -implicitDefEqProofs [x652, hT.refs, hT.ren, TP.at, hT.box, -AV.cells, zbz, zb2, zb1, zb0, zby, zb3, k6, g0, g1, g2, g3, g4, hlen, hba, cSt, cFt], by simp [hhf]⟩
 rw [hh] at hba
 by_cases cZ : o.room = 0
 case neg =>
  have cZt : (o.room = 0) = False := eq_false cZ
  first
  | (exfalso; omega)
  | exact ⟨false, by simp -implicitDefEqProofs [x652, hT.refs, hT.ren, TP.at, hT.box, -AV.cells, zbz, zb2, zb1, zb0, zby, zb3, k6, g0, g1, g2, g3, g4, hlen, hba, cSt, cFt, cZt], by simp [cS, cF, cZ]⟩
 have cZt : (o.room = 0) = True := eq_true cZ
 by_cases cG : 0 ≤ o.fn
 case neg =>
  have cGt : (0 ≤ o.fn) = False := eq_false cG
  first
  | (exfalso; omega)
  | exact ⟨false, by simp -implicitDefEqProofs [x652, hT.refs, hT.ren, TP.at, hT.box, -AV.cells, zbz, zb2, zb1, zb0, zby, zb3, k6, g0, g1, g2, g3, g4, hlen, hba, cSt, cFt, cZt, cGt], by simp [cS, cF, cZ, cG]⟩
 have cGt : (0 ≤ o.fn) = True := eq_true cG
 by_cases cH : o.fn < 256
 case neg =>
  have cHt : (o.fn < 256) = False := eq_false cH
  first
  | (exfalso; omega)
  | exact ⟨false, by simp -implicitDefEqProofs [x652, hT.refs, hT.ren, TP.at, hT.box, -AV.cells, zbz, zb2, zb1, zb0, zby, zb3, k6, g0, g1, g2, g3, g4, hlen, hba, cSt, cFt, cZt, cGt, cHt], by simp [cS, cF, cZ, cG, cH]⟩
 have cHt : (o.fn < 256) = True := eq_true cH
 exact ⟨true, by simp -implicitDefEqProofs [x652, hT.refs, hT.ren, TP.at, hT.box, -AV.cells, zbz, zb2, zb1, zb0, zby, zb3, k6, g0, g1, g2, g3, g4, hlen, hba, cSt, cFt, cZt, cGt, cHt], by simp [cS, cF, cZ, cG, cH, hh]⟩
theorem zko {sA : AV} {t : TP} {T : List Obj} (hT : StoreT code ext sA t T) (h' : code 656 = some x656) (h2 : code 653 = some x653) (h3 : code 759 = some x759) (h4 : code 749 = some x749) (h5 : code 650 = some x650) (h6 : code 652 = some x652) (hb : T.length ≤ 1048576) (k : Nat) (o : Obj) (ho : T[k]? = some o) (k6 : o.k = 6) (cS : o.s = .empty) (cF : o.fn = 0) (cR : ¬ (o.l.xs.length : Int) ≤ o.room) : ∃ b : Bool, callW code ext 652 [sA, t.at k] [] = some (avb b, []) ∧ (b = true ↔ ObjOk T o) := by
 rw [zbs code ext h6]
 have hlen := zo6 o.l.ok
 have hok : ObjOk T o ↔ (o.s = .empty ∧ o.room = 0 ∧ 0 ≤ o.fn ∧ o.fn < 256 ∧ heldOf T o.l.xs true = true) := by
  unfold ObjOk
  rw [if_neg (by omega), if_neg (by omega), if_neg (by omega), if_pos k6]
 rw [hok]
 clear hok
 have g0 : t.row[t.off + k * 5]? = some (.val (.int .u8 o.k)) := zdd (hT.obj k o ho) 0 (by omega)
 have g1 : t.row[t.off + k * 5 + 1]? = some (.val (.string o.s)) := zdd (hT.obj k o ho) 1 (by omega)
 have g2 : t.row[t.off + k * 5 + 2]? = some (o.l.iv) := zdd (hT.obj k o ho) 2 (by omega)
 have g3 : t.row[t.off + k * 5 + 3]? = some (.val (.int .i64 o.room)) := zdd (hT.obj k o ho) 3 (by omega)
 have g4 : t.row[t.off + k * 5 + 4]? = some (.val (.int .i64 o.fn)) := zdd (hT.obj k o ho) 4 (by omega)
 have hba := zam (ext := ext) hT h' h2 h3 h4 hb k o ho o.l.ok
 rw [zao] at hba
 rw [show decide (o.k = 6) = true by simp [k6]] at hba
 simp only [mayMemT, TP.at] at hba
 have cSt : (o.s = .empty) = True := eq_true cS
 have cFt : (o.fn = 0) = True := eq_true cF
 have cRt : ((o.l.xs.length : Int) ≤ o.room) = False := eq_false cR
 by_cases hh : heldOf T o.l.xs true = true
 case neg =>
  have hhf : heldOf T o.l.xs true = false := by simpa using hh
  rw [hhf] at hba
  exact ⟨false, by simp -implicitDefEqProofs [x652, hT.refs, hT.ren, TP.at, hT.box, -AV.cells, zbz, zb2, zb1, zb0, zby, zb3, k6, g0, g1, g2, g3, g4, hlen, hba, cSt, cFt, cRt], by simp [hhf]⟩
 rw [hh] at hba
 by_cases cZ : o.room = 0
 case neg =>
  have cZt : (o.room = 0) = False := eq_false cZ
  first
  | (exfalso; omega)
  | exact ⟨false, by simp -implicitDefEqProofs [x652, hT.refs, hT.ren, TP.at, hT.box, -AV.cells, zbz, zb2, zb1, zb0, zby, zb3, k6, g0, g1, g2, g3, g4, hlen, hba, cSt, cFt, cRt, cZt], by simp [cS, cF, cR, cZ]⟩
 have cZt : (o.room = 0) = True := eq_true cZ
 by_cases cG : 0 ≤ o.fn
 case neg =>
  have cGt : (0 ≤ o.fn) = False := eq_false cG
  first
  | (exfalso; omega)
  | exact ⟨false, by simp -implicitDefEqProofs [x652, hT.refs, hT.ren, TP.at, hT.box, -AV.cells, zbz, zb2, zb1, zb0, zby, zb3, k6, g0, g1, g2, g3, g4, hlen, hba, cSt, cFt, cRt, cZt, cGt], by simp [cS, cF, cR, cZ, cG]⟩
 have cGt : (0 ≤ o.fn) = True := eq_true cG
 by_cases cH : o.fn < 256
 case neg =>
  have cHt : (o.fn < 256) = False := eq_false cH
  first
  | (exfalso; omega)
  | exact ⟨false, by simp -implicitDefEqProofs [x652, hT.refs, hT.ren, TP.at, hT.box, -AV.cells, zbz, zb2, zb1, zb0, zby, zb3, k6, g0, g1, g2, g3, g4, hlen, hba, cSt, cFt, cRt, cZt, cGt, cHt], by simp [cS, cF, cR, cZ, cG, cH]⟩
 have cHt : (o.fn < 256) = True := eq_true cH
 exact ⟨true, by simp -implicitDefEqProofs [x652, hT.refs, hT.ren, TP.at, hT.box, -AV.cells, zbz, zb2, zb1, zb0, zby, zb3, k6, g0, g1, g2, g3, g4, hlen, hba, cSt, cFt, cRt, cZt, cGt, cHt], by simp [cS, cF, cR, cZ, cG, cH, hh]⟩
theorem zkp {sA : AV} {t : TP} {T : List Obj} (hT : StoreT code ext sA t T) (h' : code 656 = some x656) (h2 : code 653 = some x653) (h3 : code 759 = some x759) (h4 : code 749 = some x749) (h5 : code 650 = some x650) (h6 : code 652 = some x652) (hb : T.length ≤ 1048576) (k : Nat) (o : Obj) (ho : T[k]? = some o) (k6 : o.k = 6) (cS : o.s = .empty) (cF : o.fn = 0) (cR : (o.l.xs.length : Int) ≤ o.room) (cQ : ¬ o.room ≤ 262144) : ∃ b : Bool, callW code ext 652 [sA, t.at k] [] = some (avb b, []) ∧ (b = true ↔ ObjOk T o) := by
 rw [zbs code ext h6]
 have hlen := zo6 o.l.ok
 have hok : ObjOk T o ↔ (o.s = .empty ∧ o.room = 0 ∧ 0 ≤ o.fn ∧ o.fn < 256 ∧ heldOf T o.l.xs true = true) := by
  unfold ObjOk
  rw [if_neg (by omega), if_neg (by omega), if_neg (by omega), if_pos k6]
 rw [hok]
 clear hok
 have g0 : t.row[t.off + k * 5]? = some (.val (.int .u8 o.k)) := zdd (hT.obj k o ho) 0 (by omega)
 have g1 : t.row[t.off + k * 5 + 1]? = some (.val (.string o.s)) := zdd (hT.obj k o ho) 1 (by omega)
 have g2 : t.row[t.off + k * 5 + 2]? = some (o.l.iv) := zdd (hT.obj k o ho) 2 (by omega)
 have g3 : t.row[t.off + k * 5 + 3]? = some (.val (.int .i64 o.room)) := zdd (hT.obj k o ho) 3 (by omega)
 have g4 : t.row[t.off + k * 5 + 4]? = some (.val (.int .i64 o.fn)) := zdd (hT.obj k o ho) 4 (by omega)
 have hba := zam (ext := ext) hT h' h2 h3 h4 hb k o ho o.l.ok
 rw [zao] at hba
 rw [show decide (o.k = 6) = true by simp [k6]] at hba
 simp only [mayMemT, TP.at] at hba
 have cSt : (o.s = .empty) = True := eq_true cS
 have cFt : (o.fn = 0) = True := eq_true cF
 have cRt : ((o.l.xs.length : Int) ≤ o.room) = True := eq_true cR
 have cQt : (o.room ≤ 262144) = False := eq_false cQ
 by_cases hh : heldOf T o.l.xs true = true
 case neg =>
  have hhf : heldOf T o.l.xs true = false := by simpa using hh
  rw [hhf] at hba
  exact ⟨false, by simp -implicitDefEqProofs [x652, hT.refs, hT.ren, TP.at, hT.box, -AV.cells, zbz, zb2, zb1, zb0, zby, zb3, k6, g0, g1, g2, g3, g4, hlen, hba, cSt, cFt, cRt, cQt], by simp [hhf]⟩
 rw [hh] at hba
 by_cases cZ : o.room = 0
 case neg =>
  have cZt : (o.room = 0) = False := eq_false cZ
  first
  | (exfalso; omega)
  | exact ⟨false, by simp -implicitDefEqProofs [x652, hT.refs, hT.ren, TP.at, hT.box, -AV.cells, zbz, zb2, zb1, zb0, zby, zb3, k6, g0, g1, g2, g3, g4, hlen, hba, cSt, cFt, cRt, cQt, cZt], by simp [cS, cF, cR, cQ, cZ]⟩
 have cZt : (o.room = 0) = True := eq_true cZ
 by_cases cG : 0 ≤ o.fn
 case neg =>
  have cGt : (0 ≤ o.fn) = False := eq_false cG
  first
  | (exfalso; omega)
  | exact ⟨false, by simp -implicitDefEqProofs [x652, hT.refs, hT.ren, TP.at, hT.box, -AV.cells, zbz, zb2, zb1, zb0, zby, zb3, k6, g0, g1, g2, g3, g4, hlen, hba, cSt, cFt, cRt, cQt, cZt, cGt], by simp [cS, cF, cR, cQ, cZ, cG]⟩
 have cGt : (0 ≤ o.fn) = True := eq_true cG
 by_cases cH : o.fn < 256
 case neg =>
  have cHt : (o.fn < 256) = False := eq_false cH
  first
  | (exfalso; omega)
  | exact ⟨false, by simp -implicitDefEqProofs [x652, hT.refs, hT.ren, TP.at, hT.box, -AV.cells, zbz, zb2, zb1, zb0, zby, zb3, k6, g0, g1, g2, g3, g4, hlen, hba, cSt, cFt, cRt, cQt, cZt, cGt, cHt], by simp [cS, cF, cR, cQ, cZ, cG, cH]⟩
 have cHt : (o.fn < 256) = True := eq_true cH
 exact ⟨true, by simp -implicitDefEqProofs [x652, hT.refs, hT.ren, TP.at, hT.box, -AV.cells, zbz, zb2, zb1, zb0, zby, zb3, k6, g0, g1, g2, g3, g4, hlen, hba, cSt, cFt, cRt, cQt, cZt, cGt, cHt], by simp [cS, cF, cR, cQ, cZ, cG, cH, hh]⟩
theorem zkq {sA : AV} {t : TP} {T : List Obj} (hT : StoreT code ext sA t T) (h' : code 656 = some x656) (h2 : code 653 = some x653) (h3 : code 759 = some x759) (h4 : code 749 = some x749) (h5 : code 650 = some x650) (h6 : code 652 = some x652) (hb : T.length ≤ 1048576) (k : Nat) (o : Obj) (ho : T[k]? = some o) (k6 : o.k = 6) (cS : o.s = .empty) (cF : o.fn = 0) (cR : (o.l.xs.length : Int) ≤ o.room) (cQ : o.room ≤ 262144) : ∃ b : Bool, callW code ext 652 [sA, t.at k] [] = some (avb b, []) ∧ (b = true ↔ ObjOk T o) := by
 rw [zbs code ext h6]
 have hlen := zo6 o.l.ok
 have hok : ObjOk T o ↔ (o.s = .empty ∧ o.room = 0 ∧ 0 ≤ o.fn ∧ o.fn < 256 ∧ heldOf T o.l.xs true = true) := by
  unfold ObjOk
  rw [if_neg (by omega), if_neg (by omega), if_neg (by omega), if_pos k6]
 rw [hok]
 clear hok
 have g0 : t.row[t.off + k * 5]? = some (.val (.int .u8 o.k)) := zdd (hT.obj k o ho) 0 (by omega)
 have g1 : t.row[t.off + k * 5 + 1]? = some (.val (.string o.s)) := zdd (hT.obj k o ho) 1 (by omega)
 have g2 : t.row[t.off + k * 5 + 2]? = some (o.l.iv) := zdd (hT.obj k o ho) 2 (by omega)
 have g3 : t.row[t.off + k * 5 + 3]? = some (.val (.int .i64 o.room)) := zdd (hT.obj k o ho) 3 (by omega)
 have g4 : t.row[t.off + k * 5 + 4]? = some (.val (.int .i64 o.fn)) := zdd (hT.obj k o ho) 4 (by omega)
 have hba := zam (ext := ext) hT h' h2 h3 h4 hb k o ho o.l.ok
 rw [zao] at hba
 rw [show decide (o.k = 6) = true by simp [k6]] at hba
 simp only [mayMemT, TP.at] at hba
 have cSt : (o.s = .empty) = True := eq_true cS
 have cFt : (o.fn = 0) = True := eq_true cF
 have cRt : ((o.l.xs.length : Int) ≤ o.room) = True := eq_true cR
 have cQt : (o.room ≤ 262144) = True := eq_true cQ
 by_cases hh : heldOf T o.l.xs true = true
 case neg =>
  have hhf : heldOf T o.l.xs true = false := by simpa using hh
  rw [hhf] at hba
  exact ⟨false, by simp -implicitDefEqProofs [x652, hT.refs, hT.ren, TP.at, hT.box, -AV.cells, zbz, zb2, zb1, zb0, zby, zb3, k6, g0, g1, g2, g3, g4, hlen, hba, cSt, cFt, cRt, cQt], by simp [hhf]⟩
 rw [hh] at hba
 by_cases cZ : o.room = 0
 case neg =>
  have cZt : (o.room = 0) = False := eq_false cZ
  first
  | (exfalso; omega)
  | exact ⟨false, by simp -implicitDefEqProofs [x652, hT.refs, hT.ren, TP.at, hT.box, -AV.cells, zbz, zb2, zb1, zb0, zby, zb3, k6, g0, g1, g2, g3, g4, hlen, hba, cSt, cFt, cRt, cQt, cZt], by simp [cS, cF, cR, cQ, cZ]⟩
 have cZt : (o.room = 0) = True := eq_true cZ
 by_cases cG : 0 ≤ o.fn
 case neg =>
  have cGt : (0 ≤ o.fn) = False := eq_false cG
  first
  | (exfalso; omega)
  | exact ⟨false, by simp -implicitDefEqProofs [x652, hT.refs, hT.ren, TP.at, hT.box, -AV.cells, zbz, zb2, zb1, zb0, zby, zb3, k6, g0, g1, g2, g3, g4, hlen, hba, cSt, cFt, cRt, cQt, cZt, cGt], by simp [cS, cF, cR, cQ, cZ, cG]⟩
 have cGt : (0 ≤ o.fn) = True := eq_true cG
 by_cases cH : o.fn < 256
 case neg =>
  have cHt : (o.fn < 256) = False := eq_false cH
  first
  | (exfalso; omega)
  | exact ⟨false, by simp -implicitDefEqProofs [x652, hT.refs, hT.ren, TP.at, hT.box, -AV.cells, zbz, zb2, zb1, zb0, zby, zb3, k6, g0, g1, g2, g3, g4, hlen, hba, cSt, cFt, cRt, cQt, cZt, cGt, cHt], by simp [cS, cF, cR, cQ, cZ, cG, cH]⟩
 have cHt : (o.fn < 256) = True := eq_true cH
 exact ⟨true, by simp -implicitDefEqProofs [x652, hT.refs, hT.ren, TP.at, hT.box, -AV.cells, zbz, zb2, zb1, zb0, zby, zb3, k6, g0, g1, g2, g3, g4, hlen, hba, cSt, cFt, cRt, cQt, cZt, cGt, cHt], by simp [cS, cF, cR, cQ, cZ, cG, cH, hh]⟩
theorem may6T {sA : AV} {t : TP} {T : List Obj} (hT : StoreT code ext sA t T) (h' : code 656 = some x656) (h2 : code 653 = some x653) (h3 : code 759 = some x759) (h4 : code 749 = some x749) (h5 : code 650 = some x650) (h6 : code 652 = some x652) (hb : T.length ≤ 1048576) (k : Nat) (o : Obj) (ho : T[k]? = some o) (k6 : o.k = 6) : ∃ b : Bool, callW code ext 652 [sA, t.at k] [] = some (avb b, []) ∧ (b = true ↔ ObjOk T o) := by
 by_cases cS : o.s = .empty
 case neg => exact zkm hT h' h2 h3 h4 h5 h6 hb k o ho k6 cS
 by_cases cF : o.fn = 0
 case neg => exact zkn hT h' h2 h3 h4 h5 h6 hb k o ho k6 cS cF
 by_cases cR : (o.l.xs.length : Int) ≤ o.room
 case neg => exact zko hT h' h2 h3 h4 h5 h6 hb k o ho k6 cS cF cR
 by_cases cQ : o.room ≤ 262144
 case neg => exact zkp hT h' h2 h3 h4 h5 h6 hb k o ho k6 cS cF cR cQ
 exact zkq hT h' h2 h3 h4 h5 h6 hb k o ho k6 cS cF cR cQ
end
end Go.EX


set_option maxHeartbeats 1000000
namespace Go.EX
section
variable {code : Nat → Option XFun} {ext : Calls'}
theorem zkr {sA : AV} {t : TP} {T : List Obj} (hT : StoreT code ext sA t T) (h' : code 656 = some x656) (h2 : code 653 = some x653) (h3 : code 759 = some x759) (h4 : code 749 = some x749) (h5 : code 650 = some x650) (h6 : code 652 = some x652) (hb : T.length ≤ 1048576) (k : Nat) (o : Obj) (ho : T[k]? = some o) (k3 : ¬ o.k = 3) (k4 : ¬ o.k = 4) (k5 : ¬ o.k = 5) (k6 : ¬ o.k = 6) (cS : ¬ o.s = .empty) : ∃ b : Bool, callW code ext 652 [sA, t.at k] [] = some (avb b, []) ∧ (b = true ↔ ObjOk T o) := by
 rw [zbs code ext h6]
 have hlen := zo6 o.l.ok
 have hok : ObjOk T o ↔ (o.s = .empty ∧ o.room = 0 ∧ o.fn = 0 ∧ (o.l.xs.length : Int) = 1 ∧ heldOf T o.l.xs false = true) := by
  unfold ObjOk
  rw [if_neg k3, if_neg k4, if_neg k5, if_neg k6]
 rw [hok]
 clear hok
 have g0 : t.row[t.off + k * 5]? = some (.val (.int .u8 o.k)) := zdd (hT.obj k o ho) 0 (by omega)
 have g1 : t.row[t.off + k * 5 + 1]? = some (.val (.string o.s)) := zdd (hT.obj k o ho) 1 (by omega)
 have g2 : t.row[t.off + k * 5 + 2]? = some (o.l.iv) := zdd (hT.obj k o ho) 2 (by omega)
 have g3 : t.row[t.off + k * 5 + 3]? = some (.val (.int .i64 o.room)) := zdd (hT.obj k o ho) 3 (by omega)
 have g4 : t.row[t.off + k * 5 + 4]? = some (.val (.int .i64 o.fn)) := zdd (hT.obj k o ho) 4 (by omega)
 have hba := zam (ext := ext) hT h' h2 h3 h4 hb k o ho o.l.ok
 rw [zao] at hba
 rw [show decide (o.k = 6) = false by simp; omega] at hba
 simp only [mayMemT, TP.at] at hba
 have cSt : (o.s = .empty) = False := eq_false cS
 by_cases hh : heldOf T o.l.xs false = true
 case neg =>
  have hhf : heldOf T o.l.xs false = false := by simpa using hh
  rw [hhf] at hba
  exact ⟨false, by simp -implicitDefEqProofs [x652, hT.refs, hT.ren, TP.at, hT.box, -AV.cells, zbz, zb2, zb1, zb0, zby, zb3, k3, k4, k5, k6, g0, g1, g2, g3, g4, hlen, hba, cSt], by simp [hhf]⟩
 rw [hh] at hba
 exact ⟨false, by simp -implicitDefEqProofs [x652, hT.refs, hT.ren, TP.at, hT.box, -AV.cells, zbz, zb2, zb1, zb0, zby, zb3, k3, k4, k5, k6, g0, g1, g2, g3, g4, hlen, hba, cSt], by simp [cS, hh]⟩
theorem zks {sA : AV} {t : TP} {T : List Obj} (hT : StoreT code ext sA t T) (h' : code 656 = some x656) (h2 : code 653 = some x653) (h3 : code 759 = some x759) (h4 : code 749 = some x749) (h5 : code 650 = some x650) (h6 : code 652 = some x652) (hb : T.length ≤ 1048576) (k : Nat) (o : Obj) (ho : T[k]? = some o) (k3 : ¬ o.k = 3) (k4 : ¬ o.k = 4) (k5 : ¬ o.k = 5) (k6 : ¬ o.k = 6) (cS : o.s = .empty) (cF : ¬ o.fn = 0) : ∃ b : Bool, callW code ext 652 [sA, t.at k] [] = some (avb b, []) ∧ (b = true ↔ ObjOk T o) := by
 rw [zbs code ext h6]
 have hlen := zo6 o.l.ok
 have hok : ObjOk T o ↔ (o.s = .empty ∧ o.room = 0 ∧ o.fn = 0 ∧ (o.l.xs.length : Int) = 1 ∧ heldOf T o.l.xs false = true) := by
  unfold ObjOk
  rw [if_neg k3, if_neg k4, if_neg k5, if_neg k6]
 rw [hok]
 clear hok
 have g0 : t.row[t.off + k * 5]? = some (.val (.int .u8 o.k)) := zdd (hT.obj k o ho) 0 (by omega)
 have g1 : t.row[t.off + k * 5 + 1]? = some (.val (.string o.s)) := zdd (hT.obj k o ho) 1 (by omega)
 have g2 : t.row[t.off + k * 5 + 2]? = some (o.l.iv) := zdd (hT.obj k o ho) 2 (by omega)
 have g3 : t.row[t.off + k * 5 + 3]? = some (.val (.int .i64 o.room)) := zdd (hT.obj k o ho) 3 (by omega)
 have g4 : t.row[t.off + k * 5 + 4]? = some (.val (.int .i64 o.fn)) := zdd (hT.obj k o ho) 4 (by omega)
 have hba := zam (ext := ext) hT h' h2 h3 h4 hb k o ho o.l.ok
 rw [zao] at hba
 rw [show decide (o.k = 6) = false by simp; omega] at hba
 simp only [mayMemT, TP.at] at hba
 have cSt : (o.s = .empty) = True := eq_true cS
 have cFt : (o.fn = 0) = False := eq_false cF
 by_cases hh : heldOf T o.l.xs false = true
 case neg =>
  have hhf : heldOf T o.l.xs false = false := by simpa using hh
  rw [hhf] at hba
  exact ⟨false, by simp -implicitDefEqProofs [x652, hT.refs, hT.ren, TP.at, hT.box, -AV.cells, zbz, zb2, zb1, zb0, zby, zb3, k3, k4, k5, k6, g0, g1, g2, g3, g4, hlen, hba, cSt, cFt], by simp [hhf]⟩
 rw [hh] at hba
 by_cases cZ : o.room = 0
 case neg =>
  have cZt : (o.room = 0) = False := eq_false cZ
  exact ⟨false, by simp -implicitDefEqProofs [x652, hT.refs, hT.ren, TP.at, hT.box, -AV.cells, zbz, zb2, zb1, zb0, zby, zb3, k3, k4, k5, k6, g0, g1, g2, g3, g4, hlen, hba, cSt, cFt, cZt], by simp [cS, cF, cZ]⟩
 have cZt : (o.room = 0) = True := eq_true cZ
 exact ⟨false, by simp -implicitDefEqProofs [x652, hT.refs, hT.ren, TP.at, hT.box, -AV.cells, zbz, zb2, zb1, zb0, zby, zb3, k3, k4, k5, k6, g0, g1, g2, g3, g4, hlen, hba, cSt, cFt, cZt], by simp [cS, cF, cZ, hh]⟩
theorem zkt {sA : AV} {t : TP} {T : List Obj} (hT : StoreT code ext sA t T) (h' : code 656 = some x656) (h2 : code 653 = some x653) (h3 : code 759 = some x759) (h4 : code 749 = some x749) (h5 : code 650 = some x650) (h6 : code 652 = some x652) (hb : T.length ≤ 1048576) (k : Nat) (o : Obj) (ho : T[k]? = some o) (k3 : ¬ o.k = 3) (k4 : ¬ o.k = 4) (k5 : ¬ o.k = 5) (k6 : ¬ o.k = 6) (cS : o.s = .empty) (cF : o.fn = 0) (cR : ¬ (o.l.xs.length : Int) ≤ o.room) : ∃ b : Bool, callW code ext 652 [sA, t.at k] [] = some (avb b, []) ∧ (b = true ↔ ObjOk T o) := by
 rw [zbs code ext h6]
 have hlen := zo6 o.l.ok
 have hok : ObjOk T o ↔ (o.s = .empty ∧ o.room = 0 ∧ o.fn = 0 ∧ (o.l.xs.length : Int) = 1 ∧ heldOf T o.l.xs false = true) := by
  unfold ObjOk
  rw [if_neg k3, if_neg k4, if_neg k5, if_neg k6]
 rw [hok]
 clear hok
 have g0 : t.row[t.off + k * 5]? = some (.val (.int .u8 o.k)) := zdd (hT.obj k o ho) 0 (by omega)
 have g1 : t.row[t.off + k * 5 + 1]? = some (.val (.string o.s)) := zdd (hT.obj k o ho) 1 (by omega)
 have g2 : t.row[t.off + k * 5 + 2]? = some (o.l.iv) := zdd (hT.obj k o ho) 2 (by omega)
 have g3 : t.row[t.off + k * 5 + 3]? = some (.val (.int .i64 o.room)) := zdd (hT.obj k o ho) 3 (by omega)
 have g4 : t.row[t.off + k * 5 + 4]? = some (.val (.int .i64 o.fn)) := zdd (hT.obj k o ho) 4 (by omega)
 have hba := zam (ext := ext) hT h' h2 h3 h4 hb k o ho o.l.ok
 rw [zao] at hba
 rw [show decide (o.k = 6) = false by simp; omega] at hba
 simp only [mayMemT, TP.at] at hba
 have cSt : (o.s = .empty) = True := eq_true cS
 have cFt : (o.fn = 0) = True := eq_true cF
 have cRt : ((o.l.xs.length : Int) ≤ o.room) = False := eq_false cR
 by_cases hh : heldOf T o.l.xs false = true
 case neg =>
  have hhf : heldOf T o.l.xs false = false := by simpa using hh
  rw [hhf] at hba
  exact ⟨false, by simp -implicitDefEqProofs [x652, hT.refs, hT.ren, TP.at, hT.box, -AV.cells, zbz, zb2, zb1, zb0, zby, zb3, k3, k4, k5, k6, g0, g1, g2, g3, g4, hlen, hba, cSt, cFt, cRt], by simp [hhf]⟩
 rw [hh] at hba
 by_cases cZ : o.room = 0
 case neg =>
  have cZt : (o.room = 0) = False := eq_false cZ
  exact ⟨false, by simp -implicitDefEqProofs [x652, hT.refs, hT.ren, TP.at, hT.box, -AV.cells, zbz, zb2, zb1, zb0, zby, zb3, k3, k4, k5, k6, g0, g1, g2, g3, g4, hlen, hba, cSt, cFt, cRt, cZt], by simp [cS, cF, cR, cZ]⟩
 have cZt : (o.room = 0) = True := eq_true cZ
 by_cases cN1 : (o.l.xs.length : Int) = 1
 case neg =>
  have cN1t : ((o.l.xs.length : Int) = 1) = False := eq_false cN1
  exact ⟨false, by simp -implicitDefEqProofs [x652, hT.refs, hT.ren, TP.at, hT.box, -AV.cells, zbz, zb2, zb1, zb0, zby, zb3, k3, k4, k5, k6, g0, g1, g2, g3, g4, hlen, hba, cSt, cFt, cRt, cZt, cN1t], by simp [cS, cF, cR, cZ, cN1]⟩
 have cN1t : ((o.l.xs.length : Int) = 1) = True := eq_true cN1
 exact ⟨true, by simp -implicitDefEqProofs [x652, hT.refs, hT.ren, TP.at, hT.box, -AV.cells, zbz, zb2, zb1, zb0, zby, zb3, k3, k4, k5, k6, g0, g1, g2, g3, g4, hlen, hba, cSt, cFt, cRt, cZt, cN1t], by simp [cS, cF, cR, cZ, cN1, hh]⟩
theorem zku {sA : AV} {t : TP} {T : List Obj} (hT : StoreT code ext sA t T) (h' : code 656 = some x656) (h2 : code 653 = some x653) (h3 : code 759 = some x759) (h4 : code 749 = some x749) (h5 : code 650 = some x650) (h6 : code 652 = some x652) (hb : T.length ≤ 1048576) (k : Nat) (o : Obj) (ho : T[k]? = some o) (k3 : ¬ o.k = 3) (k4 : ¬ o.k = 4) (k5 : ¬ o.k = 5) (k6 : ¬ o.k = 6) (cS : o.s = .empty) (cF : o.fn = 0) (cR : (o.l.xs.length : Int) ≤ o.room) (cQ : ¬ o.room ≤ 262144) : ∃ b : Bool, callW code ext 652 [sA, t.at k] [] = some (avb b, []) ∧ (b = true ↔ ObjOk T o) := by
 rw [zbs code ext h6]
 have hlen := zo6 o.l.ok
 have hok : ObjOk T o ↔ (o.s = .empty ∧ o.room = 0 ∧ o.fn = 0 ∧ (o.l.xs.length : Int) = 1 ∧ heldOf T o.l.xs false = true) := by
  unfold ObjOk
  rw [if_neg k3, if_neg k4, if_neg k5, if_neg k6]
 rw [hok]
 clear hok
 have g0 : t.row[t.off + k * 5]? = some (.val (.int .u8 o.k)) := zdd (hT.obj k o ho) 0 (by omega)
 have g1 : t.row[t.off + k * 5 + 1]? = some (.val (.string o.s)) := zdd (hT.obj k o ho) 1 (by omega)
 have g2 : t.row[t.off + k * 5 + 2]? = some (o.l.iv) := zdd (hT.obj k o ho) 2 (by omega)
 have g3 : t.row[t.off + k * 5 + 3]? = some (.val (.int .i64 o.room)) := zdd (hT.obj k o ho) 3 (by omega)
 have g4 : t.row[t.off + k * 5 + 4]? = some (.val (.int .i64 o.fn)) := zdd (hT.obj k o ho) 4 (by omega)
 have hba := zam (ext := ext) hT h' h2 h3 h4 hb k o ho o.l.ok
 rw [zao] at hba
 rw [show decide (o.k = 6) = false by simp; omega] at hba
 simp only [mayMemT, TP.at] at hba
 have cSt : (o.s = .empty) = True := eq_true cS
 have cFt : (o.fn = 0) = True := eq_true cF
 have cRt : ((o.l.xs.length : Int) ≤ o.room) = True := eq_true cR
 have cQt : (o.room ≤ 262144) = False := eq_false cQ
 by_cases hh : heldOf T o.l.xs false = true
 case neg =>
  have hhf : heldOf T o.l.xs false = false := by simpa using hh
  rw [hhf] at hba
  exact ⟨false, by simp -implicitDefEqProofs [x652, hT.refs, hT.ren, TP.at, hT.box, -AV.cells, zbz, zb2, zb1, zb0, zby, zb3, k3, k4, k5, k6, g0, g1, g2, g3, g4, hlen, hba, cSt, cFt, cRt, cQt], by simp [hhf]⟩
 rw [hh] at hba
 by_cases cZ : o.room = 0
 case neg =>
  have cZt : (o.room = 0) = False := eq_false cZ
  exact ⟨false, by simp -implicitDefEqProofs [x652, hT.refs, hT.ren, TP.at, hT.box, -AV.cells, zbz, zb2, zb1, zb0, zby, zb3, k3, k4, k5, k6, g0, g1, g2, g3, g4, hlen, hba, cSt, cFt, cRt, cQt, cZt], by simp [cS, cF, cR, cQ, cZ]⟩
 have cZt : (o.room = 0) = True := eq_true cZ
 by_cases cN1 : (o.l.xs.length : Int) = 1
 case neg =>
  have cN1t : ((o.l.xs.length : Int) = 1) = False := eq_false cN1
  exact ⟨false, by simp -implicitDefEqProofs [x652, hT.refs, hT.ren, TP.at, hT.box, -AV.cells, zbz, zb2, zb1, zb0, zby, zb3, k3, k4, k5, k6, g0, g1, g2, g3, g4, hlen, hba, cSt, cFt, cRt, cQt, cZt, cN1t], by simp [cS, cF, cR, cQ, cZ, cN1]⟩
 have cN1t : ((o.l.xs.length : Int) = 1) = True := eq_true cN1
 exact ⟨true, by simp -implicitDefEqProofs [x652, hT.refs, hT.ren, TP.at, hT.box, -AV.cells, zbz, zb2, zb1, zb0, zby, zb3, k3, k4, k5, k6, g0, g1, g2, g3, g4, hlen, hba, cSt, cFt, cRt, cQt, cZt, cN1t], by simp [cS, cF, cR, cQ, cZ, cN1, hh]⟩
theorem zkv {sA : AV} {t : TP} {T : List Obj} (hT : StoreT code ext sA t T) (h' : code 656 = some x656) (h2 : code 653 = some x653) (h3 : code 759 = some x759) (h4 : code 749 = some x749) (h5 : code 650 = some x650) (h6 : code 652 = some x652) (hb : T.length ≤ 1048576) (k : Nat) (o : Obj) (ho : T[k]? = some o) (k3 : ¬ o.k = 3) (k4 : ¬ o.k = 4) (k5 : ¬ o.k = 5) (k6 : ¬ o.k = 6) (cS : o.s = .empty) (cF : o.fn = 0) (cR : (o.l.xs.length : Int) ≤ o.room) (cQ : o.room ≤ 262144) : ∃ b : Bool, callW code ext 652 [sA, t.at k] [] = some (avb b, []) ∧ (b = true ↔ ObjOk T o) := by
 rw [zbs code ext h6]
 have hlen := zo6 o.l.ok
 have hok : ObjOk T o ↔ (o.s = .empty ∧ o.room = 0 ∧ o.fn = 0 ∧ (o.l.xs.length : Int) = 1 ∧ heldOf T o.l.xs false = true) := by
  unfold ObjOk
  rw [if_neg k3, if_neg k4, if_neg k5, if_neg k6]
 rw [hok]
 clear hok
 have g0 : t.row[t.off + k * 5]? = some (.val (.int .u8 o.k)) := zdd (hT.obj k o ho) 0 (by omega)
 have g1 : t.row[t.off + k * 5 + 1]? = some (.val (.string o.s)) := zdd (hT.obj k o ho) 1 (by omega)
 have g2 : t.row[t.off + k * 5 + 2]? = some (o.l.iv) := zdd (hT.obj k o ho) 2 (by omega)
 have g3 : t.row[t.off + k * 5 + 3]? = some (.val (.int .i64 o.room)) := zdd (hT.obj k o ho) 3 (by omega)
 have g4 : t.row[t.off + k * 5 + 4]? = some (.val (.int .i64 o.fn)) := zdd (hT.obj k o ho) 4 (by omega)
 have hba := zam (ext := ext) hT h' h2 h3 h4 hb k o ho o.l.ok
 rw [zao] at hba
 rw [show decide (o.k = 6) = false by simp; omega] at hba
 simp only [mayMemT, TP.at] at hba
 have cSt : (o.s = .empty) = True := eq_true cS
 have cFt : (o.fn = 0) = True := eq_true cF
 have cRt : ((o.l.xs.length : Int) ≤ o.room) = True := eq_true cR
 have cQt : (o.room ≤ 262144) = True := eq_true cQ
 by_cases hh : heldOf T o.l.xs false = true
 case neg =>
  have hhf : heldOf T o.l.xs false = false := by simpa using hh
  rw [hhf] at hba
  exact ⟨false, by simp -implicitDefEqProofs [x652, hT.refs, hT.ren, TP.at, hT.box, -AV.cells, zbz, zb2, zb1, zb0, zby, zb3, k3, k4, k5, k6, g0, g1, g2, g3, g4, hlen, hba, cSt, cFt, cRt, cQt], by simp [hhf]⟩
 rw [hh] at hba
 by_cases cZ : o.room = 0
 case neg =>
  have cZt : (o.room = 0) = False := eq_false cZ
  exact ⟨false, by simp -implicitDefEqProofs [x652, hT.refs, hT.ren, TP.at, hT.box, -AV.cells, zbz, zb2, zb1, zb0, zby, zb3, k3, k4, k5, k6, g0, g1, g2, g3, g4, hlen, hba, cSt, cFt, cRt, cQt, cZt], by simp [cS, cF, cR, cQ, cZ]⟩
 have cZt : (o.room = 0) = True := eq_true cZ
 by_cases cN1 : (o.l.xs.length : Int) = 1
 case neg =>
  have cN1t : ((o.l.xs.length : Int) = 1) = False := eq_false cN1
  exact ⟨false, by simp -implicitDefEqProofs [x652, hT.refs, hT.ren, TP.at, hT.box, -AV.cells, zbz, zb2, zb1, zb0, zby, zb3, k3, k4, k5, k6, g0, g1, g2, g3, g4, hlen, hba, cSt, cFt, cRt, cQt, cZt, cN1t], by simp [cS, cF, cR, cQ, cZ, cN1]⟩
 have cN1t : ((o.l.xs.length : Int) = 1) = True := eq_true cN1
 exact ⟨true, by simp -implicitDefEqProofs [x652, hT.refs, hT.ren, TP.at, hT.box, -AV.cells, zbz, zb2, zb1, zb0, zby, zb3, k3, k4, k5, k6, g0, g1, g2, g3, g4, hlen, hba, cSt, cFt, cRt, cQt, cZt, cN1t], by simp [cS, cF, cR, cQ, cZ, cN1, hh]⟩
theorem may7T {sA : AV} {t : TP} {T : List Obj} (hT : StoreT code ext sA t T) (h' : code 656 = some x656) (h2 : code 653 = some x653) (h3 : code 759 = some x759) (h4 : code 749 = some x749) (h5 : code 650 = some x650) (h6 : code 652 = some x652) (hb : T.length ≤ 1048576) (k : Nat) (o : Obj) (ho : T[k]? = some o) (k3 : ¬ o.k = 3) (k4 : ¬ o.k = 4) (k5 : ¬ o.k = 5) (k6 : ¬ o.k = 6) : ∃ b : Bool, callW code ext 652 [sA, t.at k] [] = some (avb b, []) ∧ (b = true ↔ ObjOk T o) := by
 by_cases cS : o.s = .empty
 case neg => exact zkr hT h' h2 h3 h4 h5 h6 hb k o ho k3 k4 k5 k6 cS
 by_cases cF : o.fn = 0
 case neg => exact zks hT h' h2 h3 h4 h5 h6 hb k o ho k3 k4 k5 k6 cS cF
 by_cases cR : (o.l.xs.length : Int) ≤ o.room
 case neg => exact zkt hT h' h2 h3 h4 h5 h6 hb k o ho k3 k4 k5 k6 cS cF cR
 by_cases cQ : o.room ≤ 262144
 case neg => exact zku hT h' h2 h3 h4 h5 h6 hb k o ho k3 k4 k5 k6 cS cF cR cQ
 exact zkv hT h' h2 h3 h4 h5 h6 hb k o ho k3 k4 k5 k6 cS cF cR cQ
end
end Go.EX


namespace Go.EX
section
variable {code : Nat → Option XFun} {ext : Calls'}
theorem zkw {sA : AV} {t : TP} {T : List Obj} (hT : StoreT code ext sA t T) (h' : code 656 = some x656) (h2 : code 653 = some x653) (h3 : code 759 = some x759) (h4 : code 749 = some x749) (h5 : code 650 = some x650) (h6 : code 652 = some x652) (hb : T.length ≤ 1048576) (k : Nat) (o : Obj) (ho : T[k]? = some o) : ∃ b : Bool, callW code ext 652 [sA, t.at k] [] = some (avb b, []) ∧ (b = true ↔ ObjOk T o) := by
 by_cases k3 : o.k = 3
 ·exact may3T hT h' h2 h3 h4 h5 h6 hb k o ho k3
 by_cases k4 : o.k = 4
 ·exact may4T hT h' h2 h3 h4 h5 h6 hb k o ho k4
 by_cases k5 : o.k = 5
 ·exact may5T hT h' h2 h3 h4 h5 h6 hb k o ho k5
 by_cases k6 : o.k = 6
 ·exact may6T hT h' h2 h3 h4 h5 h6 hb k o ho k6
 exact may7T hT h' h2 h3 h4 h5 h6 hb k o ho k3 k4 k5 k6
abbrev oneObj (v : Val) : AObj := .flat [.val (.int .u8 v.k), .val (.int .i64 v.n)] false
abbrev oneEnv (i : Int) : Env := [(1, .optr 1 0), (2, .optr 2 0), (3, .optr 3 0), (8, .osl 0 0 2 1 (some 1)), (9, int64 1), (10, int64 i)]
def oneMemT (sA : AV) (t : TP) (v : Val) : Option Nat → Mem
 | none => [oneObj v, .rich [sA], .rich [.omap 4], .rich [nilS], .map []]
 | some q => [oneObj v, .rich [sA], .rich [.omap 4], .rich [.osl 5 0 1 1 none], .map (seenT t [q]), .rich (ptrsT t [q])]
theorem zmk {sA : AV} {t : TP} {T : List Obj} (hT : StoreT code ext sA t T) (hb : T.length ≤ 1048576) (v : Val) (hw : tVal.wf v) :
  ∃ s', den code ext x655L1 ⟨5, oneEnv 0, oneMemT sA t v none⟩ = some (.normal, s') ∧ s'.tidy [1, 2, 3, 8, 9, 10] = ⟨5, oneEnv 1, oneMemT sA t v (leadsOf T v)⟩ := by
 have hld := hT.lead v hw.2
 have e1 : IntKind.wrap .i64 1 = 1 := rfl
 cases hq : leadsOf T v with
 | none =>
  rw [hq, leadT] at hld
  try simp only [TP.at] at hld
  simp only [oneMemT]
  simp -implicitDefEqProofs [x655L1, hT.refs, hT.ren, TP.at, hld, e1]
 | some q =>
  rw [hq, leadT] at hld
  try simp only [TP.at] at hld
  simp only [oneMemT]
  have hf : ∀ m, findK m 3 (.tag t.b (t.a + q * 5) (.ptr t.row (t.off + q * 5))) [] 0 = some none := fun _ => rfl
  simp -implicitDefEqProofs [x655L1, hT.refs, hT.ren, TP.at, hld, e1, hf, exAppendX, exAppend, exAppendR, elems, elemsR, seenT, ptrsT]
theorem zmj {sA : AV} {t : TP} {T : List Obj} (hT : StoreT code ext sA t T) (h' : code 655 = some x655) (hb : T.length ≤ 1048576) (v : Val) (hw : tVal.wf v) :
  callW code ext 655 [.osl 0 0 2 1 (some 1), .optr 1 0, .optr 2 0, .optr 3 0] (oneMemT sA t v none) = some (.tup [], oneMemT sA t v (leadsOf T v)) := by
 obtain ⟨s', g1, g2⟩ := zmk (ext := ext) hT hb v hw
 have hl : ∀ s, s.tidy [1, 2, 3, 8, 9, 10] = ⟨5, oneEnv 0, oneMemT sA t v none⟩ → den code ext (.loop [1, 2, 3, 8, 9, 10] x655L1) s = some (.exit 0, ⟨5, oneEnv 1 ++ [(11, avb false)], oneMemT sA t v (leadsOf T v)⟩) := by
  intro s hs
  rw [zdn, hs, g1]
  simp only [andThen]
  rw [zdn, g2]
  cases leadsOf T v with
  | none => simp -implicitDefEqProofs [x655L1, hT.refs, hT.ren, TP.at, oneMemT]
  | some q => simp -implicitDefEqProofs [x655L1, hT.refs, hT.ren, TP.at, oneMemT, ptrsT, seenT]
 rw [zbs code ext h']
 have hl' := hl ⟨5, oneEnv 0, oneMemT sA t v none⟩ (by simp -implicitDefEqProofs [oneMemT, hT.refs, hT.ren, TP.at])
 cases hq : leadsOf T v with
 | none =>
  rw [hq] at hl'
  simp only [oneMemT] at hl' ⊢
  simp -implicitDefEqProofs [x655, hT.refs, hT.ren, TP.at, hl']
 | some q =>
  rw [hq] at hl'
  simp only [oneMemT, ptrsT, seenT] at hl' ⊢
  simp -implicitDefEqProofs [x655, hT.refs, hT.ren, TP.at, hl', ptrsT, seenT]
end
end Go.EX


namespace Go.EX
section
variable {code : Nat → Option XFun} {ext : Calls'}
abbrev reachEnv1T (i : Int) : Env := [(4, .optr 1 0), (6, .clo 655 [.optr 2 0, .optr 3 0, .optr 1 0]), (7, int64 i)]
def reachMem1T (sA : AV) (t : TP) (v : Val) (out : List Nat) : Mem := [oneObj v, .rich [.osl 4 0 1 out.length none], .rich [sA], .rich [.omap 5], .rich (ptrsT t out), .map (seenT t out)]
theorem zow {sA : AV} {t : TP} {T : List Obj} (hT : StoreT code ext sA t T) (h' : code 655 = some x655) (hb : T.length ≤ 1048576) (v : Val) (out : List Nat) (hnd : out.Nodup) (hlt : ∀ q ∈ out, q < T.length) (i k : Nat) (hk : out[i]? = some k) (o : Obj) (ho : T[k]? = some o) :
  ∃ s', den code ext x654L1 ⟨1, reachEnv1T i, reachMem1T sA t v out⟩ = some (.normal, s') ∧ s'.tidy [4, 6, 7] = ⟨1, reachEnv1T ((i : Int) + 1), reachMem1T sA t v (addAll T out o.l.xs)⟩ := by
 have hi := (List.getElem?_eq_some_iff.1 hk).1
 have hlen := zr8 T.length out hnd hlt
 have e1 : IntKind.wrap .i64 ((i : Int) + 1) = (i : Int) + 1 := wrapI64 (by omega) (by omega)
 have hp : (ptrsT t out)[i]? = some (t.at k) := by simp [ptrsT, hk]
 have hL : t.row[t.off + k * 5 + 2]? = some o.l.iv := zdd (hT.obj k o ho) 2 (by omega)
 obtain ⟨o', tail', g1, g2, g3, g4⟩ := zah (ext := ext) hT h' hb o.l.iv o.l.xs o.l.ok 5 out (.osl 4 0 1 out.length none) [.rich (ptrsT t out)] (.inr ⟨rfl, .inl ⟨rfl, rfl⟩⟩) rfl hnd hlt
 simp only [addBaseT, List.cons_append, List.nil_append] at g4
 by_cases he : addAll T out o.l.xs = out
 ·obtain ⟨rfl, rfl⟩ := g2 he
  rw [he] at g4 ⊢
  refine ⟨⟨1, reachEnv1T ((i : Int) + 1), reachMem1T sA t v out⟩, ?_, ?_⟩
  ·simp -implicitDefEqProofs [x654L1, hT.refs, hT.ren, TP.at, reachMem1T, hi, hp, hL, g4, e1]
  ·simp -implicitDefEqProofs [reachMem1T, hT.refs, hT.ren, TP.at]
 ·have ho' := g3 he
  subst ho'
  generalize addAll T out o.l.xs = out' at *
  obtain rfl : tail' = [.dead, .rich (ptrsT t out')] := by
   rcases g1 with ⟨h5, _⟩ | ⟨_, ⟨h6, _⟩ | ⟨_, h7⟩⟩
   ·cases h5
   ·cases h6
   ·exact h7
  refine ⟨⟨1, reachEnv1T ((i : Int) + 1), [oneObj v, .rich [.osl 6 0 1 out'.length none], .rich [sA], .rich [.omap 5], .dead, .map (seenT t out'), .rich (ptrsT t out')]⟩, ?_, ?_⟩
  ·simp -implicitDefEqProofs [x654L1, hT.refs, hT.ren, TP.at, reachMem1T, hi, hp, hL, g4, e1]
  ·simp -implicitDefEqProofs [reachMem1T, hT.refs, hT.ren, TP.at]
def reachOut1T (t : TP) (v : Val) (out : List Nat) : AV × Mem := if out = [] then (nilS, [oneObj v]) else (.osl 1 0 1 out.length none, [oneObj v, .rich (ptrsT t out)])
theorem zot {sA : AV} {t : TP} {T : List Obj} (hT : StoreT code ext sA t T) (h' : code 655 = some x655) (h2 : code 654 = some x654) (hb : T.length ≤ 1048576) (v : Val) (hw : tVal.wf v) :
  ∃ out, Grown T [v] out out.length ∧ callW code ext 654 [sA, .osl 0 0 2 1 (some 1)] [oneObj v] = some (reachOut1T t v out) := by
 have g4 := zmj (ext := ext) hT h' hb v hw
 have hG := Grown.start T [v]
 rw [zbs code ext h2]
 cases hq : leadsOf T v with
 | none =>
  have he : addAll T [] [v] = [] := by simp [addAll, hq]
  rw [hq] at g4
  rw [he] at hG
  simp only [oneMemT] at g4
  refine ⟨[], hG, ?_⟩
  have hl : den code ext (.loop [4, 6, 7] x654L1) ⟨1, [(4, .optr 2 0), (6, .clo 655 [.optr 1 0, .optr 4 0, .optr 2 0]), (7, int64 0)], [oneObj v, .rich [sA], .rich [nilS], .map [], .rich [.omap 3]]⟩ =
     some (.exit 0, ⟨1, [(4, .optr 1 0), (6, .clo 655 [.optr 2 0, .optr 3 0, .optr 1 0]), (7, int64 0), (16, avb false)], [oneObj v, .rich [nilS], .rich [sA], .rich [.omap 4], .map []]⟩) := by
   rw [zdn]
   simp -implicitDefEqProofs [x654L1, hT.refs, hT.ren, TP.at]
  simp -implicitDefEqProofs [x654, hT.refs, hT.ren, TP.at, hT.box, -AV.cells, zbz, zb2, zb1, zb0, zby, zb3, g4, hl, reachOut1T]
 | some q =>
  have he : addAll T [] [v] = [q] := by simp [addAll, hq]
  rw [hq] at g4
  rw [he] at hG
  simp only [oneMemT] at g4
  have loop : ∀ s : St, s.tidy [4, 6, 7] = ⟨1, reachEnv1T 0, reachMem1T sA t v [q]⟩ → ∃ e s', den code ext (.loop [4, 6, 7] x654L1) s = some (e, s') ∧ e ≠ .normal ∧
    (e = .exit 0 ∧ ∃ out, out ≠ [] ∧ Grown T [v] out out.length ∧ s' = ⟨1, reachEnv1T out.length ++ [(16, avb false)], reachMem1T sA t v out⟩) := by
   intro s hst
   refine zjt (fun n s => ∃ (i : Nat) (out : List Nat), i ≤ out.length ∧ out ≠ [] ∧ n + i = T.length ∧ Grown T [v] out i ∧ s.tidy [4, 6, 7] = ⟨1, reachEnv1T i, reachMem1T sA t v out⟩) _ ?_ T.length s ⟨0, [q], by omega, by simp, by omega, hG, hst⟩
   clear hst hG he g4
   rintro n s ⟨i, out, hio, hne, hn, hG, hst⟩
   rw [hst]
   have hlt : ∀ q ∈ out, q < T.length := fun q hq => (hG.reach q hq).lt
   by_cases hi : i < out.length
   ·have hk := List.getElem?_eq_getElem hi
    have hko := hlt _ (List.getElem_mem hi)
    obtain ⟨s', q1, q2⟩ := zow (code := code) (ext := ext) hT h' hb v out hG.nodup hlt i _ hk _ (List.getElem?_eq_getElem hko)
    have hG' := hG.next hk (List.getElem?_eq_getElem hko)
    have hs := hG.short
    obtain ⟨r, hr⟩ := zad T T[out[i]].l.xs out
    refine ⟨.normal, s', q1, .inl ⟨rfl, n - 1, by omega, i + 1, _, ?_, ?_, by omega, hG', by rw [q2]; rfl⟩⟩
    ·rw [hr, List.length_append]; omega
    ·rw [hr]; intro e; exact hne (List.append_eq_nil_iff.1 e).1
   ·have : i = out.length := by omega
    subst this
    refine ⟨.exit 0, ⟨1, reachEnv1T out.length ++ [(16, avb false)], reachMem1T sA t v out⟩, ?_, .inr ⟨by simp, rfl, out, hne, hG, rfl⟩⟩
    simp -implicitDefEqProofs [x654L1, hT.refs, hT.ren, TP.at, reachMem1T]
  obtain ⟨e, s', l1, _, rfl, out, hne, hG', rfl⟩ := loop ⟨1, [(4, .optr 2 0), (6, .clo 655 [.optr 1 0, .optr 4 0, .optr 2 0]), (7, int64 0)], [oneObj v, .rich [sA], .rich [.osl 5 0 1 1 none], .map (seenT t [q]), .rich [.omap 3], .rich (ptrsT t [q])]⟩ (by simp -implicitDefEqProofs [reachMem1T, hT.refs, hT.ren, TP.at, ptrsT, seenT])
  refine ⟨out, hG', ?_⟩
  simp -implicitDefEqProofs [x654, hT.refs, hT.ren, TP.at, hT.box, -AV.cells, zbz, zb2, zb1, zb0, zby, zb3, g4, l1, reachMem1T, reachOut1T, hne]
end
end Go.EX


namespace Go.EX
section
variable {code : Nat → Option XFun} {ext : Calls'}
theorem zlv {sA : AV} {t : TP} {T : List Obj} (hT : StoreT code ext sA t T) (h' : code 656 = some x656) (h2 : code 653 = some x653) (h3 : code 759 = some x759) (h4 : code 749 = some x749) (h5 : code 650 = some x650) (h6 : code 652 = some x652) (h7 : code 647 = some x647) (hb : T.length ≤ 1048576) (k : Nat) (o : Obj) (ho : T[k]? = some o) :
  ∃ b : Bool, callW code ext 647 [t.at k, .optr 0 0] [.rich [sA]] = some (avb b, [.rich [sA]]) ∧ (b = true ↔ ¬ ObjOk T o) := by
 obtain ⟨b, hm, hbo⟩ := zkw (ext := ext) hT h' h2 h3 h4 h5 h6 hb k o ho
 refine ⟨!b, ?_, by rw [← hbo]; simp⟩
 simp only [TP.at] at hm ⊢
 rw [zbs code ext h7]
 simp -implicitDefEqProofs [x647, hT.refs, hT.ren, TP.at, hm]
def anyMemT (sA : AV) (t : TP) (out : List Nat) : Mem := [.rich (ptrsT t out), .rich [sA]]
theorem zan {sA : AV} {t : TP} {T : List Obj} (hT : StoreT code ext sA t T) (h' : code 656 = some x656) (h2 : code 653 = some x653) (h3 : code 759 = some x759) (h4 : code 749 = some x749) (h5 : code 650 = some x650) (h6 : code 652 = some x652) (h7 : code 647 = some x647) (h8 : code 745 = some x745) (h9 : code 755 = some x755) (hb : T.length ≤ 1048576) (out : List Nat) (hol : out.length ≤ T.length) (hlt : ∀ q ∈ out, q < T.length) :
  ∃ b : Bool, callW code ext 745 [.osl 0 0 1 out.length none, .clo 647 [.optr 1 0]] (anyMemT sA t out) = some (avb b, anyMemT sA t out) ∧ (b = true ↔ ∃ (k : Nat) (o : Obj), k ∈ out ∧ T[k]? = some o ∧ ¬ ObjOk T o) := by
 have loop : ∃ e s', den code ext (.loop [0, 1, 7, 8] x755L1) ⟨2, [(0, .osl 0 0 1 out.length none), (1, .clo 647 [.optr 1 0]), (7, int64 out.length), (8, int64 0)], anyMemT sA t out⟩ = some (e, s') ∧ e ≠ .normal ∧
   ((e = .exit 0 ∧ (∀ (i k : Nat) (o : Obj), out[i]? = some k → T[k]? = some o → ObjOk T o) ∧ s' = ⟨2, [(0, .osl 0 0 1 out.length none), (1, .clo 647 [.optr 1 0]), (7, int64 out.length), (8, int64 out.length), (9, avb false)], anyMemT sA t out⟩) ∨ (e = .ret ∧ (∃ (k : Nat) (o : Obj), k ∈ out ∧ T[k]? = some o ∧ ¬ ObjOk T o) ∧ ∃ i : Nat, s' = ⟨2, [(4, int64 (i : Nat))], anyMemT sA t out⟩)) := by
  refine zjt (fun n s => ∃ (i : Nat), i + n = out.length ∧ (∀ (j k : Nat) (o : Obj), j < i → out[j]? = some k → T[k]? = some o → ObjOk T o) ∧ s = ⟨2, [(0, .osl 0 0 1 out.length none), (1, .clo 647 [.optr 1 0]), (7, int64 out.length), (8, int64 (i : Nat))], anyMemT sA t out⟩) _ ?_ out.length _ ⟨0, by simp, fun j k o hj => by omega, rfl⟩
  rintro n _ ⟨i, hi, hall, rfl⟩
  by_cases hio : i < out.length
  ·have hk := List.getElem?_eq_getElem hio
   have hkm := List.getElem_mem hio
   have hkT := hlt _ hkm
   have e1 : IntKind.wrap .i64 ((i : Int) + 1) = (i : Int) + 1 := wrapI64 (by omega) (by omega)
   generalize out[i] = k at hk hkm hkT
   have hTk := List.getElem?_eq_getElem hkT
   generalize T[k] = o at hTk
   have hp : (ptrsT t out)[i]? = some (t.at k) := by simp [ptrsT, hk]
   obtain ⟨b, hm, hbo⟩ := zlv (ext := ext) hT h' h2 h3 h4 h5 h6 h7 hb k o hTk
   simp only [TP.at] at hm hp
   cases b with
   | true =>
    refine ⟨.ret, ⟨2, [(4, int64 (i : Nat))], anyMemT sA t out⟩, ?_, .inr ⟨by simp, .inr ⟨rfl, ⟨k, o, hkm, hTk, hbo.1 rfl⟩, i, rfl⟩⟩⟩
    simp -implicitDefEqProofs [x755L1, hT.refs, hT.ren, TP.at, anyMemT, hio, hp, hm]
   | false =>
    refine ⟨.normal, ⟨2, [(0, .osl 0 0 1 out.length none), (1, .clo 647 [.optr 1 0]), (7, int64 out.length), (8, int64 ((i : Int) + 1))], anyMemT sA t out⟩, ?_, .inl ⟨rfl, n - 1, by omega, i + 1, by omega, ?_, rfl⟩⟩
    ·simp -implicitDefEqProofs [x755L1, hT.refs, hT.ren, TP.at, anyMemT, hio, hp, hm, e1]
    ·intro j k' o' hj h1 h2
     by_cases hji : j < i
     ·exact hall j k' o' hji h1 h2
     ·have : j = i := by omega
      subst this
      rw [hk] at h1; cases h1
      rw [hTk] at h2; cases h2
      exact Classical.byContradiction fun hc => by have := hbo.2 hc; cases this
  ·have : i = out.length := by omega
   subst this
   refine ⟨.exit 0, _, ?_, .inr ⟨by simp, .inl ⟨rfl, fun i k o h1 h2 => hall i k o (List.getElem?_eq_some_iff.1 h1).1 h1 h2, rfl⟩⟩⟩
   simp -implicitDefEqProofs [x755L1, hT.refs, hT.ren, TP.at, anyMemT]
 have hidx : ∃ r : Int, callW code ext 755 [.osl 0 0 1 out.length none, .clo 647 [.optr 1 0]] (anyMemT sA t out) = some (int64 r, anyMemT sA t out) ∧ ((0 ≤ r) ↔ ∃ (k : Nat) (o : Obj), k ∈ out ∧ T[k]? = some o ∧ ¬ ObjOk T o) := by
  obtain ⟨e, s', g1, _, ⟨rfl, ha, rfl⟩ | ⟨rfl, ha, i, rfl⟩⟩ := loop
  ·refine ⟨-1, ?_, ⟨fun h => by omega, ?_⟩⟩
   ·rw [zbs code ext h9]
    simp only [anyMemT] at g1 ⊢
    simp -implicitDefEqProofs [x755, hT.refs, hT.ren, TP.at, g1]
   ·rintro ⟨k, o, hk, ho, hn⟩
    obtain ⟨i, hi⟩ := List.getElem?_of_mem hk
    exact absurd (ha i k o hi ho) hn
  ·refine ⟨i, ?_, ⟨fun _ => ha, fun _ => by omega⟩⟩
   rw [zbs code ext h9]
   simp only [anyMemT] at g1 ⊢
   simp -implicitDefEqProofs [x755, hT.refs, hT.ren, TP.at, g1]
 obtain ⟨r, hr, hri⟩ := hidx
 rw [zbs code ext h8]
 refine ⟨decide (0 ≤ r), ?_, by rw [decide_eq_true_eq, hri]⟩
 simp only [anyMemT] at hr ⊢
 simp -implicitDefEqProofs [x745, hT.refs, hT.ren, TP.at, hr]
theorem zll (h8 : code 745 = some x745) (h9 : code 755 = some x755) {sA : AV} {t : TP} {T : List Obj} (hT : StoreT code ext sA t T) :
  callW code ext 745 [nilS, .clo 647 [.optr 0 0]] [.rich [sA]] = some (avb false, [.rich [sA]]) := by
 have hl : den code ext (.loop [0, 1, 7, 8] x755L1) ⟨1, [(0, nilS), (1, .clo 647 [.optr 0 0]), (7, int64 0), (8, int64 0)], [.rich [sA]]⟩ = some (.exit 0, ⟨1, [(0, nilS), (1, .clo 647 [.optr 0 0]), (7, int64 0), (8, int64 0), (9, avb false)], [.rich [sA]]⟩) := by
  rw [zdn]
  simp -implicitDefEqProofs [x755L1, hT.refs, hT.ren, TP.at]
 have h5 : callW code ext 755 [nilS, .clo 647 [.optr 0 0]] [.rich [sA]] = some (int64 (-1), [.rich [sA]]) := by
  rw [zbs code ext h9]
  simp -implicitDefEqProofs [x755, hT.refs, hT.ren, TP.at, hl]
 rw [zbs code ext h8]
 simp -implicitDefEqProofs [x745, hT.refs, hT.ren, TP.at, h5]
theorem zb5 {sA : AV} {t : TP} {T : List Obj} (hT : StoreT code ext sA t T) (h' : code 656 = some x656) (h2 : code 653 = some x653) (h3 : code 759 = some x759) (h4 : code 749 = some x749) (h5 : code 650 = some x650) (h6 : code 652 = some x652) (h7 : code 647 = some x647) (h8 : code 745 = some x745) (h9 : code 755 = some x755) (h10 : code 654 = some x654) (h11 : code 655 = some x655) (h12 : code 646 = some x646)
  (hb : T.length ≤ 1048576) (v : Val) (hw : tVal.wf v) :
  ∃ b : Bool, callW code ext 646 [sA, .agg [.imm (.val (.int .u8 v.k)), int64 v.n]] [] = some (avb b, []) ∧ (b = true ↔ CheckOk T v) := by
 have hv := zui (ext := ext) hT h' hb v hw.2
 rw [zbs code ext h12]
 cases hvv : valOf T v with
 | false =>
  rw [hvv] at hv
  exact ⟨false, by simp -implicitDefEqProofs [x646, hT.refs, hT.ren, TP.at, hT.box, -AV.cells, zbz, zb2, zb1, zb0, zby, zb3, hv], by simp [CheckOk, hvv]⟩
 | true =>
  rw [hvv] at hv
  obtain ⟨out, hG, hre⟩ := zot (ext := ext) hT h11 h10 hb v hw
  have hmem : ∀ k, k ∈ out ↔ Reach T [v] k := hG.done (Nat.le_refl _)
  by_cases hne : out = []
  ·subst hne
   simp only [reachOut1T, if_true] at hre
   have hna := zll (ext := ext) h8 h9 hT
   refine ⟨true, by simp -implicitDefEqProofs [x646, hT.refs, hT.ren, TP.at, hT.box, -AV.cells, zbz, zb2, zb1, zb0, zby, zb3, hv, hre, hna], ?_⟩
   simp only [CheckOk, hvv, true_and, true_iff]
   intro k o hk
   have := (hmem k).2 hk
   cases this
  ·simp only [reachOut1T, if_neg hne] at hre
   obtain ⟨b, hany, hbo⟩ := zan (ext := ext) hT h' h2 h3 h4 h5 h6 h7 h8 h9 hb out hG.short (fun q hq => ((hmem q).1 hq).lt)
   refine ⟨!b, ?_, ?_⟩
   ·simp only [anyMemT] at hany
    simp -implicitDefEqProofs [x646, hT.refs, hT.ren, TP.at, hT.box, -AV.cells, zbz, zb2, zb1, zb0, zby, zb3, hv, hre, hany]
   ·simp only [CheckOk, hvv, true_and]
    cases b with
    | true =>
     obtain ⟨k, o, hk, ho, hn⟩ := hbo.1 rfl
     simp only [Bool.not_true, Bool.false_eq_true, false_iff]
     exact fun hc => hn (hc k o ((hmem k).1 hk) ho)
    | false =>
     simp only [Bool.not_false, true_iff]
     intro k o hk ho
     exact Classical.byContradiction fun hc => by
      have := hbo.2 ⟨k, o, (hmem k).2 hk, ho, hc⟩
      cases this
end
end Go.EX

