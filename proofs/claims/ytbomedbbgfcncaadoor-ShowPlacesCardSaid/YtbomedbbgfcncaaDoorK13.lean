import Derived.Test.YtbomedbbgfcncaaDoorExt
import Derived.Test.YtbomedbbgfcncaaDoorK8
import Derived.Test.YtbomedbbgfcncaaDoorK12
import Derived.Test.YtbomedbbgfcncaaDoorK10
set_option linter.unusedVariables false
namespace Go.EX
open Classical
noncomputable def extTag (g : Nat) (c : Calls') : Calls' := fun f args m =>
 if f = g then
  match args with
  | .imm (.slice row off (n + 1) cap) :: rest =>
   if ∀ b a, c f (.tag b a (.slice row off (n + 1) cap) :: rest) m = c f (.tag 0 0 (.slice row off (n + 1) cap) :: rest) m then c f (.tag 0 0 (.slice row off (n + 1) cap) :: rest) m else none
  | _ => c f args m
 else none
theorem zed {g : Nat} {c : Calls'} {row : List IV} {off n : Nat} {cap : Option Nat} {rest : List AV} {m : Mem} {r : AV × Mem} (hn : n ≠ 0) (h : ∀ b a, c g (.tag b a (.slice row off n cap) :: rest) m = some r) : extTag g c g (.imm (.slice row off n cap) :: rest) m = some r := by
 cases n with
 | zero => exact absurd rfl hn
 | succ n =>
  unfold extTag
  rw [if_pos rfl]
  dsimp only
  rw [if_pos fun b a => by rw [h b a, h 0 0], h 0 0]
theorem zee {num : Names} {P : Program} {g : Nat} {c : Calls'} (h : ExtOK num P c) : ExtOK num P (extTag g c) := by
 intro f args m r m' C vals hc hm hl hr
 unfold extTag at hc
 split at hc
 ·split at hc
  ·rename_i row off n cap rest
   split at hc
   ·rename_i hall
    obtain ⟨v0, hv0⟩ : ∃ v0, vals[0]? = some v0 := by
     have : 0 < vals.size := by rw [← hl]; simp
     exact ⟨_, Array.getElem?_eq_getElem this⟩
    have h0 := hr 0 _ v0 rfl hv0
    obtain ⟨b, a, hadr⟩ : ∃ b a, ARep num C (.tag b a (.slice row off (n + 1) cap)) v0 := by
     cases h0 with
     | imm _ _ hi =>
      cases hi with
      | slice _ _ _ _ b o c a u hb hc' hu hl' hk ha => exact ⟨b, a, .tag b a _ _ (.slice row off (n + 1) cap b o c a u hb hc' hu hl' hk ha) rfl⟩
    rw [← hall b a] at hc
    refine h f _ m r m' C vals hc hm (by simpa using hl) fun j x u hx hu => ?_
    cases j with
    | zero =>
     simp only [List.getElem?_cons_zero, Option.some.injEq] at hx
     subst hx
     rw [hv0] at hu
     cases hu
     exact hadr
    | succ j => exact hr (j + 1) x u (by simpa using hx) hu
   ·cases hc
  ·exact h f args m r m' C vals hc hm hl hr
 ·cases hc
end Go.EX


set_option linter.unusedVariables false
set_option linter.unusedSimpArgs false
namespace Go.EX
def x441V : XFun := ⟨[.tmp 4],
 (.seq (.region [0, 3] [⟨(some 3), .box 2 (.t 1), none⟩,
  ⟨(some 4), .mv (.c (.bool false)), none⟩])
 (.seq (.seq (.region [0, 3, 16] [⟨(some 11), .call .view 444 [], none⟩,
  ⟨(some 12), .un .not (.t 11), none⟩,
  ⟨(some 13), .mv (.t 12), none⟩,
  ⟨(some 14), .mv (.t 0), some (13, false)⟩,
  ⟨(some 15), .call .view 445 [(.t 14)], some (13, false)⟩,
  ⟨(some 16), .pick (.t 13) (.c (.bool true)) (.t 15), none⟩])
 (.cond (.t 16)
  (.seq (.region [4] [⟨(some 17), .call .view 444 [], none⟩,
   ⟨(some 4), .mv (.t 17), none⟩])
  .ret)
  .skip))
 (.seq (.region [0, 3, 5, 6] [⟨(some 19), .mv (.t 0), none⟩,
  ⟨(some 20), .load (some 2) (.t 3), none⟩,
  ⟨(some 21), .call .view 447 [(.t 19), (.t 20)], none⟩,
  ⟨(some 18), .mv (.t 21), none⟩,
  ⟨(some 22), .extract (.t 18) 0, none⟩,
  ⟨(some 23), .extract (.t 18) 1, none⟩,
  ⟨(some 6), .alloc [(.int .u8 0), (.int .i64 0)], none⟩,
  ⟨(some 5), .mv (.t 22), none⟩,
  ⟨none, .store 2 (.t 6) (.t 23), none⟩])
 (.seq (.region [0, 3, 5, 6, 7, 8] [⟨(some 25), .mv (.t 0), none⟩,
  ⟨(some 26), .load (some 2) (.t 3), none⟩,
  ⟨(some 27), .call .view 648 [(.t 25), (.t 26)], none⟩,
  ⟨(some 24), .mv (.t 27), none⟩,
  ⟨(some 28), .extract (.t 24) 0, none⟩,
  ⟨(some 29), .extract (.t 24) 1, none⟩,
  ⟨(some 7), .mv (.t 28), none⟩,
  ⟨(some 8), .mv (.t 29), none⟩])
 (.seq (.region [0, 3, 5, 6, 7, 8, 9, 10] [⟨(some 31), .mv (.t 5), none⟩,
  ⟨(some 32), .load (some 2) (.t 6), none⟩,
  ⟨(some 33), .call .view 648 [(.t 31), (.t 32)], none⟩,
  ⟨(some 30), .mv (.t 33), none⟩,
  ⟨(some 34), .extract (.t 30) 0, none⟩,
  ⟨(some 35), .extract (.t 30) 1, none⟩,
  ⟨(some 9), .mv (.t 34), none⟩,
  ⟨(some 10), .mv (.t 35), none⟩])
 (.seq (.region [4] [⟨(some 36), .mv (.t 7), none⟩,
  ⟨(some 37), .mv (.t 9), none⟩,
  ⟨(some 38), .bin .eql (.t 36) (.t 37), none⟩,
  ⟨(some 39), .mv (.t 38), none⟩,
  ⟨(some 40), .mv (.t 8), some (39, true)⟩,
  ⟨(some 41), .mv (.t 10), some (39, true)⟩,
  ⟨(some 42), .binB .eql (.t 40) (.t 41), some (39, true)⟩,
  ⟨(some 43), .pick (.t 39) (.t 42) (.c (.bool false)), none⟩,
  ⟨(some 44), .mv (.t 43), none⟩,
  ⟨(some 45), .mv (.t 0), some (44, true)⟩,
  ⟨(some 46), .load (some 2) (.t 3), some (44, true)⟩,
  ⟨(some 47), .call .view 646 [(.t 45), (.t 46)], some (44, true)⟩,
  ⟨(some 48), .mv (.t 5), some (44, true)⟩,
  ⟨(some 49), .load (some 2) (.t 6), some (44, true)⟩,
  ⟨(some 50), .call .view 646 [(.t 48), (.t 49)], some (44, true)⟩,
  ⟨(some 51), .binB .eql (.t 47) (.t 50), some (44, true)⟩,
  ⟨(some 52), .pick (.t 44) (.t 51) (.c (.bool false)), none⟩,
  ⟨(some 53), .mv (.t 52), none⟩,
  ⟨(some 54), .mv (.t 0), some (53, true)⟩,
  ⟨(some 55), .load (some 2) (.t 3), some (53, true)⟩,
  ⟨(some 56), .buildSlice 2 [(.int .u8 0), (.int .i64 0)] 1 [(0, 2, (.t 55))], some (53, true)⟩,
  ⟨(some 57), .call .view 649 [(.t 54), (.t 56)], some (53, true)⟩,
  ⟨(some 58), .mv (.t 5), some (53, true)⟩,
  ⟨(some 59), .load (some 2) (.t 6), some (53, true)⟩,
  ⟨(some 60), .buildSlice 2 [(.int .u8 0), (.int .i64 0)] 1 [(0, 2, (.t 59))], some (53, true)⟩,
  ⟨(some 61), .call .view 649 [(.t 58), (.t 60)], some (53, true)⟩,
  ⟨(some 62), .bin .eql (.t 57) (.t 61), some (53, true)⟩,
  ⟨(some 63), .pick (.t 53) (.t 62) (.c (.bool false)), none⟩,
  ⟨(some 4), .mv (.t 63), none⟩])
 .ret))))))⟩
def code4P : Nat → Option XFun
 | 303 => some x303
 | 338 => some x338
 | 339 => some x339
 | 361 => some x361
 | 380 => some x380
 | 441 => some x441V
 | 445 => some x445
 | 447 => some x447V
 | 448 => some x448
 | _ => none
theorem zb4 : code4P yieldNo = none := by
 unfold code4P
 split <;> first | (rename_i h; exact absurd h (by decide)) | rfl
noncomputable def ext4P : Calls' := extOr (extOne 444 (callW code4L (ext4 dig))) (extOr (extOne 648 (callW code4L (ext4 dig))) (extOr (extTag 649 (callW code4L (ext4 dig))) (extTag 646 (callW code4L (ext4 dig)))))
theorem one_no {g f : Nat} (h : f ≠ g) (c : Calls') (a : List AV) (m : Mem) : extOne g c f a m = none := by
 unfold extOne
 rw [if_neg h]
theorem zjx (g : Nat) (c : Calls') (a : List AV) (m : Mem) : extOne g c g a m = c g a m := by
 unfold extOne
 rw [if_pos rfl]
theorem tag_no {g f : Nat} (h : f ≠ g) (c : Calls') (a : List AV) (m : Mem) : extTag g c f a m = none := by
 unfold extTag
 rw [if_neg h]
theorem zj4 {a b : Calls'} {f : Nat} {al : List AV} {m : Mem} {r : AV × Mem} (h : a f al m = some r) : extOr a b f al m = some r := by
 unfold extOr
 rw [h]
theorem zj5 {a b : Calls'} {f : Nat} {al : List AV} {m : Mem} (h : a f al m = none) : extOr a b f al m = b f al m := by
 unfold extOr
 rw [h]
theorem alive4P : callW code4P ext4P 444 [] [] = some (avb true, []) := by
 rw [zbd code4P ext4P rfl (by decide)]
 exact zj4 ((zjx _ _ _ _).trans lives4)
theorem text4P {sv : IV} {S : List Obj} (hr : Reads tObj sv S) (hS : StoreOK S) (v : Val) (hv : tVal.wf v) :
  ∃ m, callW code4P ext4P 648 [.imm sv, .agg [.imm (.val (.int .u8 v.k)), int64 v.n]] [] = some (.tup [strV (textOf S v).1, avb (textOf S v).2], m) := by
 obtain ⟨m, h⟩ := zph text4L rfl rfl rfl rfl hr hS v hv
 refine ⟨m, ?_⟩
 rw [zbd code4P ext4P rfl (by decide)]
 unfold ext4P
 rw [zj5 (one_no (by decide) _ _ _)]
 exact zj4 ((zjx _ _ _ _).trans h)
theorem za6 {g : Nat} {sv : IV} {S : List Obj} (hr : Reads tObj sv S) {rest : List AV} {r : AV × Mem} (h : ∀ {sA : AV} {t : TP}, StoreT code4L (ext4 dig) sA t S → callW code4L (ext4 dig) g (sA :: rest) [] = some r) :
  extTag g (callW code4L (ext4 dig)) g (.imm sv :: rest) [] = some r := by
 by_cases h0 : S.length = 0
 ·have : S = [] := List.eq_nil_of_length_eq_zero h0
  subst this
  have h := h (zot rfl ⟨0, 0, [], 0⟩ hr)
  rcases hr.2.2 with ⟨rfl, _⟩ | ⟨row, off, cap, rfl, _⟩
  ·unfold extTag
   rw [if_pos rfl]
   exact h
  ·unfold extTag
   rw [if_pos rfl]
   exact h
 ·obtain ⟨row, off, cap, rfl, _⟩ := zlv hr (List.getElem?_eq_getElem (by omega : 0 < S.length))
  exact zed h0 fun b a => h (zou (t := ⟨b, a, row, off⟩) rfl S cap hr)
open Classical in
noncomputable def okB (S : List Obj) (v : Val) : Bool := decide (CheckOk S v)
theorem zjq {S : List Obj} {v : Val} (h : CheckOk S v) : okB S v = true := @decide_eq_true _ (Classical.propDecidable _) h
theorem zjo {S : List Obj} {v : Val} (h : ¬ CheckOk S v) : okB S v = false := @decide_eq_false _ (Classical.propDecidable _) h
theorem zjp {S T : List Obj} {v u : Val} (h : CheckOk S v ↔ CheckOk T u) : okB S v = okB T u := by
 by_cases hc : CheckOk S v
 ·rw [zjq hc, zjq (h.1 hc)]
 ·rw [zjo hc, zjo (fun c => hc (h.2 c))]
theorem check4P {sv : IV} {S : List Obj} (hr : Reads tObj sv S) (hb : S.length ≤ 1048576) (v : Val) (hv : tVal.wf v) :
  callW code4P ext4P 646 [.imm sv, .agg [.imm (.val (.int .u8 v.k)), int64 v.n]] [] = some (avb (okB S v), []) := by
 rw [zbd code4P ext4P rfl (by decide)]
 unfold ext4P
 rw [zj5 (one_no (by decide) _ _ _), zj5 (one_no (by decide) _ _ _), zj5 (tag_no (by decide) _ _ _)]
 refine za6 hr fun hT => ?_
 obtain ⟨b, h, hbo⟩ := zbr hT rfl rfl rfl rfl rfl rfl rfl rfl rfl rfl rfl rfl hb v hv
 have : b = okB S v := by
  cases b with
  | true => exact (zjq (hbo.1 rfl)).symm
  | false => exact (zjo fun c => by have := hbo.2 c; cases this).symm
 rw [← this]
 exact h
theorem words4P {sv : IV} {S : List Obj} (hr : Reads tObj sv S) (hb : S.length ≤ 1048576) (hs : ∀ o ∈ S, o.s.size ≤ 1048576) (hL : ∀ o ∈ S, o.l.xs.length ≤ 5000) {rv : IV} {roots : List Val} (hq : Reads tVal rv roots) :
  callW code4P ext4P 649 [.imm sv, .imm rv] [] = some (int64 (IntKind.wrap .i64 ((wordsN S roots : Nat) : Int)), []) := by
 rw [zbd code4P ext4P rfl (by decide)]
 unfold ext4P
 rw [zj5 (one_no (by decide) _ _ _), zj5 (one_no (by decide) _ _ _)]
 refine zj4 (za6 hr fun hT => ?_)
 obtain ⟨out, hg, h⟩ := zoc hT rfl rfl rfl rfl hb hq hs hL
 rw [zqy hg] at h
 exact h
theorem great4P {sv : IV} {S : List Obj} (hr : Reads tObj sv S) : callW code4P ext4P 445 [.imm sv] [] = some (avb (greatOf S), []) := zfm rfl rfl rfl rfl rfl rfl hr
theorem zjn {p : Option (AV × Mem)} {v : AV} (h : p.map Prod.fst = some v) : ∃ m : Mem, p = some (v, m) := by
 cases p with
 | none => cases h
 | some q => obtain ⟨a, m⟩ := q; cases h; exact ⟨m, rfl⟩
theorem zjv (v : Val) (hv : tVal.wf v) : Reads tVal (.slice [.val (.int .u8 v.k), .val (.int .i64 v.n)] 0 1 (some 1)) [v] :=
 zlw tVal [v] (fun x hx => by rw [List.mem_singleton.1 hx]; exact hv) (by simp) (fun c h => by cases h; exact Nat.le_refl _)
theorem zp6 {S : List Obj} (hwf : ∀ o ∈ S, tObj.wf o) (hS : S.length ≤ 1048576) (h0 : S.length ≠ 0) : Reads tObj (.slice (tObj.row (turnS S)) 0 S.length none) (turnS S) := by
 have h := zlw tObj (turnS S) (cap := none) (fun o ho => by
  unfold turnS at ho
  obtain ⟨p, hp, rfl⟩ := List.mem_map.1 (List.mem_reverse.1 ho)
  exact hwf p hp) (by rw [zpx]; omega) (fun c h => by cases h)
 rwa [zpx] at h
set_option maxHeartbeats 2000000 in
theorem zob {sv : IV} {S : List Obj} (hr : Reads tObj sv S) (v : Val) (hv : tVal.wf v) : ∃ m, callW code4P ext4P 441 [.imm sv, .agg [.imm (.val (.int .u8 v.k)), int64 v.n]] [] = some (avb true, m) := by
 apply zjn
 have hal := alive4P
 have hg := great4P hr
 rw [zbe code4P ext4P (rfl : code4P 441 = some x441V)]
 cases hgr : greatOf S with
 | true =>
  rw [hgr] at hg
  simp -implicitDefEqProofs [x441V, hal, hg]
 | false =>
  rw [hgr] at hg
  obtain ⟨hL, hS, hsum⟩ := zfl hr.1 hr.2.1 hgr
  have hok := zor hr.1 hr.2.1 hgr
  have ht := zp7 (code := code4P) (ext := ext4P) rfl rfl v hv hr hS hL
  obtain ⟨m1, x1⟩ := text4P hr hok v hv
  have c1 := check4P hr hS v hv
  have w1 := words4P hr hS hok.s hL (zjv v hv)
  have hw : tVal.wf (turnV S.length v) := zp4 (by omega) hv
  have hTx : textOf (turnS S) (turnV S.length v) = textOf S v := by unfold textOf; rw [zpe hS]
  have hTc : CheckOk (turnS S) (turnV S.length v) ↔ CheckOk S v := zbw hS v
  have hTw := zqz hS v
  have hT2 : ∀ o ∈ turnS S, o.s.size ≤ 1048576 := fun o ho => by
   obtain ⟨p, hp, rfl⟩ := List.mem_map.1 (List.mem_reverse.1 ho)
   exact hok.s p hp
  have hT3 : ∀ o ∈ turnS S, o.l.xs.length ≤ 5000 := fun o ho => by
   obtain ⟨p, hp, rfl⟩ := List.mem_map.1 (List.mem_reverse.1 ho)
   rw [zps hS, List.length_map]
   exact hL p hp
  have hT4 : ∀ o ∈ turnS S, tObj.wf o := fun o ho => by
   obtain ⟨p, hp, rfl⟩ := List.mem_map.1 (List.mem_reverse.1 ho)
   exact hr.1 p hp
  have hT5 : StoreOK (turnS S) := ⟨hT4, hT2, fun o ho => Nat.le_trans (hT3 o ho) (by omega)⟩
  have hTl : (turnS S).length ≤ 1048576 := by rw [zpx]; exact hS
  by_cases h0 : S.length = 0
  ·have hTn : turnS S = [] := List.eq_nil_of_length_eq_zero (by rw [zpx]; exact h0)
   have hrT : Reads tObj (.val (.slice none 0 0)) (turnS S) := by rw [hTn]; exact ⟨by simp, by simp, .inl ⟨rfl, rfl⟩⟩
   obtain ⟨m2, x2⟩ := text4P hrT hT5 _ hw
   have c2 := check4P hrT hTl _ hw
   have w2 := words4P hrT hTl hT2 hT3 (zjv _ hw)
   rw [hTx] at x2
   rw [zjp hTc] at c2
   rw [hTw] at w2
   unfold turnTail at ht
   rw [if_pos h0, if_pos h0] at ht
   simp only [nilS] at ht
   clear hTx hTc hTw hw hT2 hT3 hT4 hT5 hTl hrT hok hL hS hsum hgr
   generalize turnV S.length v = u at *
   generalize okB S v = ob at *
   generalize wordsN S [v] = wn at *
   generalize IntKind.wrap .i64 ((wn : Nat) : Int) = wz at *
   generalize (textOf S v).1 = t1 at *
   generalize (textOf S v).2 = t2 at *
   have hTT : (t1 == t1) = true := (beq_self_eq_true t1.data : (t1.data == t1.data) = true)
   simp -implicitDefEqProofs [x441V, hal, hg, ht, x1, x2, c1, c2, w1, w2, hTT]
  ·have hrT := zp6 hr.1 hS h0
   obtain ⟨m2, x2⟩ := text4P hrT hT5 _ hw
   have c2 := check4P hrT hTl _ hw
   have w2 := words4P hrT hTl hT2 hT3 (zjv _ hw)
   rw [hTx] at x2
   rw [zjp hTc] at c2
   rw [hTw] at w2
   unfold turnTail at ht
   rw [if_neg h0, if_neg h0, zcw] at ht
   clear hTx hTc hTw hw hT2 hT3 hT4 hT5 hTl hrT hok hL hS hsum hgr
   generalize turnV S.length v = u at *
   generalize okB S v = ob at *
   generalize wordsN S [v] = wn at *
   generalize IntKind.wrap .i64 ((wn : Nat) : Int) = wz at *
   generalize (textOf S v).1 = t1 at *
   generalize (textOf S v).2 = t2 at *
   generalize tObj.row (turnS S) = R at *
   have hTT : (t1 == t1) = true := (beq_self_eq_true t1.data : (t1.data == t1.data) = true)
   simp -implicitDefEqProofs [x441V, hal, hg, ht, x1, x2, c1, c2, w1, w2, hTT]
end Go.EX


namespace Go.Proofs.YtbomedbbgfcncaaDoor
open Go.EX
theorem okP4 : FunOK Tryd.prog num 4 x441V := .of Tryd.func4 (by kernel_rfl) (by kernel_rfl) (by kernel_rfl) (by kernel_rfl) (by kernel_rfl)
theorem okP13 : FunOK Tryd.prog num 13 x447V := .of Tryd.func13 (by kernel_rfl) (by kernel_rfl) (by kernel_rfl) (by kernel_rfl) (by kernel_rfl)
theorem okP25 : FunOK Tryd.prog num 25 x448 := .of Tryd.func25 (by kernel_rfl) (by kernel_rfl) (by kernel_rfl) (by kernel_rfl) (by kernel_rfl)
abbrev FnAtP (f : Nat) : Prop := ∀ xf, code4P (num f) = some xf → FunOK Tryd.prog num f xf
theorem hitP {n : Nat} {x : XFun} (e : code4P (num n) = some x) (k : FunOK Tryd.prog num n x) (r : ∀ f, f < n → FnAtP f) : ∀ f, f < n + 1 → FnAtP f := fun f h xf hx => by
 rcases Nat.lt_or_eq_of_le (Nat.le_of_lt_succ h) with h | rfl
 ·exact r f h xf hx
 ·rw [e] at hx; cases hx; exact k
theorem nixP {n : Nat} (e : code4P (num n) = none) (r : ∀ f, f < n → FnAtP f) : ∀ f, f < n + 1 → FnAtP f := fun f h xf hx => by
 rcases Nat.lt_or_eq_of_le (Nat.le_of_lt_succ h) with h | rfl
 ·exact r f h xf hx
 ·rw [e] at hx; cases hx
theorem uptoP20 : ∀ f, f < 20 → FnAtP f :=
 nixP (by kernel_rfl) <|
 nixP (by kernel_rfl) <|
 hitP (by kernel_rfl) ok17 <|
 hitP (by kernel_rfl) ok16 <|
 nixP (by kernel_rfl) <|
 nixP (by kernel_rfl) <|
 hitP (by kernel_rfl) okP13 <|
 nixP (by kernel_rfl) <|
 nixP (by kernel_rfl) <|
 nixP (by kernel_rfl) <|
 nixP (by kernel_rfl) <|
 nixP (by kernel_rfl) <|
 hitP (by kernel_rfl) ok7 <|
 nixP (by kernel_rfl) <|
 nixP (by kernel_rfl) <|
 hitP (by kernel_rfl) okP4 <|
 nixP (by kernel_rfl) <|
 nixP (by kernel_rfl) <|
 nixP (by kernel_rfl) <|
 nixP (by kernel_rfl) (fun f h => absurd h (Nat.not_lt_zero f))
theorem uptoP40 : ∀ f, f < 40 → FnAtP f :=
 nixP (by kernel_rfl) <|
 nixP (by kernel_rfl) <|
 nixP (by kernel_rfl) <|
 nixP (by kernel_rfl) <|
 nixP (by kernel_rfl) <|
 nixP (by kernel_rfl) <|
 nixP (by kernel_rfl) <|
 hitP (by kernel_rfl) ok32 <|
 nixP (by kernel_rfl) <|
 nixP (by kernel_rfl) <|
 nixP (by kernel_rfl) <|
 nixP (by kernel_rfl) <|
 nixP (by kernel_rfl) <|
 nixP (by kernel_rfl) <|
 hitP (by kernel_rfl) okP25 <|
 nixP (by kernel_rfl) <|
 nixP (by kernel_rfl) <|
 nixP (by kernel_rfl) <|
 nixP (by kernel_rfl) <|
 nixP (by kernel_rfl) uptoP20
theorem uptoP60 : ∀ f, f < 60 → FnAtP f :=
 nixP (by kernel_rfl) <|
 nixP (by kernel_rfl) <|
 hitP (by kernel_rfl) ok57 <|
 nixP (by kernel_rfl) <|
 nixP (by kernel_rfl) <|
 nixP (by kernel_rfl) <|
 nixP (by kernel_rfl) <|
 nixP (by kernel_rfl) <|
 nixP (by kernel_rfl) <|
 hitP (by kernel_rfl) ok50 <|
 nixP (by kernel_rfl) <|
 nixP (by kernel_rfl) <|
 nixP (by kernel_rfl) <|
 nixP (by kernel_rfl) <|
 nixP (by kernel_rfl) <|
 nixP (by kernel_rfl) <|
 nixP (by kernel_rfl) <|
 nixP (by kernel_rfl) <|
 nixP (by kernel_rfl) <|
 nixP (by kernel_rfl) uptoP40
theorem uptoP80 : ∀ f, f < 80 → FnAtP f :=
 nixP (by kernel_rfl) <|
 nixP (by kernel_rfl) <|
 nixP (by kernel_rfl) <|
 nixP (by kernel_rfl) <|
 nixP (by kernel_rfl) <|
 nixP (by kernel_rfl) <|
 nixP (by kernel_rfl) <|
 nixP (by kernel_rfl) <|
 nixP (by kernel_rfl) <|
 nixP (by kernel_rfl) <|
 nixP (by kernel_rfl) <|
 nixP (by kernel_rfl) <|
 nixP (by kernel_rfl) <|
 nixP (by kernel_rfl) <|
 nixP (by kernel_rfl) <|
 nixP (by kernel_rfl) <|
 nixP (by kernel_rfl) <|
 nixP (by kernel_rfl) <|
 nixP (by kernel_rfl) <|
 nixP (by kernel_rfl) uptoP60
theorem uptoP93 : ∀ f, f < 93 → FnAtP f :=
 nixP (by kernel_rfl) <|
 nixP (by kernel_rfl) <|
 nixP (by kernel_rfl) <|
 nixP (by kernel_rfl) <|
 nixP (by kernel_rfl) <|
 nixP (by kernel_rfl) <|
 nixP (by kernel_rfl) <|
 nixP (by kernel_rfl) <|
 nixP (by kernel_rfl) <|
 nixP (by kernel_rfl) <|
 nixP (by kernel_rfl) <|
 nixP (by kernel_rfl) <|
 nixP (by kernel_rfl) uptoP80
theorem fnsP (f : FuncId) (xf : XFun) (h : code4P (num f) = some xf) : FunOK Tryd.prog num f xf := by
 by_cases hf : f < 93
 ·exact uptoP93 f hf xf h
 ·have hn : num f = 100000 + f := by
   unfold num
   rw [List.getElem?_eq_none (by rw [show gids.length = 93 from by kernel_rfl]; simp only [FuncId] at *; omega)]; rfl
  rw [hn] at h
  unfold code4P at h
  split at h <;> first | (exfalso; simp only [FuncId] at *; omega) | cases h
end Go.Proofs.YtbomedbbgfcncaaDoor

