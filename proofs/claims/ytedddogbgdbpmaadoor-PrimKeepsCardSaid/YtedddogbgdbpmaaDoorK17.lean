import Derived.Test.YtedddogbgdbpmaaDoorExt
import Derived.Test.YtedddogbgdbpmaaDoorK7
import Derived.Test.YtedddogbgdbpmaaDoorK15
import Derived.Test.YtedddogbgdbpmaaDoorK16
import Derived.Test.YtedddogbgdbpmaaDoorK11
import Derived.Test.YtedddogbgdbpmaaDoorK9
import Derived.Test.YtedddogbgdbpmaaDoorK8
set_option linter.unusedVariables false
namespace Go.EX
open Classical
noncomputable def extTag (g : Nat) (c : Calls') : Calls' := fun f args m =>
 if f = g then
  match args with
  | .imm (.slice row off (n + 1) cap) :: rest =>
   if ∀ b a, c f (.tag b a (.slice row off (n + 1) cap) :: rest) m = c f (.tag 0 0 (.slice row off (n + 1) cap) :: rest) m then c f (.tag 0 0 (.slice row off (n + 1) cap) :: rest) m else none
  | _ => c f args m
 else none
theorem zfo {g : Nat} {c : Calls'} {row : List IV} {off n : Nat} {cap : Option Nat} {rest : List AV} {m : Mem} {r : AV × Mem} (hn : n ≠ 0) (h : ∀ b a, c g (.tag b a (.slice row off n cap) :: rest) m = some r) : extTag g c g (.imm (.slice row off n cap) :: rest) m = some r := by
 cases n with
 | zero => exact absurd rfl hn
 | succ n =>
  unfold extTag
  rw [if_pos rfl]
  dsimp only
  rw [if_pos fun b a => by rw [h b a, h 0 0], h 0 0]
theorem zfp {num : Names} {P : Program} {g : Nat} {c : Calls'} (h : ExtOK num P c) : ExtOK num P (extTag g c) := by
 intro f args m r m' C vals hc hm hl hr
 unfold extTag at hc
 split at hc
 ·split at hc
  ·rename_i row off n cap rest
   split at hc
   ·rename_i hall
    obtain ⟨v0, hv0⟩ : ∃ v0, vals[0]? = some v0 := by
     have : 0 < vals.size := by rw [← hl]; simp
     exact ⟨_, Array.getElem?_eq_getElem this⟩
    have h0 := hr 0 _ v0 rfl hv0
    obtain ⟨b, a, hadr⟩ : ∃ b a, ARep num C (.tag b a (.slice row off (n + 1) cap)) v0 := by
     cases h0 with
     | imm _ _ hi =>
      cases hi with
      | slice _ _ _ _ b o c a u hb hc' hu hl' hk ha => exact ⟨b, a, .tag b a _ _ (.slice row off (n + 1) cap b o c a u hb hc' hu hl' hk ha) rfl⟩
    rw [← hall b a] at hc
    refine h f _ m r m' C vals hc hm (by simpa using hl) fun j x u hx hu => ?_
    cases j with
    | zero =>
     simp only [List.getElem?_cons_zero, Option.some.injEq] at hx
     subst hx
     rw [hv0] at hu
     cases hu
     exact hadr
    | succ j => exact hr (j + 1) x u (by simpa using hx) hu
   ·cases hc
  ·exact h f args m r m' C vals hc hm hl hr
 ·cases hc
end Go.EX


set_option linter.unusedSimpArgs false
namespace Go.EX
def code11w : Nat → Option XFun
 | 649 => some x649
 | 651 => some x651
 | 654 => some x654
 | 655 => some x655
 | 657 => some x657
 | _ => none
theorem zc4 : code11w yieldNo = none := rfl
abbrev noE : Calls' := fun _ _ _ => none
noncomputable def extP : Calls' := extTag 646 (callW code11 noE)
noncomputable def extK (i : Nat) : Calls' := extOr (ext4 dig) (extOr (extOne 489 (callW code11 noE)) (extOr (extOne 636 (callW (code11n (i * 5 + 2)) extP)) (extOr (extTag 646 (callW code11 noE)) (extTag 649 (callW code11w noE)))))
theorem or_l {a b : Calls'} {f : Nat} {al : List AV} {m : Mem} {r : AV × Mem} (h : a f al m = some r) : extOr a b f al m = some r := by
 unfold extOr
 rw [h]
theorem or_r {a b : Calls'} {f : Nat} {al : List AV} {m : Mem} (h : a f al m = none) : extOr a b f al m = b f al m := by
 unfold extOr
 rw [h]
theorem one_n {g f : Nat} (h : f ≠ g) (c : Calls') (a : List AV) (m : Mem) : extOne g c f a m = none := by
 unfold extOne
 rw [if_neg h]
theorem one_y (g : Nat) (c : Calls') (a : List AV) (m : Mem) : extOne g c g a m = c g a m := by
 unfold extOne
 rw [if_pos rfl]
theorem tag_n {g f : Nat} (h : f ≠ g) (c : Calls') (a : List AV) (m : Mem) : extTag g c f a m = none := by
 unfold extTag
 rw [if_neg h]
theorem zfk {i f : Nat} (h1 : f ≠ 489) (h2 : f ≠ 636) (h3 : f ≠ 646) (h4 : f ≠ 649) (a : List AV) (m : Mem) : extK i f a m = ext4 dig f a m := by
 unfold extK
 cases h : ext4 dig f a m with
 | some r => exact or_l h
 | none => rw [or_r h, or_r (one_n h1 _ _ _), or_r (one_n h2 _ _ _), or_r (tag_n h3 _ _ _), tag_n h4]
theorem zja {f : Nat} (h1 : f ≠ 674) (h2 : f ≠ 670) (h3 : f ≠ 708) (a : List AV) (m : Mem) : ext4 dig f a m = none := by
 unfold ext4
 rw [if_neg h1, if_neg h2, if_neg h3]
theorem textK (i : Nat) : TextCode code11k2 (extK i) :=
 ⟨rfl, rfl, rfl, rfl, fun a m => (zfk (by decide) (by decide) (by decide) (by decide) a m).trans rfl, rfl, fun a m => (zfk (by decide) (by decide) (by decide) (by decide) a m).trans rfl, rfl, rfl, rfl, rfl, fun a m => (zfk (by decide) (by decide) (by decide) (by decide) a m).trans rfl⟩
theorem livesK (i : Nat) : callW code11k2 (extK i) 489 [] [] = some (avb true, []) := by
 rw [zbr code11k2 (extK i) rfl (by decide)]
 unfold extK
 rw [or_r (zja (by decide) (by decide) (by decide) _ _)]
 exact or_l ((one_y _ _ _ _).trans lives11)
theorem zbk {code : Nat → Option XFun} {ext : Calls'} {g : Nat} {sv : IV} {S : List Obj} (h651 : code 651 = some x651) (hr : Reads tObj sv S) {rest : List AV} {r : AV × Mem} (h : ∀ {sA : AV} {t : TP}, StoreT code ext sA t S → callW code ext g (sA :: rest) [] = some r) :
  extTag g (callW code ext) g (.imm sv :: rest) [] = some r := by
 by_cases h0 : S.length = 0
 ·have : S = [] := List.eq_nil_of_length_eq_zero h0
  subst this
  have h := h (zsy h651 ⟨0, 0, [], 0⟩ hr)
  rcases hr.2.2 with ⟨rfl, _⟩ | ⟨row, off, cap, rfl, _⟩
  ·unfold extTag
   rw [if_pos rfl]
   exact h
  ·unfold extTag
   rw [if_pos rfl]
   exact h
 ·obtain ⟨row, off, cap, rfl, _⟩ := zo7 hr (List.getElem?_eq_getElem (by omega : 0 < S.length))
  exact zfo h0 fun b a => h (zsz (t := ⟨b, a, row, off⟩) h651 S cap hr)
noncomputable def okN (S : List Obj) (v : Val) : Bool := @decide (CheckOk S v) (Classical.propDecidable _)
theorem zcf {sv : IV} {S : List Obj} (hr : Reads tObj sv S) (hb : S.length ≤ 1048576) (v : Val) (hv : tVal.wf v) :
  extTag 646 (callW code11 noE) 646 [.imm sv, valA v] [] = some (avb (okN S v), []) := by
 refine zbk rfl hr fun hT => ?_
 obtain ⟨b, h, hbo⟩ := zb5 hT rfl rfl rfl rfl rfl rfl rfl rfl rfl rfl rfl rfl hb v hv
 have : b = okN S v := by
  unfold okN
  cases b with
  | true => exact (@decide_eq_true _ (Classical.propDecidable _) (hbo.1 rfl)).symm
  | false => exact (@decide_eq_false _ (Classical.propDecidable _) (fun hc => by have := hbo.2 hc; cases this)).symm
 rw [← this]
 exact h
theorem checkK (i : Nat) {sv : IV} {S : List Obj} (hr : Reads tObj sv S) (hb : S.length ≤ 1048576) (v : Val) (hv : tVal.wf v) :
  callW code11k2 (extK i) 646 [.imm sv, valA v] [] = some (avb (okN S v), []) := by
 rw [zbr code11k2 (extK i) rfl (by decide)]
 unfold extK
 rw [or_r (zja (by decide) (by decide) (by decide) _ _), or_r (one_n (by decide) _ _ _), or_r (one_n (by decide) _ _ _)]
 exact or_l (zcf hr hb v hv)
theorem checkP (i : Nat) {sv : IV} {S : List Obj} (hr : Reads tObj sv S) (hb : S.length ≤ 1048576) (v : Val) (hv : tVal.wf v) :
  callW (code11n (i * 5 + 2)) extP 646 [.imm sv, valA v] [] = some (avb (okN S v), []) := by
 rw [zbr (code11n (i * 5 + 2)) extP rfl (by decide)]
 exact zcf hr hb v hv
theorem wordsK (i : Nat) {sv : IV} {S : List Obj} (hr : Reads tObj sv S) (hb : S.length ≤ 1048576) (hs : ∀ o ∈ S, o.s.size ≤ 1048576) (hL : ∀ o ∈ S, o.l.xs.length ≤ 1000000) {rv : IV} {roots : List Val} (hq : Reads tVal rv roots) :
  callW code11k2 (extK i) 649 [.imm sv, .imm rv] [] = some (int64 (IntKind.wrap .i64 ((wordsN S roots : Nat) : Int)), []) := by
 rw [zbr code11k2 (extK i) rfl (by decide)]
 unfold extK
 rw [or_r (zja (by decide) (by decide) (by decide) _ _), or_r (one_n (by decide) _ _ _), or_r (one_n (by decide) _ _ _), or_r (tag_n (by decide) _ _ _)]
 refine zbk rfl hr fun hT => ?_
 obtain ⟨out, hg, h⟩ := zr9 hT rfl rfl rfl rfl hb hq hs hL
 rw [zvc hg] at h
 exact h
theorem putK (i : Nat) (args : List AV) (s : St) : exView (callW code11k2 (extK i)) s 636 args = exView (callW (code11n (i * 5 + 2)) extP) s 636 args := by
 unfold exView
 cases ha : args.mapM (frz s.mem) with
 | none => rfl
 | some as1 =>
  dsimp only
  have h1 : callW code11k2 (extK i) 636 as1 [] = callW (code11n (i * 5 + 2)) extP 636 as1 [] := by
   rw [zbr code11k2 (extK i) rfl (by decide)]
   unfold extK
   rw [or_r (zja (by decide) (by decide) (by decide) _ _), or_r (one_n (by decide) _ _ _)]
   cases hc : callW (code11n (i * 5 + 2)) extP 636 as1 [] with
   | some r => exact or_l ((one_y _ _ _ _).trans hc)
   | none => rw [or_r ((one_y _ _ _ _).trans hc), or_r (tag_n (by decide) _ _ _), tag_n (by decide)]
  rw [h1]
theorem plainN (i : Nat) : PlainFns (code11n (i * 5 + 2)) := ⟨⟨rfl, rfl, rfl, rfl, rfl, rfl, rfl, rfl, rfl⟩, rfl, rfl, rfl, rfl, rfl, rfl, rfl, rfl, rfl, rfl, rfl, rfl, rfl, rfl, rfl⟩
theorem doCodeN (i : Nat) : DoCode (code11n (i * 5 + 2)) i := ⟨plainN i, rfl, rfl, rfl, rfl, rfl, rfl, rfl, rfl, rfl, rfl⟩
theorem putFnsN (i : Nat) : PutFns (code11n (i * 5 + 2)) := ⟨rfl, rfl, rfl, rfl, rfl, rfl, rfl, rfl⟩
theorem plainK : PlainFns code11k2 := ⟨⟨rfl, rfl, rfl, rfl, rfl, rfl, rfl, rfl, rfl⟩, rfl, rfl, rfl, rfl, rfl, rfl, rfl, rfl, rfl, rfl, rfl, rfl, rfl, rfl, rfl⟩
theorem doCodeK : DoCode code11k2 200000000000 := ⟨plainK, rfl, rfl, rfl, rfl, rfl, rfl, rfl, rfl, rfl, rfl⟩
end Go.EX


namespace Go.Proofs.YtedddogbgdbpmaaDoor
open Go.EX
theorem okW13 : FunOK Tryd.prog num 13 x649 := .one Tryd.func13 (by kernel_rfl)
theorem okW22 : FunOK Tryd.prog num 22 x654 := .one Tryd.func22 (by kernel_rfl)
theorem okW25 : FunOK Tryd.prog num 25 x657 := .one Tryd.func25 (by kernel_rfl)
theorem okW36 : FunOK Tryd.prog num 36 x655 := .one Tryd.func36 (by kernel_rfl)
abbrev FnAtW (f : Nat) : Prop := ∀ xf, code11w (num f) = some xf → FunOK Tryd.prog num f xf
theorem hitW {n : Nat} {x : XFun} (e : code11w (num n) = some x) (k : FunOK Tryd.prog num n x) (r : ∀ f, f < n → FnAtW f) : ∀ f, f < n + 1 → FnAtW f := fun f h xf hx => by
 rcases Nat.lt_or_eq_of_le (Nat.le_of_lt_succ h) with h | rfl
 ·exact r f h xf hx
 ·rw [e] at hx; cases hx; exact k
theorem nixW {n : Nat} (e : code11w (num n) = none) (r : ∀ f, f < n → FnAtW f) : ∀ f, f < n + 1 → FnAtW f := fun f h xf hx => by
 rcases Nat.lt_or_eq_of_le (Nat.le_of_lt_succ h) with h | rfl
 ·exact r f h xf hx
 ·rw [e] at hx; cases hx
theorem uptoW20 : ∀ f, f < 20 → FnAtW f :=
 nixW (by kernel_rfl) <|
 nixW (by kernel_rfl) <|
 nixW (by kernel_rfl) <|
 nixW (by kernel_rfl) <|
 nixW (by kernel_rfl) <|
 nixW (by kernel_rfl) <|
 hitW (by kernel_rfl) okW13 <|
 nixW (by kernel_rfl) <|
 nixW (by kernel_rfl) <|
 nixW (by kernel_rfl) <|
 nixW (by kernel_rfl) <|
 nixW (by kernel_rfl) <|
 nixW (by kernel_rfl) <|
 nixW (by kernel_rfl) <|
 nixW (by kernel_rfl) <|
 nixW (by kernel_rfl) <|
 nixW (by kernel_rfl) <|
 nixW (by kernel_rfl) <|
 nixW (by kernel_rfl) <|
 nixW (by kernel_rfl) (fun f h => absurd h (Nat.not_lt_zero f))
theorem uptoW40 : ∀ f, f < 40 → FnAtW f :=
 nixW (by kernel_rfl) <|
 nixW (by kernel_rfl) <|
 nixW (by kernel_rfl) <|
 hitW (by kernel_rfl) okW36 <|
 nixW (by kernel_rfl) <|
 hitW (by kernel_rfl) ok34 <|
 nixW (by kernel_rfl) <|
 nixW (by kernel_rfl) <|
 nixW (by kernel_rfl) <|
 nixW (by kernel_rfl) <|
 nixW (by kernel_rfl) <|
 nixW (by kernel_rfl) <|
 nixW (by kernel_rfl) <|
 nixW (by kernel_rfl) <|
 hitW (by kernel_rfl) okW25 <|
 nixW (by kernel_rfl) <|
 nixW (by kernel_rfl) <|
 hitW (by kernel_rfl) okW22 <|
 nixW (by kernel_rfl) <|
 nixW (by kernel_rfl) uptoW20
theorem uptoW60 : ∀ f, f < 60 → FnAtW f :=
 nixW (by kernel_rfl) <|
 nixW (by kernel_rfl) <|
 nixW (by kernel_rfl) <|
 nixW (by kernel_rfl) <|
 nixW (by kernel_rfl) <|
 nixW (by kernel_rfl) <|
 nixW (by kernel_rfl) <|
 nixW (by kernel_rfl) <|
 nixW (by kernel_rfl) <|
 nixW (by kernel_rfl) <|
 nixW (by kernel_rfl) <|
 nixW (by kernel_rfl) <|
 nixW (by kernel_rfl) <|
 nixW (by kernel_rfl) <|
 nixW (by kernel_rfl) <|
 nixW (by kernel_rfl) <|
 nixW (by kernel_rfl) <|
 nixW (by kernel_rfl) <|
 nixW (by kernel_rfl) <|
 nixW (by kernel_rfl) uptoW40
theorem uptoW80 : ∀ f, f < 80 → FnAtW f :=
 nixW (by kernel_rfl) <|
 nixW (by kernel_rfl) <|
 nixW (by kernel_rfl) <|
 nixW (by kernel_rfl) <|
 nixW (by kernel_rfl) <|
 nixW (by kernel_rfl) <|
 nixW (by kernel_rfl) <|
 nixW (by kernel_rfl) <|
 nixW (by kernel_rfl) <|
 nixW (by kernel_rfl) <|
 nixW (by kernel_rfl) <|
 nixW (by kernel_rfl) <|
 nixW (by kernel_rfl) <|
 nixW (by kernel_rfl) <|
 nixW (by kernel_rfl) <|
 nixW (by kernel_rfl) <|
 nixW (by kernel_rfl) <|
 nixW (by kernel_rfl) <|
 nixW (by kernel_rfl) <|
 nixW (by kernel_rfl) uptoW60
theorem uptoW100 : ∀ f, f < 100 → FnAtW f :=
 nixW (by kernel_rfl) <|
 nixW (by kernel_rfl) <|
 nixW (by kernel_rfl) <|
 nixW (by kernel_rfl) <|
 nixW (by kernel_rfl) <|
 nixW (by kernel_rfl) <|
 nixW (by kernel_rfl) <|
 nixW (by kernel_rfl) <|
 nixW (by kernel_rfl) <|
 nixW (by kernel_rfl) <|
 nixW (by kernel_rfl) <|
 nixW (by kernel_rfl) <|
 nixW (by kernel_rfl) <|
 nixW (by kernel_rfl) <|
 nixW (by kernel_rfl) <|
 nixW (by kernel_rfl) <|
 nixW (by kernel_rfl) <|
 nixW (by kernel_rfl) <|
 nixW (by kernel_rfl) <|
 nixW (by kernel_rfl) uptoW80
theorem uptoW120 : ∀ f, f < 120 → FnAtW f :=
 nixW (by kernel_rfl) <|
 nixW (by kernel_rfl) <|
 nixW (by kernel_rfl) <|
 nixW (by kernel_rfl) <|
 nixW (by kernel_rfl) <|
 nixW (by kernel_rfl) <|
 nixW (by kernel_rfl) <|
 nixW (by kernel_rfl) <|
 nixW (by kernel_rfl) <|
 nixW (by kernel_rfl) <|
 nixW (by kernel_rfl) <|
 nixW (by kernel_rfl) <|
 nixW (by kernel_rfl) <|
 nixW (by kernel_rfl) <|
 nixW (by kernel_rfl) <|
 nixW (by kernel_rfl) <|
 nixW (by kernel_rfl) <|
 nixW (by kernel_rfl) <|
 nixW (by kernel_rfl) <|
 nixW (by kernel_rfl) uptoW100
theorem fnsW (f : FuncId) (xf : XFun) (h : code11w (num f) = some xf) : FunOK Tryd.prog num f xf := by
 by_cases hf : f < 120
 ·exact uptoW120 f hf xf h
 ·have hn : num f = 100000 + f := by
   unfold num
   rw [List.getElem?_eq_none (by rw [show gids.length = 120 from by kernel_rfl]; simp only [FuncId] at *; omega)]; rfl
  rw [hn] at h
  unfold code11w at h
  split at h <;> first | (exfalso; simp only [FuncId] at *; omega) | cases h
end Go.Proofs.YtedddogbgdbpmaaDoor


namespace Go.Proofs.YtedddogbgdbpmaaDoor
open Go.EX
variable {c : Nat}
theorem okN7 : FunOK Tryd.prog num 7 x636 := .one Tryd.func7 (by kernel_rfl)
theorem okN27 : FunOK Tryd.prog num 27 (x643P c) := .one Tryd.func27 (by kernel_rfl)
abbrev FnAtN (c f : Nat) : Prop := ∀ xf, (code11n c) (num f) = some xf → FunOK Tryd.prog num f xf
theorem hitN {n : Nat} {x : XFun} (e : (code11n c) (num n) = some x) (k : FunOK Tryd.prog num n x) (r : ∀ f, f < n → FnAtN c f) : ∀ f, f < n + 1 → FnAtN c f := fun f h xf hx => by
 rcases Nat.lt_or_eq_of_le (Nat.le_of_lt_succ h) with h | rfl
 ·exact r f h xf hx
 ·rw [e] at hx; cases hx; exact k
theorem nixN {n : Nat} (e : (code11n c) (num n) = none) (r : ∀ f, f < n → FnAtN c f) : ∀ f, f < n + 1 → FnAtN c f := fun f h xf hx => by
 rcases Nat.lt_or_eq_of_le (Nat.le_of_lt_succ h) with h | rfl
 ·exact r f h xf hx
 ·rw [e] at hx; cases hx
theorem uptoN20 : ∀ f, f < 20 → FnAtN c f :=
 nixN (by kernel_rfl) <|
 hitN (by kernel_rfl) ok18 <|
 nixN (by kernel_rfl) <|
 nixN (by kernel_rfl) <|
 nixN (by kernel_rfl) <|
 nixN (by kernel_rfl) <|
 nixN (by kernel_rfl) <|
 nixN (by kernel_rfl) <|
 nixN (by kernel_rfl) <|
 nixN (by kernel_rfl) <|
 nixN (by kernel_rfl) <|
 nixN (by kernel_rfl) <|
 hitN (by kernel_rfl) okN7 <|
 nixN (by kernel_rfl) <|
 nixN (by kernel_rfl) <|
 nixN (by kernel_rfl) <|
 nixN (by kernel_rfl) <|
 nixN (by kernel_rfl) <|
 nixN (by kernel_rfl) <|
 nixN (by kernel_rfl) (fun f h => absurd h (Nat.not_lt_zero f))
theorem uptoN40 : ∀ f, f < 40 → FnAtN c f :=
 nixN (by kernel_rfl) <|
 nixN (by kernel_rfl) <|
 nixN (by kernel_rfl) <|
 nixN (by kernel_rfl) <|
 nixN (by kernel_rfl) <|
 nixN (by kernel_rfl) <|
 nixN (by kernel_rfl) <|
 hitN (by kernel_rfl) ok32 <|
 hitN (by kernel_rfl) ok31 <|
 hitN (by kernel_rfl) ok30 <|
 hitN (by kernel_rfl) ok29 <|
 hitN (by kernel_rfl) ok28 <|
 hitN (by kernel_rfl) (okN27 (c := c)) <|
 nixN (by kernel_rfl) <|
 nixN (by kernel_rfl) <|
 nixN (by kernel_rfl) <|
 nixN (by kernel_rfl) <|
 nixN (by kernel_rfl) <|
 nixN (by kernel_rfl) <|
 nixN (by kernel_rfl) uptoN20
theorem uptoN60 : ∀ f, f < 60 → FnAtN c f :=
 hitN (by kernel_rfl) ok59 <|
 nixN (by kernel_rfl) <|
 nixN (by kernel_rfl) <|
 hitN (by kernel_rfl) ok56 <|
 hitN (by kernel_rfl) ok55 <|
 hitN (by kernel_rfl) ok54 <|
 hitN (by kernel_rfl) ok53 <|
 nixN (by kernel_rfl) <|
 hitN (by kernel_rfl) ok51 <|
 hitN (by kernel_rfl) ok50 <|
 hitN (by kernel_rfl) ok49 <|
 hitN (by kernel_rfl) ok48 <|
 nixN (by kernel_rfl) <|
 hitN (by kernel_rfl) ok46 <|
 hitN (by kernel_rfl) ok45 <|
 hitN (by kernel_rfl) ok44 <|
 hitN (by kernel_rfl) ok43 <|
 hitN (by kernel_rfl) ok42 <|
 hitN (by kernel_rfl) ok41 <|
 hitN (by kernel_rfl) ok40 uptoN40
theorem uptoN80 : ∀ f, f < 80 → FnAtN c f :=
 nixN (by kernel_rfl) <|
 nixN (by kernel_rfl) <|
 nixN (by kernel_rfl) <|
 hitN (by kernel_rfl) ok76 <|
 hitN (by kernel_rfl) ok75 <|
 hitN (by kernel_rfl) ok74 <|
 hitN (by kernel_rfl) ok73 <|
 hitN (by kernel_rfl) ok72 <|
 nixN (by kernel_rfl) <|
 nixN (by kernel_rfl) <|
 nixN (by kernel_rfl) <|
 hitN (by kernel_rfl) ok68 <|
 hitN (by kernel_rfl) ok67 <|
 nixN (by kernel_rfl) <|
 hitN (by kernel_rfl) ok65 <|
 hitN (by kernel_rfl) ok64 <|
 nixN (by kernel_rfl) <|
 hitN (by kernel_rfl) ok62 <|
 hitN (by kernel_rfl) ok61 <|
 hitN (by kernel_rfl) ok60 uptoN60
theorem uptoN100 : ∀ f, f < 100 → FnAtN c f :=
 nixN (by kernel_rfl) <|
 nixN (by kernel_rfl) <|
 nixN (by kernel_rfl) <|
 nixN (by kernel_rfl) <|
 nixN (by kernel_rfl) <|
 nixN (by kernel_rfl) <|
 nixN (by kernel_rfl) <|
 nixN (by kernel_rfl) <|
 nixN (by kernel_rfl) <|
 nixN (by kernel_rfl) <|
 nixN (by kernel_rfl) <|
 nixN (by kernel_rfl) <|
 nixN (by kernel_rfl) <|
 nixN (by kernel_rfl) <|
 nixN (by kernel_rfl) <|
 nixN (by kernel_rfl) <|
 nixN (by kernel_rfl) <|
 nixN (by kernel_rfl) <|
 nixN (by kernel_rfl) <|
 nixN (by kernel_rfl) uptoN80
theorem uptoN120 : ∀ f, f < 120 → FnAtN c f :=
 nixN (by kernel_rfl) <|
 nixN (by kernel_rfl) <|
 nixN (by kernel_rfl) <|
 nixN (by kernel_rfl) <|
 nixN (by kernel_rfl) <|
 nixN (by kernel_rfl) <|
 nixN (by kernel_rfl) <|
 nixN (by kernel_rfl) <|
 nixN (by kernel_rfl) <|
 nixN (by kernel_rfl) <|
 nixN (by kernel_rfl) <|
 nixN (by kernel_rfl) <|
 nixN (by kernel_rfl) <|
 nixN (by kernel_rfl) <|
 nixN (by kernel_rfl) <|
 nixN (by kernel_rfl) <|
 nixN (by kernel_rfl) <|
 nixN (by kernel_rfl) <|
 nixN (by kernel_rfl) <|
 nixN (by kernel_rfl) uptoN100
theorem fnsN (f : FuncId) (xf : XFun) (h : (code11n c) (num f) = some xf) : FunOK Tryd.prog num f xf := by
 by_cases hf : f < 120
 ·exact uptoN120 f hf xf h
 ·have hn : num f = 100000 + f := by
   unfold num
   rw [List.getElem?_eq_none (by rw [show gids.length = 120 from by kernel_rfl]; simp only [FuncId] at *; omega)]; rfl
  rw [hn] at h
  unfold code11n at h
  split at h <;> first | (exfalso; simp only [FuncId] at *; omega) | cases h
end Go.Proofs.YtedddogbgdbpmaaDoor


namespace Go.EX
open Go.RowKit
section
variable {P : Program} {t : TypeId}
theorem za1 {α : Type} {n : Nat} {e : TypeId} {τ : Ty α} (ht : P.underlying t = some (.array n e)) (he : ReadsAs P e τ) (hc : P.cellsOf e = τ.sz) {H : Type} (enc : TypeId × Value → H) (w : World) (spare : Nat → Bool) (hsp : ∀ b, spare b = true) (fuel : Nat) (cs : List Value) (x : DataW H × List MemPlace)
  (h : DataW.trod enc P w 0 spare true fuel t cs = some x) (hwt : (DataW.weights P t x.1).all (· ≤ reachBytes) = true) :
  cs.length = P.cellsOf t ∧ ∀ i, i < n → ∃ d : α, τ.wf d ∧ ∀ (j : Nat) (y : IV) (u : Value), (τ.enc d)[j]? = some y → cs[i * τ.sz + j]? = some u → IRep (fun b => b < w.heap.size) w y u := by
 obtain ⟨xs, m, _, rfl, hl, hxl, hg⟩ := DataW.trod_array ht h
 simp only [DataW.weights, ht] at hwt
 refine ⟨hl, fun i hi => ?_⟩
 have hie : i < xs.length := by omega
 have h1 := hg i hi
 rw [List.getElem?_eq_getElem hie] at h1
 have h2 := zuw _ hwt i xs[i].1 (by rw [List.getElem?_map, List.getElem?_eq_getElem hie]; rfl)
 obtain ⟨d, hd, hdl, hr⟩ := he enc w spare hsp m _ _ h1 h2
 refine ⟨d, hd, fun j y u hy hu => hr j y u hy ?_⟩
 have hj : j < τ.sz := by rw [← τ.len d]; exact (List.getElem?_eq_some_iff.1 hy).1
 rw [List.getElem?_take, hc, if_pos hj, List.getElem?_drop]
 exact hu
theorem readsArr3 {α : Type} {e : TypeId} {τ : Ty α} (ht : P.underlying t = some (.array 3 e)) (he : ReadsAs P e τ) (hc : P.cellsOf e = τ.sz) (hct : P.cellsOf t = τ.sz + (τ.sz + τ.sz)) : ReadsAs P t (tPair τ (tPair τ τ)) := by
 intro H enc w spare hsp fuel cs x h hwt
 obtain ⟨hl, hp⟩ := za1 ht he hc enc w spare hsp fuel cs x h hwt
 obtain ⟨a, ha, ra⟩ := hp 0 (by decide)
 obtain ⟨b, hb, rb⟩ := hp 1 (by decide)
 obtain ⟨c, hc', rc⟩ := hp 2 (by decide)
 refine ⟨(a, b, c), ⟨ha, hb, hc'⟩, by rw [hl, hct]; rfl, fun j y u hy hu => ?_⟩
 simp only [tPair] at hy
 rw [List.getElem?_append, τ.len] at hy
 split at hy
 ·exact ra j y u hy (by rw [Nat.zero_mul, Nat.zero_add]; exact hu)
 ·rename_i hj
  rw [List.getElem?_append, τ.len] at hy
  split at hy
  ·refine rb _ y u hy ?_
   rw [← hu]
   congr 1
   omega
  ·refine rc _ y u hy ?_
   rw [← hu]
   congr 1
   omega
end
end Go.EX


namespace Go.EX
open Go.RowKit Go.ChangeShapes Go.WideShapes Go.ChangeAt
theorem zis {P : Program} {num : Names} {ι : Type} {code : Nat → Option XFun} {ext : ι → Calls'} (hrun : ∀ i, Runs P num code (ext i)) {f : FuncId} {fn : Func} {s : ChangeSpec} (hs : LawSpec s fn.params.toList.length) (hl : laidOutB P = true)
  (hts : (fn.params.toList.all fun t => P.readableRec t && decide (t < P.types.size)) = true) {tb : TypeId} (hres : fn.resultTypes = #[tb]) (htb : P.underlying tb = some .bool)
  {Q : List AV → Prop} (hQ : ArgsOf P fn.params.toList Q) (hcall : ∀ az, Q az → ∃ i m, callW code (ext i) (num f) az [] = some (.imm (.val (.bool true)), m)) {H : Type} {enc : TypeId × Value → H}
  (W : World) (base : Nat) (args : Array Value) (ds gs : List (DataW H)) (before : List MemPlace)
  (hval : ∀ (j : Nat) t v, fn.params[j]? = some t → args[j]? = some v → Value.okWide P W .any base t v)
  (hW : DataW.Whole enc P fn.params.toList s.vars false W args.toList ds gs before)
  (hwt : (DataW.weightsEach P (fn.params.toList ++ s.plain.varTypes P) (ds ++ gs)).all (· ≤ reachBytes) = true) (hG : num.G (fun b => b < W.heap.size) W) :
  Calls P f args W fun e W' => ∃ v, e = .returned v ∧ s.post enc P fn false true false false W args v W' := by
 have hW' := hW
 obtain ⟨p, q, hA, hV, rfl, hfz, hnd⟩ := hW
 rw [hs.1] at hV
 obtain ⟨rfl, rfl⟩ := trodVars_none hV
 obtain ⟨az, h1, h2, h3, h4⟩ := ziq (num := num) hQ args.toList ds p (fun j t v ht hv => hval j t v (by simpa using ht) (by simpa using hv)) hA (by
  have e : s.plain.varTypes P = [] := by simp [ChangeSpec.plain, DataSpec.varTypes, hs.1]
  rw [e, List.append_nil, List.append_nil] at hwt
  exact hwt)
 obtain ⟨i, m, hm⟩ := hcall az h1
 refine (zir (hrun i) hG hm (by simpa using h2) fun j x u hx hu => h4 j x u hx (by simpa using hu)).mono fun e W' ⟨he, bel⟩ => ?_
 subst he
 have hfn : s.fn H (ds ++ []) = { results := [.lit (.bool true)], args := ds } := by rw [List.append_nil]; exact hs.2 H ds h3
 refine ⟨_, rfl, ds, [], p ++ [], [], p, [], hW', ?_, ?_, ?_, bel.frame _, fun h => by cases h⟩
 ·rw [hfn, hres]; exact trodAll_mk1 (shut_bool htb _)
 ·rw [hfn]; exact ztw hl bel hts hA
 ·rw [hfn, hs.1]; rfl
end Go.EX


namespace Go.EX
open Classical
theorem okN_true {S : List Obj} {v : Val} : okN S v = true ↔ CheckOk S v := by
 unfold okN
 exact @decide_eq_true_iff _ (Classical.propDecidable _)
theorem zvb {S : List Obj} {r : List Val} (hc : ∀ v ∈ r, CheckOk S v) (hl : S.length ≤ 50000) (hL : ∀ o ∈ S, o.l.xs.length ≤ 50000) : wordsN S r ≤ 100000000000 := by
 have key : ∀ l : List Nat, (l.map fun k => if Reach S r k then wordsAt S k else 0).sum ≤ l.length * 1000000 := by
  intro l
  induction l with
  | nil => simp
  | cons x t ih =>
   have hx : (if Reach S r x then wordsAt S x else 0) ≤ 1000000 := by
    split
    ·rename_i hr
     unfold wordsAt
     cases ho : S[x]? with
     | none => exact Nat.zero_le _
     | some o =>
      have hm := List.mem_of_getElem? ho
      have hok := zci hc hr ho
      have h5 := hL o hm
      show wordsOf o ≤ 1000000
      unfold ObjOk at hok
      unfold wordsOf
      split
      ·rename_i h3
       rw [if_pos h3] at hok
       omega
      ·rename_i h3
       rw [if_neg h3] at hok
       split
       ·rename_i h45
        by_cases h4 : o.k = 4
        ·rw [if_pos h4] at hok
         split <;> omega
        ·rw [if_neg h4, if_pos (by omega)] at hok
         split <;> omega
       ·split <;> omega
    ·exact Nat.zero_le _
   simp only [List.map_cons, List.sum_cons, List.length_cons]
   omega
 have := key (List.range S.length)
 rw [List.length_range] at this
 unfold wordsN
 omega
theorem zg1 (i : Nat) {sv x : IV} {S : List Obj} (hr : Reads tObj sv S) (hl : S.length ≤ 50000) (hL : ∀ o ∈ S, o.l.xs.length ≤ 50000) {v0 v1 v2 : Val} (hc : ∀ v ∈ [v0, v1, v2], CheckOk S v) (hw : ∀ v ∈ [v0, v1, v2], tVal.wf v) {k n w : Int} {t : ByteArray} (ho : OutN S [v0, v1, v2] x k n t w) :
  GoodD code11k2 (extK i) sv (wordsN S [v0, v1, v2] : Nat) v0 v1 v2 ⟨x, k, n, t, w⟩ := by
 have hb := zvb hc hl hL
 cases ho with
 | thr hx hlk ht =>
  refine .inl ⟨ht, rfl, rfl, rfl, ?_⟩
  exact nsameStore rfl rfl rfl rfl hx hr hlk.len fun j a b ha hb => by
   have := hlk.at_ j b a hb ha
   exact ⟨this.k, this.s, this.l, this.room, this.fn⟩
 | ok hx hf hv hck hwd hw2 =>
  rename_i T w'
  refine .inr ⟨rfl, ((wordsN T (⟨k, n⟩ :: [v0, v1, v2]) : Nat) : Int), fun y hy => ?_, by show ((wordsN T (⟨k, n⟩ :: [v0, v1, v2]) : Nat) : Int) ≤ (wordsN S [v0, v1, v2] : Nat) + (w' : Int); omega, by show (0 : Int) ≤ (wordsN S [v0, v1, v2] : Nat) + (w' : Int); omega, by show ((wordsN S [v0, v1, v2] : Nat) : Int) + (w' : Int) ≤ 9223372036854775807; omega, fun y hy => ?_, ?_⟩
  ·have h1 : callW code11k2 (extK i) 649 [.imm x, .imm y] [] = some (int64 (IntKind.wrap .i64 ((wordsN T (⟨k, n⟩ :: [v0, v1, v2]) : Nat) : Int)), []) := wordsK i hx (Nat.le_trans hf.len (by decide)) (fun o ho => Nat.le_trans (hf.s o ho) (by decide)) (fun o ho => Nat.le_trans (hf.l o ho) (by decide)) hy
   rw [wrapI64 (by omega) (by omega)] at h1
   exact h1
  ·rcases List.mem_cons.1 hy with rfl | hy
   ·exact hv
   ·exact hw y hy
  ·have h1 := checkK i hx (Nat.le_trans hf.len (by decide)) ⟨k, n⟩ hv
   rw [okN_true.2 hck] at h1
   exact h1
theorem zn3 {sv : IV} {S : List Obj} (hr : Reads tObj sv S) {v0 v1 v2 : Val} (hw : ∀ v ∈ [v0, v1, v2], tVal.wf v) :
  ∃ i m, callW code11k2 (extK i) 480 [.imm sv, .agg [.imm (.val (.int .u8 v0.k)), int64 v0.n, .imm (.val (.int .u8 v1.k)), int64 v1.n, .imm (.val (.int .u8 v2.k)), int64 v2.n]] [] = some (avb true, m) := by
 by_cases hbig : 50000 < sizeGo S.length S
 ·obtain ⟨mb, hb⟩ := nbeyond (code := code11k2) (ext := extK 0) rfl rfl rfl rfl rfl hr
  rw [decide_eq_true hbig] at hb
  refine ⟨0, ?_⟩
  rw [zbs code11k2 (extK 0) rfl]
  have hl := livesK 0
  refine mem_of ?_
  simp -implicitDefEqProofs [x480W, hb, hl]
 ·obtain ⟨hl, hs, hL⟩ := zly hr.1 (by omega)
  have hlm : S.length ≤ 1048576 := by omega
  have w0 := hw v0 (by simp)
  have w1 := hw v1 (by simp)
  have w2 := hw v2 (by simp)
  by_cases hck : ∀ v ∈ [v0, v1, v2], CheckOk S v
  ·
   have hf : FineT S := ⟨by omega, fun o ho => Nat.le_trans (hs o ho) (by decide), fun o ho => Nat.le_trans (hL o ho) (by decide)⟩
   obtain ⟨nl, hnl1, hnl2⟩ : ∃ nl : Bool, (nl = true → sv = .val (.slice none 0 0) ∧ S = []) ∧ (nl = false → isNilIV sv = false) := by
    rcases hr.2.2 with ⟨rfl, rfl⟩ | ⟨row, off, cap, rfl, _⟩
    ·exact ⟨true, fun _ => ⟨rfl, rfl⟩, fun h => by cases h⟩
    ·exact ⟨false, fun h => (by cases h), fun _ => rfl⟩
   have hP : KeepP nl sv S [v0, v1, v2] := ⟨hr, hnl1, hnl2, hf, hl, hL, hck, hw⟩
   have hmP : ∀ i, FineN (code11n (i * 5 + 2)) extP sv [v0, v1, v2] := fun i v hv => by
    have h1 := checkP i hr hlm v (hw v hv)
    rw [okN_true.2 (hck v hv)] at h1
    exact h1
   obtain ⟨i, x1, k1, n1, t1, z1, o1, q1⟩ := zoh (ext := extP) (fun i => code11n (i * 5 + 2)) doCodeN putFnsN (fun _ => rfl) hP hmP
   refine ⟨i, ?_⟩
   have hmK : FineN code11k2 (extK i) sv [v0, v1, v2] := fun v hv => by
    have h1 := checkK i hr hlm v (hw v hv)
    rw [okN_true.2 (hck v hv)] at h1
    exact h1
   have hK : KeepN code11k2 (extK i) nl sv S 200000000000 [v0, v1, v2] := hP.keep (by omega) hmK
   have hrow3 : Reads tVal (.slice (tVal.row [v0, v1, v2]) 0 3 (some 3)) [v0, v1, v2] := zo8 tVal [v0, v1, v2] hw (by simp) (fun c h => by cases h; exact Nat.le_refl _)
   have hrow2 : Reads tVal (.slice (tVal.row [v0, v1, v2]) 0 2 (some 3)) [v0, v1] := ⟨fun v hv => hw v (by
    simp only [List.mem_cons, List.not_mem_nil, or_false] at hv ⊢
    rcases hv with rfl | rfl <;> simp), by simp, .inr ⟨_, 0, some 3, rfl, fun c h => by cases h; show (2 : Nat) ≤ 3; decide, rfl⟩⟩
   obtain ⟨x0, k0, n0, t0, z0, o0, q0⟩ := zbf (ext := extK i) doCodeK rfl (a := v0) (b := v1) (by simp) (by simp) hK
   obtain ⟨x2, k2, n2, t2, z2, o2, q2⟩ := zji (ext := extK i) doCodeK rfl hK hrow3 (by simp) (by simp)
   obtain ⟨x3, k3, n3, t3, z3, o3, q3⟩ := zj6 (ext := extK i) doCodeK rfl (a := v0) (b := v1) (by simp) (by simp) hK hrow2
   have hrT : Reads tObj (stIV nl (S.map cloneObj)) (S.map cloneObj) := zsr (fun e => by rw [(hnl1 e).2]; rfl) (zj2 hr.1) (by rw [List.length_map]; omega)
   have htx := ztn (textK i) rfl rfl rfl rfl hrT ⟨zj2 hr.1, fun o ho => by
    obtain ⟨p, hp, rfl⟩ := List.mem_map.1 ho
    exact Nat.le_trans (hs p hp) (by decide), fun o ho => by
    obtain ⟨p, hp, rfl⟩ := List.mem_map.1 ho
    rw [zc0]
    exact Nat.le_trans (hL p hp) (by decide)⟩ v0 w0
   obtain ⟨x4, k4, n4, t4, z4, o4, q4⟩ := zsc (ext := extK i) doCodeK rfl (a := v0) (by simp) hK htx
   obtain ⟨x5, k5, n5, t5, z5, o5, q5⟩ := zgx (ext := extK i) doCodeK rfl (a := v0) (b := v1) (by simp) (by simp) hK
   obtain ⟨mb, hb⟩ := nbeyond (code := code11k2) (ext := extK i) rfl rfl rfl rfl rfl hr
   rw [decide_eq_false hbig] at hb
   have e0 := checkK i hr hlm v0 w0
   have e1 := checkK i hr hlm v1 w1
   have e2 := checkK i hr hlm v2 w2
   rw [okN_true.2 (hck v0 (by simp))] at e0
   rw [okN_true.2 (hck v1 (by simp))] at e1
   rw [okN_true.2 (hck v2 (by simp))] at e2
   have hwd := wordsK i hr hlm (fun o ho => Nat.le_trans (hs o ho) (by decide)) (fun o ho => Nat.le_trans (hL o ho) (by decide)) hrow3
   have hbd := zvb hck hl hL
   rw [wrapI64 (by omega) (by omega)] at hwd
   have g : ∀ {x : IV} {k n w : Int} {t : ByteArray}, OutN S [v0, v1, v2] x k n t w → GoodD code11k2 (extK i) sv (wordsN S [v0, v1, v2] : Nat) v0 v1 v2 ⟨x, k, n, t, w⟩ := fun ho => zg1 i hr hl hL hck hw ho
   exact ziv (cap3 := none) rfl hb e0 e1 e2 (livesK i) hwd (d0 := ⟨x0, k0, n0, t0, z0⟩) (d1 := ⟨x1, k1, n1, t1, z1⟩) (d2 := ⟨x2, k2, n2, t2, z2⟩) (d3 := ⟨x3, k3, n3, t3, z3⟩) (d4 := ⟨x4, k4, n4, t4, z4⟩) (d5 := ⟨x5, k5, n5, t5, z5⟩) (fun d hd => by
    simp only [List.mem_cons, List.not_mem_nil, or_false] at hd
    rcases hd with rfl | rfl | rfl | rfl | rfl | rfl
    ·exact g o0
    ·exact g o1
    ·exact g o2
    ·exact g o3
    ·exact g o4
    ·exact g o5) q0 (fun s => (putK i _ s).trans (q1 s)) q2 q3 q4 q5
  ·refine ⟨0, ?_⟩
   obtain ⟨mb, hb⟩ := nbeyond (code := code11k2) (ext := extK 0) rfl rfl rfl rfl rfl hr
   refine law_no rfl hb (checkK 0 hr hlm v0 w0) (checkK 0 hr hlm v1 w1) (checkK 0 hr hlm v2 w2) (livesK 0) ?_
   cases h0 : okN S v0 with
   | false => simp
   | true =>
    cases h1 : okN S v1 with
    | false => simp
    | true =>
     cases h2 : okN S v2 with
     | false => simp
     | true =>
      exfalso
      apply hck
      intro v hv
      simp only [List.mem_cons, List.not_mem_nil, or_false] at hv
      rcases hv with rfl | rfl | rfl
      ·exact okN_true.1 h0
      ·exact okN_true.1 h1
      ·exact okN_true.1 h2
end Go.EX

