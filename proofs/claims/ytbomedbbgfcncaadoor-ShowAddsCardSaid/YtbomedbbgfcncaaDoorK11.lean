import Derived.Test.YtbomedbbgfcncaaDoorExt
import Derived.Test.YtbomedbbgfcncaaDoorK8
import Derived.Test.YtbomedbbgfcncaaDoorK10
import Derived.Test.YtbomedbbgfcncaaDoorK9
set_option linter.unusedVariables false
namespace Go.EX
open Classical
noncomputable def extTag (g : Nat) (c : Calls') : Calls' := fun f args m =>
 if f = g then
  match args with
  | .imm (.slice row off (n + 1) cap) :: rest =>
   if ∀ b a, c f (.tag b a (.slice row off (n + 1) cap) :: rest) m = c f (.tag 0 0 (.slice row off (n + 1) cap) :: rest) m then c f (.tag 0 0 (.slice row off (n + 1) cap) :: rest) m else none
  | _ => c f args m
 else none
theorem zdv {g : Nat} {c : Calls'} {row : List IV} {off n : Nat} {cap : Option Nat} {rest : List AV} {m : Mem} {r : AV × Mem} (hn : n ≠ 0) (h : ∀ b a, c g (.tag b a (.slice row off n cap) :: rest) m = some r) : extTag g c g (.imm (.slice row off n cap) :: rest) m = some r := by
 cases n with
 | zero => exact absurd rfl hn
 | succ n =>
  unfold extTag
  rw [if_pos rfl]
  dsimp only
  rw [if_pos fun b a => by rw [h b a, h 0 0], h 0 0]
theorem zdw {num : Names} {P : Program} {g : Nat} {c : Calls'} (h : ExtOK num P c) : ExtOK num P (extTag g c) := by
 intro f args m r m' C vals hc hm hl hr
 unfold extTag at hc
 split at hc
 ·split at hc
  ·rename_i row off n cap rest
   split at hc
   ·rename_i hall
    obtain ⟨v0, hv0⟩ : ∃ v0, vals[0]? = some v0 := by
     have : 0 < vals.size := by rw [← hl]; simp
     exact ⟨_, Array.getElem?_eq_getElem this⟩
    have h0 := hr 0 _ v0 rfl hv0
    obtain ⟨b, a, hadr⟩ : ∃ b a, ARep num C (.tag b a (.slice row off (n + 1) cap)) v0 := by
     cases h0 with
     | imm _ _ hi =>
      cases hi with
      | slice _ _ _ _ b o c a u hb hc' hu hl' hk ha => exact ⟨b, a, .tag b a _ _ (.slice row off (n + 1) cap b o c a u hb hc' hu hl' hk ha) rfl⟩
    rw [← hall b a] at hc
    refine h f _ m r m' C vals hc hm (by simpa using hl) fun j x u hx hu => ?_
    cases j with
    | zero =>
     simp only [List.getElem?_cons_zero, Option.some.injEq] at hx
     subst hx
     rw [hv0] at hu
     cases hu
     exact hadr
    | succ j => exact hr (j + 1) x u (by simpa using hx) hu
   ·cases hc
  ·exact h f args m r m' C vals hc hm hl hr
 ·cases hc
end Go.EX


set_option linter.unusedVariables false
set_option linter.unusedSimpArgs false
namespace Go.EX
def x438V : XFun := ⟨[.tmp 6],
 (.seq (.region [0, 1, 2] [⟨(some 6), .mv (.c (.bool false)), none⟩])
 (.seq (.seq (.region [0, 1, 2, 27] [⟨(some 12), .call .view 444 [], none⟩,
  ⟨(some 13), .un .not (.t 12), none⟩,
  ⟨(some 14), .mv (.t 13), none⟩,
  ⟨(some 15), .mv (.t 0), some (14, false)⟩,
  ⟨(some 16), .call .view 445 [(.t 15)], some (14, false)⟩,
  ⟨(some 17), .pick (.t 14) (.c (.bool true)) (.t 16), none⟩,
  ⟨(some 18), .mv (.t 17), none⟩,
  ⟨(some 19), .mv (.t 1), some (18, false)⟩,
  ⟨(some 20), .len (.t 19), some (18, false)⟩,
  ⟨(some 21), .bin .gtr (.t 20) (.c (.int .i64 1000)), some (18, false)⟩,
  ⟨(some 22), .pick (.t 18) (.c (.bool true)) (.t 21), none⟩,
  ⟨(some 23), .mv (.t 22), none⟩,
  ⟨(some 24), .mv (.t 2), some (23, false)⟩,
  ⟨(some 25), .len (.t 24), some (23, false)⟩,
  ⟨(some 26), .bin .gtr (.t 25) (.c (.int .i64 1000)), some (23, false)⟩,
  ⟨(some 27), .pick (.t 23) (.c (.bool true)) (.t 26), none⟩])
 (.cond (.t 27)
  (.seq (.region [6] [⟨(some 28), .call .view 444 [], none⟩,
   ⟨(some 6), .mv (.t 28), none⟩])
  .ret)
  .skip))
 (.seq (.seq (.region [0, 1, 2, 7] [⟨(some 7), .mv (.c (.int .i64 0)), none⟩])
 (.block 0 (.loop [0, 1, 2, 7] x438L1)))
 (.seq (.region [0, 1, 2, 8] [⟨(some 8), .mv (.c (.slice none 0 0)), none⟩])
 (.seq (.region [0, 1, 2, 8] [⟨(some 41), .mv (.t 8), none⟩,
  ⟨(some 42), .mv (.t 1), none⟩,
  ⟨(some 43), .append 2 16 (.t 41) (.t 42), none⟩,
  ⟨(some 8), .mv (.t 43), none⟩])
 (.seq (.region [0, 1, 2, 8] [⟨(some 44), .mv (.t 8), none⟩,
  ⟨(some 45), .mv (.t 2), none⟩,
  ⟨(some 46), .append 2 16 (.t 44) (.t 45), none⟩,
  ⟨(some 8), .mv (.t 46), none⟩])
 (.seq (.region [0, 1, 8, 9, 10, 11] [⟨(some 47), .mv (.t 0), none⟩,
  ⟨(some 48), .mv (.t 1), none⟩,
  ⟨(some 49), .call .view 649 [(.t 47), (.t 48)], none⟩,
  ⟨(some 50), .mv (.t 0), none⟩,
  ⟨(some 51), .mv (.t 2), none⟩,
  ⟨(some 52), .call .view 649 [(.t 50), (.t 51)], none⟩,
  ⟨(some 53), .mv (.t 0), none⟩,
  ⟨(some 54), .mv (.t 8), none⟩,
  ⟨(some 55), .call .view 649 [(.t 53), (.t 54)], none⟩,
  ⟨(some 9), .mv (.t 49), none⟩,
  ⟨(some 10), .mv (.t 52), none⟩,
  ⟨(some 11), .mv (.t 55), none⟩])
 (.seq (.region [0, 8, 9, 10, 11] [⟨(some 56), .mv (.t 8), none⟩,
  ⟨(some 57), .mv (.t 1), none⟩,
  ⟨(some 58), .append 2 16 (.t 56) (.t 57), none⟩,
  ⟨(some 8), .mv (.t 58), none⟩])
 (.seq (.region [6] [⟨(some 59), .mv (.t 11), none⟩,
  ⟨(some 60), .mv (.t 9), none⟩,
  ⟨(some 61), .mv (.t 10), none⟩,
  ⟨(some 62), .bin .add (.t 60) (.t 61), none⟩,
  ⟨(some 63), .bin .leq (.t 59) (.t 62), none⟩,
  ⟨(some 64), .mv (.t 63), none⟩,
  ⟨(some 65), .mv (.t 11), some (64, true)⟩,
  ⟨(some 66), .mv (.t 9), some (64, true)⟩,
  ⟨(some 67), .bin .geq (.t 65) (.t 66), some (64, true)⟩,
  ⟨(some 68), .pick (.t 64) (.t 67) (.c (.bool false)), none⟩,
  ⟨(some 69), .mv (.t 68), none⟩,
  ⟨(some 70), .mv (.t 11), some (69, true)⟩,
  ⟨(some 71), .mv (.t 10), some (69, true)⟩,
  ⟨(some 72), .bin .geq (.t 70) (.t 71), some (69, true)⟩,
  ⟨(some 73), .pick (.t 69) (.t 72) (.c (.bool false)), none⟩,
  ⟨(some 74), .mv (.t 73), none⟩,
  ⟨(some 75), .mv (.t 0), some (74, true)⟩,
  ⟨(some 76), .mv (.t 8), some (74, true)⟩,
  ⟨(some 77), .call .view 649 [(.t 75), (.t 76)], some (74, true)⟩,
  ⟨(some 78), .mv (.t 11), some (74, true)⟩,
  ⟨(some 79), .bin .eql (.t 77) (.t 78), some (74, true)⟩,
  ⟨(some 80), .pick (.t 74) (.t 79) (.c (.bool false)), none⟩,
  ⟨(some 81), .mv (.t 80), none⟩,
  ⟨(some 82), .mv (.t 0), some (81, true)⟩,
  ⟨(some 83), .call .view 649 [(.t 82), (.c (.slice none 0 0))], some (81, true)⟩,
  ⟨(some 84), .bin .eql (.t 83) (.c (.int .i64 0)), some (81, true)⟩,
  ⟨(some 85), .pick (.t 81) (.t 84) (.c (.bool false)), none⟩,
  ⟨(some 6), .mv (.t 85), none⟩])
 .ret)))))))))⟩
def code4A : Nat → Option XFun
 | 303 => some x303
 | 338 => some x338
 | 339 => some x339
 | 361 => some x361
 | 380 => some x380
 | 438 => some x438V
 | 445 => some x445
 | _ => none
theorem zbp : code4A yieldNo = none := by
 unfold code4A
 split <;> first | (rename_i h; exact absurd h (by decide)) | rfl
noncomputable def ext4A : Calls' := extOr (extOne 444 (callW code4L (ext4 dig))) (extTag 649 (callW code4L (ext4 dig)))
theorem alive4A : callW code4A ext4A 444 [] [] = some (avb true, []) := by
 have h : extOne 444 (callW code4L (ext4 dig)) 444 [] [] = some (avb true, []) := by
  unfold extOne
  rw [if_pos rfl]
  exact lives4
 rw [za6 code4A ext4A rfl (by decide)]
 unfold ext4A extOr
 rw [h]
theorem words4A {sv : IV} {S : List Obj} (hr : Reads tObj sv S) (hb : S.length ≤ 1048576) (hroom : ∀ o ∈ S, o.room ≤ 1099511627776) (hs : ∀ o ∈ S, o.s.size ≤ 1048576) (hL : ∀ o ∈ S, o.l.xs.length ≤ 5000) {rv : IV} {roots : List Val} (hq : Reads tVal rv roots) :
  callW code4A ext4A 649 [.imm sv, .imm rv] [] = some (int64 (wordsN S roots : Nat), []) := by
 have hspec : ∀ {sA : AV} {t : TP}, StoreT code4L (ext4 dig) sA t S → callW code4L (ext4 dig) 649 [sA, .imm rv] [] = some (int64 (wordsN S roots : Nat), []) := by
  intro sA t hT
  obtain ⟨out, hg, h⟩ := zlf hT rfl rfl rfl rfl hb hq hroom hs hL
  rw [zm2 hg] at h
  exact h
 have hx : extTag 649 (callW code4L (ext4 dig)) 649 [.imm sv, .imm rv] [] = some (int64 (wordsN S roots : Nat), []) := by
  by_cases h0 : S.length = 0
  ·have : S = [] := List.eq_nil_of_length_eq_zero h0
   subst this
   have h := hspec (zlt rfl ⟨0, 0, [], 0⟩ hr)
   rcases hr.2.2 with ⟨rfl, _⟩ | ⟨row, off, cap, rfl, _⟩
   ·exact h
   ·exact h
  ·obtain ⟨row, off, cap, rfl, _⟩ := zi5 hr (List.getElem?_eq_getElem (by omega : 0 < S.length))
   exact zdv h0 fun b a => hspec (zlu (t := ⟨b, a, row, off⟩) rfl S cap hr)
 rw [za6 code4A ext4A rfl (by decide)]
 unfold ext4A extOr
 have h1 : extOne 444 (callW code4L (ext4 dig)) 649 [.imm sv, .imm rv] [] = none := by
  unfold extOne
  rw [if_neg (by decide)]
 rw [h1]
 exact hx
end Go.EX


namespace Go.Proofs.YtbomedbbgfcncaaDoor
open Go.EX
theorem okA6 : FunOK Tryd.prog num 6 x438V := .of Tryd.func6 (by kernel_rfl) (by kernel_rfl) (by kernel_rfl) (by kernel_rfl) (by kernel_rfl)
abbrev FnAtA (f : Nat) : Prop := ∀ xf, code4A (num f) = some xf → FunOK Tryd.prog num f xf
theorem hitA {n : Nat} {x : XFun} (e : code4A (num n) = some x) (k : FunOK Tryd.prog num n x) (r : ∀ f, f < n → FnAtA f) : ∀ f, f < n + 1 → FnAtA f := fun f h xf hx => by
 rcases Nat.lt_or_eq_of_le (Nat.le_of_lt_succ h) with h | rfl
 ·exact r f h xf hx
 ·rw [e] at hx; cases hx; exact k
theorem nixA {n : Nat} (e : code4A (num n) = none) (r : ∀ f, f < n → FnAtA f) : ∀ f, f < n + 1 → FnAtA f := fun f h xf hx => by
 rcases Nat.lt_or_eq_of_le (Nat.le_of_lt_succ h) with h | rfl
 ·exact r f h xf hx
 ·rw [e] at hx; cases hx
theorem uptoA20 : ∀ f, f < 20 → FnAtA f :=
 nixA (by kernel_rfl) <|
 nixA (by kernel_rfl) <|
 hitA (by kernel_rfl) ok17 <|
 hitA (by kernel_rfl) ok16 <|
 nixA (by kernel_rfl) <|
 nixA (by kernel_rfl) <|
 nixA (by kernel_rfl) <|
 nixA (by kernel_rfl) <|
 nixA (by kernel_rfl) <|
 nixA (by kernel_rfl) <|
 nixA (by kernel_rfl) <|
 nixA (by kernel_rfl) <|
 hitA (by kernel_rfl) ok7 <|
 hitA (by kernel_rfl) okA6 <|
 nixA (by kernel_rfl) <|
 nixA (by kernel_rfl) <|
 nixA (by kernel_rfl) <|
 nixA (by kernel_rfl) <|
 nixA (by kernel_rfl) <|
 nixA (by kernel_rfl) (fun f h => absurd h (Nat.not_lt_zero f))
theorem uptoA40 : ∀ f, f < 40 → FnAtA f :=
 nixA (by kernel_rfl) <|
 nixA (by kernel_rfl) <|
 nixA (by kernel_rfl) <|
 nixA (by kernel_rfl) <|
 nixA (by kernel_rfl) <|
 nixA (by kernel_rfl) <|
 nixA (by kernel_rfl) <|
 hitA (by kernel_rfl) ok32 <|
 nixA (by kernel_rfl) <|
 nixA (by kernel_rfl) <|
 nixA (by kernel_rfl) <|
 nixA (by kernel_rfl) <|
 nixA (by kernel_rfl) <|
 nixA (by kernel_rfl) <|
 nixA (by kernel_rfl) <|
 nixA (by kernel_rfl) <|
 nixA (by kernel_rfl) <|
 nixA (by kernel_rfl) <|
 nixA (by kernel_rfl) <|
 nixA (by kernel_rfl) uptoA20
theorem uptoA60 : ∀ f, f < 60 → FnAtA f :=
 nixA (by kernel_rfl) <|
 nixA (by kernel_rfl) <|
 hitA (by kernel_rfl) ok57 <|
 nixA (by kernel_rfl) <|
 nixA (by kernel_rfl) <|
 nixA (by kernel_rfl) <|
 nixA (by kernel_rfl) <|
 nixA (by kernel_rfl) <|
 nixA (by kernel_rfl) <|
 hitA (by kernel_rfl) ok50 <|
 nixA (by kernel_rfl) <|
 nixA (by kernel_rfl) <|
 nixA (by kernel_rfl) <|
 nixA (by kernel_rfl) <|
 nixA (by kernel_rfl) <|
 nixA (by kernel_rfl) <|
 nixA (by kernel_rfl) <|
 nixA (by kernel_rfl) <|
 nixA (by kernel_rfl) <|
 nixA (by kernel_rfl) uptoA40
theorem uptoA80 : ∀ f, f < 80 → FnAtA f :=
 nixA (by kernel_rfl) <|
 nixA (by kernel_rfl) <|
 nixA (by kernel_rfl) <|
 nixA (by kernel_rfl) <|
 nixA (by kernel_rfl) <|
 nixA (by kernel_rfl) <|
 nixA (by kernel_rfl) <|
 nixA (by kernel_rfl) <|
 nixA (by kernel_rfl) <|
 nixA (by kernel_rfl) <|
 nixA (by kernel_rfl) <|
 nixA (by kernel_rfl) <|
 nixA (by kernel_rfl) <|
 nixA (by kernel_rfl) <|
 nixA (by kernel_rfl) <|
 nixA (by kernel_rfl) <|
 nixA (by kernel_rfl) <|
 nixA (by kernel_rfl) <|
 nixA (by kernel_rfl) <|
 nixA (by kernel_rfl) uptoA60
theorem uptoA93 : ∀ f, f < 93 → FnAtA f :=
 nixA (by kernel_rfl) <|
 nixA (by kernel_rfl) <|
 nixA (by kernel_rfl) <|
 nixA (by kernel_rfl) <|
 nixA (by kernel_rfl) <|
 nixA (by kernel_rfl) <|
 nixA (by kernel_rfl) <|
 nixA (by kernel_rfl) <|
 nixA (by kernel_rfl) <|
 nixA (by kernel_rfl) <|
 nixA (by kernel_rfl) <|
 nixA (by kernel_rfl) <|
 nixA (by kernel_rfl) uptoA80
theorem fnsA (f : FuncId) (xf : XFun) (h : code4A (num f) = some xf) : FunOK Tryd.prog num f xf := by
 by_cases hf : f < 93
 ·exact uptoA93 f hf xf h
 ·have hn : num f = 100000 + f := by
   unfold num
   rw [List.getElem?_eq_none (by rw [show gids.length = 93 from by kernel_rfl]; simp only [FuncId] at *; omega)]; rfl
  rw [hn] at h
  unfold code4A at h
  split at h <;> first | (exfalso; simp only [FuncId] at *; omega) | cases h
end Go.Proofs.YtbomedbbgfcncaaDoor


set_option linter.unusedVariables false
set_option linter.unusedSimpArgs false
namespace Go.EX
theorem zjx (sv av bv : IV) (S : List Obj) (hr : Reads tObj sv S) : ∃ e s', den code4A ext4A (.loop [0, 1, 2, 7] x438L1) ⟨0, [(0, .imm sv), (1, .imm av), (2, .imm bv), (7, int64 0)], []⟩ = some (e, s') ∧ e ≠ .normal ∧
  ((e = .exit 0 ∧ (∀ o ∈ S, o.room ≤ 1099511627776) ∧ s' = ⟨0, [(0, .imm sv), (1, .imm av), (2, .imm bv), (7, int64 S.length), (32, avb false)], []⟩) ∨ (e = .ret ∧ s' = ⟨0, [(6, avb true)], []⟩)) := by
 have hlen := zi3 hr
 have hb := hr.2.1
 refine zgg (fun n s => ∃ (i : Nat), i + n = S.length ∧ (∀ o ∈ S.take i, o.room ≤ 1099511627776) ∧ s = ⟨0, [(0, .imm sv), (1, .imm av), (2, .imm bv), (7, int64 (i : Nat))], []⟩) _ ?_ S.length _ ⟨0, by simp, by simp, rfl⟩
 rintro n _ ⟨i, hi, hall, rfl⟩
 by_cases hlt : i < S.length
 ·obtain ⟨row, off, cap, rfl, hc, hcut, hget⟩ := zi5 hr (List.getElem?_eq_getElem hlt)
  have e1 : IntKind.wrap .i64 ((i : Int) + 1) = (i : Int) + 1 := wrapI64 (by omega) (by omega)
  have htk : S.take (i + 1) = S.take i ++ [S[i]] := by rw [List.take_add_one, List.getElem?_eq_getElem hlt]; rfl
  generalize S[i] = o at hget htk
  simp only [tObj] at hget
  have g3 : row[off + i * 5 + 3]? = some (.val (.int .i64 o.room)) := zby hget 3 (by omega)
  by_cases hc2 : (1099511627776 : Int) < o.room
  ·refine ⟨.ret, ⟨0, [(6, avb true)], []⟩, ?_, .inr ⟨by simp, .inr ⟨rfl, rfl⟩⟩⟩
   simp -implicitDefEqProofs [x438L1, hlt, g3, hc2]
  ·refine ⟨.normal, ⟨0, [(0, .imm (.slice row off S.length cap)), (1, .imm av), (2, .imm bv), (7, int64 ((i : Int) + 1))], []⟩, ?_, .inl ⟨rfl, n - 1, by omega, i + 1, by omega, fun q hq => ?_, rfl⟩⟩
   ·simp -implicitDefEqProofs [x438L1, hlt, g3, hc2, e1]
   ·rw [htk, List.mem_append, List.mem_singleton] at hq
    rcases hq with hq | rfl
    ·exact hall q hq
    ·omega
 ·have : i = S.length := by omega
  subst this
  rw [List.take_length] at hall
  refine ⟨.exit 0, _, ?_, .inr ⟨by simp, .inl ⟨rfl, hall, rfl⟩⟩⟩
  simp -implicitDefEqProofs [x438L1, hlen]
theorem zi4 : Reads tVal (.val (.slice none 0 0)) [] := ⟨by simp, by simp, .inl ⟨rfl, rfl⟩⟩
theorem zha {p : Option (AV × Mem)} {v : AV} (h : p.map Prod.fst = some v) : ∃ m : Mem, p = some (v, m) := by
 cases p with
 | none => cases h
 | some q => obtain ⟨a, m⟩ := q; cases h; exact ⟨m, rfl⟩
theorem great4A {sv : IV} {S : List Obj} (hr : Reads tObj sv S) : callW code4A ext4A 445 [.imm sv] [] = some (avb (greatOf S), []) := ze1 rfl rfl rfl rfl rfl rfl hr
theorem zj3 (xs : List Val) (h : ∀ x ∈ xs, tVal.wf x) (hl : xs.length ≤ 140737488355328) : Reads tVal (.slice (tVal.row xs) 0 xs.length none) xs := zi6 _ _ h hl (fun c h => by cases h)
set_option maxHeartbeats 2000000 in
theorem zle {sv av bv : IV} {S : List Obj} {a b : List Val} (hr : Reads tObj sv S) (ha : Reads tVal av a) (hb : Reads tVal bv b) : ∃ m, callW code4A ext4A 438 [.imm sv, .imm av, .imm bv] [] = some (avb true, m) := by
 apply zha
 have hal := alive4A
 have hg := great4A hr
 have hla := zi3 ha
 have hlb := zi3 hb
 rw [za7 code4A ext4A (rfl : code4A 438 = some x438V)]
 cases hgr : greatOf S with
 | true =>
  rw [hgr] at hg
  simp -implicitDefEqProofs [x438V, hal, hg]
 | false =>
  rw [hgr] at hg
  by_cases ha1 : (1000 : Int) < a.length
  ·simp -implicitDefEqProofs [x438V, hal, hg, hla, ha1]
  by_cases hb1 : (1000 : Int) < b.length
  ·simp -implicitDefEqProofs [x438V, hal, hg, hla, hlb, ha1, hb1]
  obtain ⟨hL, hS, hsum⟩ := ze0 hr.1 hr.2.1 hgr
  have hs := (zlr hr.1 hr.2.1 hgr).s
  obtain ⟨e, s', l1, _, ⟨rfl, hroom, rfl⟩ | ⟨rfl, rfl⟩⟩ := zjx sv av bv S hr
  case inr => simp -implicitDefEqProofs [x438V, hal, hg, hla, hlb, ha1, hb1, l1]
  have W : ∀ {rv : IV} {roots : List Val}, Reads tVal rv roots → callW code4A ext4A 649 [.imm sv, .imm rv] [] = some (int64 (wordsN S roots : Nat), []) := fun hq => words4A hr hS hroom hs hL hq
  have w0 := W zi4
  rw [zm4] at w0
  have w1 := W ha
  have w2 := W hb
  have b1 := zm1 a hroom hs hL hS
  have b2 := zm1 b hroom hs hL hS
  have q1 : wordsN S (a ++ b) ≤ wordsN S a + wordsN S b := zm0 S a b
  have q2 : wordsN S a ≤ wordsN S (a ++ b) := zm3 fun v hv => List.mem_append.2 (.inl hv)
  have q3 : wordsN S b ≤ wordsN S (a ++ b) := zm3 fun v hv => List.mem_append.2 (.inr hv)
  have q4 := zm5 S a b
  have ea : ∀ m : Mem, elems m 2 (.imm av) = some (a.length, tVal.row a) := fun m => zcm m ha
  have eb : ∀ m : Mem, elems m 2 (.imm bv) = some (b.length, tVal.row b) := fun m => zcm m hb
  have wa : ∀ x ∈ a, tVal.wf x := ha.1
  have wb : ∀ x ∈ b, tVal.wf x := hb.1
  have wab : ∀ x ∈ a ++ b, tVal.wf x := fun x hx => (List.mem_append.1 hx).elim (wa x) (wb x)
  have w3 := W (zj3 (a ++ b) wab (by rw [List.length_append]; omega))
  have w4 := W (zj3 (a ++ b ++ a) (fun x hx => (List.mem_append.1 hx).elim (wab x) (wa x)) (by simp only [List.length_append]; omega))
  rw [q4] at w4
  have c1 : cut (tVal.row a) 0 (a.length * 2) = some (tVal.row a) := zb2 tVal a
  have c2 : cut (tVal.row b) 0 (b.length * 2) = some (tVal.row b) := zb2 tVal b
  have c3 : cut (tVal.row (a ++ b)) 0 ((a.length + b.length) * 2) = some (tVal.row (a ++ b)) := by
   have := zb2 tVal (a ++ b)
   rwa [List.length_append] at this
  rw [zj1, zj1] at w4
  rw [zj1] at w3 c3
  simp only [List.length_append] at w3 w4
  have hna : a.length = 0 → tVal.row a = [] := fun h => by rw [List.eq_nil_of_length_eq_zero h]; rfl
  have hnb : b.length = 0 → tVal.row b = [] := fun h => by rw [List.eq_nil_of_length_eq_zero h]; rfl
  have hza : a.length = 0 → wordsN S (a ++ b) = wordsN S b := fun h => by rw [List.eq_nil_of_length_eq_zero h]; rfl
  have hzb : b.length = 0 → wordsN S (a ++ b) = wordsN S a := fun h => by rw [List.eq_nil_of_length_eq_zero h, List.append_nil]
  have hz1 : a.length = 0 → wordsN S a = 0 := fun h => by rw [List.eq_nil_of_length_eq_zero h, zm4]
  have hz2 : b.length = 0 → wordsN S b = 0 := fun h => by rw [List.eq_nil_of_length_eq_zero h, zm4]
  have n1 : ¬ (1000 : Nat) < a.length := by omega
  have n2 : ¬ (1000 : Nat) < b.length := by omega
  have n3 : a.length * 16 ≤ 140737488355328 := by omega
  have n4 : b.length * 16 ≤ 140737488355328 := by omega
  have n5 : (a.length + b.length) * 16 ≤ 140737488355328 := by omega
  have n6 : (a.length + b.length + a.length) * 16 ≤ 140737488355328 := by omega
  have n7 : (a.length + a.length) * 16 ≤ 140737488355328 := by omega
  clear W wa wb wab ha hb hr hL hS hsum hs hroom q4 hgr
  generalize tVal.row a = RA at *
  generalize tVal.row b = RB at *
  generalize a.length = la at *
  generalize b.length = lb at *
  generalize wordsN S (a ++ b) = z at *
  generalize wordsN S a = x at *
  generalize wordsN S b = y at *
  have e1 : IntKind.wrap .i64 ((x : Int) + (y : Int)) = (x : Int) + (y : Int) := wrapI64 (by omega) (by omega)
  have e0 : IntKind.wrap .i64 0 = 0 := by decide
  have ex : IntKind.wrap .i64 (x : Int) = (x : Int) := wrapI64 (by omega) (by omega)
  have ey : IntKind.wrap .i64 (y : Int) = (y : Int) := wrapI64 (by omega) (by omega)
  have i1 : (z : Int) ≤ (x : Int) + (y : Int) := by omega
  have i2 : (x : Int) ≤ z := by omega
  have i3 : (y : Int) ≤ z := by omega
  unfold x438V
  generalize x438L1 = LL at *
  by_cases ha0 : la = 0
  ·obtain rfl := hna ha0
   obtain rfl := hza ha0
   obtain rfl := hz1 ha0
   by_cases hb0 : lb = 0
   ·obtain rfl := hnb hb0
    obtain rfl := hz2 hb0
    subst ha0 hb0
    simp -implicitDefEqProofs [hal, hg, hla, hlb, l1, ea, eb, w0, w1, w2, e0, ex, ey, exAppendX, exAppend]
   ·subst ha0
    simp only [List.nil_append, List.append_nil, Nat.zero_add, Nat.add_zero] at w3 w4 c3
    simp -implicitDefEqProofs [hal, hg, hla, hlb, hb1, l1, ea, eb, w0, w1, w2, w3, w4, e0, ex, ey, exAppendX, exAppend, hb0, n4, c2]
  ·by_cases hb0 : lb = 0
   ·obtain rfl := hnb hb0
    obtain rfl := hzb hb0
    obtain rfl := hz2 hb0
    subst hb0
    simp only [List.append_nil, Nat.add_zero] at w3 w4 c3
    simp -implicitDefEqProofs [hal, hg, hla, hlb, ha1, l1, ea, eb, w0, w1, w2, w3, w4, e0, ex, ey, exAppendX, exAppend, ha0, n3, n7, c1]
   ·simp only [List.append_assoc] at w4
    simp -implicitDefEqProofs [hal, hg, hla, hlb, ha1, hb1, l1, ea, eb, w0, w1, w2, w3, w4, e0, ex, ey, exAppendX, exAppend, ha0, hb0, n3, n5, n6, c1, c3, e1, i1, i2, i3]
end Go.EX

