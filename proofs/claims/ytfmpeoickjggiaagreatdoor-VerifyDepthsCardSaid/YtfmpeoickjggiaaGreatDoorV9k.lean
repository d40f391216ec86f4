import Derived.Test.YtfmpeoickjggiaaGreatDoorV9j
import Derived.Test.YtfmpeoickjggiaaGreatDoorV9d
set_option linter.unusedVariables false
set_option linter.unusedSimpArgs false
namespace Go.EX
def handGo (pc : Nat) (d : Int) : List Handler → DS → Option DS
  | [], s => some s
  | h :: r, s => if isB pc h.fr h.to = true then (if d < h.deep then none else handGo pc d r (tellD s h.at'.toNat (h.deep + 1))) else handGo pc d r s
abbrev fnCells (f : Fn) : List AV := [.imm (.val (.string f.name)), int64 f.params, int64 f.locals, .imm f.caps.iv, .imm f.consts.iv, .imm f.code.iv, .imm f.lines.iv, .imm f.handlers.iv]
def depMem (pv : IV) (ms : List (Int × Int)) (f : Fn) (i : Ins) (q : Int × Int × Int × Int) (s : DS) (junk : List IV) (mvT mvD : Bool) (cap : Option Nat) : Mem :=
  [.rich (ckCells pv), .map (mkMap ms), .rich [.osl 8 0 1 s.told.length none], .rich (fnCells f), .rich [.osl 9 0 1 s.todo.length cap], .rich [.imm (.val (.int .u8 i.op)), int64 i.a],
    .rich [.imm (.val (.int .u8 q.1)), int64 q.2.1, int64 q.2.2.1, int64 q.2.2.2], .rich [avb s.ok], .flat (rowI s.told) mvT, .flat (rowI s.todo ++ junk) mvD]
def depEnv (pc : Nat) (d : Int) : Env := [(0, .optr 0 0), (4, .optr 2 0), (6, .optr 3 0), (7, .optr 4 0), (8, int64 pc), (9, .optr 5 0), (10, .optr 6 0), (11, int64 d), (12, .optr 7 0), (13, .clo 249 [.optr 2 0, .optr 4 0, .optr 7 0])]
attribute [local simp] ck_ren
theorem tellD_len (s : DS) (p : Nat) (deep : Int) : (tellD s p deep).told.length = s.told.length := by
  unfold tellD
  split
  · split <;> simp
  · rfl
theorem insD_falls {n : Nat} {l : List Int} {p : Nat} (h : Falls n l) (hp : p < n) (hno : (p : Int) ∉ l) : Falls n (insD l p) := by
  have hsplit : l.takeWhile (fun x => decide ((p : Int) < x)) ++ l.dropWhile (fun x => decide ((p : Int) < x)) = l := List.takeWhile_append_dropWhile
  generalize hA : l.takeWhile (fun x => decide ((p : Int) < x)) = A at hsplit
  generalize hB : l.dropWhile (fun x => decide ((p : Int) < x)) = B at hsplit
  have hAp : ∀ x ∈ A, (p : Int) < x := fun x hx => by
    rw [← hA] at hx
    simpa using List.all_eq_true.1 List.all_takeWhile x hx
  have hsort := h.sort
  rw [← hsplit, List.pairwise_append] at hsort
  have hBp : ∀ x ∈ B, x < (p : Int) := fun x hx => by
    cases B with
    | nil => cases hx
    | cons b B =>
      have hb : ¬ (p : Int) < b := by
        have h1 : l.dropWhile (fun x => decide ((p : Int) < x)) ≠ [] := by rw [hB]; simp
        have := List.head_dropWhile_not (fun x => decide ((p : Int) < x)) h1
        simp only [hB, List.head_cons, decide_eq_false_iff_not] at this
        exact this
      have hbl : b ∈ l := by rw [← hsplit]; simp
      have hne : b ≠ p := fun e => hno (e ▸ hbl)
      rcases List.mem_cons.1 hx with rfl | hx
      · omega
      · have := (List.pairwise_cons.1 hsort.2.1).1 x hx
        omega
  unfold insD
  rw [hA, hB]
  refine ⟨?_, fun x hx => ?_⟩
  · rw [List.pairwise_append, List.pairwise_cons]
    refine ⟨hsort.1, ⟨fun x hx => hBp x hx, hsort.2.1⟩, fun a ha b hb => ?_⟩
    rcases List.mem_cons.1 hb with rfl | hb
    · exact hAp a ha
    · exact hsort.2.2 a ha b hb
  · rcases List.mem_append.1 hx with hx | hx
    · exact h.inn x (by rw [← hsplit]; exact List.mem_append_left _ hx)
    · rcases List.mem_cons.1 hx with rfl | hx
      · omega
      · exact h.inn x (by rw [← hsplit]; exact List.mem_append_right _ hx)
structure DOk (n : Nat) (s : DS) : Prop where
  len : s.told.length = n
  falls : Falls n s.todo
  told : ∀ (p : Nat), (p : Int) ∈ s.todo → ∃ v, s.told[p]? = some v ∧ 0 ≤ v
  bd : ∀ x ∈ s.told, -1 ≤ x ∧ x ≤ 256
theorem mem_insD {l : List Int} {p x : Int} : x ∈ insD l p ↔ x = p ∨ x ∈ l := by
  have hsplit : l.takeWhile (fun x => decide (p < x)) ++ l.dropWhile (fun x => decide (p < x)) = l := List.takeWhile_append_dropWhile
  unfold insD
  rw [List.mem_append, List.mem_cons]
  constructor
  · rintro (h | h | h)
    · exact .inr (hsplit ▸ List.mem_append_left _ h)
    · exact .inl h
    · exact .inr (hsplit ▸ List.mem_append_right _ h)
  · rintro (h | h)
    · exact .inr (.inl h)
    · rw [← hsplit] at h
      rcases List.mem_append.1 h with h | h
      · exact .inl h
      · exact .inr (.inr h)
theorem tellD_ok {n : Nat} {s : DS} (h : DOk n s) {p : Nat} (hp : p < n) {deep : Int} (hd : 0 ≤ deep ∧ deep ≤ 256) : DOk n (tellD s p deep) := by
  have hpl : p < s.told.length := by rw [h.len]; exact hp
  have hv := List.getElem?_eq_getElem hpl
  generalize s.told[p] = v at hv
  unfold tellD
  rw [hv]
  simp only
  split
  · rename_i hneg
    have hno : (p : Int) ∉ s.todo := fun hm => by
      obtain ⟨v', h1, h2⟩ := h.told p hm
      rw [hv] at h1; cases h1; omega
    refine ⟨by simp [h.len], insD_falls h.falls hp hno, fun q hq => ?_, fun x hx => ?_⟩
    · simp only at hq ⊢
      rw [List.getElem?_set]
      by_cases hqp : p = q
      · subst hqp; exact ⟨deep, by simp [hpl], hd.1⟩
      · rw [if_neg hqp]
        rcases mem_insD.1 hq with h1 | h1
        · exact absurd (by omega : p = q) hqp
        · exact h.told q h1
    · rcases List.mem_or_eq_of_mem_set hx with h1 | h1
      · exact h.bd x h1
      · omega
  · exact ⟨h.len, h.falls, h.told, h.bd⟩
set_option maxRecDepth 100000 in
set_option maxHeartbeats 8000000 in
theorem hand_step (pv : IV) (ms : List (Int × Int)) (f : Fn) (i : Ins) (q : Int × Int × Int × Int) (s : DS) (junk : List IV) (mvT mvD : Bool) (cap : Option Nat) (hcap : ∀ c, cap = some c → s.todo.length ≤ c) (pc : Nat) (d : Int) {n : Nat} (hs : DOk n s) (hn : n ≤ 1000000)
    {row : List IV} {off : Nat} {hc : Option Nat} {k : Nat} {h : Handler} {hl : Nat} (hk : k < hl) (hhl : hl ≤ 140737488355328) (hget : cut row (off + k * 4) 4 = some (tHandler.enc h)) (hat : 0 ≤ h.at' ∧ h.at' < n) (hdeep : 0 ≤ h.deep ∧ h.deep < 256) :
    ∃ e s', den code9 (extInsert 766) x248L2 ⟨2, depEnv pc d ++ [(98, .imm (.slice row off hl hc)), (99, int64 hl), (100, int64 k)], depMem pv ms f i q s junk mvT mvD cap⟩ = some (e, s') ∧
      ((e = .ret ∧ isB pc h.fr h.to = true ∧ d < h.deep ∧ ∃ rest, s' = ⟨2, [(4, .optr 2 0), (5, int64 pc)], [.rich (ckCells pv), .map (mkMap ms), .rich [nilS]] ++ rest⟩) ∨
       (e = .normal ∧ ¬ (isB pc h.fr h.to = true ∧ d < h.deep) ∧ ∃ junk' mvD' cap', (∀ c, cap' = some c → (if isB pc h.fr h.to = true then tellD s h.at'.toNat (h.deep + 1) else s).todo.length ≤ c) ∧
         s'.tidy [0, 4, 6, 7, 8, 9, 10, 11, 12, 13, 98, 99, 100] = ⟨2, depEnv pc d ++ [(98, .imm (.slice row off hl hc)), (99, int64 hl), (100, int64 ((k : Int) + 1))], depMem pv ms f i q (if isB pc h.fr h.to = true then tellD s h.at'.toNat (h.deep + 1) else s) junk' mvT mvD' cap'⟩)) := by
  have hki : (k : Int) < hl := by omega
  have e1 : IntKind.wrap .i64 ((k : Int) + 1) = (k : Int) + 1 := wrapI64 (by omega) (by omega)
  have e2 : IntKind.wrap .i64 (h.deep + 1) = h.deep + 1 := wrapI64 (by omega) (by omega)
  have his := is_spec pc h.fr h.to
  simp only [tHandler] at hget
  obtain ⟨told, todo, ok⟩ := s
  cases hb : isB pc h.fr h.to with
  | false =>
    rw [hb] at his
    unfold run9 at his
    refine ⟨.normal, ⟨2, depEnv pc d ++ [(98, .imm (.slice row off hl hc)), (99, int64 hl), (100, int64 ((k : Int) + 1))], depMem pv ms f i q ⟨told, todo, ok⟩ junk mvT mvD cap ++ [.rich (tHandler.enc h |>.map .imm)]⟩, ?_, .inr ⟨rfl, by simp, junk, mvD, cap, by simpa using hcap, ?_⟩⟩
    · simp only [depEnv, depMem, tHandler]
      simp -implicitDefEqProofs [x248L2, hki, hk, hget, his, e1]
    · simp only [depEnv, depMem, tHandler]
      simp -implicitDefEqProofs
  | true =>
    rw [hb] at his
    unfold run9 at his
    by_cases hd : d < h.deep
    · refine ⟨.ret, ⟨2, [(4, .optr 2 0), (5, int64 pc)], [.rich (ckCells pv), .map (mkMap ms), .rich [nilS]] ++ ((depMem pv ms f i q ⟨told, todo, ok⟩ junk mvT mvD cap).drop 3 ++ [.rich (tHandler.enc h |>.map .imm)])⟩, ?_, .inl ⟨rfl, rfl, hd, _, rfl⟩⟩
      simp only [depEnv, depMem, tHandler]
      simp -implicitDefEqProofs [x248L2, hki, hk, hget, his, e1, hd]
    · obtain ⟨p, hp⟩ : ∃ p : Nat, h.at' = p := ⟨h.at'.toNat, by omega⟩
      obtain ⟨junk', mvD', cap', hcap', ht⟩ := tell_spec ⟨told, todo, ok⟩ junk mvT mvD cap hcap p (h.deep + 1) (by rw [hs.len]; omega) (by rw [hs.len]; exact hs.falls) (by rw [hs.len]; exact hn)
      have hlen := tellD_len ⟨told, todo, ok⟩ p (h.deep + 1)
      rw [hp, Int.toNat_natCast]
      rw [hp] at hget
      simp only [if_true]
      generalize tellD ⟨told, todo, ok⟩ p (h.deep + 1) = s2 at ht hcap' hlen ⊢
      obtain ⟨told2, todo2, ok2⟩ := s2
      simp only at hlen hcap'
      unfold run9 at ht
      simp only [tellMem] at ht
      refine ⟨.normal, ⟨2, depEnv pc d ++ [(98, .imm (.slice row off hl hc)), (99, int64 hl), (100, int64 ((k : Int) + 1))], depMem pv ms f i q ⟨told2, todo2, ok2⟩ junk' mvT (mvD' || mvD) cap' ++ [.rich [int64 h.fr, int64 h.to, int64 p, int64 h.deep]]⟩, ?_, .inr ⟨rfl, by simp [hd], junk', (mvD' || mvD), cap', hcap', ?_⟩⟩
      · simp only [depEnv, depMem, tHandler]
        simp -implicitDefEqProofs [x248L2, hki, hk, hget, his, e1, e2, hd, ht, hlen]
      · simp only [depEnv, depMem, tHandler]
        simp -implicitDefEqProofs [hlen]
end Go.EX

