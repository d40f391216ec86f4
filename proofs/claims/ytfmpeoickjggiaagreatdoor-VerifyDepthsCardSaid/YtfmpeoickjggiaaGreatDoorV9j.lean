import Derived.Test.YtfmpeoickjggiaaGreatDoorV9i
set_option linter.unusedVariables false
set_option linter.unusedSimpArgs false
namespace Go.EX
def insD (l : List Int) (p : Int) : List Int := l.takeWhile (fun x => decide (p < x)) ++ p :: l.dropWhile (fun x => decide (p < x))
theorem while_at : ∀ (l : List Int) (p : Int) (k : Nat), k ≤ l.length → (∀ (i : Nat) (x : Int), l[i]? = some x → i < k → p < x) → (∀ (i : Nat) (x : Int), l[i]? = some x → k ≤ i → x ≤ p) →
    l.takeWhile (fun x => decide (p < x)) = l.take k ∧ l.dropWhile (fun x => decide (p < x)) = l.drop k
  | [], p, k, hk, _, _ => by simp
  | x :: r, p, 0, _, _, h2 => by
    have := h2 0 x rfl (Nat.le_refl _)
    have hn : ¬ p < x := by omega
    simp [List.takeWhile_cons, List.dropWhile_cons, hn]
  | x :: r, p, k + 1, hk, h1, h2 => by
    have hx : p < x := h1 0 x rfl (by omega)
    obtain ⟨h3, h4⟩ := while_at r p k (by simpa using hk) (fun i y hi hik => h1 (i + 1) y hi (by omega)) (fun i y hi hik => h2 (i + 1) y hi (by omega))
    simp [List.takeWhile_cons, List.dropWhile_cons, hx, h3, h4]
structure DS where
  told : List Int
  todo : List Int
  ok : Bool
def tellD (s : DS) (p : Nat) (deep : Int) : DS :=
  match s.told[p]? with
  | some v => if v < 0 then ⟨s.told.set p deep, insD s.todo p, s.ok⟩ else { s with ok := s.ok && decide (v = deep) }
  | none => s
def rowI (l : List Int) : List IV := (tInt .i64).row l
theorem rowI_cons (x : Int) (l : List Int) : rowI (x :: l) = .val (.int .i64 x) :: rowI l := rfl
theorem rowI_app (a b : List Int) : rowI (a ++ b) = rowI a ++ rowI b := row_append _ a b
theorem rowI_len (l : List Int) : (rowI l).length = l.length := by rw [rowI, row_len]; simp [tInt]
theorem rowI_get (l : List Int) (i : Nat) : (rowI l)[i]? = (l[i]?).map fun x => IV.val (.int .i64 x) := by
  induction l generalizing i with
  | nil => simp [rowI, Ty.row]
  | cons x r ih =>
    rw [rowI_cons]
    cases i with
    | zero => rfl
    | succ i => simpa using ih i
theorem rowI_take (l : List Int) (k : Nat) : (rowI l).take k = rowI (l.take k) := by
  induction l generalizing k with
  | nil => simp [rowI, Ty.row]
  | cons x r ih =>
    cases k with
    | zero => rfl
    | succ k => rw [rowI_cons, List.take_succ_cons, List.take_succ_cons, rowI_cons, ih]
theorem rowI_drop (l : List Int) (k : Nat) : (rowI l).drop k = rowI (l.drop k) := by
  induction l generalizing k with
  | nil => simp [rowI, Ty.row]
  | cons x r ih =>
    cases k with
    | zero => rfl
    | succ k => rw [rowI_cons, List.drop_succ_cons, List.drop_succ_cons, ih]
theorem rowI_set (l : List Int) (k : Nat) (x : Int) : (rowI l).set k (.val (.int .i64 x)) = rowI (l.set k x) := by
  induction l generalizing k with
  | nil => simp [rowI, Ty.row]
  | cons y r ih =>
    rw [rowI_cons]
    cases k with
    | zero => rfl
    | succ k => simp only [List.set_cons_succ, rowI_cons, ih]
theorem rowI_reads {l : List Int} {junk : List IV} {cap : Option Nat} (hw : ∀ x ∈ l, -9223372036854775808 ≤ x ∧ x ≤ 9223372036854775807) (hl : l.length ≤ 140737488355328) (hc : ∀ c, cap = some c → l.length ≤ c) : Reads (tInt .i64) (.slice (rowI l ++ junk) 0 l.length cap) l :=
  ⟨fun x hx => wfI64.2 (hw x hx), hl, .inr ⟨_, 0, cap, rfl, hc, by
    refine cut_mk ?_ ?_
    · rw [List.drop_zero]
      show List.take (l.length * 1) _ = rowI l
      rw [Nat.mul_one, ← rowI_len l, List.take_left]
    · exact row_len _ _⟩⟩
def tellMem (s : DS) (junk : List IV) (mvT mvD : Bool) (cap : Option Nat) : Mem :=
  [.rich [.osl 3 0 1 s.told.length none], .rich [.osl 4 0 1 s.todo.length cap], .rich [avb s.ok], .flat (rowI s.told) mvT, .flat (rowI s.todo ++ junk) mvD]
structure Falls (n : Nat) (l : List Int) : Prop where
  sort : l.Pairwise (fun a b => b < a)
  inn : ∀ x ∈ l, 0 ≤ x ∧ x < n
theorem falls_len : ∀ (l : List Int) (n : Nat), Falls n l → l.length ≤ n
  | [], _, _ => by simp
  | x :: r, n, h => by
    have hx := h.inn x (List.mem_cons_self ..)
    have hr := List.pairwise_cons.1 h.sort
    have := falls_len r x.toNat ⟨hr.2, fun y hy => ⟨(h.inn y (List.mem_cons_of_mem _ hy)).1, by have := hr.1 y hy; omega⟩⟩
    simp only [List.length_cons]
    omega
theorem insert_spec (todo : List Int) (junk : List IV) (mvD : Bool) (cap : Option Nat) (p : Nat) (k : Nat) (hk : k ≤ todo.length) (hb : todo.length ≤ 1000000) :
    run9 766 [.osl 0 0 1 todo.length cap, int64 k, .osl 1 0 1 1 (some 1)] [.flat (rowI todo ++ junk) mvD, .flat [.val (.int .i64 p)] false] =
      some (.osl 0 0 1 (todo.length + 1) none, [.flat (rowI (todo.take k ++ (p : Int) :: todo.drop k)) true, .flat [.val (.int .i64 p)] false]) := by
  rw [run9_insert]
  have hl := rowI_len todo
  have h1 : (rowI todo ++ junk).take k = rowI (todo.take k) := by rw [List.take_append_of_le_length (by omega), rowI_take]
  have h2 : ((rowI todo ++ junk).take todo.length).drop k = rowI (todo.drop k) := by rw [List.take_append_of_le_length (by omega), List.take_of_length_le (by omega), rowI_drop]
  have hc : ((0 : Nat) ≠ 1 ∧ (0 : Int) ≤ (k : Int) ∧ (k : Int) ≤ (todo.length : Int) ∧ todo.length ≤ (rowI todo ++ junk).length ∧ (todo.length + 1) * 8 ≤ 140737488355328) := by
    refine ⟨by decide, by omega, by omega, by rw [List.length_append]; omega, by omega⟩
  simp only [exInsert, List.getElem?_cons_zero, List.getElem?_cons_succ]
  rw [if_pos hc, Int.toNat_natCast, h1, h2, rowI_app, rowI_cons]
  rfl
set_option maxRecDepth 100000 in
set_option maxHeartbeats 4000000 in
theorem tell_spec (s : DS) (junk : List IV) (mvT mvD : Bool) (cap : Option Nat) (hcap : ∀ c, cap = some c → s.todo.length ≤ c) (p : Nat) (deep : Int) (hp : p < s.told.length) (hf : Falls s.told.length s.todo) (hn : s.told.length ≤ 1000000) :
    ∃ junk' mvD' cap', (∀ c, cap' = some c → (tellD s p deep).todo.length ≤ c) ∧
      run9 249 [int64 p, int64 deep, .optr 0 0, .optr 1 0, .optr 2 0] (tellMem s junk mvT mvD cap) = some (.tup [], tellMem (tellD s p deep) junk' mvT mvD' cap') := by
  obtain ⟨told, todo, ok⟩ := s
  simp only at hp hf hn hcap ⊢
  have hv := List.getElem?_eq_getElem hp
  generalize told[p] = v at hv
  have hg : (rowI told)[p]? = some (.val (.int .i64 v)) := by rw [rowI_get, hv]; rfl
  have hpl : (p : Int) < told.length := by omega
  have hl1 := rowI_len told
  have htl := falls_len _ _ hf
  by_cases hneg : v < 0
  · have hls := rowI_reads (l := todo) (junk := junk) (cap := cap) (fun x hx => by have := hf.inn x hx; omega) (by omega) hcap
    obtain ⟨k, b, hsr, hk, h1, h2⟩ := search_spec hls p (by omega) (fun x hx => by have := hf.inn x hx; omega) hf.sort
    obtain ⟨h3, h4⟩ := while_at todo p k hk h1 h2
    have hins := insert_spec todo junk mvD cap p k hk (by omega)
    have htd : tellD ⟨told, todo, ok⟩ p deep = ⟨told.set p deep, todo.take k ++ (p : Int) :: todo.drop k, ok⟩ := by
      simp only [tellD, hv, hneg, if_true, insD, h3, h4]
    rw [htd]
    have hset := rowI_set told p deep
    have hl2 : (todo.take k ++ (p : Int) :: todo.drop k).length = todo.length + 1 := by simp; omega
    have hg2 : (rowI (told.set p deep))[p]? = some (.val (.int .i64 deep)) := by rw [rowI_get, List.getElem?_set]; simp [hp]
    refine ⟨[], true, none, fun c h => (by cases h), ?_⟩
    unfold run9 at hsr hins ⊢
    rw [callW_fun code9 (extInsert 766) (rfl : code9 249 = some x249)]
    simp only [tellMem, hl2, List.length_set]
    generalize rowI (told.set p deep) = R1 at hset hg2 ⊢
    generalize rowI (todo.take k ++ (p : Int) :: todo.drop k) = R2 at hins ⊢
    have hok : (ok && true) = ok := by cases ok <;> rfl
    have hsa : setAll (rowI told) p [.val (.int .i64 deep)] = R1 := by rw [← hset]; rfl
    have hpr : p + 1 ≤ (rowI told).length := by omega
    cases ok
    · simp -implicitDefEqProofs [x249, hg, hpl, hp, hneg, hsr, hins, frz_flat, hsa, hpr, hg2]
    · simp -implicitDefEqProofs [x249, hg, hpl, hp, hneg, hsr, hins, frz_flat, hsa, hpr, hg2]
  · have htd : tellD ⟨told, todo, ok⟩ p deep = ⟨told, todo, ok && decide (v = deep)⟩ := by
      simp only [tellD, hv, hneg, if_false]
    rw [htd]
    refine ⟨junk, mvD, cap, hcap, ?_⟩
    unfold run9
    rw [callW_fun code9 (extInsert 766) (rfl : code9 249 = some x249)]
    simp only [tellMem]
    cases ok
    · simp -implicitDefEqProofs [x249, hg, hpl, hp, hneg]
    · by_cases he : v = deep
      · subst he; simp -implicitDefEqProofs [x249, hg, hpl, hp, hneg]
      · simp -implicitDefEqProofs [x249, hg, hpl, hp, hneg, he]
end Go.EX

