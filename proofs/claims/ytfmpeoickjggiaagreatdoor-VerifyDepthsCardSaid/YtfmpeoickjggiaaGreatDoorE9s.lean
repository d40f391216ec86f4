import Derived.Test.YtfmpeoickjggiaaGreatDoorE9r
import Derived.Test.YtfmpeoickjggiaaGreatDoorE9v
set_option maxRecDepth 4000
set_option maxHeartbeats 4000000
set_option linter.unusedVariables false
set_option linter.unusedSimpArgs false
namespace Go.EX
structure Hands (M : Mem) (l : List Nat) (M' : Mem) : Prop where
  ord : order 0 [0] M = l
  pick : M.pickAll l = M'
  closed : ∀ id ∈ l, ∀ j ∈ ((M[id]?).getD AObj.dead).refs, j ∈ l
  ok : shareOk M l = true
  all : ∀ id, id < M.length → id ∈ l ∨ ((M[id]?).getD AObj.dead).refs = []
  still : ((M[0]?).getD AObj.dead).moved = false
  zero : place l 0 = some 0
def Only0 (e : Env) : Prop := ∀ p ∈ e, ∀ id ∈ p.2.refs, id = 0
theorem only0_ren {f : Nat → Option Nat} (h0 : f 0 = some 0) : ∀ {e : Env}, Only0 e → e.ren f = e
  | [], _ => rfl
  | (n, v) :: r, h => by
    have h1 : v.ren f = v := ren_id fun id hid => by rw [h (n, v) (by simp) id hid]; exact h0
    simp only [Env.ren, h1, only0_ren h0 (e := r) fun p hp => h p (by simp [hp])]
theorem only0_cons {e : Env} {n : Nat} {v : AV} (h : Only0 e) (hv : ∀ id ∈ v.refs, id = 0) : Only0 ((n, v) :: e) := by
  intro p hp
  rcases List.mem_cons.1 hp with rfl | hp
  · exact hv
  · exact h p hp
section
variable {code : Nat → Option XFun} {ext : Calls'}
theorem hand_still {M M' : Mem} {l : List Nat} (hM : Hands M l M') {k g : Nat} {e : Env} (he : Only0 e) {r : AV} (hp : r.plain = true) (hc : callW code ext g [.optr 0 0] M' = some (r, M')) : exShare (callW code ext) ⟨k, e, M⟩ g [.optr 0 0] = some (r, ⟨k, e, M⟩) := by
  obtain ⟨f, h1, h2⟩ := share_still (call := callW code ext) (s := ⟨k, e, M⟩) (fn := g) (args := [.optr 0 0]) (r := r) (l := l) hM.ord
    (by rw [show AV.ren.renL (place l) [.optr 0 0] = [.optr 0 0] by simp only [AV.ren.renL, AV.ren, hM.zero], hM.pick]; exact hc) hp hM.closed hM.ok hM.all
  refine h1.trans ?_
  show some (r, St.mk k (Env.ren f e) M) = _
  rw [only0_ren (h2 0 hM.still) he]
theorem apart_still {M M' : Mem} {l : List Nat} (hM : Hands M l M') {g : Nat} (hc : callW code ext g [.optr 0 0] M' = some (.tup [], M')) (k d d' : Nat) (hd : d ≠ 0) (hd' : d' ≠ 0) :
    den code ext (.region [0] [⟨some d, .mv (.t 0), none⟩, ⟨some d', .call .share g [.t d], none⟩]) ⟨k, [(0, .optr 0 0)], M⟩ = some (.normal, ⟨k, [(0, .optr 0 0)], M⟩) := by
  have he : Only0 [(d, AV.optr 0 0), (0, AV.optr 0 0)] := by
    intro p hp; simp at hp; rcases hp with rfl | rfl <;> simp [AV.refs]
  have h := hand_still (k := k) hM he rfl hc
  simp [-exShare, h, hd, hd']
  intro h0; exact absurd h0.symm hd'
theorem look_block {M M' : Mem} {l : List Nat} (hM : Hands M l M') {g : Nat} (hc : callW code ext g [.optr 0 0] M' = some (avb true, M')) (k a b c d f : Nat) (hb : b ≠ 0) (hc0 : c ≠ 0) (hd0 : d ≠ 0) (hf0 : f ≠ 0) (hab : a ≠ b) (hac : a ≠ c) (hcb : b ≠ c) (hdf : d ≠ f) (e : Env) (he : Only0 e) (h0 : e.get 0 = .optr 0 0) (ha : e.get a = avb true) (rest : List XO) :
    ∃ e', Only0 e' ∧ e'.get 0 = .optr 0 0 ∧ e'.get f = avb true ∧ exOps (callW code ext) ⟨k, e, M⟩ (⟨some b, .mv (.t 0), some (a, true)⟩ :: ⟨some c, .call .share g [.t b], some (a, true)⟩ :: ⟨some d, .pick (.t a) (.t c) (.c (.bool false)), none⟩ :: ⟨some f, .mv (.t d), none⟩ :: rest) = exOps (callW code ext) ⟨k, e', M⟩ rest := by
  have he1 : Only0 ((b, AV.optr 0 0) :: e) := only0_cons he (by simp [AV.refs])
  have h := hand_still (k := k) hM he1 rfl hc
  refine ⟨(f, avb true) :: (d, avb true) :: (c, avb true) :: (b, .optr 0 0) :: e, only0_cons (only0_cons (only0_cons he1 (by simp [AV.refs])) (by simp [AV.refs])) (by simp [AV.refs]), ?_, by simp [Env.get], ?_⟩
  · simp [Env.get, Ne.symm hf0, Ne.symm hd0, Ne.symm hc0, Ne.symm hb, h0]
  · have hba := Ne.symm hab
    have hca := Ne.symm hac
    simp [-exShare, h, h0, ha, hab, hac, hba, hca, hcb, Ne.symm hcb, hdf, Ne.symm hdf]
theorem handsP0 (n : Nat) (m2 m3 : Bool) (v2 v3 : List Int) : Hands [.rich (bookI 2 (.osl 1 0 3 2 none)), .rich [.osl 2 0 1 n none, nilB, int64 1, .osl 3 0 1 n none, nilB, int64 2], .flat (rowI v2) m2, .flat (rowI v3) m3] [0, 1, 2, 3] [.rich (bookI 2 (.osl 1 0 3 2 none)), .rich [.osl 2 0 1 n none, nilB, int64 1, .osl 3 0 1 n none, nilB, int64 2], .flat (rowI v2) m2, .flat (rowI v3) m3] := by
  generalize rowI v2 = H0
  generalize rowI v3 = H1
  refine ⟨by simp -implicitDefEqProofs [bookI, nilB], by simp -implicitDefEqProofs [bookI, nilB], by simp [bookI, nilB, AObj.refs, AV.refs, AV.refs.refsL], by simp [bookI, nilB, shareOk, AObj.isFix, List.range_succ], ?_, rfl, by decide⟩
  intro id hid
  simp at hid ⊢
  omega
theorem handsP1 (n : Nat) (m2 m3 : Bool) : Hands [.rich (bookI 2 (.osl 1 0 3 2 none)), .rich [.osl 2 0 1 n none, nilB, int64 1, .osl 3 0 1 n none, nilB, int64 2], .flat (rowI (List.replicate (n) (-1001))) m2, .flat (rowI (List.replicate (n) (-1002))) m3] [0, 1, 2, 3] [.rich (bookI 2 (.osl 1 0 3 2 none)), .rich [.osl 2 0 1 n none, nilB, int64 1, .osl 3 0 1 n none, nilB, int64 2], .flat (rowI (List.replicate (n) (-1001))) m2, .flat (rowI (List.replicate (n) (-1002))) m3] := by
  generalize rowI (List.replicate (n) (-1001)) = H0
  generalize rowI (List.replicate (n) (-1002)) = H1
  refine ⟨by simp -implicitDefEqProofs [bookI, nilB], by simp -implicitDefEqProofs [bookI, nilB], by simp [bookI, nilB, AObj.refs, AV.refs, AV.refs.refsL], by simp [bookI, nilB, shareOk, AObj.isFix, List.range_succ], ?_, rfl, by decide⟩
  intro id hid
  simp at hid ⊢
  omega
theorem handsP2 (n : Nat) (m2 m3 : Bool) : Hands [.rich (bookI 2 (.osl 1 0 3 2 none)), .rich [.osl 2 0 1 n none, .osl 4 0 1 (n + 40) none, int64 1, .osl 3 0 1 n none, .osl 5 0 1 (n + 40) none, int64 2], .fix (rowI (List.replicate (n) (-1001))) m2 false, .fix (rowI (List.replicate (n) (-1002))) m3 false, .fix (rowI (List.replicate (n + 40) (-1001))) false true, .fix (rowI (List.replicate (n + 40) (-1002))) false true] [0, 1, 2, 4, 3, 5] [.rich (bookI 2 (.osl 1 0 3 2 none)), .rich [.osl 2 0 1 n none, .osl 3 0 1 (n + 40) none, int64 1, .osl 4 0 1 n none, .osl 5 0 1 (n + 40) none, int64 2], .fix (rowI (List.replicate (n) (-1001))) m2 false, .fix (rowI (List.replicate (n + 40) (-1001))) false true, .fix (rowI (List.replicate (n) (-1002))) m3 false, .fix (rowI (List.replicate (n + 40) (-1002))) false true] := by
  generalize rowI (List.replicate (n) (-1001)) = H0
  generalize rowI (List.replicate (n) (-1002)) = H1
  generalize rowI (List.replicate (n + 40) (-1001)) = H2
  generalize rowI (List.replicate (n + 40) (-1002)) = H3
  refine ⟨by simp -implicitDefEqProofs [bookI, nilB], by simp -implicitDefEqProofs [bookI, nilB], by simp [bookI, nilB, AObj.refs, AV.refs, AV.refs.refsL], by simp [bookI, nilB, shareOk, AObj.isFix, List.range_succ], ?_, rfl, by decide⟩
  intro id hid
  simp at hid ⊢
  omega
theorem apartP_fill (h : code 411 = some x411) (h25 : code 25 = some x25) (n : Nat) (m2 m3 : Bool) (v2 v3 : List Int) (hv2 : v2.length = n) (hv3 : v3.length = n) (hn : n ≤ 20000) (d d' : Nat) (hd : d ≠ 0) (hd' : d' ≠ 0) :
    den code ext (.region [0] [⟨some d, .mv (.t 0), none⟩, ⟨some d', .call .share 25 [.t d], none⟩]) ⟨4, [(0, .optr 0 0)], [.rich (bookI 2 (.osl 1 0 3 2 none)), .rich [.osl 2 0 1 n none, nilB, int64 1, .osl 3 0 1 n none, nilB, int64 2], .flat (rowI v2) m2, .flat (rowI v3) m3]⟩ = some (.normal, ⟨4, [(0, .optr 0 0)], [.rich (bookI 2 (.osl 1 0 3 2 none)), .rich [.osl 2 0 1 n none, nilB, int64 1, .osl 3 0 1 n none, nilB, int64 2], .flat (rowI (List.replicate (n) (-1001))) m2, .flat (rowI (List.replicate (n) (-1002))) m3]⟩) := by
  have hf := fillP_spec (ext := ext) h h25 n m2 m3 v2 v3 hv2 hv3 hn
  simp only [bookI, nilB] at hf
  generalize rowI v2 = H0 at *
  generalize rowI v3 = H1 at *
  generalize rowI (List.replicate (n) (-1001)) = H2 at *
  generalize rowI (List.replicate (n) (-1002)) = H3 at *
  simp -implicitDefEqProofs [hf, hd, hd', Ne.symm hd', bookI, nilB]
theorem apartP_grow (h : code 411 = some x411) (h45 : code 45 = some x45) (n : Nat) (m2 m3 : Bool) (hn : n ≤ 20000) (d d' : Nat) (hd : d ≠ 0) (hd' : d' ≠ 0) :
    den code ext (.region [0] [⟨some d, .mv (.t 0), none⟩, ⟨some d', .call .share 45 [.t d], none⟩]) ⟨4, [(0, .optr 0 0)], [.rich (bookI 2 (.osl 1 0 3 2 none)), .rich [.osl 2 0 1 n none, nilB, int64 1, .osl 3 0 1 n none, nilB, int64 2], .flat (rowI (List.replicate (n) (-1001))) m2, .flat (rowI (List.replicate (n) (-1002))) m3]⟩ = some (.normal, ⟨4, [(0, .optr 0 0)], [.rich (bookI 2 (.osl 1 0 3 2 none)), .rich [.osl 2 0 1 n none, .osl 4 0 1 (n + 40) none, int64 1, .osl 3 0 1 n none, .osl 5 0 1 (n + 40) none, int64 2], .fix (rowI (List.replicate (n) (-1001))) m2 false, .fix (rowI (List.replicate (n) (-1002))) m3 false, .fix (rowI (List.replicate (n + 40) (-1001))) false true, .fix (rowI (List.replicate (n + 40) (-1002))) false true]⟩) := by
  have hf := growP_spec (ext := ext) h h45 n m2 m3 hn
  simp only [bookI, nilB] at hf
  generalize rowI (List.replicate (n) (-1001)) = H0 at *
  generalize rowI (List.replicate (n) (-1002)) = H1 at *
  generalize rowI (List.replicate (n + 40) (-1001)) = H2 at *
  generalize rowI (List.replicate (n + 40) (-1002)) = H3 at *
  simp -implicitDefEqProofs [hf, hd, hd', Ne.symm hd', bookI, nilB]
theorem apartP_spec (h : ∀ g f, code9z g = some f → code g = some f) (n : Nat) (m2 m3 : Bool) (v2 v3 : List Int) (hv2 : v2.length = n) (hv3 : v3.length = n) (hn : n ≤ 20000) : ∃ mo : Mem, callW code ext 1 [.optr 0 0] [.rich (bookI 2 (.osl 1 0 3 2 none)), .rich [.osl 2 0 1 n none, nilB, int64 1, .osl 3 0 1 n none, nilB, int64 2], .flat (rowI v2) m2, .flat (rowI v3) m3] = some (avb true, mo) := by
  have H0 := handsP0 n m2 m3 v2 v3
  have H1 := handsP1 n m2 m3
  have H2 := handsP2 n m2 m3
  have w0 := fun d d' hd hd' => apartP_fill (ext := ext) (h 411 _ rfl) (h 25 _ rfl) n m2 m3 v2 v3 hv2 hv3 hn d d' hd hd'
  have w1 := fun d d' hd hd' => apartP_grow (ext := ext) (h 411 _ rfl) (h 45 _ rfl) n m2 m3 hn d d' hd hd'
  have hlk := lookP_spec (ext := ext) (h 391 _ rfl) (h 75 _ rfl) n m2 m3 hn
  rw [callW_fun code ext (h 1 _ rfl)]
  simp only [x1, enter, List.length_cons, List.length_nil]
  rw [den_seq, show den code ext (.region [0] [⟨some 2, .mv (.c (.bool false)), none⟩]) ⟨4, [(0, .optr 0 0)], [.rich (bookI 2 (.osl 1 0 3 2 none)), .rich [.osl 2 0 1 n none, nilB, int64 1, .osl 3 0 1 n none, nilB, int64 2], .flat (rowI v2) m2, .flat (rowI v3) m3]⟩ = some (.normal, ⟨4, [(0, .optr 0 0)], [.rich (bookI 2 (.osl 1 0 3 2 none)), .rich [.osl 2 0 1 n none, nilB, int64 1, .osl 3 0 1 n none, nilB, int64 2], .flat (rowI v2) m2, .flat (rowI v3) m3]⟩) by simp]
  simp only [andThen]
  rw [den_seq, w0 _ _ (by decide) (by decide)]
  simp only [andThen]
  rw [den_seq, apart_still H1 (nil_29 (h 29 x29 rfl) rfl) _ _ _ (by decide) (by decide)]
  simp only [andThen]
  rw [den_seq, apart_still H1 (nil_33 (h 33 x33 rfl) rfl) _ _ _ (by decide) (by decide)]
  simp only [andThen]
  rw [den_seq, apart_still H1 (nil_34 (h 34 x34 rfl) rfl) _ _ _ (by decide) (by decide)]
  simp only [andThen]
  rw [den_seq, apart_still H1 (nil_28 (h 28 x28 rfl) rfl) _ _ _ (by decide) (by decide)]
  simp only [andThen]
  rw [den_seq, apart_still H1 (nil_24 (h 24 x24 rfl) rfl) _ _ _ (by decide) (by decide)]
  simp only [andThen]
  rw [den_seq, apart_still H1 (nil_18 (h 18 x18 rfl) rfl) _ _ _ (by decide) (by decide)]
  simp only [andThen]
  rw [den_seq, apart_still H1 (nil_17 (h 17 x17 rfl) rfl) _ _ _ (by decide) (by decide)]
  simp only [andThen]
  rw [den_seq, apart_still H1 (nil_23 (h 23 x23 rfl) rfl) _ _ _ (by decide) (by decide)]
  simp only [andThen]
  rw [den_seq, apart_still H1 (nil_22 (h 22 x22 rfl) rfl) _ _ _ (by decide) (by decide)]
  simp only [andThen]
  rw [den_seq, apart_still H1 (nil_21 (h 21 x21 rfl) rfl) _ _ _ (by decide) (by decide)]
  simp only [andThen]
  rw [den_seq, apart_still H1 (nil_32 (h 32 x32 rfl) rfl) _ _ _ (by decide) (by decide)]
  simp only [andThen]
  rw [den_seq, apart_still H1 (nil_35 (h 35 x35 rfl) rfl) _ _ _ (by decide) (by decide)]
  simp only [andThen]
  rw [den_seq, apart_still H1 (nil_30 (h 30 x30 rfl) rfl) _ _ _ (by decide) (by decide)]
  simp only [andThen]
  rw [den_seq, apart_still H1 (nil_26 (h 26 x26 rfl) rfl) _ _ _ (by decide) (by decide)]
  simp only [andThen]
  rw [den_seq, apart_still H1 (nil_20 (h 20 x20 rfl) rfl) _ _ _ (by decide) (by decide)]
  simp only [andThen]
  rw [den_seq, apart_still H1 (nil_19 (h 19 x19 rfl) rfl) _ _ _ (by decide) (by decide)]
  simp only [andThen]
  rw [den_seq, apart_still H1 (nil_27 (h 27 x27 rfl) rfl) _ _ _ (by decide) (by decide)]
  simp only [andThen]
  rw [den_seq, apart_still H1 (nil_16 (h 16 x16 rfl) rfl) _ _ _ (by decide) (by decide)]
  simp only [andThen]
  rw [den_seq, apart_still H1 (nil_31 (h 31 x31 rfl) rfl) _ _ _ (by decide) (by decide)]
  simp only [andThen]
  rw [den_seq, w1 _ _ (by decide) (by decide)]
  simp only [andThen]
  rw [den_seq, apart_still H2 (nil_49 (h 49 x49 rfl) rfl) _ _ _ (by decide) (by decide)]
  simp only [andThen]
  rw [den_seq, apart_still H2 (nil_53 (h 53 x53 rfl) rfl) _ _ _ (by decide) (by decide)]
  simp only [andThen]
  rw [den_seq, apart_still H2 (nil_54 (h 54 x54 rfl) rfl) _ _ _ (by decide) (by decide)]
  simp only [andThen]
  rw [den_seq, apart_still H2 (nil_48 (h 48 x48 rfl) rfl) _ _ _ (by decide) (by decide)]
  simp only [andThen]
  rw [den_seq, apart_still H2 (nil_44 (h 44 x44 rfl) rfl) _ _ _ (by decide) (by decide)]
  simp only [andThen]
  rw [den_seq, apart_still H2 (nil_38 (h 38 x38 rfl) rfl) _ _ _ (by decide) (by decide)]
  simp only [andThen]
  rw [den_seq, apart_still H2 (nil_37 (h 37 x37 rfl) rfl) _ _ _ (by decide) (by decide)]
  simp only [andThen]
  rw [den_seq, apart_still H2 (nil_43 (h 43 x43 rfl) rfl) _ _ _ (by decide) (by decide)]
  simp only [andThen]
  rw [den_seq, apart_still H2 (nil_42 (h 42 x42 rfl) rfl) _ _ _ (by decide) (by decide)]
  simp only [andThen]
  rw [den_seq, apart_still H2 (nil_41 (h 41 x41 rfl) rfl) _ _ _ (by decide) (by decide)]
  simp only [andThen]
  rw [den_seq, apart_still H2 (nil_52 (h 52 x52 rfl) rfl) _ _ _ (by decide) (by decide)]
  simp only [andThen]
  rw [den_seq, apart_still H2 (nil_55 (h 55 x55 rfl) rfl) _ _ _ (by decide) (by decide)]
  simp only [andThen]
  rw [den_seq, apart_still H2 (nil_50 (h 50 x50 rfl) rfl) _ _ _ (by decide) (by decide)]
  simp only [andThen]
  rw [den_seq, apart_still H2 (nil_46 (h 46 x46 rfl) rfl) _ _ _ (by decide) (by decide)]
  simp only [andThen]
  rw [den_seq, apart_still H2 (nil_40 (h 40 x40 rfl) rfl) _ _ _ (by decide) (by decide)]
  simp only [andThen]
  rw [den_seq, apart_still H2 (nil_39 (h 39 x39 rfl) rfl) _ _ _ (by decide) (by decide)]
  simp only [andThen]
  rw [den_seq, apart_still H2 (nil_47 (h 47 x47 rfl) rfl) _ _ _ (by decide) (by decide)]
  simp only [andThen]
  rw [den_seq, apart_still H2 (nil_36 (h 36 x36 rfl) rfl) _ _ _ (by decide) (by decide)]
  simp only [andThen]
  rw [den_seq, apart_still H2 (nil_51 (h 51 x51 rfl) rfl) _ _ _ (by decide) (by decide)]
  simp only [andThen]
  rw [den_seq, den_region]
  have b0 : exOps (callW code ext) ⟨4, [(0, .optr 0 0)], [.rich (bookI 2 (.osl 1 0 3 2 none)), .rich [.osl 2 0 1 n none, .osl 4 0 1 (n + 40) none, int64 1, .osl 3 0 1 n none, .osl 5 0 1 (n + 40) none, int64 2], .fix (rowI (List.replicate (n) (-1001))) m2 false, .fix (rowI (List.replicate (n) (-1002))) m3 false, .fix (rowI (List.replicate (n + 40) (-1001))) false true, .fix (rowI (List.replicate (n + 40) (-1002))) false true]⟩ [⟨some 83, .mv (.t 0), none⟩, ⟨some 84, .call .share 75 [.t 83], none⟩, ⟨some 85, .mv (.t 84), none⟩] = some ⟨4, [(85, avb true), (84, avb true), (83, .optr 0 0), (0, .optr 0 0)], [.rich (bookI 2 (.osl 1 0 3 2 none)), .rich [.osl 2 0 1 n none, .osl 4 0 1 (n + 40) none, int64 1, .osl 3 0 1 n none, .osl 5 0 1 (n + 40) none, int64 2], .fix (rowI (List.replicate (n) (-1001))) m2 false, .fix (rowI (List.replicate (n) (-1002))) m3 false, .fix (rowI (List.replicate (n + 40) (-1001))) false true, .fix (rowI (List.replicate (n + 40) (-1002))) false true]⟩ := by
    have hh := hand_still (code := code) (ext := ext) (k := 4) H2 (e := [(83, .optr 0 0), (0, .optr 0 0)]) (by intro p hp; simp at hp; rcases hp with rfl | rfl <;> simp [AV.refs]) (r := avb true) rfl hlk
    simp [-exShare, hh]
  have app : ∀ (xs ys : List XO) (s s' : St), exOps (callW code ext) s xs = some s' → exOps (callW code ext) s (xs ++ ys) = exOps (callW code ext) s' ys := by
    intro xs
    induction xs with
    | nil => intro ys s s' h; cases h; rfl
    | cons x r ih =>
      intro ys s s' h
      simp only [List.cons_append, exOps] at h ⊢
      cases hx : exOne (callW code ext) s x with
      | none => rw [hx] at h; cases h
      | some t => rw [hx] at h; exact ih ys t s' h
  have a0 := app _ [⟨some 86, .mv (.t 0), some (85, true)⟩, ⟨some 87, .call .share 79 [.t 86], some (85, true)⟩, ⟨some 88, .pick (.t 85) (.t 87) (.c (.bool false)), none⟩, ⟨some 89, .mv (.t 88), none⟩, ⟨some 90, .mv (.t 0), some (89, true)⟩, ⟨some 91, .call .share 83 [.t 90], some (89, true)⟩, ⟨some 92, .pick (.t 89) (.t 91) (.c (.bool false)), none⟩, ⟨some 93, .mv (.t 92), none⟩, ⟨some 94, .mv (.t 0), some (93, true)⟩, ⟨some 95, .call .share 84 [.t 94], some (93, true)⟩, ⟨some 96, .pick (.t 93) (.t 95) (.c (.bool false)), none⟩, ⟨some 97, .mv (.t 96), none⟩, ⟨some 98, .mv (.t 0), some (97, true)⟩, ⟨some 99, .call .share 78 [.t 98], some (97, true)⟩, ⟨some 100, .pick (.t 97) (.t 99) (.c (.bool false)), none⟩, ⟨some 101, .mv (.t 100), none⟩, ⟨some 102, .mv (.t 0), some (101, true)⟩, ⟨some 103, .call .share 74 [.t 102], some (101, true)⟩, ⟨some 104, .pick (.t 101) (.t 103) (.c (.bool false)), none⟩, ⟨some 105, .mv (.t 104), none⟩, ⟨some 106, .mv (.t 0), some (105, true)⟩, ⟨some 107, .call .share 68 [.t 106], some (105, true)⟩, ⟨some 108, .pick (.t 105) (.t 107) (.c (.bool false)), none⟩, ⟨some 109, .mv (.t 108), none⟩, ⟨some 110, .mv (.t 0), some (109, true)⟩, ⟨some 111, .call .share 67 [.t 110], some (109, true)⟩, ⟨some 112, .pick (.t 109) (.t 111) (.c (.bool false)), none⟩, ⟨some 113, .mv (.t 112), none⟩, ⟨some 114, .mv (.t 0), some (113, true)⟩, ⟨some 115, .call .share 73 [.t 114], some (113, true)⟩, ⟨some 116, .pick (.t 113) (.t 115) (.c (.bool false)), none⟩, ⟨some 117, .mv (.t 116), none⟩, ⟨some 118, .mv (.t 0), some (117, true)⟩, ⟨some 119, .call .share 72 [.t 118], some (117, true)⟩, ⟨some 120, .pick (.t 117) (.t 119) (.c (.bool false)), none⟩, ⟨some 121, .mv (.t 120), none⟩, ⟨some 122, .mv (.t 0), some (121, true)⟩, ⟨some 123, .call .share 71 [.t 122], some (121, true)⟩, ⟨some 124, .pick (.t 121) (.t 123) (.c (.bool false)), none⟩, ⟨some 125, .mv (.t 124), none⟩, ⟨some 126, .mv (.t 0), some (125, true)⟩, ⟨some 127, .call .share 82 [.t 126], some (125, true)⟩, ⟨some 128, .pick (.t 125) (.t 127) (.c (.bool false)), none⟩, ⟨some 129, .mv (.t 128), none⟩, ⟨some 130, .mv (.t 0), some (129, true)⟩, ⟨some 131, .call .share 85 [.t 130], some (129, true)⟩, ⟨some 132, .pick (.t 129) (.t 131) (.c (.bool false)), none⟩, ⟨some 133, .mv (.t 132), none⟩, ⟨some 134, .mv (.t 0), some (133, true)⟩, ⟨some 135, .call .share 80 [.t 134], some (133, true)⟩, ⟨some 136, .pick (.t 133) (.t 135) (.c (.bool false)), none⟩, ⟨some 137, .mv (.t 136), none⟩, ⟨some 138, .mv (.t 0), some (137, true)⟩, ⟨some 139, .call .share 76 [.t 138], some (137, true)⟩, ⟨some 140, .pick (.t 137) (.t 139) (.c (.bool false)), none⟩, ⟨some 141, .mv (.t 140), none⟩, ⟨some 142, .mv (.t 0), some (141, true)⟩, ⟨some 143, .call .share 70 [.t 142], some (141, true)⟩, ⟨some 144, .pick (.t 141) (.t 143) (.c (.bool false)), none⟩, ⟨some 145, .mv (.t 144), none⟩, ⟨some 146, .mv (.t 0), some (145, true)⟩, ⟨some 147, .call .share 69 [.t 146], some (145, true)⟩, ⟨some 148, .pick (.t 145) (.t 147) (.c (.bool false)), none⟩, ⟨some 149, .mv (.t 148), none⟩, ⟨some 150, .mv (.t 0), some (149, true)⟩, ⟨some 151, .call .share 77 [.t 150], some (149, true)⟩, ⟨some 152, .pick (.t 149) (.t 151) (.c (.bool false)), none⟩, ⟨some 153, .mv (.t 152), none⟩, ⟨some 154, .mv (.t 0), some (153, true)⟩, ⟨some 155, .call .share 66 [.t 154], some (153, true)⟩, ⟨some 156, .pick (.t 153) (.t 155) (.c (.bool false)), none⟩, ⟨some 157, .mv (.t 156), none⟩, ⟨some 158, .mv (.t 0), some (157, true)⟩, ⟨some 159, .call .share 81 [.t 158], some (157, true)⟩, ⟨some 160, .pick (.t 157) (.t 159) (.c (.bool false)), none⟩, ⟨some 2, .mv (.t 160), none⟩] _ _ b0
  simp only [List.cons_append, List.nil_append] at a0
  rw [a0]
  have p0 : Only0 [(85, avb true), (84, avb true), (83, AV.optr 0 0), (0, AV.optr 0 0)] := by intro p hp; simp at hp; rcases hp with rfl | rfl | rfl | rfl <;> simp [AV.refs]
  have q0 : Env.get [(85, avb true), (84, avb true), (83, AV.optr 0 0), (0, AV.optr 0 0)] 0 = .optr 0 0 := by simp
  have r0 : Env.get [(85, avb true), (84, avb true), (83, AV.optr 0 0), (0, AV.optr 0 0)] 85 = avb true := by simp
  obtain ⟨e1, p1, q1, r1, s1⟩ := look_block (code := code) (ext := ext) H2 (nil_79 (h 79 x79 rfl) rfl) 4 85 86 87 88 89 (by decide) (by decide) (by decide) (by decide) (by decide) (by decide) (by decide) (by decide) _ p0 q0 r0 _
  rw [s1]
  obtain ⟨e2, p2, q2, r2, s2⟩ := look_block (code := code) (ext := ext) H2 (nil_83 (h 83 x83 rfl) rfl) 4 89 90 91 92 93 (by decide) (by decide) (by decide) (by decide) (by decide) (by decide) (by decide) (by decide) _ p1 q1 r1 _
  rw [s2]
  obtain ⟨e3, p3, q3, r3, s3⟩ := look_block (code := code) (ext := ext) H2 (nil_84 (h 84 x84 rfl) rfl) 4 93 94 95 96 97 (by decide) (by decide) (by decide) (by decide) (by decide) (by decide) (by decide) (by decide) _ p2 q2 r2 _
  rw [s3]
  obtain ⟨e4, p4, q4, r4, s4⟩ := look_block (code := code) (ext := ext) H2 (nil_78 (h 78 x78 rfl) rfl) 4 97 98 99 100 101 (by decide) (by decide) (by decide) (by decide) (by decide) (by decide) (by decide) (by decide) _ p3 q3 r3 _
  rw [s4]
  obtain ⟨e5, p5, q5, r5, s5⟩ := look_block (code := code) (ext := ext) H2 (nil_74 (h 74 x74 rfl) rfl) 4 101 102 103 104 105 (by decide) (by decide) (by decide) (by decide) (by decide) (by decide) (by decide) (by decide) _ p4 q4 r4 _
  rw [s5]
  obtain ⟨e6, p6, q6, r6, s6⟩ := look_block (code := code) (ext := ext) H2 (nil_68 (h 68 x68 rfl) rfl) 4 105 106 107 108 109 (by decide) (by decide) (by decide) (by decide) (by decide) (by decide) (by decide) (by decide) _ p5 q5 r5 _
  rw [s6]
  obtain ⟨e7, p7, q7, r7, s7⟩ := look_block (code := code) (ext := ext) H2 (nil_67 (h 67 x67 rfl) rfl) 4 109 110 111 112 113 (by decide) (by decide) (by decide) (by decide) (by decide) (by decide) (by decide) (by decide) _ p6 q6 r6 _
  rw [s7]
  obtain ⟨e8, p8, q8, r8, s8⟩ := look_block (code := code) (ext := ext) H2 (nil_73 (h 73 x73 rfl) rfl) 4 113 114 115 116 117 (by decide) (by decide) (by decide) (by decide) (by decide) (by decide) (by decide) (by decide) _ p7 q7 r7 _
  rw [s8]
  obtain ⟨e9, p9, q9, r9, s9⟩ := look_block (code := code) (ext := ext) H2 (nil_72 (h 72 x72 rfl) rfl) 4 117 118 119 120 121 (by decide) (by decide) (by decide) (by decide) (by decide) (by decide) (by decide) (by decide) _ p8 q8 r8 _
  rw [s9]
  obtain ⟨e10, p10, q10, r10, s10⟩ := look_block (code := code) (ext := ext) H2 (nil_71 (h 71 x71 rfl) rfl) 4 121 122 123 124 125 (by decide) (by decide) (by decide) (by decide) (by decide) (by decide) (by decide) (by decide) _ p9 q9 r9 _
  rw [s10]
  obtain ⟨e11, p11, q11, r11, s11⟩ := look_block (code := code) (ext := ext) H2 (nil_82 (h 82 x82 rfl) rfl) 4 125 126 127 128 129 (by decide) (by decide) (by decide) (by decide) (by decide) (by decide) (by decide) (by decide) _ p10 q10 r10 _
  rw [s11]
  obtain ⟨e12, p12, q12, r12, s12⟩ := look_block (code := code) (ext := ext) H2 (nil_85 (h 85 x85 rfl) rfl) 4 129 130 131 132 133 (by decide) (by decide) (by decide) (by decide) (by decide) (by decide) (by decide) (by decide) _ p11 q11 r11 _
  rw [s12]
  obtain ⟨e13, p13, q13, r13, s13⟩ := look_block (code := code) (ext := ext) H2 (nil_80 (h 80 x80 rfl) rfl) 4 133 134 135 136 137 (by decide) (by decide) (by decide) (by decide) (by decide) (by decide) (by decide) (by decide) _ p12 q12 r12 _
  rw [s13]
  obtain ⟨e14, p14, q14, r14, s14⟩ := look_block (code := code) (ext := ext) H2 (nil_76 (h 76 x76 rfl) rfl) 4 137 138 139 140 141 (by decide) (by decide) (by decide) (by decide) (by decide) (by decide) (by decide) (by decide) _ p13 q13 r13 _
  rw [s14]
  obtain ⟨e15, p15, q15, r15, s15⟩ := look_block (code := code) (ext := ext) H2 (nil_70 (h 70 x70 rfl) rfl) 4 141 142 143 144 145 (by decide) (by decide) (by decide) (by decide) (by decide) (by decide) (by decide) (by decide) _ p14 q14 r14 _
  rw [s15]
  obtain ⟨e16, p16, q16, r16, s16⟩ := look_block (code := code) (ext := ext) H2 (nil_69 (h 69 x69 rfl) rfl) 4 145 146 147 148 149 (by decide) (by decide) (by decide) (by decide) (by decide) (by decide) (by decide) (by decide) _ p15 q15 r15 _
  rw [s16]
  obtain ⟨e17, p17, q17, r17, s17⟩ := look_block (code := code) (ext := ext) H2 (nil_77 (h 77 x77 rfl) rfl) 4 149 150 151 152 153 (by decide) (by decide) (by decide) (by decide) (by decide) (by decide) (by decide) (by decide) _ p16 q16 r16 _
  rw [s17]
  obtain ⟨e18, p18, q18, r18, s18⟩ := look_block (code := code) (ext := ext) H2 (nil_66 (h 66 x66 rfl) rfl) 4 153 154 155 156 157 (by decide) (by decide) (by decide) (by decide) (by decide) (by decide) (by decide) (by decide) _ p17 q17 r17 _
  rw [s18]
  obtain ⟨e19, p19, q19, r19, s19⟩ := look_block (code := code) (ext := ext) H2 (nil_81 (h 81 x81 rfl) rfl) 4 157 158 159 160 2 (by decide) (by decide) (by decide) (by decide) (by decide) (by decide) (by decide) (by decide) _ p18 q18 r18 _
  rw [s19]
  simp only [exOps, Option.map_some, andThen, den_ret, funOut, leave, resOf, List.mapM_cons, List.mapM_nil, Env.keep, List.map_cons, List.map_nil, Env.get, r19, if_true]
  exact ⟨_, rfl⟩
theorem handsZ0   : Hands [.rich (bookI 2 (.osl 1 0 3 2 none)), .rich [nilB, nilB, int64 1, nilB, nilB, int64 2]] [0, 1] [.rich (bookI 2 (.osl 1 0 3 2 none)), .rich [nilB, nilB, int64 1, nilB, nilB, int64 2]] := by
  refine ⟨by simp -implicitDefEqProofs [bookI, nilB], by simp -implicitDefEqProofs [bookI, nilB], by simp [bookI, nilB, AObj.refs, AV.refs, AV.refs.refsL], by simp [bookI, nilB, shareOk, AObj.isFix, List.range_succ], ?_, rfl, by decide⟩
  intro id hid
  simp at hid ⊢
  omega
theorem handsZ2 (q : Nat) : Hands [.rich (bookI 2 (.osl 1 0 3 2 none)), .rich [nilB, .osl 2 0 1 q none, int64 1, nilB, .osl 3 0 1 q none, int64 2], .fix (rowI (List.replicate (q) (-1001))) false true, .fix (rowI (List.replicate (q) (-1002))) false true] [0, 1, 2, 3] [.rich (bookI 2 (.osl 1 0 3 2 none)), .rich [nilB, .osl 2 0 1 q none, int64 1, nilB, .osl 3 0 1 q none, int64 2], .fix (rowI (List.replicate (q) (-1001))) false true, .fix (rowI (List.replicate (q) (-1002))) false true] := by
  generalize rowI (List.replicate (q) (-1001)) = H0
  generalize rowI (List.replicate (q) (-1002)) = H1
  refine ⟨by simp -implicitDefEqProofs [bookI, nilB], by simp -implicitDefEqProofs [bookI, nilB], by simp [bookI, nilB, AObj.refs, AV.refs, AV.refs.refsL], by simp [bookI, nilB, shareOk, AObj.isFix, List.range_succ], ?_, rfl, by decide⟩
  intro id hid
  simp at hid ⊢
  omega
theorem apartZ_fill (h25 : code 25 = some x25)     (d d' : Nat) (hd : d ≠ 0) (hd' : d' ≠ 0) :
    den code ext (.region [0] [⟨some d, .mv (.t 0), none⟩, ⟨some d', .call .share 25 [.t d], none⟩]) ⟨2, [(0, .optr 0 0)], [.rich (bookI 2 (.osl 1 0 3 2 none)), .rich [nilB, nilB, int64 1, nilB, nilB, int64 2]]⟩ = some (.normal, ⟨2, [(0, .optr 0 0)], [.rich (bookI 2 (.osl 1 0 3 2 none)), .rich [nilB, nilB, int64 1, nilB, nilB, int64 2]]⟩) := by
  have hf := fillZ_spec (ext := ext) h25
  simp only [bookI, nilB] at hf
  simp -implicitDefEqProofs [hf, hd, hd', Ne.symm hd', bookI, nilB]
theorem apartZ_grow (h : code 411 = some x411) (h45 : code 45 = some x45)   (d d' : Nat) (hd : d ≠ 0) (hd' : d' ≠ 0) (q : Nat) (hq : q = 40) :
    den code ext (.region [0] [⟨some d, .mv (.t 0), none⟩, ⟨some d', .call .share 45 [.t d], none⟩]) ⟨2, [(0, .optr 0 0)], [.rich (bookI 2 (.osl 1 0 3 2 none)), .rich [nilB, nilB, int64 1, nilB, nilB, int64 2]]⟩ = some (.normal, ⟨2, [(0, .optr 0 0)], [.rich (bookI 2 (.osl 1 0 3 2 none)), .rich [nilB, .osl 2 0 1 q none, int64 1, nilB, .osl 3 0 1 q none, int64 2], .fix (rowI (List.replicate (q) (-1001))) false true, .fix (rowI (List.replicate (q) (-1002))) false true]⟩) := by
  subst hq
  have hf := growZ_spec (ext := ext) h h45
  simp only [bookI, nilB] at hf
  generalize rowI (List.replicate (40) (-1001)) = H0 at *
  generalize rowI (List.replicate (40) (-1002)) = H1 at *
  simp -implicitDefEqProofs [hf, hd, hd', Ne.symm hd', bookI, nilB]
theorem apartZ_spec (h : ∀ g f, code9z g = some f → code g = some f)     : ∃ mo : Mem, callW code ext 1 [.optr 0 0] [.rich (bookI 2 (.osl 1 0 3 2 none)), .rich [nilB, nilB, int64 1, nilB, nilB, int64 2]] = some (avb true, mo) := by
  obtain ⟨q, hq⟩ : ∃ q : Nat, q = 40 := ⟨40, rfl⟩
  have H0 := handsZ0
  have H1 := handsZ0
  have H2 := handsZ2 q
  have w0 := fun d d' hd hd' => apartZ_fill (ext := ext) (h 25 _ rfl)     d d' hd hd'
  have w1 := fun d d' hd hd' => apartZ_grow (ext := ext) (h 411 _ rfl) (h 45 _ rfl)   d d' hd hd' q hq
  have hlk := lookZ_spec (ext := ext) (h 391 _ rfl) (h 75 _ rfl)   q hq
  rw [callW_fun code ext (h 1 _ rfl)]
  simp only [x1, enter, List.length_cons, List.length_nil]
  rw [den_seq, show den code ext (.region [0] [⟨some 2, .mv (.c (.bool false)), none⟩]) ⟨2, [(0, .optr 0 0)], [.rich (bookI 2 (.osl 1 0 3 2 none)), .rich [nilB, nilB, int64 1, nilB, nilB, int64 2]]⟩ = some (.normal, ⟨2, [(0, .optr 0 0)], [.rich (bookI 2 (.osl 1 0 3 2 none)), .rich [nilB, nilB, int64 1, nilB, nilB, int64 2]]⟩) by simp]
  simp only [andThen]
  rw [den_seq, w0 _ _ (by decide) (by decide)]
  simp only [andThen]
  rw [den_seq, apart_still H1 (nil_29 (h 29 x29 rfl) rfl) _ _ _ (by decide) (by decide)]
  simp only [andThen]
  rw [den_seq, apart_still H1 (nil_33 (h 33 x33 rfl) rfl) _ _ _ (by decide) (by decide)]
  simp only [andThen]
  rw [den_seq, apart_still H1 (nil_34 (h 34 x34 rfl) rfl) _ _ _ (by decide) (by decide)]
  simp only [andThen]
  rw [den_seq, apart_still H1 (nil_28 (h 28 x28 rfl) rfl) _ _ _ (by decide) (by decide)]
  simp only [andThen]
  rw [den_seq, apart_still H1 (nil_24 (h 24 x24 rfl) rfl) _ _ _ (by decide) (by decide)]
  simp only [andThen]
  rw [den_seq, apart_still H1 (nil_18 (h 18 x18 rfl) rfl) _ _ _ (by decide) (by decide)]
  simp only [andThen]
  rw [den_seq, apart_still H1 (nil_17 (h 17 x17 rfl) rfl) _ _ _ (by decide) (by decide)]
  simp only [andThen]
  rw [den_seq, apart_still H1 (nil_23 (h 23 x23 rfl) rfl) _ _ _ (by decide) (by decide)]
  simp only [andThen]
  rw [den_seq, apart_still H1 (nil_22 (h 22 x22 rfl) rfl) _ _ _ (by decide) (by decide)]
  simp only [andThen]
  rw [den_seq, apart_still H1 (nil_21 (h 21 x21 rfl) rfl) _ _ _ (by decide) (by decide)]
  simp only [andThen]
  rw [den_seq, apart_still H1 (nil_32 (h 32 x32 rfl) rfl) _ _ _ (by decide) (by decide)]
  simp only [andThen]
  rw [den_seq, apart_still H1 (nil_35 (h 35 x35 rfl) rfl) _ _ _ (by decide) (by decide)]
  simp only [andThen]
  rw [den_seq, apart_still H1 (nil_30 (h 30 x30 rfl) rfl) _ _ _ (by decide) (by decide)]
  simp only [andThen]
  rw [den_seq, apart_still H1 (nil_26 (h 26 x26 rfl) rfl) _ _ _ (by decide) (by decide)]
  simp only [andThen]
  rw [den_seq, apart_still H1 (nil_20 (h 20 x20 rfl) rfl) _ _ _ (by decide) (by decide)]
  simp only [andThen]
  rw [den_seq, apart_still H1 (nil_19 (h 19 x19 rfl) rfl) _ _ _ (by decide) (by decide)]
  simp only [andThen]
  rw [den_seq, apart_still H1 (nil_27 (h 27 x27 rfl) rfl) _ _ _ (by decide) (by decide)]
  simp only [andThen]
  rw [den_seq, apart_still H1 (nil_16 (h 16 x16 rfl) rfl) _ _ _ (by decide) (by decide)]
  simp only [andThen]
  rw [den_seq, apart_still H1 (nil_31 (h 31 x31 rfl) rfl) _ _ _ (by decide) (by decide)]
  simp only [andThen]
  rw [den_seq, w1 _ _ (by decide) (by decide)]
  simp only [andThen]
  rw [den_seq, apart_still H2 (nil_49 (h 49 x49 rfl) rfl) _ _ _ (by decide) (by decide)]
  simp only [andThen]
  rw [den_seq, apart_still H2 (nil_53 (h 53 x53 rfl) rfl) _ _ _ (by decide) (by decide)]
  simp only [andThen]
  rw [den_seq, apart_still H2 (nil_54 (h 54 x54 rfl) rfl) _ _ _ (by decide) (by decide)]
  simp only [andThen]
  rw [den_seq, apart_still H2 (nil_48 (h 48 x48 rfl) rfl) _ _ _ (by decide) (by decide)]
  simp only [andThen]
  rw [den_seq, apart_still H2 (nil_44 (h 44 x44 rfl) rfl) _ _ _ (by decide) (by decide)]
  simp only [andThen]
  rw [den_seq, apart_still H2 (nil_38 (h 38 x38 rfl) rfl) _ _ _ (by decide) (by decide)]
  simp only [andThen]
  rw [den_seq, apart_still H2 (nil_37 (h 37 x37 rfl) rfl) _ _ _ (by decide) (by decide)]
  simp only [andThen]
  rw [den_seq, apart_still H2 (nil_43 (h 43 x43 rfl) rfl) _ _ _ (by decide) (by decide)]
  simp only [andThen]
  rw [den_seq, apart_still H2 (nil_42 (h 42 x42 rfl) rfl) _ _ _ (by decide) (by decide)]
  simp only [andThen]
  rw [den_seq, apart_still H2 (nil_41 (h 41 x41 rfl) rfl) _ _ _ (by decide) (by decide)]
  simp only [andThen]
  rw [den_seq, apart_still H2 (nil_52 (h 52 x52 rfl) rfl) _ _ _ (by decide) (by decide)]
  simp only [andThen]
  rw [den_seq, apart_still H2 (nil_55 (h 55 x55 rfl) rfl) _ _ _ (by decide) (by decide)]
  simp only [andThen]
  rw [den_seq, apart_still H2 (nil_50 (h 50 x50 rfl) rfl) _ _ _ (by decide) (by decide)]
  simp only [andThen]
  rw [den_seq, apart_still H2 (nil_46 (h 46 x46 rfl) rfl) _ _ _ (by decide) (by decide)]
  simp only [andThen]
  rw [den_seq, apart_still H2 (nil_40 (h 40 x40 rfl) rfl) _ _ _ (by decide) (by decide)]
  simp only [andThen]
  rw [den_seq, apart_still H2 (nil_39 (h 39 x39 rfl) rfl) _ _ _ (by decide) (by decide)]
  simp only [andThen]
  rw [den_seq, apart_still H2 (nil_47 (h 47 x47 rfl) rfl) _ _ _ (by decide) (by decide)]
  simp only [andThen]
  rw [den_seq, apart_still H2 (nil_36 (h 36 x36 rfl) rfl) _ _ _ (by decide) (by decide)]
  simp only [andThen]
  rw [den_seq, apart_still H2 (nil_51 (h 51 x51 rfl) rfl) _ _ _ (by decide) (by decide)]
  simp only [andThen]
  rw [den_seq, den_region]
  have b0 : exOps (callW code ext) ⟨2, [(0, .optr 0 0)], [.rich (bookI 2 (.osl 1 0 3 2 none)), .rich [nilB, .osl 2 0 1 q none, int64 1, nilB, .osl 3 0 1 q none, int64 2], .fix (rowI (List.replicate (q) (-1001))) false true, .fix (rowI (List.replicate (q) (-1002))) false true]⟩ [⟨some 83, .mv (.t 0), none⟩, ⟨some 84, .call .share 75 [.t 83], none⟩, ⟨some 85, .mv (.t 84), none⟩] = some ⟨2, [(85, avb true), (84, avb true), (83, .optr 0 0), (0, .optr 0 0)], [.rich (bookI 2 (.osl 1 0 3 2 none)), .rich [nilB, .osl 2 0 1 q none, int64 1, nilB, .osl 3 0 1 q none, int64 2], .fix (rowI (List.replicate (q) (-1001))) false true, .fix (rowI (List.replicate (q) (-1002))) false true]⟩ := by
    have hh := hand_still (code := code) (ext := ext) (k := 2) H2 (e := [(83, .optr 0 0), (0, .optr 0 0)]) (by intro p hp; simp at hp; rcases hp with rfl | rfl <;> simp [AV.refs]) (r := avb true) rfl hlk
    simp [-exShare, hh]
  have app : ∀ (xs ys : List XO) (s s' : St), exOps (callW code ext) s xs = some s' → exOps (callW code ext) s (xs ++ ys) = exOps (callW code ext) s' ys := by
    intro xs
    induction xs with
    | nil => intro ys s s' h; cases h; rfl
    | cons x r ih =>
      intro ys s s' h
      simp only [List.cons_append, exOps] at h ⊢
      cases hx : exOne (callW code ext) s x with
      | none => rw [hx] at h; cases h
      | some t => rw [hx] at h; exact ih ys t s' h
  have a0 := app _ [⟨some 86, .mv (.t 0), some (85, true)⟩, ⟨some 87, .call .share 79 [.t 86], some (85, true)⟩, ⟨some 88, .pick (.t 85) (.t 87) (.c (.bool false)), none⟩, ⟨some 89, .mv (.t 88), none⟩, ⟨some 90, .mv (.t 0), some (89, true)⟩, ⟨some 91, .call .share 83 [.t 90], some (89, true)⟩, ⟨some 92, .pick (.t 89) (.t 91) (.c (.bool false)), none⟩, ⟨some 93, .mv (.t 92), none⟩, ⟨some 94, .mv (.t 0), some (93, true)⟩, ⟨some 95, .call .share 84 [.t 94], some (93, true)⟩, ⟨some 96, .pick (.t 93) (.t 95) (.c (.bool false)), none⟩, ⟨some 97, .mv (.t 96), none⟩, ⟨some 98, .mv (.t 0), some (97, true)⟩, ⟨some 99, .call .share 78 [.t 98], some (97, true)⟩, ⟨some 100, .pick (.t 97) (.t 99) (.c (.bool false)), none⟩, ⟨some 101, .mv (.t 100), none⟩, ⟨some 102, .mv (.t 0), some (101, true)⟩, ⟨some 103, .call .share 74 [.t 102], some (101, true)⟩, ⟨some 104, .pick (.t 101) (.t 103) (.c (.bool false)), none⟩, ⟨some 105, .mv (.t 104), none⟩, ⟨some 106, .mv (.t 0), some (105, true)⟩, ⟨some 107, .call .share 68 [.t 106], some (105, true)⟩, ⟨some 108, .pick (.t 105) (.t 107) (.c (.bool false)), none⟩, ⟨some 109, .mv (.t 108), none⟩, ⟨some 110, .mv (.t 0), some (109, true)⟩, ⟨some 111, .call .share 67 [.t 110], some (109, true)⟩, ⟨some 112, .pick (.t 109) (.t 111) (.c (.bool false)), none⟩, ⟨some 113, .mv (.t 112), none⟩, ⟨some 114, .mv (.t 0), some (113, true)⟩, ⟨some 115, .call .share 73 [.t 114], some (113, true)⟩, ⟨some 116, .pick (.t 113) (.t 115) (.c (.bool false)), none⟩, ⟨some 117, .mv (.t 116), none⟩, ⟨some 118, .mv (.t 0), some (117, true)⟩, ⟨some 119, .call .share 72 [.t 118], some (117, true)⟩, ⟨some 120, .pick (.t 117) (.t 119) (.c (.bool false)), none⟩, ⟨some 121, .mv (.t 120), none⟩, ⟨some 122, .mv (.t 0), some (121, true)⟩, ⟨some 123, .call .share 71 [.t 122], some (121, true)⟩, ⟨some 124, .pick (.t 121) (.t 123) (.c (.bool false)), none⟩, ⟨some 125, .mv (.t 124), none⟩, ⟨some 126, .mv (.t 0), some (125, true)⟩, ⟨some 127, .call .share 82 [.t 126], some (125, true)⟩, ⟨some 128, .pick (.t 125) (.t 127) (.c (.bool false)), none⟩, ⟨some 129, .mv (.t 128), none⟩, ⟨some 130, .mv (.t 0), some (129, true)⟩, ⟨some 131, .call .share 85 [.t 130], some (129, true)⟩, ⟨some 132, .pick (.t 129) (.t 131) (.c (.bool false)), none⟩, ⟨some 133, .mv (.t 132), none⟩, ⟨some 134, .mv (.t 0), some (133, true)⟩, ⟨some 135, .call .share 80 [.t 134], some (133, true)⟩, ⟨some 136, .pick (.t 133) (.t 135) (.c (.bool false)), none⟩, ⟨some 137, .mv (.t 136), none⟩, ⟨some 138, .mv (.t 0), some (137, true)⟩, ⟨some 139, .call .share 76 [.t 138], some (137, true)⟩, ⟨some 140, .pick (.t 137) (.t 139) (.c (.bool false)), none⟩, ⟨some 141, .mv (.t 140), none⟩, ⟨some 142, .mv (.t 0), some (141, true)⟩, ⟨some 143, .call .share 70 [.t 142], some (141, true)⟩, ⟨some 144, .pick (.t 141) (.t 143) (.c (.bool false)), none⟩, ⟨some 145, .mv (.t 144), none⟩, ⟨some 146, .mv (.t 0), some (145, true)⟩, ⟨some 147, .call .share 69 [.t 146], some (145, true)⟩, ⟨some 148, .pick (.t 145) (.t 147) (.c (.bool false)), none⟩, ⟨some 149, .mv (.t 148), none⟩, ⟨some 150, .mv (.t 0), some (149, true)⟩, ⟨some 151, .call .share 77 [.t 150], some (149, true)⟩, ⟨some 152, .pick (.t 149) (.t 151) (.c (.bool false)), none⟩, ⟨some 153, .mv (.t 152), none⟩, ⟨some 154, .mv (.t 0), some (153, true)⟩, ⟨some 155, .call .share 66 [.t 154], some (153, true)⟩, ⟨some 156, .pick (.t 153) (.t 155) (.c (.bool false)), none⟩, ⟨some 157, .mv (.t 156), none⟩, ⟨some 158, .mv (.t 0), some (157, true)⟩, ⟨some 159, .call .share 81 [.t 158], some (157, true)⟩, ⟨some 160, .pick (.t 157) (.t 159) (.c (.bool false)), none⟩, ⟨some 2, .mv (.t 160), none⟩] _ _ b0
  simp only [List.cons_append, List.nil_append] at a0
  rw [a0]
  have p0 : Only0 [(85, avb true), (84, avb true), (83, AV.optr 0 0), (0, AV.optr 0 0)] := by intro p hp; simp at hp; rcases hp with rfl | rfl | rfl | rfl <;> simp [AV.refs]
  have q0 : Env.get [(85, avb true), (84, avb true), (83, AV.optr 0 0), (0, AV.optr 0 0)] 0 = .optr 0 0 := by simp
  have r0 : Env.get [(85, avb true), (84, avb true), (83, AV.optr 0 0), (0, AV.optr 0 0)] 85 = avb true := by simp
  obtain ⟨e1, p1, q1, r1, s1⟩ := look_block (code := code) (ext := ext) H2 (nil_79 (h 79 x79 rfl) rfl) 2 85 86 87 88 89 (by decide) (by decide) (by decide) (by decide) (by decide) (by decide) (by decide) (by decide) _ p0 q0 r0 _
  rw [s1]
  obtain ⟨e2, p2, q2, r2, s2⟩ := look_block (code := code) (ext := ext) H2 (nil_83 (h 83 x83 rfl) rfl) 2 89 90 91 92 93 (by decide) (by decide) (by decide) (by decide) (by decide) (by decide) (by decide) (by decide) _ p1 q1 r1 _
  rw [s2]
  obtain ⟨e3, p3, q3, r3, s3⟩ := look_block (code := code) (ext := ext) H2 (nil_84 (h 84 x84 rfl) rfl) 2 93 94 95 96 97 (by decide) (by decide) (by decide) (by decide) (by decide) (by decide) (by decide) (by decide) _ p2 q2 r2 _
  rw [s3]
  obtain ⟨e4, p4, q4, r4, s4⟩ := look_block (code := code) (ext := ext) H2 (nil_78 (h 78 x78 rfl) rfl) 2 97 98 99 100 101 (by decide) (by decide) (by decide) (by decide) (by decide) (by decide) (by decide) (by decide) _ p3 q3 r3 _
  rw [s4]
  obtain ⟨e5, p5, q5, r5, s5⟩ := look_block (code := code) (ext := ext) H2 (nil_74 (h 74 x74 rfl) rfl) 2 101 102 103 104 105 (by decide) (by decide) (by decide) (by decide) (by decide) (by decide) (by decide) (by decide) _ p4 q4 r4 _
  rw [s5]
  obtain ⟨e6, p6, q6, r6, s6⟩ := look_block (code := code) (ext := ext) H2 (nil_68 (h 68 x68 rfl) rfl) 2 105 106 107 108 109 (by decide) (by decide) (by decide) (by decide) (by decide) (by decide) (by decide) (by decide) _ p5 q5 r5 _
  rw [s6]
  obtain ⟨e7, p7, q7, r7, s7⟩ := look_block (code := code) (ext := ext) H2 (nil_67 (h 67 x67 rfl) rfl) 2 109 110 111 112 113 (by decide) (by decide) (by decide) (by decide) (by decide) (by decide) (by decide) (by decide) _ p6 q6 r6 _
  rw [s7]
  obtain ⟨e8, p8, q8, r8, s8⟩ := look_block (code := code) (ext := ext) H2 (nil_73 (h 73 x73 rfl) rfl) 2 113 114 115 116 117 (by decide) (by decide) (by decide) (by decide) (by decide) (by decide) (by decide) (by decide) _ p7 q7 r7 _
  rw [s8]
  obtain ⟨e9, p9, q9, r9, s9⟩ := look_block (code := code) (ext := ext) H2 (nil_72 (h 72 x72 rfl) rfl) 2 117 118 119 120 121 (by decide) (by decide) (by decide) (by decide) (by decide) (by decide) (by decide) (by decide) _ p8 q8 r8 _
  rw [s9]
  obtain ⟨e10, p10, q10, r10, s10⟩ := look_block (code := code) (ext := ext) H2 (nil_71 (h 71 x71 rfl) rfl) 2 121 122 123 124 125 (by decide) (by decide) (by decide) (by decide) (by decide) (by decide) (by decide) (by decide) _ p9 q9 r9 _
  rw [s10]
  obtain ⟨e11, p11, q11, r11, s11⟩ := look_block (code := code) (ext := ext) H2 (nil_82 (h 82 x82 rfl) rfl) 2 125 126 127 128 129 (by decide) (by decide) (by decide) (by decide) (by decide) (by decide) (by decide) (by decide) _ p10 q10 r10 _
  rw [s11]
  obtain ⟨e12, p12, q12, r12, s12⟩ := look_block (code := code) (ext := ext) H2 (nil_85 (h 85 x85 rfl) rfl) 2 129 130 131 132 133 (by decide) (by decide) (by decide) (by decide) (by decide) (by decide) (by decide) (by decide) _ p11 q11 r11 _
  rw [s12]
  obtain ⟨e13, p13, q13, r13, s13⟩ := look_block (code := code) (ext := ext) H2 (nil_80 (h 80 x80 rfl) rfl) 2 133 134 135 136 137 (by decide) (by decide) (by decide) (by decide) (by decide) (by decide) (by decide) (by decide) _ p12 q12 r12 _
  rw [s13]
  obtain ⟨e14, p14, q14, r14, s14⟩ := look_block (code := code) (ext := ext) H2 (nil_76 (h 76 x76 rfl) rfl) 2 137 138 139 140 141 (by decide) (by decide) (by decide) (by decide) (by decide) (by decide) (by decide) (by decide) _ p13 q13 r13 _
  rw [s14]
  obtain ⟨e15, p15, q15, r15, s15⟩ := look_block (code := code) (ext := ext) H2 (nil_70 (h 70 x70 rfl) rfl) 2 141 142 143 144 145 (by decide) (by decide) (by decide) (by decide) (by decide) (by decide) (by decide) (by decide) _ p14 q14 r14 _
  rw [s15]
  obtain ⟨e16, p16, q16, r16, s16⟩ := look_block (code := code) (ext := ext) H2 (nil_69 (h 69 x69 rfl) rfl) 2 145 146 147 148 149 (by decide) (by decide) (by decide) (by decide) (by decide) (by decide) (by decide) (by decide) _ p15 q15 r15 _
  rw [s16]
  obtain ⟨e17, p17, q17, r17, s17⟩ := look_block (code := code) (ext := ext) H2 (nil_77 (h 77 x77 rfl) rfl) 2 149 150 151 152 153 (by decide) (by decide) (by decide) (by decide) (by decide) (by decide) (by decide) (by decide) _ p16 q16 r16 _
  rw [s17]
  obtain ⟨e18, p18, q18, r18, s18⟩ := look_block (code := code) (ext := ext) H2 (nil_66 (h 66 x66 rfl) rfl) 2 153 154 155 156 157 (by decide) (by decide) (by decide) (by decide) (by decide) (by decide) (by decide) (by decide) _ p17 q17 r17 _
  rw [s18]
  obtain ⟨e19, p19, q19, r19, s19⟩ := look_block (code := code) (ext := ext) H2 (nil_81 (h 81 x81 rfl) rfl) 2 157 158 159 160 2 (by decide) (by decide) (by decide) (by decide) (by decide) (by decide) (by decide) (by decide) _ p18 q18 r18 _
  rw [s19]
  simp only [exOps, Option.map_some, andThen, den_ret, funOut, leave, resOf, List.mapM_cons, List.mapM_nil, Env.keep, List.map_cons, List.map_nil, Env.get, r19, if_true]
  exact ⟨_, rfl⟩
end
end Go.EX

