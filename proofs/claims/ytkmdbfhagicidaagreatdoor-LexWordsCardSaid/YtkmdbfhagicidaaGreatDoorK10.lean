import Derived.Test.YtkmdbfhagicidaaGreatDoorK9
import Derived.Test.YtkmdbfhagicidaaGreatDoorK1
import Derived.Lib.ParseIntB
set_option linter.unusedVariables false
set_option linter.unusedSimpArgs false
namespace Go.EX
def tA : Bool → AV
 | true => .optr 1 0
 | false => .seat 1 0
section
variable {code : Nat → Option XFun} {ext : Calls'}
theorem zml {p r : List UInt8} (h : ∀ q, r ≠ p ++ q) : hasPre p r = false := by
 unfold hasPre
 rw [decide_eq_false_iff_not]
 intro he
 exact h (r.drop p.length) (by conv => lhs; rw [← List.take_append_drop p.length r, he])
theorem zmo (p q : List UInt8) : hasPre p (p ++ q) = true := by
 unfold hasPre
 rw [decide_eq_true_eq, List.take_left]
theorem zqy {r : List UInt8} (h : stepT r = none) : hasPre [34] r = false ∧ hasPre [92, 92] r = false ∧ hasPre [92, 34] r = false ∧ hasPre [92, 110] r = false := by
 refine ⟨zml fun q hq => ?_, zml fun q hq => ?_, zml fun q hq => ?_, zml fun q hq => ?_⟩ <;> (subst hq; simp [stepT] at h)
theorem zru (c : BufCode code ext) (h : code 188 = some x188) (h1 : code 193 = some x193) (h3 : code 798 = some x798) (h4 : code 725 = some x725) (l : List UInt8) (n : Int) (hl : l.length ≤ 1000000)  (ha : l.takeWhile isPlain = []) :
  (∀ r', l.dropWhile isPlain = 34 :: r' → den code ext x192L1 ⟨1, [(0, .optr 0 0), (4, .optr 1 0)], [.rich [strV (bs l), int64 n], .rich [tA false, nilS]]⟩ = some (.ret, ⟨1, [(2, strV (bs (([] : List UInt8)))), (3, avb (decide ((([] : List UInt8)).length ≤ 4096)))], .rich [strV (bs r'), int64 n] :: [.rich [.optr 1 0, nilS]]⟩)) ∧
  (∀ (q d : UInt8) (r' : List UInt8), l.dropWhile isPlain = 92 :: d :: r' → ((d = 92 ∧ q = 92) ∨ (d = 34 ∧ q = 34) ∨ (d = 110 ∧ q = 10)) → den code ext x192L1 ⟨1, [(0, .optr 0 0), (4, .optr 1 0)], [.rich [strV (bs l), int64 n], .rich [tA false, nilS]]⟩ = some (.normal, ⟨1, [(0, .optr 0 0), (4, .optr 1 0)], .rich [strV (bs r'), int64 n] :: [.rich [.optr 1 0, .osl 2 0 1 1 none], .text (rowOfS (bs [q]))]⟩)) ∧
  (stepT (l.dropWhile isPlain) = none → den code ext x192L1 ⟨1, [(0, .optr 0 0), (4, .optr 1 0)], [.rich [strV (bs l), int64 n], .rich [tA false, nilS]]⟩ = some (.ret, ⟨1, [(2, strV .empty), (3, avb false)], .rich [strV (bs (l.dropWhile isPlain)), int64 n] :: [.rich [.optr 1 0, nilS]]⟩)) := by
 have he := zde (ext := ext) h (zme h1) l n hl
 have hlen := tw_len isPlain l
 have hw := zdc c false
 have hs := zc9 c true
 have hln := zcz c true
 have hb := fun q => zcf c true q
 have p1 := fun r => zmn (ext := ext) h3 h4 r [34]
 have p2 := fun r => zmn (ext := ext) h3 h4 r [92, 92]
 have p3 := fun r => zmn (ext := ext) h3 h4 r [92, 34]
 have p4 := fun r => zmn (ext := ext) h3 h4 r [92, 110]
 have b1 : bs [34] = ⟨#[34]⟩ := rfl
 have b2 : bs [92, 92] = ⟨#[92, 92]⟩ := rfl
 have b3 : bs [92, 34] = ⟨#[92, 34]⟩ := rfl
 have b4 : bs [92, 110] = ⟨#[92, 110]⟩ := rfl
 simp only [b1] at p1
 simp only [b2] at p2
 simp only [b3] at p3
 simp only [b4] at p4
 have hemp : bs [] = ByteArray.empty := rfl
 rw [ha] at he
 rw [hemp] at he
 unfold scanM at he
 simp only [dNil, bAddr, dOne, tA, zok, za9, zqd, zoe, Nat.add_assoc] at hw hs hln hb ⊢
 unfold x192L1
 refine ⟨fun r' hr => ?_, fun q d r' hr hq => ?_, fun hn => ?_⟩
 ·rw [hr] at he hlen
  have p1 := p1 (34 :: r')
  rw [show hasPre [34] (34 :: r') = true from zmo [34] r'] at p1
  have hd := za7 (34 :: r') 1
  have hz := za9 (34 :: r')
  rw [show ((34 : UInt8) :: r').drop 1 = r' from rfl] at hd
  try simp only [List.length_append] at *
  skip
  simp only [List.length_cons] at hd hz
  generalize bs (34 :: r') = R at *
  generalize bs r' = R2 at *
  have hle : (1 : Int) ≤ (r'.length : Int) + 1 := by omega
  generalize r'.length = rl at *
  simp -implicitDefEqProofs [he, hw, p1, hd, hz, hle, hs, hln, hemp]
 ·rw [hr] at he hlen
  have hq1 : hasPre [34] (92 :: d :: r') = false := zml (by intro q hq; simp at hq)
  have p1 := p1 (92 :: d :: r')
  rw [hq1] at p1
  have p2 := p2 (92 :: d :: r')
  have p3 := p3 (92 :: d :: r')
  have p4 := p4 (92 :: d :: r')
  have hd := za7 (92 :: d :: r') 2
  have hz := za9 (92 :: d :: r')
  have hat := bs_at (l := 92 :: d :: r') (i := 1) (c := d) rfl (by rw [hz]; simp)
  rw [show ((92 : UInt8) :: d :: r').drop 2 = r' from rfl] at hd
  rcases hq with ⟨rfl, rfl⟩ | ⟨rfl, rfl⟩ | ⟨rfl, rfl⟩
  ·rw [show hasPre [92, 92] (92 :: 92 :: r') = true from zmo [92, 92] r'] at p2
   have hb := hb 92
   unfold u8V at hb
   simp only [show (((92 : UInt8).toNat : Nat) : Int) = 92 from rfl] at hb
   skip
   simp only [List.length_cons] at hd hz
   have hle : (2 : Int) ≤ (r'.length : Int) + 1 + 1 := by omega
   simp -implicitDefEqProofs [he, hw, p1, p2, hb, hd, hz, hat, hle]
  ·rw [show hasPre [92, 92] (92 :: 34 :: r') = false from zml (by intro q hq; simp at hq)] at p2
   rw [show hasPre [92, 34] (92 :: 34 :: r') = true from zmo [92, 34] r'] at p3
   have hb := hb 34
   unfold u8V at hb
   simp only [show (((34 : UInt8).toNat : Nat) : Int) = 34 from rfl] at hb
   skip
   simp only [List.length_cons] at hd hz
   have hle : (2 : Int) ≤ (r'.length : Int) + 1 + 1 := by omega
   simp -implicitDefEqProofs [he, hw, p1, p2, p3, hb, hd, hz, hat, hle]
  ·rw [show hasPre [92, 92] (92 :: 110 :: r') = false from zml (by intro q hq; simp at hq)] at p2
   rw [show hasPre [92, 34] (92 :: 110 :: r') = false from zml (by intro q hq; simp at hq)] at p3
   rw [show hasPre [92, 110] (92 :: 110 :: r') = true from zmo [92, 110] r'] at p4
   have hb := hb 10
   unfold u8V at hb
   simp only [show (((10 : UInt8).toNat : Nat) : Int) = 10 from rfl] at hb
   skip
   simp only [List.length_cons] at hd hz
   have hle : (2 : Int) ≤ (r'.length : Int) + 1 + 1 := by omega
   simp -implicitDefEqProofs [he, hw, p1, p2, p3, p4, hb, hd, hz, hle]
 ·obtain ⟨n1, n2, n3, n4⟩ := zqy hn
  have p1 := p1 (l.dropWhile isPlain)
  have p2 := p2 (l.dropWhile isPlain)
  have p3 := p3 (l.dropWhile isPlain)
  have p4 := p4 (l.dropWhile isPlain)
  rw [n1] at p1
  rw [n2] at p2
  rw [n3] at p3
  rw [n4] at p4
  clear hn n1 n2 n3 n4
  skip
  generalize bs (l.dropWhile isPlain) = R at *
  generalize bs l = B at *
  simp -implicitDefEqProofs [he, hw, p1, p2, p3, p4]
theorem zrv (c : BufCode code ext) (h : code 188 = some x188) (h1 : code 193 = some x193) (h3 : code 798 = some x798) (h4 : code 725 = some x725) (l : List UInt8) (n : Int) (hl : l.length ≤ 1000000)  (ha : l.takeWhile isPlain = []) :
  (∀ r', l.dropWhile isPlain = 34 :: r' → den code ext x192L1 ⟨1, [(0, .optr 0 0), (4, .optr 1 0)], [.rich [strV (bs l), int64 n], .rich [tA true, nilS]]⟩ = some (.ret, ⟨1, [(2, strV (bs (([] : List UInt8)))), (3, avb (decide ((([] : List UInt8)).length ≤ 4096)))], .rich [strV (bs r'), int64 n] :: [.rich [.optr 1 0, nilS]]⟩)) ∧
  (∀ (q d : UInt8) (r' : List UInt8), l.dropWhile isPlain = 92 :: d :: r' → ((d = 92 ∧ q = 92) ∨ (d = 34 ∧ q = 34) ∨ (d = 110 ∧ q = 10)) → den code ext x192L1 ⟨1, [(0, .optr 0 0), (4, .optr 1 0)], [.rich [strV (bs l), int64 n], .rich [tA true, nilS]]⟩ = some (.normal, ⟨1, [(0, .optr 0 0), (4, .optr 1 0)], .rich [strV (bs r'), int64 n] :: [.rich [.optr 1 0, .osl 2 0 1 1 none], .text (rowOfS (bs [q]))]⟩)) ∧
  (stepT (l.dropWhile isPlain) = none → den code ext x192L1 ⟨1, [(0, .optr 0 0), (4, .optr 1 0)], [.rich [strV (bs l), int64 n], .rich [tA true, nilS]]⟩ = some (.ret, ⟨1, [(2, strV .empty), (3, avb false)], .rich [strV (bs (l.dropWhile isPlain)), int64 n] :: [.rich [.optr 1 0, nilS]]⟩)) := by
 have he := zde (ext := ext) h (zme h1) l n hl
 have hlen := tw_len isPlain l
 have hw := zdc c true
 have hs := zc9 c true
 have hln := zcz c true
 have hb := fun q => zcf c true q
 have p1 := fun r => zmn (ext := ext) h3 h4 r [34]
 have p2 := fun r => zmn (ext := ext) h3 h4 r [92, 92]
 have p3 := fun r => zmn (ext := ext) h3 h4 r [92, 34]
 have p4 := fun r => zmn (ext := ext) h3 h4 r [92, 110]
 have b1 : bs [34] = ⟨#[34]⟩ := rfl
 have b2 : bs [92, 92] = ⟨#[92, 92]⟩ := rfl
 have b3 : bs [92, 34] = ⟨#[92, 34]⟩ := rfl
 have b4 : bs [92, 110] = ⟨#[92, 110]⟩ := rfl
 simp only [b1] at p1
 simp only [b2] at p2
 simp only [b3] at p3
 simp only [b4] at p4
 have hemp : bs [] = ByteArray.empty := rfl
 rw [ha] at he
 rw [hemp] at he
 unfold scanM at he
 simp only [dNil, bAddr, dOne, tA, zok, za9, zqd, zoe, Nat.add_assoc] at hw hs hln hb ⊢
 unfold x192L1
 refine ⟨fun r' hr => ?_, fun q d r' hr hq => ?_, fun hn => ?_⟩
 ·rw [hr] at he hlen
  have p1 := p1 (34 :: r')
  rw [show hasPre [34] (34 :: r') = true from zmo [34] r'] at p1
  have hd := za7 (34 :: r') 1
  have hz := za9 (34 :: r')
  rw [show ((34 : UInt8) :: r').drop 1 = r' from rfl] at hd
  try simp only [List.length_append] at *
  skip
  simp only [List.length_cons] at hd hz
  generalize bs (34 :: r') = R at *
  generalize bs r' = R2 at *
  have hle : (1 : Int) ≤ (r'.length : Int) + 1 := by omega
  generalize r'.length = rl at *
  simp -implicitDefEqProofs [he, hw, p1, hd, hz, hle, hs, hln, hemp]
 ·rw [hr] at he hlen
  have hq1 : hasPre [34] (92 :: d :: r') = false := zml (by intro q hq; simp at hq)
  have p1 := p1 (92 :: d :: r')
  rw [hq1] at p1
  have p2 := p2 (92 :: d :: r')
  have p3 := p3 (92 :: d :: r')
  have p4 := p4 (92 :: d :: r')
  have hd := za7 (92 :: d :: r') 2
  have hz := za9 (92 :: d :: r')
  have hat := bs_at (l := 92 :: d :: r') (i := 1) (c := d) rfl (by rw [hz]; simp)
  rw [show ((92 : UInt8) :: d :: r').drop 2 = r' from rfl] at hd
  rcases hq with ⟨rfl, rfl⟩ | ⟨rfl, rfl⟩ | ⟨rfl, rfl⟩
  ·rw [show hasPre [92, 92] (92 :: 92 :: r') = true from zmo [92, 92] r'] at p2
   have hb := hb 92
   unfold u8V at hb
   simp only [show (((92 : UInt8).toNat : Nat) : Int) = 92 from rfl] at hb
   skip
   simp only [List.length_cons] at hd hz
   have hle : (2 : Int) ≤ (r'.length : Int) + 1 + 1 := by omega
   simp -implicitDefEqProofs [he, hw, p1, p2, hb, hd, hz, hat, hle]
  ·rw [show hasPre [92, 92] (92 :: 34 :: r') = false from zml (by intro q hq; simp at hq)] at p2
   rw [show hasPre [92, 34] (92 :: 34 :: r') = true from zmo [92, 34] r'] at p3
   have hb := hb 34
   unfold u8V at hb
   simp only [show (((34 : UInt8).toNat : Nat) : Int) = 34 from rfl] at hb
   skip
   simp only [List.length_cons] at hd hz
   have hle : (2 : Int) ≤ (r'.length : Int) + 1 + 1 := by omega
   simp -implicitDefEqProofs [he, hw, p1, p2, p3, hb, hd, hz, hat, hle]
  ·rw [show hasPre [92, 92] (92 :: 110 :: r') = false from zml (by intro q hq; simp at hq)] at p2
   rw [show hasPre [92, 34] (92 :: 110 :: r') = false from zml (by intro q hq; simp at hq)] at p3
   rw [show hasPre [92, 110] (92 :: 110 :: r') = true from zmo [92, 110] r'] at p4
   have hb := hb 10
   unfold u8V at hb
   simp only [show (((10 : UInt8).toNat : Nat) : Int) = 10 from rfl] at hb
   skip
   simp only [List.length_cons] at hd hz
   have hle : (2 : Int) ≤ (r'.length : Int) + 1 + 1 := by omega
   simp -implicitDefEqProofs [he, hw, p1, p2, p3, p4, hb, hd, hz, hle]
 ·obtain ⟨n1, n2, n3, n4⟩ := zqy hn
  have p1 := p1 (l.dropWhile isPlain)
  have p2 := p2 (l.dropWhile isPlain)
  have p3 := p3 (l.dropWhile isPlain)
  have p4 := p4 (l.dropWhile isPlain)
  rw [n1] at p1
  rw [n2] at p2
  rw [n3] at p3
  rw [n4] at p4
  clear hn n1 n2 n3 n4
  skip
  generalize bs (l.dropWhile isPlain) = R at *
  generalize bs l = B at *
  simp -implicitDefEqProofs [he, hw, p1, p2, p3, p4]
theorem zrw (c : BufCode code ext) (h : code 188 = some x188) (h1 : code 193 = some x193) (h3 : code 798 = some x798) (h4 : code 725 = some x725) (l : List UInt8) (n : Int) (hl : l.length ≤ 1000000)  (ha : 0 < (l.takeWhile isPlain).length) :
  (∀ r', l.dropWhile isPlain = 34 :: r' → den code ext x192L1 ⟨1, [(0, .optr 0 0), (4, .optr 1 0)], [.rich [strV (bs l), int64 n], .rich [tA false, nilS]]⟩ = some (.ret, ⟨1, [(2, strV (bs (l.takeWhile isPlain))), (3, avb (decide ((l.takeWhile isPlain).length ≤ 4096)))], .rich [strV (bs r'), int64 n] :: [.rich [.optr 1 0, .osl 2 0 1 (l.takeWhile isPlain).length none], .dead, .dead]⟩)) ∧
  (∀ (q d : UInt8) (r' : List UInt8), l.dropWhile isPlain = 92 :: d :: r' → ((d = 92 ∧ q = 92) ∨ (d = 34 ∧ q = 34) ∨ (d = 110 ∧ q = 10)) → den code ext x192L1 ⟨1, [(0, .optr 0 0), (4, .optr 1 0)], [.rich [strV (bs l), int64 n], .rich [tA false, nilS]]⟩ = some (.normal, ⟨1, [(0, .optr 0 0), (4, .optr 1 0)], .rich [strV (bs r'), int64 n] :: [.rich [.optr 1 0, .osl 3 0 1 ((l.takeWhile isPlain).length + 1) none], .dead, .text (rowOfS (bs (l.takeWhile isPlain)) ++ [.val (.int .u8 q.toNat)])]⟩)) ∧
  (stepT (l.dropWhile isPlain) = none → den code ext x192L1 ⟨1, [(0, .optr 0 0), (4, .optr 1 0)], [.rich [strV (bs l), int64 n], .rich [tA false, nilS]]⟩ = some (.ret, ⟨1, [(2, strV .empty), (3, avb false)], .rich [strV (bs (l.dropWhile isPlain)), int64 n] :: [.rich [.optr 1 0, .osl 2 0 1 (l.takeWhile isPlain).length none], .text (rowOfS (bs (l.takeWhile isPlain)))]⟩)) := by
 have he := zde (ext := ext) h (zme h1) l n hl
 have hlen := tw_len isPlain l
 have hw := zdb c false (bs (l.takeWhile isPlain)) ha (by rw [za9]; omega)
 have hs := zda c (bs (l.takeWhile isPlain)) ha
 have hln := zcy c (l.takeWhile isPlain).length
 have hb := fun q => zcg c (bs (l.takeWhile isPlain)) q ha (by rw [za9]; omega)
 have p1 := fun r => zmn (ext := ext) h3 h4 r [34]
 have p2 := fun r => zmn (ext := ext) h3 h4 r [92, 92]
 have p3 := fun r => zmn (ext := ext) h3 h4 r [92, 34]
 have p4 := fun r => zmn (ext := ext) h3 h4 r [92, 110]
 have b1 : bs [34] = ⟨#[34]⟩ := rfl
 have b2 : bs [92, 92] = ⟨#[92, 92]⟩ := rfl
 have b3 : bs [92, 34] = ⟨#[92, 34]⟩ := rfl
 have b4 : bs [92, 110] = ⟨#[92, 110]⟩ := rfl
 simp only [b1] at p1
 simp only [b2] at p2
 simp only [b3] at p3
 simp only [b4] at p4
 unfold scanM at he
 simp only [dNil, bAddr, dOne, dTwo, dDead, tA, zok, za9, zqd, zoe, Nat.add_assoc] at hw hs hln hb ⊢
 unfold x192L1
 refine ⟨fun r' hr => ?_, fun q d r' hr hq => ?_, fun hn => ?_⟩
 ·rw [hr] at he hlen
  have p1 := p1 (34 :: r')
  rw [show hasPre [34] (34 :: r') = true from zmo [34] r'] at p1
  have hd := za7 (34 :: r') 1
  have hz := za9 (34 :: r')
  rw [show ((34 : UInt8) :: r').drop 1 = r' from rfl] at hd
  try simp only [List.length_append] at *
  skip
  simp only [List.length_cons] at hd hz
  generalize bs (34 :: r') = R at *
  generalize bs r' = R2 at *
  have hle : (1 : Int) ≤ (r'.length : Int) + 1 := by omega
  generalize r'.length = rl at *
  simp -implicitDefEqProofs [he, hw, p1, hd, hz, hle, hs, hln]
  omega
 ·rw [hr] at he hlen
  have hq1 : hasPre [34] (92 :: d :: r') = false := zml (by intro q hq; simp at hq)
  have p1 := p1 (92 :: d :: r')
  rw [hq1] at p1
  have p2 := p2 (92 :: d :: r')
  have p3 := p3 (92 :: d :: r')
  have p4 := p4 (92 :: d :: r')
  have hd := za7 (92 :: d :: r') 2
  have hz := za9 (92 :: d :: r')
  have hat := bs_at (l := 92 :: d :: r') (i := 1) (c := d) rfl (by rw [hz]; simp)
  rw [show ((92 : UInt8) :: d :: r').drop 2 = r' from rfl] at hd
  rcases hq with ⟨rfl, rfl⟩ | ⟨rfl, rfl⟩ | ⟨rfl, rfl⟩
  ·rw [show hasPre [92, 92] (92 :: 92 :: r') = true from zmo [92, 92] r'] at p2
   have hb := hb 92
   unfold u8V at hb
   simp only [show (((92 : UInt8).toNat : Nat) : Int) = 92 from rfl] at hb
   skip
   simp only [List.length_cons] at hd hz
   have hle : (2 : Int) ≤ (r'.length : Int) + 1 + 1 := by omega
   simp -implicitDefEqProofs [he, hw, p1, p2, hb, hd, hz, hat, hle]
  ·rw [show hasPre [92, 92] (92 :: 34 :: r') = false from zml (by intro q hq; simp at hq)] at p2
   rw [show hasPre [92, 34] (92 :: 34 :: r') = true from zmo [92, 34] r'] at p3
   have hb := hb 34
   unfold u8V at hb
   simp only [show (((34 : UInt8).toNat : Nat) : Int) = 34 from rfl] at hb
   skip
   simp only [List.length_cons] at hd hz
   have hle : (2 : Int) ≤ (r'.length : Int) + 1 + 1 := by omega
   simp -implicitDefEqProofs [he, hw, p1, p2, p3, hb, hd, hz, hat, hle]
  ·rw [show hasPre [92, 92] (92 :: 110 :: r') = false from zml (by intro q hq; simp at hq)] at p2
   rw [show hasPre [92, 34] (92 :: 110 :: r') = false from zml (by intro q hq; simp at hq)] at p3
   rw [show hasPre [92, 110] (92 :: 110 :: r') = true from zmo [92, 110] r'] at p4
   have hb := hb 10
   unfold u8V at hb
   simp only [show (((10 : UInt8).toNat : Nat) : Int) = 10 from rfl] at hb
   skip
   simp only [List.length_cons] at hd hz
   have hle : (2 : Int) ≤ (r'.length : Int) + 1 + 1 := by omega
   simp -implicitDefEqProofs [he, hw, p1, p2, p3, p4, hb, hd, hz, hle]
 ·obtain ⟨n1, n2, n3, n4⟩ := zqy hn
  have p1 := p1 (l.dropWhile isPlain)
  have p2 := p2 (l.dropWhile isPlain)
  have p3 := p3 (l.dropWhile isPlain)
  have p4 := p4 (l.dropWhile isPlain)
  rw [n1] at p1
  rw [n2] at p2
  rw [n3] at p3
  rw [n4] at p4
  clear hn n1 n2 n3 n4
  skip
  generalize bs (l.dropWhile isPlain) = R at *
  generalize bs l = B at *
  simp -implicitDefEqProofs [he, hw, p1, p2, p3, p4]
theorem zrx (c : BufCode code ext) (h : code 188 = some x188) (h1 : code 193 = some x193) (h3 : code 798 = some x798) (h4 : code 725 = some x725) (l : List UInt8) (n : Int) (hl : l.length ≤ 1000000)  (ha : 0 < (l.takeWhile isPlain).length) :
  (∀ r', l.dropWhile isPlain = 34 :: r' → den code ext x192L1 ⟨1, [(0, .optr 0 0), (4, .optr 1 0)], [.rich [strV (bs l), int64 n], .rich [tA true, nilS]]⟩ = some (.ret, ⟨1, [(2, strV (bs (l.takeWhile isPlain))), (3, avb (decide ((l.takeWhile isPlain).length ≤ 4096)))], .rich [strV (bs r'), int64 n] :: [.rich [.optr 1 0, .osl 2 0 1 (l.takeWhile isPlain).length none], .dead, .dead]⟩)) ∧
  (∀ (q d : UInt8) (r' : List UInt8), l.dropWhile isPlain = 92 :: d :: r' → ((d = 92 ∧ q = 92) ∨ (d = 34 ∧ q = 34) ∨ (d = 110 ∧ q = 10)) → den code ext x192L1 ⟨1, [(0, .optr 0 0), (4, .optr 1 0)], [.rich [strV (bs l), int64 n], .rich [tA true, nilS]]⟩ = some (.normal, ⟨1, [(0, .optr 0 0), (4, .optr 1 0)], .rich [strV (bs r'), int64 n] :: [.rich [.optr 1 0, .osl 3 0 1 ((l.takeWhile isPlain).length + 1) none], .dead, .text (rowOfS (bs (l.takeWhile isPlain)) ++ [.val (.int .u8 q.toNat)])]⟩)) ∧
  (stepT (l.dropWhile isPlain) = none → den code ext x192L1 ⟨1, [(0, .optr 0 0), (4, .optr 1 0)], [.rich [strV (bs l), int64 n], .rich [tA true, nilS]]⟩ = some (.ret, ⟨1, [(2, strV .empty), (3, avb false)], .rich [strV (bs (l.dropWhile isPlain)), int64 n] :: [.rich [.optr 1 0, .osl 2 0 1 (l.takeWhile isPlain).length none], .text (rowOfS (bs (l.takeWhile isPlain)))]⟩)) := by
 have he := zde (ext := ext) h (zme h1) l n hl
 have hlen := tw_len isPlain l
 have hw := zdb c true (bs (l.takeWhile isPlain)) ha (by rw [za9]; omega)
 have hs := zda c (bs (l.takeWhile isPlain)) ha
 have hln := zcy c (l.takeWhile isPlain).length
 have hb := fun q => zcg c (bs (l.takeWhile isPlain)) q ha (by rw [za9]; omega)
 have p1 := fun r => zmn (ext := ext) h3 h4 r [34]
 have p2 := fun r => zmn (ext := ext) h3 h4 r [92, 92]
 have p3 := fun r => zmn (ext := ext) h3 h4 r [92, 34]
 have p4 := fun r => zmn (ext := ext) h3 h4 r [92, 110]
 have b1 : bs [34] = ⟨#[34]⟩ := rfl
 have b2 : bs [92, 92] = ⟨#[92, 92]⟩ := rfl
 have b3 : bs [92, 34] = ⟨#[92, 34]⟩ := rfl
 have b4 : bs [92, 110] = ⟨#[92, 110]⟩ := rfl
 simp only [b1] at p1
 simp only [b2] at p2
 simp only [b3] at p3
 simp only [b4] at p4
 unfold scanM at he
 simp only [dNil, bAddr, dOne, dTwo, dDead, tA, zok, za9, zqd, zoe, Nat.add_assoc] at hw hs hln hb ⊢
 unfold x192L1
 refine ⟨fun r' hr => ?_, fun q d r' hr hq => ?_, fun hn => ?_⟩
 ·rw [hr] at he hlen
  have p1 := p1 (34 :: r')
  rw [show hasPre [34] (34 :: r') = true from zmo [34] r'] at p1
  have hd := za7 (34 :: r') 1
  have hz := za9 (34 :: r')
  rw [show ((34 : UInt8) :: r').drop 1 = r' from rfl] at hd
  try simp only [List.length_append] at *
  skip
  simp only [List.length_cons] at hd hz
  generalize bs (34 :: r') = R at *
  generalize bs r' = R2 at *
  have hle : (1 : Int) ≤ (r'.length : Int) + 1 := by omega
  generalize r'.length = rl at *
  simp -implicitDefEqProofs [he, hw, p1, hd, hz, hle, hs, hln]
  omega
 ·rw [hr] at he hlen
  have hq1 : hasPre [34] (92 :: d :: r') = false := zml (by intro q hq; simp at hq)
  have p1 := p1 (92 :: d :: r')
  rw [hq1] at p1
  have p2 := p2 (92 :: d :: r')
  have p3 := p3 (92 :: d :: r')
  have p4 := p4 (92 :: d :: r')
  have hd := za7 (92 :: d :: r') 2
  have hz := za9 (92 :: d :: r')
  have hat := bs_at (l := 92 :: d :: r') (i := 1) (c := d) rfl (by rw [hz]; simp)
  rw [show ((92 : UInt8) :: d :: r').drop 2 = r' from rfl] at hd
  rcases hq with ⟨rfl, rfl⟩ | ⟨rfl, rfl⟩ | ⟨rfl, rfl⟩
  ·rw [show hasPre [92, 92] (92 :: 92 :: r') = true from zmo [92, 92] r'] at p2
   have hb := hb 92
   unfold u8V at hb
   simp only [show (((92 : UInt8).toNat : Nat) : Int) = 92 from rfl] at hb
   skip
   simp only [List.length_cons] at hd hz
   have hle : (2 : Int) ≤ (r'.length : Int) + 1 + 1 := by omega
   simp -implicitDefEqProofs [he, hw, p1, p2, hb, hd, hz, hat, hle]
  ·rw [show hasPre [92, 92] (92 :: 34 :: r') = false from zml (by intro q hq; simp at hq)] at p2
   rw [show hasPre [92, 34] (92 :: 34 :: r') = true from zmo [92, 34] r'] at p3
   have hb := hb 34
   unfold u8V at hb
   simp only [show (((34 : UInt8).toNat : Nat) : Int) = 34 from rfl] at hb
   skip
   simp only [List.length_cons] at hd hz
   have hle : (2 : Int) ≤ (r'.length : Int) + 1 + 1 := by omega
   simp -implicitDefEqProofs [he, hw, p1, p2, p3, hb, hd, hz, hat, hle]
  ·rw [show hasPre [92, 92] (92 :: 110 :: r') = false from zml (by intro q hq; simp at hq)] at p2
   rw [show hasPre [92, 34] (92 :: 110 :: r') = false from zml (by intro q hq; simp at hq)] at p3
   rw [show hasPre [92, 110] (92 :: 110 :: r') = true from zmo [92, 110] r'] at p4
   have hb := hb 10
   unfold u8V at hb
   simp only [show (((10 : UInt8).toNat : Nat) : Int) = 10 from rfl] at hb
   skip
   simp only [List.length_cons] at hd hz
   have hle : (2 : Int) ≤ (r'.length : Int) + 1 + 1 := by omega
   simp -implicitDefEqProofs [he, hw, p1, p2, p3, p4, hb, hd, hz, hle]
 ·obtain ⟨n1, n2, n3, n4⟩ := zqy hn
  have p1 := p1 (l.dropWhile isPlain)
  have p2 := p2 (l.dropWhile isPlain)
  have p3 := p3 (l.dropWhile isPlain)
  have p4 := p4 (l.dropWhile isPlain)
  rw [n1] at p1
  rw [n2] at p2
  rw [n3] at p3
  rw [n4] at p4
  clear hn n1 n2 n3 n4
  skip
  generalize bs (l.dropWhile isPlain) = R at *
  generalize bs l = B at *
  simp -implicitDefEqProofs [he, hw, p1, p2, p3, p4]
theorem zry (c : BufCode code ext) (h : code 188 = some x188) (h1 : code 193 = some x193) (h3 : code 798 = some x798) (h4 : code 725 = some x725) (l : List UInt8) (n : Int) (hl : l.length ≤ 1000000) (acc : List UInt8) (ha : 0 < acc.length) (hac : acc.length ≤ 1000000) :
  (∀ r', l.dropWhile isPlain = 34 :: r' → den code ext x192L1 ⟨1, [(0, .optr 0 0), (4, .optr 1 0)], [.rich [strV (bs l), int64 n], .rich [.optr 1 0, .osl 2 0 1 acc.length none], .text (rowOfS (bs acc))]⟩ = some (.ret, ⟨1, [(2, strV (bs (acc ++ l.takeWhile isPlain))), (3, avb (decide ((acc ++ l.takeWhile isPlain).length ≤ 4096)))], .rich [strV (bs r'), int64 n] :: [.rich [.optr 1 0, .osl 3 0 1 (acc.length + (l.takeWhile isPlain).length) none], .dead, .dead, .dead]⟩)) ∧
  (∀ (q d : UInt8) (r' : List UInt8), l.dropWhile isPlain = 92 :: d :: r' → ((d = 92 ∧ q = 92) ∨ (d = 34 ∧ q = 34) ∨ (d = 110 ∧ q = 10)) → den code ext x192L1 ⟨1, [(0, .optr 0 0), (4, .optr 1 0)], [.rich [strV (bs l), int64 n], .rich [.optr 1 0, .osl 2 0 1 acc.length none], .text (rowOfS (bs acc))]⟩ = some (.normal, ⟨1, [(0, .optr 0 0), (4, .optr 1 0)], .rich [strV (bs r'), int64 n] :: [.rich [.optr 1 0, .osl 4 0 1 (acc.length + (l.takeWhile isPlain).length + 1) none], .dead, .dead, .text (rowOfS (bs acc) ++ rowOfS (bs (l.takeWhile isPlain)) ++ [.val (.int .u8 q.toNat)])]⟩)) ∧
  (stepT (l.dropWhile isPlain) = none → den code ext x192L1 ⟨1, [(0, .optr 0 0), (4, .optr 1 0)], [.rich [strV (bs l), int64 n], .rich [.optr 1 0, .osl 2 0 1 acc.length none], .text (rowOfS (bs acc))]⟩ = some (.ret, ⟨1, [(2, strV .empty), (3, avb false)], .rich [strV (bs (l.dropWhile isPlain)), int64 n] :: [.rich [.optr 1 0, .osl 3 0 1 (acc.length + (l.takeWhile isPlain).length) none], .dead, .text (rowOfS (bs acc) ++ rowOfS (bs (l.takeWhile isPlain)))]⟩)) := by
 have he := zde (ext := ext) h (zme h1) l n hl
 have hlen := tw_len isPlain l
 have hw := zdd c (bs acc) (bs (l.takeWhile isPlain)) ha (by rw [za9, za9]; omega)
 have hs := zda c (bs acc ++ bs (l.takeWhile isPlain)) (by rw [zqd, za9]; omega)
 have hln := zcy c (acc.length + (l.takeWhile isPlain).length)
 have hb := fun q => zcg c (bs acc ++ bs (l.takeWhile isPlain)) q (by rw [zqd, za9]; omega) (by rw [zqd, za9, za9]; omega)
 have p1 := fun r => zmn (ext := ext) h3 h4 r [34]
 have p2 := fun r => zmn (ext := ext) h3 h4 r [92, 92]
 have p3 := fun r => zmn (ext := ext) h3 h4 r [92, 34]
 have p4 := fun r => zmn (ext := ext) h3 h4 r [92, 110]
 have b1 : bs [34] = ⟨#[34]⟩ := rfl
 have b2 : bs [92, 92] = ⟨#[92, 92]⟩ := rfl
 have b3 : bs [92, 34] = ⟨#[92, 34]⟩ := rfl
 have b4 : bs [92, 110] = ⟨#[92, 110]⟩ := rfl
 simp only [b1] at p1
 simp only [b2] at p2
 simp only [b3] at p3
 simp only [b4] at p4
 unfold scanM at he
 simp only [dNil, bAddr, dOne, dTwo, dDead, tA, zok, za9, zqd, zoe, Nat.add_assoc] at hw hs hln hb ⊢
 unfold x192L1
 refine ⟨fun r' hr => ?_, fun q d r' hr hq => ?_, fun hn => ?_⟩
 ·rw [hr] at he hlen
  have p1 := p1 (34 :: r')
  rw [show hasPre [34] (34 :: r') = true from zmo [34] r'] at p1
  have hd := za7 (34 :: r') 1
  have hz := za9 (34 :: r')
  rw [show ((34 : UInt8) :: r').drop 1 = r' from rfl] at hd
  try simp only [List.length_append] at *
  skip
  simp only [List.length_cons] at hd hz
  generalize bs (34 :: r') = R at *
  generalize bs r' = R2 at *
  have hle : (1 : Int) ≤ (r'.length : Int) + 1 := by omega
  generalize r'.length = rl at *
  rw [← za6]
  simp -implicitDefEqProofs [he, hw, p1, hd, hz, hle, hs, hln]
  omega
 ·rw [hr] at he hlen
  have hq1 : hasPre [34] (92 :: d :: r') = false := zml (by intro q hq; simp at hq)
  have p1 := p1 (92 :: d :: r')
  rw [hq1] at p1
  have p2 := p2 (92 :: d :: r')
  have p3 := p3 (92 :: d :: r')
  have p4 := p4 (92 :: d :: r')
  have hd := za7 (92 :: d :: r') 2
  have hz := za9 (92 :: d :: r')
  have hat := bs_at (l := 92 :: d :: r') (i := 1) (c := d) rfl (by rw [hz]; simp)
  rw [show ((92 : UInt8) :: d :: r').drop 2 = r' from rfl] at hd
  rcases hq with ⟨rfl, rfl⟩ | ⟨rfl, rfl⟩ | ⟨rfl, rfl⟩
  ·rw [show hasPre [92, 92] (92 :: 92 :: r') = true from zmo [92, 92] r'] at p2
   have hb := hb 92
   unfold u8V at hb
   simp only [show (((92 : UInt8).toNat : Nat) : Int) = 92 from rfl] at hb
   skip
   simp only [List.length_cons] at hd hz
   have hle : (2 : Int) ≤ (r'.length : Int) + 1 + 1 := by omega
   simp -implicitDefEqProofs [he, hw, p1, p2, hb, hd, hz, hat, hle]
  ·rw [show hasPre [92, 92] (92 :: 34 :: r') = false from zml (by intro q hq; simp at hq)] at p2
   rw [show hasPre [92, 34] (92 :: 34 :: r') = true from zmo [92, 34] r'] at p3
   have hb := hb 34
   unfold u8V at hb
   simp only [show (((34 : UInt8).toNat : Nat) : Int) = 34 from rfl] at hb
   skip
   simp only [List.length_cons] at hd hz
   have hle : (2 : Int) ≤ (r'.length : Int) + 1 + 1 := by omega
   simp -implicitDefEqProofs [he, hw, p1, p2, p3, hb, hd, hz, hat, hle]
  ·rw [show hasPre [92, 92] (92 :: 110 :: r') = false from zml (by intro q hq; simp at hq)] at p2
   rw [show hasPre [92, 34] (92 :: 110 :: r') = false from zml (by intro q hq; simp at hq)] at p3
   rw [show hasPre [92, 110] (92 :: 110 :: r') = true from zmo [92, 110] r'] at p4
   have hb := hb 10
   unfold u8V at hb
   simp only [show (((10 : UInt8).toNat : Nat) : Int) = 10 from rfl] at hb
   skip
   simp only [List.length_cons] at hd hz
   have hle : (2 : Int) ≤ (r'.length : Int) + 1 + 1 := by omega
   simp -implicitDefEqProofs [he, hw, p1, p2, p3, p4, hb, hd, hz, hle]
 ·obtain ⟨n1, n2, n3, n4⟩ := zqy hn
  have p1 := p1 (l.dropWhile isPlain)
  have p2 := p2 (l.dropWhile isPlain)
  have p3 := p3 (l.dropWhile isPlain)
  have p4 := p4 (l.dropWhile isPlain)
  rw [n1] at p1
  rw [n2] at p2
  rw [n3] at p3
  rw [n4] at p4
  clear hn n1 n2 n3 n4
  skip
  generalize bs (l.dropWhile isPlain) = R at *
  generalize bs l = B at *
  simp -implicitDefEqProofs [he, hw, p1, p2, p3, p4]
end
end Go.EX


set_option linter.unusedVariables false
set_option linter.unusedSimpArgs false
namespace Go.EX
def textV (l : List UInt8) : List UInt8 × Bool := match textL [] l with
 | some (t, _) => (t, decide (t.length ≤ 4096))
 | none => ([], false)
theorem zqw {r : List UInt8} (h : stepT r = some none) : ∃ q, r = 34 :: q := by
 unfold stepT at h
 split at h <;> cases h
 exact ⟨_, rfl⟩
section
variable {code : Nat → Option XFun} {ext : Calls'}
def tM0 (u : Bool) (l : List UInt8) (n : Int) : Mem := [.rich [strV (bs l), int64 n], .rich [tA u, nilS]]
def tM1 (acc l : List UInt8) (n : Int) : Mem := [.rich [strV (bs l), int64 n], .rich [.optr 1 0, .osl 2 0 1 acc.length none], .text (rowOfS (bs acc))]
theorem zrn {acc l l0 : List UInt8} (h : textL acc l = textL [] l0) {q : List UInt8} (hr : l.dropWhile isPlain = 34 :: q) :
  textV l0 = (acc ++ l.takeWhile isPlain, decide ((acc ++ l.takeWhile isPlain).length ≤ 4096)) ∧ ∀ t r, textL [] l0 = some (t, r) → q = r := by
 have h1 := zrg acc (l := l) (by rw [hr]; rfl)
 rw [h, hr] at h1
 refine ⟨by unfold textV; rw [h1], fun t r ht => ?_⟩
 rw [h1] at ht
 cases ht
 rfl
theorem zrm {acc l l0 : List UInt8} (h : textL acc l = textL [] l0) (hr : stepT (l.dropWhile isPlain) = none) : textV l0 = ([], false) ∧ ∀ t r, textL [] l0 = some (t, r) → l.dropWhile isPlain = r := by
 have h1 := zre acc hr
 rw [h] at h1
 refine ⟨by unfold textV; rw [h1], fun t r ht => ?_⟩
 rw [h1] at ht
 cases ht
theorem zrc (c : BufCode code ext) (h : code 188 = some x188) (h1 : code 193 = some x193) (h3 : code 798 = some x798) (h4 : code 725 = some x725) (l0 : List UInt8) (n : Int) (hl0 : l0.length ≤ 1000000) :
  ∃ e s', den code ext (.loop [0, 4] x192L1) ⟨1, [(0, .optr 0 0), (4, .optr 1 0)], tM0 false l0 n⟩ = some (e, s') ∧ e ≠ .normal ∧
   (e = .ret ∧ ∃ l' J, s' = ⟨1, [(2, strV (bs (textV l0).1)), (3, avb (textV l0).2)], .rich [strV (bs l'), int64 n] :: J⟩ ∧ ∀ t r, textL [] l0 = some (t, r) → l' = r) := by
 refine zh9 (fun m s => ∃ acc u l', l'.length = m ∧ acc.length + l'.length ≤ l0.length ∧ textL acc l' = textL [] l0 ∧ ((acc = [] ∧ s.tidy [0, 4] = ⟨1, [(0, .optr 0 0), (4, .optr 1 0)], tM0 u l' n⟩) ∨ (0 < acc.length ∧ s.tidy [0, 4] = ⟨1, [(0, .optr 0 0), (4, .optr 1 0)], tM1 acc l' n⟩)))
  _ ?_ l0.length _ ⟨[], false, l0, rfl, by simp, rfl, .inl ⟨rfl, by unfold tM0 tA; simp -implicitDefEqProofs⟩⟩
 rintro m s ⟨acc, u, l, hm, hlen, htx, hsh⟩
 have htw := tw_len isPlain l
 have key : ∀ (H : Mem) (J JA : Mem) (JB : UInt8 → Mem), s.tidy [0, 4] = ⟨1, [(0, .optr 0 0), (4, .optr 1 0)], H⟩ →
   ((∀ r', l.dropWhile isPlain = 34 :: r' → den code ext x192L1 ⟨1, [(0, .optr 0 0), (4, .optr 1 0)], H⟩ = some (.ret, ⟨1, [(2, strV (bs (acc ++ l.takeWhile isPlain))), (3, avb (decide ((acc ++ l.takeWhile isPlain).length ≤ 4096)))], .rich [strV (bs r'), int64 n] :: JA⟩)) ∧
    (∀ (q d : UInt8) (r' : List UInt8), l.dropWhile isPlain = 92 :: d :: r' → ((d = 92 ∧ q = 92) ∨ (d = 34 ∧ q = 34) ∨ (d = 110 ∧ q = 10)) → den code ext x192L1 ⟨1, [(0, .optr 0 0), (4, .optr 1 0)], H⟩ = some (.normal, ⟨1, [(0, .optr 0 0), (4, .optr 1 0)], .rich [strV (bs r'), int64 n] :: JB q⟩)) ∧
    (stepT (l.dropWhile isPlain) = none → den code ext x192L1 ⟨1, [(0, .optr 0 0), (4, .optr 1 0)], H⟩ = some (.ret, ⟨1, [(2, strV .empty), (3, avb false)], .rich [strV (bs (l.dropWhile isPlain)), int64 n] :: J⟩))) →
   (∀ (q : UInt8) (r' : List UInt8), (⟨1, [(0, .optr 0 0), (4, .optr 1 0)], .rich [strV (bs r'), int64 n] :: JB q⟩ : St).tidy [0, 4] = ⟨1, [(0, .optr 0 0), (4, .optr 1 0)], tM1 (acc ++ l.takeWhile isPlain ++ [q]) r' n⟩) →
   ∃ e s', den code ext x192L1 (s.tidy [0, 4]) = some (e, s') ∧ ((e = .normal ∧ ∃ m', m' < m ∧ ∃ acc u l', l'.length = m' ∧ acc.length + l'.length ≤ l0.length ∧ textL acc l' = textL [] l0 ∧ ((acc = [] ∧ s'.tidy [0, 4] = ⟨1, [(0, .optr 0 0), (4, .optr 1 0)], tM0 u l' n⟩) ∨ (0 < acc.length ∧ s'.tidy [0, 4] = ⟨1, [(0, .optr 0 0), (4, .optr 1 0)], tM1 acc l' n⟩))) ∨
    (e ≠ .normal ∧ e = .ret ∧ ∃ l' J, s' = ⟨1, [(2, strV (bs (textV l0).1)), (3, avb (textV l0).2)], .rich [strV (bs l'), int64 n] :: J⟩ ∧ ∀ t r, textL [] l0 = some (t, r) → l' = r)) := by
  intro H J JA JB hst ⟨k1, k2, k3⟩ ktidy
  rw [hst]
  cases hs : stepT (l.dropWhile isPlain) with
  | none =>
   obtain ⟨g1, g2⟩ := zrm htx hs
   refine ⟨_, _, k3 hs, .inr ⟨by simp, rfl, l.dropWhile isPlain, J, ?_, g2⟩⟩
   rw [g1]
   rfl
  | some o =>
   cases o with
   | none =>
    obtain ⟨q, hq⟩ := zqw hs
    obtain ⟨g1, g2⟩ := zrn htx hq
    refine ⟨_, _, k1 q hq, .inr ⟨by simp, rfl, q, JA, ?_, g2⟩⟩
    rw [g1]
   | some q =>
    obtain ⟨d, r', hr, hd⟩ := zqz hs
    have hmore := zrj acc hs
    rw [htx, hr] at hmore
    rw [hr] at htw
    simp only [List.length_cons] at htw
    refine ⟨_, _, k2 q d r' hr hd, .inl ⟨rfl, r'.length, by omega, acc ++ l.takeWhile isPlain ++ [q], true, r', rfl, ?_, hmore.symm, .inr ⟨by simp only [List.length_append, List.length_singleton]; omega, ktidy q r'⟩⟩⟩
    simp only [List.length_append, List.length_singleton]
    omega
 rcases hsh with ⟨rfl, hst⟩ | ⟨hacc, hst⟩
 ·by_cases ha : l.takeWhile isPlain = []
  ·cases u with
   | false => exact key _ _ _ (fun q => [.rich [.optr 1 0, .osl 2 0 1 1 none], .text (rowOfS (bs [q]))]) hst (by simpa only [ha, List.append_nil, tM0, List.nil_append] using zru c h h1 h3 h4 l n (by omega) ha) (fun q r' => by rw [ha]; unfold tM1; generalize bs r' = R; generalize hq : rowOfS (bs [q]) = Q; simp only [List.append_nil, List.nil_append, hq]; simp -implicitDefEqProofs)
   | true => exact key _ _ _ (fun q => [.rich [.optr 1 0, .osl 2 0 1 1 none], .text (rowOfS (bs [q]))]) hst (by simpa only [ha, List.append_nil, tM0, List.nil_append] using zrv c h h1 h3 h4 l n (by omega) ha) (fun q r' => by rw [ha]; unfold tM1; generalize bs r' = R; generalize hq : rowOfS (bs [q]) = Q; simp only [List.append_nil, List.nil_append, hq]; simp -implicitDefEqProofs)
  ·have ha' : 0 < (l.takeWhile isPlain).length := List.length_pos_iff.2 ha
   have kt : ∀ (q : UInt8) (r' : List UInt8), (⟨1, [(0, .optr 0 0), (4, .optr 1 0)], .rich [strV (bs r'), int64 n] :: [.rich [.optr 1 0, .osl 3 0 1 ((l.takeWhile isPlain).length + 1) none], .dead, .text (rowOfS (bs (l.takeWhile isPlain)) ++ [.val (.int .u8 q.toNat)])]⟩ : St).tidy [0, 4] = ⟨1, [(0, .optr 0 0), (4, .optr 1 0)], tM1 ([] ++ l.takeWhile isPlain ++ [q]) r' n⟩ := by
    intro q r'
    have hrow : rowOfS (bs ([] ++ l.takeWhile isPlain ++ [q])) = rowOfS (bs (l.takeWhile isPlain)) ++ [.val (.int .u8 q.toNat)] := by rw [List.nil_append, ← za6, zoe, zok]
    have hlen : ([] ++ l.takeWhile isPlain ++ [q]).length = (l.takeWhile isPlain).length + 1 := by simp
    unfold tM1
    rw [hrow, hlen]
    generalize rowOfS (bs (l.takeWhile isPlain)) ++ [.val (.int .u8 q.toNat)] = Q
    generalize bs r' = R
    simp -implicitDefEqProofs
   cases u with
   | false => exact key _ _ _ _ hst (by simpa only [tM0, List.nil_append] using zrw c h h1 h3 h4 l n (by omega) ha') kt
   | true => exact key _ _ _ _ hst (by simpa only [tM0, List.nil_append] using zrx c h h1 h3 h4 l n (by omega) ha') kt
 ·refine key _ _ _ _ hst (zry c h h1 h3 h4 l n (by omega) acc hacc (by omega)) fun q r' => ?_
  have hrow : rowOfS (bs (acc ++ l.takeWhile isPlain ++ [q])) = rowOfS (bs acc) ++ (rowOfS (bs (l.takeWhile isPlain)) ++ [.val (.int .u8 q.toNat)]) := by rw [← za6, ← za6, zoe, zoe, zok, List.append_assoc]
  have hlen : (acc ++ l.takeWhile isPlain ++ [q]).length = acc.length + ((l.takeWhile isPlain).length + 1) := by simp
  unfold tM1
  rw [hrow, hlen]
  simp only [List.append_assoc, Nat.add_assoc]
  generalize rowOfS (bs acc) ++ (rowOfS (bs (l.takeWhile isPlain)) ++ [.val (.int .u8 q.toNat)]) = Q
  generalize bs r' = R
  simp -implicitDefEqProofs
theorem zrd (c : BufCode code ext) (h0 : code 192 = some x192) (h : code 188 = some x188) (h1 : code 193 = some x193) (h3 : code 798 = some x798) (h4 : code 725 = some x725) (l : List UInt8) (n : Int) (hl : l.length ≤ 1000000) :
  ∃ l', callW code ext 192 [.optr 0 0] (scanM (34 :: l) n) = some (.tup [strV (bs (textV l).1), avb (textV l).2], scanM l' n) ∧ ∀ t r, textL [] l = some (t, r) → l' = r := by
 obtain ⟨e, s', l1, _, rfl, l', J, rfl, hq⟩ := zrc c h h1 h3 h4 l n hl
 refine ⟨l', ?_, hq⟩
 rw [zbi code ext h0]
 unfold x192 scanM tM0 tA at *
 have hd := za7 (34 :: l) 1
 have hz := za9 (34 :: l)
 rw [show ((34 : UInt8) :: l).drop 1 = l from rfl] at hd
 simp only [List.length_cons] at hd hz
 have hle : (1 : Int) ≤ (l.length : Int) + 1 := by omega
 generalize x192L1 = L at *
 generalize bs (textV l).1 = T at *
 generalize (textV l).2 = ok at *
 generalize bs (34 :: l) = B at *
 generalize bs l = B2 at *
 generalize bs l' = B3 at *
 generalize l.length = ll at *
 cases J with
 | nil => simp -implicitDefEqProofs [l1, hd, hz, hle]
 | cons x xs => simp -implicitDefEqProofs [l1, hd, hz, hle]
end
end Go.EX


set_option linter.unusedVariables false
set_option linter.unusedSimpArgs false
namespace Go.EX
section
variable {code : Nat → Option XFun} {ext : Calls'}
def Ty.part {α : Type} (t : Ty α) (z : α) (xs : List α) (n : Nat) : List IV := t.row (xs ++ List.replicate n z)
section
variable {α : Type} (t : Ty α) (z sp : α) (bytes : Nat) (zs : List Value)
end
end
end Go.EX


set_option linter.unusedVariables false
set_option linter.unusedSimpArgs false
namespace Go.EX
def extPI (g : Nat) : Calls' := fun f a m => if f = g then match a with
  | [.imm (.val (.string s)), .imm (.val (.int .i64 10)), .imm (.val (.int .i64 64))] =>
   if s.size ≤ 1000000 then match Go.Lib.parseIntB 64 s.data.toList with
    | .ok v => some (.tup [int64 v, .imm (.val .nilIface)], m)
    | .range => some (.tup [int64 (Go.Lib.intSat 64 s.data.toList), .err], m)
    | .«syntax» => some (.tup [int64 0, .err], m)
   else none
  | _ => none
 else none
def extCl (g : Nat) : Calls' := fun f a m => if f = g then match a with
  | [.imm (.val (.string s))] => if s.size ≤ 1000000 then some (.imm (.val (.string s)), m) else none
  | _ => none
 else none
@[simp] theorem isNilK_niface : isNilK 4 (.imm (.val .nilIface)) = some true := rfl
@[simp] theorem isNilK_err : isNilK 4 .err = some false := rfl
structure LexCode (code : Nat → Option XFun) (ext : Calls') : Prop where
 b : BufCode code ext
 c188 : code 188 = some x188
 c189 : code 189 = some x189
 c190 : code 190 = some x190
 c191 : code 191 = some x191
 c192 : code 192 = some x192
 c193 : code 193 = some x193
 c194 : code 194 = some x194
 c195 : code 195 = some x195
 c568 : code 568 = some x568
 c569 : code 569 = some x569
 c570 : code 570 = some x570
 c571 : code 571 = some x571
 c723 : code 723 = some x723
 c725 : code 725 = some x725
 c785 : code 785 = some x785
 c796 : code 796 = some x796
 c798 : code 798 = some x798
 n708 : code 708 = none
 e708 : ∀ a m, ext 708 a m = extItoa 708 708 a m
 n787 : code 787 = none
 e787 : ∀ a m, ext 787 a m = extPI 787 787 a m
 c793 : code 793 = some x793
 n721 : code 721 = none
 e721 : ∀ a m, ext 721 a m = extCl 721 721 a m
def numN (s : List UInt8) : Int := match Go.Lib.parseIntB 64 s with
 | .ok v => v
 | .range => Go.Lib.intSat 64 s
 | .«syntax» => 0
def numOk (s : List UInt8) : Bool := match Go.Lib.parseIntB 64 s with
 | .ok v => decide (Go.Lib.itoa v = s)
 | _ => false
theorem zlq {s : List UInt8} {v : Int} (h : Go.Lib.parseIntB 64 s = .ok v) : -9223372036854775808 ≤ v ∧ v ≤ 9223372036854775807 := by
 unfold Go.Lib.parseIntB at h
 split at h
 ·cases h
 ·dsimp only at h
  split at h
  ·cases h
  ·cases h
  ·split at h
   ·cases h
   ·split at h
    ·cases h
    ·rename_i h1 h2
     cases h
     split
     ·rename_i hn
      have : ¬ (2 ^ (64 - 1) < _) := fun hc => h2 ⟨hn, hc⟩
      omega
     ·rename_i hn
      have : ¬ (2 ^ (64 - 1) ≤ _) := fun hc => h1 ⟨hn, hc⟩
      omega
section
variable {code : Nat → Option XFun} {ext : Calls'}
theorem zfb (c : LexCode code ext) {v : Int} (hv : -9223372036854775808 ≤ v ∧ v ≤ 9223372036854775807) : callW code ext 785 [int64 v, int64 10] [] = some (strV (bs (Go.Lib.itoa v)), []) := by
 have h : callW code ext 708 [int64 v, int64 10] [] = some (strV (bs (Go.Lib.itoa v)), []) := by
  rw [zbh code ext c.n708 (by decide), c.e708]
  simp [extItoa, hv, bs]
 rw [zbi code ext c.c785]
 generalize bs (Go.Lib.itoa v) = T at *
 simp -implicitDefEqProofs [x785, h]
theorem zbx (c : LexCode code ext) (s : List UInt8) (hs : s.length ≤ 1000000) : callW code ext 793 [strV (bs s)] [] = some (strV (bs s), []) := by
 have h : callW code ext 721 [strV (bs s)] [] = some (strV (bs s), []) := by
  rw [zbh code ext c.n721 (by decide), c.e721]
  simp [extCl, za9, hs]
 rw [zbi code ext c.c793]
 generalize bs s = T at *
 simp -implicitDefEqProofs [x793, h]
theorem zlp (c : LexCode code ext) (s : List UInt8) (hs : s.length ≤ 1000000) :
  (∃ v, Go.Lib.parseIntB 64 s = .ok v ∧ callW code ext 787 [strV (bs s), int64 10, int64 64] [] = some (.tup [int64 v, .imm (.val .nilIface)], [])) ∨
  ((∀ v, Go.Lib.parseIntB 64 s ≠ .ok v) ∧ callW code ext 787 [strV (bs s), int64 10, int64 64] [] = some (.tup [int64 (numN s), .err], [])) := by
 have hb : (bs s).data.toList = s := by simp [bs]
 rw [zbh code ext c.n787 (by decide), c.e787]
 unfold numN
 simp only [extPI, if_true, za9, hs, hb]
 cases Go.Lib.parseIntB 64 s with
 | ok v => exact .inl ⟨v, rfl, rfl⟩
 | range => exact .inr ⟨fun v h => (by cases h), rfl⟩
 | «syntax» => exact .inr ⟨fun v h => (by cases h), rfl⟩
theorem zs6 (c : LexCode code ext) (l : List UInt8) (n : Int) (hl : l.length ≤ 1000000) :
  ∃ l', callW code ext 194 [.optr 0 0] (scanM (34 :: l) n) = some (.tup [.agg [.imm (.val (.int .u8 3)), strV (bs (textV l).1), int64 0, int64 n], avb (textV l).2], scanM l' n) ∧ ∀ t r, textL [] l = some (t, r) → l' = r := by
 obtain ⟨l', ht, hq⟩ := zrd c.b c.c192 c.c188 c.c193 c.c798 c.c725 l n hl
 refine ⟨l', ?_, hq⟩
 rw [zbi code ext c.c194]
 have hat := bs_get (34 :: l) 0
 rw [show ((34 : UInt8) :: l)[0]? = some 34 from rfl] at hat
 unfold x194 scanM at *
 generalize x194L1 = L at *
 generalize bs (textV l).1 = T at *
 generalize (textV l).2 = ok at *
 generalize bs l' = B3 at *
 generalize bs (34 :: l) = B at *
 simp -implicitDefEqProofs [ht, hat]
end
end Go.EX

