import Derived.Test.YtfmpeoickjggiaaGreatDoorV9s
set_option linter.unusedVariables false
set_option linter.unusedSimpArgs false
namespace Go.EX
structure Alike (f g : Fn) : Prop where
  params : f.params = g.params
  locals : f.locals = g.locals
  caps : f.caps.xs = g.caps.xs
  consts : f.consts.xs = g.consts.xs
  code : f.code.xs = g.code.xs
  handlers : f.handlers.xs = g.handlers.xs
  lines : f.lines.xs.length = g.lines.xs.length
  name : decide ((f.name.size : Int) ≤ 4096) = decide ((g.name.size : Int) ≤ 4096)
  neg : (f.lines.xs.any fun x => decide (x < 0)) = (g.lines.xs.any fun x => decide (x < 0))
theorem headOk_alike {f g : Fn} (h : Alike f g) (fn : Nat) : headOk fn f = headOk fn g := by
  unfold headOk
  rw [h.name, h.params, h.locals, h.caps, h.consts, h.code, h.handlers, h.lines, h.neg]
theorem numOk_alike {f g : Fn} (h : Alike f g) (np pc : Nat) (i : Ins) : numOk np f pc i = numOk np g pc i := by
  unfold numOk
  rw [h.locals, h.caps, h.consts, h.code]
theorem lastBad_alike {f g : Fn} (h : Alike f g) (pc : Nat) (i : Ins) : lastBad f pc i = lastBad g pc i := by
  unfold lastBad
  rw [h.code]
theorem makesR_alike {f g f2 g2 : Fn} (h : Alike f g) (h2 : Alike f2 g2) (ms : List (Int × Int)) (fn made : Int) : makesR ms fn made f f2 = makesR ms fn made g g2 := by
  unfold makesR capsAll
  rw [h.caps, h.locals, h2.caps]
structure Alikes (ps qs : List Fn) : Prop where
  len : ps.length = qs.length
  at' : ∀ (k : Nat) (f g : Fn), ps[k]? = some f → qs[k]? = some g → Alike f g
theorem codeStep_alike {ps qs : List Fn} (hp : Alikes ps qs) {f g : Fn} (h : Alike f g) (fn : Nat) (ms : List (Int × Int)) (pc : Nat) (i : Ins) : codeStep ps fn f ms pc i = codeStep qs fn g ms pc i := by
  unfold codeStep
  rw [numOk_alike h, lastBad_alike h, hp.len]
  split
  · rfl
  · split
    · by_cases hlt : i.a.toNat < ps.length
      · have h1 := List.getElem?_eq_getElem hlt
        have h2 := List.getElem?_eq_getElem (show i.a.toNat < qs.length by have := hp.len; omega)
        rw [h1, h2]
        exact makesR_alike h (hp.at' _ _ _ h1 h2) _ _ _
      · rw [List.getElem?_eq_none (by omega), List.getElem?_eq_none (by have := hp.len; omega)]
    · rfl
theorem codeGo_alike {ps qs : List Fn} (hp : Alikes ps qs) {f g : Fn} (h : Alike f g) (fn : Nat) : ∀ (l : List Ins) (pc : Nat) (ms : List (Int × Int)), codeGo ps fn f l pc ms = codeGo qs fn g l pc ms
  | [], _, _ => rfl
  | i :: r, pc, ms => by
    rw [codeGo, codeGo, codeStep_alike hp h]
    split
    · exact codeGo_alike hp h fn r _ _
    · rfl
theorem depStep_alike {f g : Fn} (h : Alike f g) (i : Ins) (pc : Nat) (v : Int) (told todo : List Int) : depStep f i pc v told todo = depStep g i pc v told todo := by
  unfold depStep
  rw [h.handlers]
theorem runD_alike {f g : Fn} (h : Alike f g) : ∀ (m : Nat) (told todo : List Int), runD f m told todo = runD g m told todo
  | 0, _, _ => rfl
  | m + 1, told, todo => by
    rw [runD, runD, h.code]
    simp only [depStep_alike h, runD_alike h m]
theorem depthsR_alike {f g : Fn} (h : Alike f g) : depthsR f = depthsR g := by
  unfold depthsR
  rw [runD_alike h, h.code]
theorem lookGo_alike {ps qs : List Fn} (hp : Alikes ps qs) : ∀ (l l' : List Fn), Alikes l l' → ∀ (fn : Nat) (ms : List (Int × Int)), lookGo ps l fn ms = lookGo qs l' fn ms
  | [], [], _, _, _ => rfl
  | [], g :: r', h, _, _ => by have := h.len; simp at this
  | f :: r, [], h, _, _ => by have := h.len; simp at this
  | f :: r, g :: r', h, fn, ms => by
    have hfg := h.at' 0 f g rfl rfl
    have hr : Alikes r r' := ⟨by have := h.len; simpa using this, fun k a b ha hb => h.at' (k + 1) a b (by simpa using ha) (by simpa using hb)⟩
    rw [lookGo, lookGo, headOk_alike hfg, hfg.code, codeGo_alike hp hfg, depthsR_alike hfg]
    simp only [lookGo_alike hp r r' hr]
theorem unmade_alike (ms : List (Int × Int)) : ∀ (l l' : List Fn), Alikes l l' → ∀ (fn : Nat), unmade ms l fn = unmade ms l' fn
  | [], [], _, _ => rfl
  | [], g :: r', h, _ => by have := h.len; simp at this
  | f :: r, [], h, _ => by have := h.len; simp at this
  | f :: r, g :: r', h, fn => by
    have hfg := h.at' 0 f g rfl rfl
    have hr : Alikes r r' := ⟨by have := h.len; simpa using this, fun k a b ha hb => h.at' (k + 1) a b (by simpa using ha) (by simpa using hb)⟩
    rw [unmade, unmade, hfg.caps, unmade_alike ms r r' hr]
theorem lookR_alike {ps qs : List Fn} (hp : Alikes ps qs) : lookR ps = lookR qs := by
  unfold lookR
  rw [hp.len, lookGo_alike hp ps qs hp]
  simp only [unmade_alike _ ps qs hp]
end Go.EX

