import Derived.Test.YtjdfihnmpmckjaaGreatDoorFmt
set_option linter.unusedVariables false
set_option linter.unusedSimpArgs false
namespace Go.EX
open Go.Proofs
section
variable {P:Program}
theorem z81 {f0:FuncId->Nat} {ts:List Tab} {ρ:Go.Shelf.Ren} (L:LaysM.n246 P ρ) (ht:("internal/strconv.uint64pow10",IntKind.u64,Lib.pow10Tab)∈ts) {g:Nat} (hnum:∀f,f0 f=g->f=ρ.f 246) (hcl:zkg P (ρ.f 246)):
  zev (Names.tabs f0 P ts) P (ziu g):=by
 intro f args m r m' C vals hc hm hl hr
 unfold ziu at hc
 split at hc
 ·rename_i hf
  rw[hnum f hf]
  refine⟨hcl,?_⟩
  split at hc
  ·rename_i n
   split at hc
   ·rename_i hn
    simp only[xaf,xay]at hc
    obtain⟨rfl,rfl⟩:=hc
    have hv:vals= #[.int .i64 n,.int .i64 10]:=yim hl hr
    subst hv
    have htab:=(hm.glo _ ht).2
    refine(Any.internal_strconv_FormatInt_10 L n hn.1 hn.2 C.w htab).mono ?_
    rintro e w' ⟨rfl,k,os,rfl⟩
    refine⟨_,{ C with w:=_ },rfl,rfl,z9q hm rfl rfl rfl ?_ ?_,.imm _ _ (.val _ rfl)⟩
    ·simp[World.drewN]
    ·intro b hb
     simp[World.drewN,Array.getElem?_append,hb]
   ·cases hc
  ·cases hc
 ·cases hc
end
end Go.EX

