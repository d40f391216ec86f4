import Derived.Test.YtjdfihnmpmckjaaGreatDoorK16
import Derived.Test.YtjdfihnmpmckjaaGreatDoorTie
import Derived.Test.YtjdfihnmpmckjaaGreatDoorCards
import Derived.ProofKit
import Derived.LaidMore
import Derived.OpenShut
import Derived.Stop.Joined
import Derived.Stop.LaidErr
import Derived.JoinedOf
import Derived.SizedLaws
import Derived.SevenTiedAt
import Derived.Lib.LaidTab
import Derived.Test.YtjdfihnmpmckjaaGreatDoorExt
namespace Go.Proofs.YtjdfihnmpmckjaaGreatDoor
open Go.EX Go.ChangeShapes Go.WideShapes Go.ChangeAt Go.RowKit
set_option linter.unusedVariables false
theorem own:ownKnob Tryz.prog.godebug=none:=by kernel_rfl
theorem laidOut:laidOutB Tryz.prog=true:=by kernel_rfl
abbrev laidTabs:List (String×DataW Unit):=[("math/bits.deBruijn32tab",Rows.laid_math_bits_deBruijn32tab),("math/bits.deBruijn64tab",Rows.laid_math_bits_deBruijn64tab),("internal/strconv.uint64pow10",Rows.laid_internal_strconv_uint64pow10)]
theorem tab_data:(Rows.laid_internal_strconv_uint64pow10:DataW Unit)=Lib.tabData .u64 Lib.pow10Tab:=by kernel_rfl
theorem tabs_of{W:World}(h:laidMetH Tryz.prog laidTabs W):TabsIn Tryz.prog [("internal/strconv.uint64pow10",.u64,Lib.pow10Tab)] (fun b=>b<W.heap.size) W:=by
 have hl:laidMet Tryz.prog [("internal/strconv.uint64pow10",Lib.tabData .u64 Lib.pow10Tab)] W:=by
  have h2:laidMet Tryz.prog laidTabs W:=h
  rw[laidTabs,tab_data]at h2
  exact h2.tail.tail
 have hg:Tryz.prog.globalNamed "internal/strconv.uint64pow10" =some 0:=by kernel_rfl
 have ht:=Lib.tabIs_of_head (t:=327) (e:=321) (n:=20) hg (by kernel_rfl) Tryz.underlying327 Tryz.underlying321 (by kernel_rfl) (by kernel_rfl) hl
 intro t ht'
 simp only[List.mem_singleton]at ht'
 subst ht'
 refine⟨⟨0,hg,?_⟩,ht⟩
 have hv:=ht
 unfold Lib.TabIs World.var? at hv
 rw[hg]at hv
 simp only[Option.bind_some]at hv;show 0<W.heap.size
 by_cases hlt:0<W.heap.size
 ·exact hlt
 ·rw[Array.getElem?_eq_none (by omega)]at hv
  cases hv
theorem door_met(os:Os)(args:Array Value):laidMetH Tryz.prog laidTabs ((World.doorLaid Tryz.prog 400 os).forCall (fun _ _=>0) ⟨#[],args,[]⟩).memory:=
 laidMetH_of_parts3 (fuel:=8) (laidMet_of_run' 8 (by kernel_rfl) (by kernel_rfl)) (by kernel_rfl) (by kernel_rfl)
theorem readsVal:zd7 Tryz.prog 27 tVal:=
 z17 (σ:=tVal) (z16 (τ:=zf1 (zct .u8) (zf1 (zct .i64) zrq)) Tryz.underlying27 (zks (zoj Tryz.underlying25) rfl (by kernel_rfl) (zks (zoj Tryz.underlying2) rfl (by kernel_rfl) (z14 _))) (by kernel_rfl))
  (fun (x:Int×Int×Unit)=>(⟨x.1,x.2.1⟩:Val)) (fun _=>rfl) (fun _ h=>⟨h.1,h.2.1⟩) rfl
theorem readsVals:zd7 Tryz.prog 49 (tSl tVal):=z15 Tryz.underlying49 readsVal (by kernel_rfl) (by decide) (of_decide_eq_true (by kernel_rfl))
theorem readsObj:zd7 Tryz.prog 98 tObj:=
 z17 (σ:=tObj) (z16 (τ:=zf1 (zct .u8) (zf1 tStr (zf1 (tSl tVal) (zf1 (zct .i64) (zf1 (zct .i64) zrq))))) Tryz.underlying98
  (zks (zoj Tryz.underlying25) rfl (by kernel_rfl) (zks (yeh Tryz.underlying9) rfl (by kernel_rfl) (zks readsVals rfl (by kernel_rfl) (zks (zoj Tryz.underlying3) rfl (by kernel_rfl) (zks (zoj Tryz.underlying3) rfl (by kernel_rfl) (z14 _)))))) (by kernel_rfl))
  (fun (x:Int×ByteArray×Sl tVal×Int×Int×Unit)=>Go.EX.Obj.mk x.1 x.2.1 x.2.2.1 x.2.2.2.1 x.2.2.2.2.1) (fun _=>rfl) (fun _ h=>⟨h.1,h.2.1,h.2.2.2.1,h.2.2.2.2.1⟩) rfl
theorem readsStore:zd7 Tryz.prog 23 (tSl tObj):=z15 Tryz.underlying23 readsObj (by kernel_rfl) (by decide) (of_decide_eq_true (by kernel_rfl))
theorem readsThree:zd7 Tryz.prog 43 (zf1 tVal (zf1 tVal tVal)):=yeg Tryz.underlying43 readsVal (by kernel_rfl) (by kernel_rfl)
theorem extIf_ok{num:Names}{P:Program}{g:Nat}{c:zac}(h:zew num P c):zew num P (zik g c):=by
 intro f args m r m' C vals hc hm hl hr
 unfold zik at hc
 split at hc
 ·exact h f args m r m' C vals hc hm hl hr
 ·cases hc
theorem runsOf{code:Nat->Option zab}{ext:zac}(h:∀(f:FuncId) (xf:zab),code (num f)=some xf->FunOK Tryz.prog num f xf)(hy:code zfq=none)(he:zew (Names.tabs num Tryz.prog [zhy]) Tryz.prog ext):zg3 Tryz.prog (Names.tabs num Tryz.prog [zhy]) code ext:=
 ⟨by kernel_rfl,h,he,nz,hy,fun _ _ _ _ _ _=>Iff.rfl,fun _ _ _ h=>h,fun _ h1 h2=>⟨h1,h2⟩⟩
theorem runs11:zg3 Tryz.prog (Names.tabs num Tryz.prog [zhy]) zfb noQ:=runsOf z75 z6r zqu
theorem runsR:zg3 Tryz.prog (Names.tabs num Tryz.prog [zhy]) zg5 noQ:=runsOf z76 z6x zqu
theorem runsE(c:Nat):zg3 Tryz.prog (Names.tabs num Tryz.prog [zhy]) (zhp c) noQ:=runsOf (z72 c) (z6t c) zqu
theorem runsH:zg3 Tryz.prog (Names.tabs num Tryz.prog [zhy]) zkg noQ:=runsOf z74 z6v zqu
theorem extK_ok(j:Option Nat):zew (Names.tabs num Tryz.prog [zhy]) Tryz.prog (ze0 j):=by
 cases j with
 |none=>exact zki (zlz (zh5 runsR).fn) (zzt (zh5 runs11).fn)
 |some c=>exact zki (extIf_ok (zh5 (runsE c)).fn) (zki (zlz (zh5 runsR).fn) (zzt (zh5 runs11).fn))
theorem runsG(j:Option Nat):zg3 Tryz.prog (Names.tabs num Tryz.prog [zhy]) zcu (ze0 j):=runsOf z73 z6u (extK_ok j)
theorem runsLaw(j:Option Nat×Option Nat):zg3 Tryz.prog (Names.tabs num Tryz.prog [zhy]) zcr (zc3 j.1 j.2):=
 runsOf fns z6s (zki z9m (zki (zlz (zh5 runs11).fn) (zki (zlz (zh5 (runsG j.1)).fn) (zki (zlz (zh5 (runsG j.2)).fn) (zlz (zh5 runsH).fn)))))
theorem specKeys:zxq Rows.primKeysSpec Tryz.f4.params.toList.length:=
 ⟨rfl,fun H ds h=>match ds,h with|[_,_],_=>rfl⟩
set_option maxRecDepth 100000 in
theorem keys_lifted (os:Os) (started:os.Started) (H:Type) (enc:TypeId×Value->H):
  ReturnsInHanded {} Tryz.checked os 4 .any (fun w args=>(Rows.primKeysSpec.pre enc Tryz.prog Tryz.f4 [] false w args/\laidMetH Tryz.prog laidTabs w)/\sizedMet enc Tryz.prog Tryz.f4 (OpenSpec.ofChange Rows.primKeysSpec) false w args)
   (Rows.primKeysSpec.post enc Tryz.prog Tryz.f4 false true false false):=by
 refine returnsInHanded_of_change_and (C:=Tryz.checked) (X:=fun w _=>laidMetH Tryz.prog laidTabs w) (fun _ _ _ hh h=>h.of_heap hh) own started (by kernel_rfl) Tryz.func4
  (ChangeSpec.witness_shaped (enc:=enc) (C:=Tryz.checked) (os:=os) (X:=fun w _=>laidMetH Tryz.prog laidTabs w) false (World.doorLaid Tryz.prog 400 os) #[.slice none 0 0,.agg #[.int .u8 0,.int .i64 0,.int .u8 0,.int .i64 0,.int .u8 0,.int .i64 0]] 8 rfl (World.shaped_of_RefB (by kernel_rfl) (by kernel_rfl)) (by kernel_rfl) (by kernel_rfl) (by kernel_rfl) (door_met os _)) ?_
 intro W base args ds gs before hval hW _ hwt hX _
 refine z9e runsLaw specKeys laidOut (by kernel_rfl) (tb:=4) (by kernel_rfl) Tryz.underlying4 (ArgsOf.cons readsStore (by kernel_rfl) (ArgsOf.cons readsThree (by kernel_rfl) ArgsOf.nil)) ?_ W base args ds gs before hval hW hwt (tabs_of hX)
 rintro l ⟨x,_,_,rfl,⟨a,b,c⟩,_,hy,rfl,rfl⟩
 obtain⟨j1,j2,m,h⟩:=ydq x.ok (v:=a) (k:=b) (x:=c) (by
  intro v hv
  simp only[List.mem_cons,List.not_mem_nil,or_false]at hv
  rcases hv with rfl|rfl|rfl
  ·exact hy.1
  ·exact hy.2.1
  ·exact hy.2.2)
 exact⟨(j1,j2),m,h⟩
theorem keys_said:Rows.PrimKeysSaid:=
 OpenClaim.holds_of_wide 4 Tryz.f4 rfl rfl rfl rfl rfl rfl rfl ⟨rfl,rfl,rfl,rfl,rfl⟩ rfl rfl rfl rfl rfl (by kernel_rfl) Tryz.func4 (by kernel_rfl)
  (of_decide_eq_true (by kernel_rfl)) (by unfold Func.isWrapper;first|(rw[if_pos (by decide+kernel)];kernel_rfl)|(rw[if_neg (by decide+kernel)];exact⟨rfl,rfl⟩))
  (fun os started H enc _=>keys_lifted os started H enc)
theorem keys_holds:Rows.PrimKeysCardSaid:=
 Claim7.holds_tied_plain_at .later [] [.data,.data,.data] true (true, "ac4378993aea961aadb552e2a3552c619b3b6b650adf71b7639448a453dd9b1d") false
  keys_said (fun _ h=>by cases h) (by kernel_rfl) (fun _ h=>by cases h) primKeys_row_tie rfl ⟨rfl,rfl⟩ (by kernel_rfl) rfl
  (fun f fn hf hfn=>by
   obtain rfl:f=4:=Option.some.inj ((show Tryz.prog.funcNamed "gearbox/gearboxlaw11.PrimKeys" =some 4 by kernel_rfl).symm.trans hf) |>.symm
   obtain rfl:fn=Tryz.f4:=(Option.some.inj (Tryz.func4.symm.trans hfn)).symm
   exact⟨by kernel_rfl,fun j t ht=>by
    rw[Tryz.params4]at ht
    have hm:t∈[23,43]:=by simpa using Array.mem_of_getElem? ht
    have hall:([23,43].all fun u=> !Tryz.prog.wantsStandIn u)=true:=by kernel_rfl
    exact(show Tryz.prog.wantsStandIn t=false by simpa using List.all_eq_true.1 hall t hm)⟩)
  (by kernel_rfl)
#print axioms keys_holds
end Go.Proofs.YtjdfihnmpmckjaaGreatDoor

