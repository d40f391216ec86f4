import Derived.Test.YtjdfihnmpmckjaaGreatDoorK15
import Derived.Test.YtjdfihnmpmckjaaGreatDoorTie
import Derived.Test.YtjdfihnmpmckjaaGreatDoorCards
import Derived.ProofKit
import Derived.LaidMore
import Derived.OpenShut
import Derived.Stop.Joined
import Derived.Stop.LaidErr
import Derived.JoinedOf
import Derived.SizedLaws
import Derived.SevenTiedAt
import Derived.Lib.LaidTab
import Derived.Test.YtjdfihnmpmckjaaGreatDoorExt
import Derived.Test.YtjdfihnmpmckjaaGreatDoorK14
namespace Go.Proofs.YtjdfihnmpmckjaaGreatDoor
open Go.EX Go.ChangeShapes Go.WideShapes Go.ChangeAt Go.RowKit
set_option linter.unusedVariables false
theorem own:ownKnob Tryz.prog.godebug=none:=by kernel_rfl
theorem laidOut:laidOutB Tryz.prog=true:=by kernel_rfl
abbrev laidTabs:List (String×DataW Unit):=[("math/bits.deBruijn32tab",Rows.laid_math_bits_deBruijn32tab),("math/bits.deBruijn64tab",Rows.laid_math_bits_deBruijn64tab),("internal/strconv.uint64pow10",Rows.laid_internal_strconv_uint64pow10)]
theorem tab_data:(Rows.laid_internal_strconv_uint64pow10:DataW Unit)=Lib.tabData .u64 Lib.pow10Tab:=by kernel_rfl
theorem tabs_of{W:World}(h:laidMetH Tryz.prog laidTabs W):TabsIn Tryz.prog [("internal/strconv.uint64pow10",.u64,Lib.pow10Tab)] (fun b=>b<W.heap.size) W:=by
 have hl:laidMet Tryz.prog [("internal/strconv.uint64pow10",Lib.tabData .u64 Lib.pow10Tab)] W:=by
  have h2:laidMet Tryz.prog laidTabs W:=h
  rw[laidTabs,tab_data]at h2
  exact h2.tail.tail
 have hg:Tryz.prog.globalNamed "internal/strconv.uint64pow10" =some 0:=by kernel_rfl
 have ht:=Lib.tabIs_of_head (t:=327) (e:=321) (n:=20) hg (by kernel_rfl) Tryz.underlying327 Tryz.underlying321 (by kernel_rfl) (by kernel_rfl) hl
 intro t ht'
 simp only[List.mem_singleton]at ht'
 subst ht'
 refine⟨⟨0,hg,?_⟩,ht⟩
 have hv:=ht
 unfold Lib.TabIs World.var? at hv
 rw[hg]at hv
 simp only[Option.bind_some]at hv;show 0<W.heap.size
 by_cases hlt:0<W.heap.size
 ·exact hlt
 ·rw[Array.getElem?_eq_none (by omega)]at hv
  cases hv
theorem door_met(os:Os)(args:Array Value):laidMetH Tryz.prog laidTabs ((World.doorLaid Tryz.prog 400 os).forCall (fun _ _=>0) ⟨#[],args,[]⟩).memory:=
 laidMetH_of_parts3 (fuel:=8) (laidMet_of_run' 8 (by kernel_rfl) (by kernel_rfl)) (by kernel_rfl) (by kernel_rfl)
theorem readsVal:ReadsAs Tryz.prog 27 tVal:=
 readsVia (σ:=tVal) (readsStruct (τ:=tPair (tInt .u8) (tPair (tInt .i64) tNil)) Tryz.underlying27 (readsCons (readsInt Tryz.underlying25) rfl (by kernel_rfl) (readsCons (readsInt Tryz.underlying2) rfl (by kernel_rfl) (readsNil _))) (by kernel_rfl))
  (fun (x:Int×Int×Unit)=>(⟨x.1,x.2.1⟩:Val)) (fun _=>rfl) (fun _ h=>⟨h.1,h.2.1⟩) rfl
theorem readsVals:ReadsAs Tryz.prog 49 (tSl tVal):=readsSl Tryz.underlying49 readsVal (by kernel_rfl) (by decide) (of_decide_eq_true (by kernel_rfl))
theorem readsObj:ReadsAs Tryz.prog 98 tObj:=
 readsVia (σ:=tObj) (readsStruct (τ:=tPair (tInt .u8) (tPair tStr (tPair (tSl tVal) (tPair (tInt .i64) (tPair (tInt .i64) tNil))))) Tryz.underlying98
  (readsCons (readsInt Tryz.underlying25) rfl (by kernel_rfl) (readsCons (readsStr Tryz.underlying9) rfl (by kernel_rfl) (readsCons readsVals rfl (by kernel_rfl) (readsCons (readsInt Tryz.underlying3) rfl (by kernel_rfl) (readsCons (readsInt Tryz.underlying3) rfl (by kernel_rfl) (readsNil _)))))) (by kernel_rfl))
  (fun (x:Int×ByteArray×Sl tVal×Int×Int×Unit)=>Go.EX.Obj.mk x.1 x.2.1 x.2.2.1 x.2.2.2.1 x.2.2.2.2.1) (fun _=>rfl) (fun _ h=>⟨h.1,h.2.1,h.2.2.2.1,h.2.2.2.2.1⟩) rfl
theorem readsStore:ReadsAs Tryz.prog 23 (tSl tObj):=readsSl Tryz.underlying23 readsObj (by kernel_rfl) (by decide) (of_decide_eq_true (by kernel_rfl))
theorem readsTwo:ReadsAs Tryz.prog 28 (tPair tVal tVal):=readsArr2 Tryz.underlying28 readsVal (by kernel_rfl) (by kernel_rfl)
theorem extIf_ok{num:Names}{P:Program}{g:Nat}{c:Calls'}(h:ExtOK num P c):ExtOK num P (extIf g c):=by
 intro f args m r m' C vals hc hm hl hr
 unfold extIf at hc
 split at hc
 ·exact h f args m r m' C vals hc hm hl hr
 ·cases hc
theorem runs11:Runs Tryz.prog (Names.tabs num Tryz.prog [powTab]) code11 noQ:=
 ⟨by kernel_rfl,fnsL,zmo,nz,zdg,fun _ _ _ _ _ _=>Iff.rfl,fun _ _ _ h=>h,fun _ h1 h2=>⟨h1,h2⟩⟩
theorem runsR:Runs Tryz.prog (Names.tabs num Tryz.prog [powTab]) code11r noQ:=
 ⟨by kernel_rfl,fnsR,zmo,nz,zdl,fun _ _ _ _ _ _=>Iff.rfl,fun _ _ _ h=>h,fun _ h1 h2=>⟨h1,h2⟩⟩
theorem runsC:Runs Tryz.prog (Names.tabs num Tryz.prog [powTab]) code11c noQ:=
 ⟨by kernel_rfl,fnsC,zmo,nz,zdi,fun _ _ _ _ _ _=>Iff.rfl,fun _ _ _ h=>h,fun _ h1 h2=>⟨h1,h2⟩⟩
theorem runsH:Runs Tryz.prog (Names.tabs num Tryz.prog [powTab]) code11h noQ:=
 ⟨by kernel_rfl,fnsH,zmo,nz,zdj,fun _ _ _ _ _ _=>Iff.rfl,fun _ _ _ h=>h,fun _ h1 h2=>⟨h1,h2⟩⟩
theorem extPi_ok(i:Nat):ExtOK (Names.tabs num Tryz.prog [powTab]) Tryz.prog (extPi i):=by
 unfold extPi extP1 extP2
 split
 ·exact zf4 (extIf_ok (zsh runsC).fn) (zf4 (zf3 (zsh runsR).fn) (zf6 (zsh runs11).fn))
 ·exact zf4 (zf3 (zsh runsR).fn) (zf6 (zsh runs11).fn)
theorem runsB(i:Nat):Runs Tryz.prog (Names.tabs num Tryz.prog [powTab]) code11b (extPi i):=
 ⟨by kernel_rfl,fnsB,extPi_ok i,nz,zdh,fun _ _ _ _ _ _=>Iff.rfl,fun _ _ _ h=>h,fun _ h1 h2=>⟨h1,h2⟩⟩
theorem runsLaw(i:Nat):Runs Tryz.prog (Names.tabs num Tryz.prog [powTab]) code11l (extB i):=
 ⟨by kernel_rfl,fns,zf4 libs (zf4 (zf3 (zsh runs11).fn) (zf4 (zf3 (zsh (runsB i)).fn) (zf3 (zsh runsH).fn))),
  nz,zdk,fun _ _ _ _ _ _=>Iff.rfl,fun _ _ _ h=>h,fun _ h1 h2=>⟨h1,h2⟩⟩
theorem specBins:LawSpec Rows.primBinsSpec Tryz.f3.params.toList.length:=
 ⟨rfl,fun H ds h=>match ds,h with|[_,_,_],_=>rfl⟩
set_option maxRecDepth 100000 in
theorem bins_lifted (os:Os) (started:os.Started) (H:Type) (enc:TypeId×Value→H):
  ReturnsInHanded {} Tryz.checked os 3 .any (fun w args=>(Rows.primBinsSpec.pre enc Tryz.prog Tryz.f3 [] false w args∧laidMetH Tryz.prog laidTabs w)∧sizedMet enc Tryz.prog Tryz.f3 (OpenSpec.ofChange Rows.primBinsSpec) false w args)
   (Rows.primBinsSpec.post enc Tryz.prog Tryz.f3 false true false false):=by
 refine returnsInHanded_of_change_and (C:=Tryz.checked) (X:=fun w _=>laidMetH Tryz.prog laidTabs w) (fun _ _ _ hh h=>h.of_heap hh) own started (by kernel_rfl) Tryz.func3
  (ChangeSpec.witness_shaped (enc:=enc) (C:=Tryz.checked) (os:=os) (X:=fun w _=>laidMetH Tryz.prog laidTabs w) false (World.doorLaid Tryz.prog 400 os) #[.slice none 0 0,.int .u8 0,.agg #[.int .u8 0,.int .i64 0,.int .u8 0,.int .i64 0]] 8 rfl (World.shaped_of_RefB (by kernel_rfl) (by kernel_rfl)) (by kernel_rfl) (by kernel_rfl) (by kernel_rfl) (door_met os _)) ?_
 intro W base args ds gs before hval hW _ hwt hX _
 refine ziw runsLaw specBins laidOut (by kernel_rfl) (tb:=4) (by kernel_rfl) Tryz.underlying4 (ArgsOf.cons readsStore (by kernel_rfl) (ArgsOf.cons (readsInt Tryz.underlying24) (by kernel_rfl) (ArgsOf.cons readsTwo (by kernel_rfl) ArgsOf.nil))) ?_ W base args ds gs before hval hW hwt (tabs_of hX)
 rintro l ⟨x,_,_,rfl,op,_,hop,rfl,⟨a,b⟩,_,hy,rfl,rfl⟩
 have ho:=wfU8.1 hop
 exact zo2 x.ok ho.1 ho.2 (a:=a) (b:=b) (by
  intro v hv
  simp only[List.mem_cons,List.not_mem_nil,or_false]at hv
  rcases hv with rfl|rfl
  ·exact hy.1
  ·exact hy.2)
theorem bins_said:Rows.PrimBinsSaid:=
 OpenClaim.holds_of_wide 3 Tryz.f3 rfl rfl rfl rfl rfl rfl rfl ⟨rfl,rfl,rfl,rfl,rfl⟩ rfl rfl rfl rfl rfl (by kernel_rfl) Tryz.func3 (by kernel_rfl)
  (of_decide_eq_true (by kernel_rfl)) (by unfold Func.isWrapper;first|(rw[if_pos (by decide+kernel)];kernel_rfl)|(rw[if_neg (by decide+kernel)];exact⟨rfl,rfl⟩))
  (fun os started H enc _=>bins_lifted os started H enc)
theorem bins_holds:Rows.PrimBinsCardSaid:=
 Claim7.holds_tied_plain_at .later [] [.data,.data,.data] true (true, "ac4378993aea961aadb552e2a3552c619b3b6b650adf71b7639448a453dd9b1d") false
  bins_said (fun _ h=>by cases h) (by kernel_rfl) (fun _ h=>by cases h) primBins_row_tie rfl ⟨rfl,rfl⟩ (by kernel_rfl) rfl
  (fun f fn hf hfn=>by
   obtain rfl:f=3:=Option.some.inj ((show Tryz.prog.funcNamed "gearbox/gearboxlaw11.PrimBins" =some 3 by kernel_rfl).symm.trans hf) |>.symm
   obtain rfl:fn=Tryz.f3:=(Option.some.inj (Tryz.func3.symm.trans hfn)).symm
   exact⟨by kernel_rfl,fun j t ht=>by
    rw[Tryz.params3]at ht
    have hm:t∈[23,24,28]:=by simpa using Array.mem_of_getElem? ht
    have hall:([23,24,28].all fun u=> !Tryz.prog.wantsStandIn u)=true:=by kernel_rfl
    exact(show Tryz.prog.wantsStandIn t=false by simpa using List.all_eq_true.1 hall t hm)⟩)
  (by kernel_rfl)
#print axioms bins_holds
end Go.Proofs.YtjdfihnmpmckjaaGreatDoor

