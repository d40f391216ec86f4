import Derived.Test.YtjdfihnmpmckjaaGreatDoorK16
import Derived.Test.YtjdfihnmpmckjaaGreatDoorTie
import Derived.Test.YtjdfihnmpmckjaaGreatDoorCards
import Derived.ProofKit
import Derived.LaidMore
import Derived.OpenShut
import Derived.Stop.Joined
import Derived.Stop.LaidErr
import Derived.JoinedOf
import Derived.SizedLaws
import Derived.SevenTiedAt
import Derived.Lib.LaidTab
import Derived.Test.YtjdfihnmpmckjaaGreatDoorExt
import Derived.Test.YtjdfihnmpmckjaaGreatDoorK7
namespace Go.Proofs.YtjdfihnmpmckjaaGreatDoor
open Go.EX Go.ChangeShapes Go.WideShapes Go.ChangeAt Go.RowKit
set_option linter.unusedVariables false
theorem own:ownKnob Tryz.prog.godebug=none:=by kernel_rfl
theorem laidOut:laidOutB Tryz.prog=true:=by kernel_rfl
abbrev laidTabs:List (String×DataW Unit):=[("math/bits.deBruijn32tab",Rows.laid_math_bits_deBruijn32tab),("math/bits.deBruijn64tab",Rows.laid_math_bits_deBruijn64tab),("internal/strconv.uint64pow10",Rows.laid_internal_strconv_uint64pow10)]
theorem tab_data:(Rows.laid_internal_strconv_uint64pow10:DataW Unit)=Lib.tabData .u64 Lib.pow10Tab:=by kernel_rfl
theorem tabs_of{W:World}(h:laidMetH Tryz.prog laidTabs W):TabsIn Tryz.prog [("internal/strconv.uint64pow10",.u64,Lib.pow10Tab)] (fun b=>b<W.heap.size) W:=by
 have hl:laidMet Tryz.prog [("internal/strconv.uint64pow10",Lib.tabData .u64 Lib.pow10Tab)] W:=by
  have h2:laidMet Tryz.prog laidTabs W:=h
  rw[laidTabs,tab_data]at h2
  exact h2.tail.tail
 have hg:Tryz.prog.globalNamed "internal/strconv.uint64pow10" =some 0:=by kernel_rfl
 have ht:=Lib.tabIs_of_head (t:=327) (e:=321) (n:=20) hg (by kernel_rfl) Tryz.underlying327 Tryz.underlying321 (by kernel_rfl) (by kernel_rfl) hl
 intro t ht'
 simp only[List.mem_singleton]at ht'
 subst ht'
 refine⟨⟨0,hg,?_⟩,ht⟩
 have hv:=ht
 unfold Lib.TabIs World.var? at hv
 rw[hg]at hv
 simp only[Option.bind_some]at hv;show 0<W.heap.size
 by_cases hlt:0<W.heap.size
 ·exact hlt
 ·rw[Array.getElem?_eq_none (by omega)]at hv
  cases hv
theorem door_met(os:Os)(args:Array Value):laidMetH Tryz.prog laidTabs ((World.doorLaid Tryz.prog 400 os).forCall (fun _ _=>0) ⟨#[],args,[]⟩).memory:=
 laidMetH_of_parts3 (fuel:=8) (laidMet_of_run' 8 (by kernel_rfl) (by kernel_rfl)) (by kernel_rfl) (by kernel_rfl)
theorem readsVal:zfu Tryz.prog 27 tVal:=
 z3a (σ:=tVal) (z29 (τ:=zi6 (zcs .u8) (zi6 (zcs .i64) zso)) Tryz.underlying27 (zk4 (zpb Tryz.underlying25) rfl (by kernel_rfl) (zk4 (zpb Tryz.underlying2) rfl (by kernel_rfl) (z26 _))) (by kernel_rfl))
  (fun (x:Int×Int×Unit)=>(⟨x.1,x.2.1⟩:Val)) (fun _=>rfl) (fun _ h=>⟨h.1,h.2.1⟩) rfl
theorem readsVals:zfu Tryz.prog 49 (tSl tVal):=z27 Tryz.underlying49 readsVal (by kernel_rfl) (by decide) (of_decide_eq_true (by kernel_rfl))
theorem readsObj:zfu Tryz.prog 98 tObj:=
 z3a (σ:=tObj) (z29 (τ:=zi6 (zcs .u8) (zi6 tStr (zi6 (tSl tVal) (zi6 (zcs .i64) (zi6 (zcs .i64) zso))))) Tryz.underlying98
  (zk4 (zpb Tryz.underlying25) rfl (by kernel_rfl) (zk4 (z28 Tryz.underlying9) rfl (by kernel_rfl) (zk4 readsVals rfl (by kernel_rfl) (zk4 (zpb Tryz.underlying3) rfl (by kernel_rfl) (zk4 (zpb Tryz.underlying3) rfl (by kernel_rfl) (z26 _)))))) (by kernel_rfl))
  (fun (x:Int×ByteArray×Sl tVal×Int×Int×Unit)=>Go.EX.Obj.mk x.1 x.2.1 x.2.2.1 x.2.2.2.1 x.2.2.2.2.1) (fun _=>rfl) (fun _ h=>⟨h.1,h.2.1,h.2.2.2.1,h.2.2.2.2.1⟩) rfl
theorem readsStore:zfu Tryz.prog 23 (tSl tObj):=z27 Tryz.underlying23 readsObj (by kernel_rfl) (by decide) (of_decide_eq_true (by kernel_rfl))
theorem extIf_ok{num:Names}{P:Program}{g:Nat}{c:zac}(h:zev num P c):zev num P (zit g c):=by
 intro f args m r m' C vals hc hm hl hr
 unfold zit at hc
 split at hc
 ·exact h f args m r m' C vals hc hm hl hr
 ·cases hc
theorem runsOf{code:Nat->Option zab}{ext:zac}(h:∀(f:FuncId) (xf:zab),code (num f)=some xf->FunOK Tryz.prog num f xf)(hy:code zfs=none)(he:zev (Names.tabs num Tryz.prog [zh7]) Tryz.prog ext):zg5 Tryz.prog (Names.tabs num Tryz.prog [zh7]) code ext:=
 ⟨by kernel_rfl,h,he,nz,hy,fun _ _ _ _ _ _=>Iff.rfl,fun _ _ _ h=>h,fun _ h1 h2=>⟨h1,h2⟩⟩
theorem runs11:zg5 Tryz.prog (Names.tabs num Tryz.prog [zh7]) zfh noQ:=runsOf z9d z7o zrq
theorem runsR:zg5 Tryz.prog (Names.tabs num Tryz.prog [zh7]) zg7 noQ:=runsOf z9f z7u zrq
theorem runsE(c:Nat):zg5 Tryz.prog (Names.tabs num Tryz.prog [zh7]) (zhv c) noQ:=runsOf (z9b c) (z7p c) zrq
theorem runsH:zg5 Tryz.prog (Names.tabs num Tryz.prog [zh7]) zks noQ:=runsOf z9c z7q zrq
theorem extK_ok(j:Option Nat):zev (Names.tabs num Tryz.prog [zh7]) Tryz.prog (zcj j):=by
 cases j with
 |none=>exact zhx (ziv (zgg runsR).fn) (z0r (zgg runs11).fn)
 |some c=>exact zhx (extIf_ok (zgg (runsE c)).fn) (zhx (ziv (zgg runsR).fn) (z0r (zgg runs11).fn))
theorem runsP(j:Option Nat):zg5 Tryz.prog (Names.tabs num Tryz.prog [zh7]) zce (zcj j):=runsOf z9e z7t (extK_ok j)
theorem runsLaw(j:Nat->Option Nat):zg5 Tryz.prog (Names.tabs num Tryz.prog [zh7]) zcb (zb9 j):=
 runsOf fns z7s (zhx yar (zhx (ziv (zgg runs11).fn) (zhx (ziv (zgg (runsP _)).fn) (zhx (ziv (zgg (runsP _)).fn) (zhx (ziv (zgg (runsP _)).fn) (zhx (ziv (zgg (runsP _)).fn) (zhx (ziv (zgg (runsP _)).fn) (ziv (zgg runsH).fn))))))))
theorem specMakes:zyu Rows.primMakesSpec Tryz.f5.params.toList.length:=
 ⟨rfl,fun H ds h=>match ds,h with|[_,_,_],_=>rfl⟩
set_option maxRecDepth 100000 in
theorem makes_lifted (os:Os) (started:os.Started) (H:Type) (enc:TypeId×Value->H):
  ReturnsInHanded {} Tryz.checked os 5 .any (fun w args=>(Rows.primMakesSpec.pre enc Tryz.prog Tryz.f5 [] false w args/\laidMetH Tryz.prog laidTabs w)/\sizedMet enc Tryz.prog Tryz.f5 (OpenSpec.ofChange Rows.primMakesSpec) false w args)
   (Rows.primMakesSpec.post enc Tryz.prog Tryz.f5 false true false false):=by
 refine returnsInHanded_of_change_and (C:=Tryz.checked) (X:=fun w _=>laidMetH Tryz.prog laidTabs w) (fun _ _ _ hh h=>h.of_heap hh) own started (by kernel_rfl) Tryz.func5
  (ChangeSpec.witness_shaped (enc:=enc) (C:=Tryz.checked) (os:=os) (X:=fun w _=>laidMetH Tryz.prog laidTabs w) false (World.doorLaid Tryz.prog 400 os) #[.slice none 0 0,.string .empty,.slice none 0 0] 8 rfl (World.shaped_of_RefB (by kernel_rfl) (by kernel_rfl)) (by kernel_rfl) (by kernel_rfl) (by kernel_rfl) (door_met os _)) ?_
 intro W base args ds gs before hval hW _ hwt hX _
 refine yak runsLaw specMakes laidOut (by kernel_rfl) (tb:=4) (by kernel_rfl) Tryz.underlying4 (ArgsOf.cons readsStore (by kernel_rfl) (ArgsOf.cons (z28 Tryz.underlying9) (by kernel_rfl) (ArgsOf.cons readsVals (by kernel_rfl) ArgsOf.nil))) ?_ W base args ds gs before hval hW hwt (tabs_of hX)
 rintro l ⟨x,_,_,rfl,u,_,hu,rfl,y,_,_,rfl,rfl⟩
 have hu:u.size<=140737488355328:=hu
 obtain⟨j,m,h⟩:=ye8 (t:=u) x.ok y.ok (by omega)
 exact⟨j,m,h⟩
theorem makes_said:Rows.PrimMakesSaid:=
 OpenClaim.holds_of_wide 5 Tryz.f5 rfl rfl rfl rfl rfl rfl rfl ⟨rfl,rfl,rfl,rfl,rfl⟩ rfl rfl rfl rfl rfl (by kernel_rfl) Tryz.func5 (by kernel_rfl)
  (of_decide_eq_true (by kernel_rfl)) (by unfold Func.isWrapper;first|(rw[if_pos (by decide+kernel)];kernel_rfl)|(rw[if_neg (by decide+kernel)];exact⟨rfl,rfl⟩))
  (fun os started H enc _=>makes_lifted os started H enc)
theorem makes_holds:Rows.PrimMakesCardSaid:=
 Claim7.holds_tied_plain_at .later [] [.data,.data,.data] true (true, "ac4378993aea961aadb552e2a3552c619b3b6b650adf71b7639448a453dd9b1d") false
  makes_said (fun _ h=>by cases h) (by kernel_rfl) (fun _ h=>by cases h) primMakes_row_tie rfl ⟨rfl,rfl⟩ (by kernel_rfl) rfl
  (fun f fn hf hfn=>by
   obtain rfl:f=5:=Option.some.inj ((show Tryz.prog.funcNamed "gearbox/gearboxlaw11.PrimMakes" =some 5 by kernel_rfl).symm.trans hf) |>.symm
   obtain rfl:fn=Tryz.f5:=(Option.some.inj (Tryz.func5.symm.trans hfn)).symm
   exact⟨by kernel_rfl,fun j t ht=>by
    rw[Tryz.params5]at ht
    have hm:t∈[23,9,49]:=by simpa using Array.mem_of_getElem? ht
    have hall:([23,9,49].all fun u=> !Tryz.prog.wantsStandIn u)=true:=by kernel_rfl
    exact(show Tryz.prog.wantsStandIn t=false by simpa using List.all_eq_true.1 hall t hm)⟩)
  (by kernel_rfl)
#print axioms makes_holds
end Go.Proofs.YtjdfihnmpmckjaaGreatDoor

