import Derived.Test.YtjdfihnmpmckjaaGreatDoorExt
import Derived.Test.YtjdfihnmpmckjaaGreatDoorK6
import Derived.Test.YtjdfihnmpmckjaaGreatDoorK9
import Derived.Test.YtjdfihnmpmckjaaGreatDoorK7
import Derived.Test.YtjdfihnmpmckjaaGreatDoorK12
import Derived.Test.YtjdfihnmpmckjaaGreatDoorK10
import Derived.Test.YtjdfihnmpmckjaaGreatDoorK13
import Derived.Test.YtjdfihnmpmckjaaGreatDoorRows
set_option linter.unusedVariables false
namespace Go.EX
open Classical
noncomputable def extTag(g:Nat)(c:Calls'):Calls':=fun f args m=>
 if f=g then
  match args with
  |.imm (.slice row off (n+1) cap)::rest=>
   if ∀b a,c f (.tag b a (.slice row off (n+1) cap)::rest) m=c f (.tag 0 0 (.slice row off (n+1) cap)::rest) m then c f (.tag 0 0 (.slice row off (n+1) cap)::rest) m else none
  |_=>c f args m
 else none
theorem zf5{g:Nat}{c:Calls'}{row:List IV}{off n:Nat}{cap:Option Nat}{rest:List AV}{m:Mem}{r:AV×Mem}(hn:n≠0)(h:∀b a,c g (.tag b a (.slice row off n cap)::rest) m=some r):extTag g c g (.imm (.slice row off n cap)::rest) m=some r:=by
 cases n with
 |zero=>exact absurd rfl hn
 |succ n=>
  unfold extTag
  rw[if_pos rfl]
  dsimp only
  rw[if_pos fun b a=>by rw[h b a,h 0 0],h 0 0]
theorem zf6{num:Names}{P:Program}{g:Nat}{c:Calls'}(h:ExtOK num P c):ExtOK num P (extTag g c):=by
 intro f args m r m' C vals hc hm hl hr
 unfold extTag at hc
 split at hc
 ·split at hc
  ·rename_i row off n cap rest
   split at hc
   ·rename_i hall
    obtain⟨v0,hv0⟩:∃v0,vals[0]?=some v0:=by
     have:0<vals.size:=by rw[←hl];simp
     exact⟨_,Array.getElem?_eq_getElem this⟩
    have h0:=hr 0 _ v0 rfl hv0
    obtain⟨b,a,hadr⟩:∃b a,ARep num C (.tag b a (.slice row off (n+1) cap)) v0:=by
     cases h0 with
     |imm _ _ hi=>
      cases hi with
      |slice _ _ _ _ b o c a u hb hc' hu hl' hk ha=>exact⟨b,a,.tag b a _ _ (.slice row off (n+1) cap b o c a u hb hc' hu hl' hk ha) rfl⟩
    rw[←hall b a]at hc
    refine h f _ m r m' C vals hc hm (by simpa using hl) fun j x u hx hu=>?_
    cases j with
    |zero=>
     simp only[List.getElem?_cons_zero,Option.some.injEq]at hx
     subst hx
     rw[hv0]at hu
     cases hu
     exact hadr
    |succ j=>exact hr (j+1) x u (by simpa using hx) hu
   ·cases hc
  ·exact h f args m r m' C vals hc hm hl hr
 ·cases hc
end Go.EX


set_option linter.unusedSimpArgs false
namespace Go.EX
def code11:Nat→Option XFun
 |206=>some x206
 |207=>some x207
 |209=>some x209
 |210=>some x210
 |211=>some x211
 |212=>some x212
 |213=>some x213
 |214=>some x214
 |215=>some x215
 |216=>some x216
 |217=>some x217
 |218=>some x218
 |219=>some x219
 |485=>some x485
 |489=>some x489
 |491=>some x491
 |578=>some x578
 |579=>some x579
 |580=>some x580
 |581=>some x581
 |582=>some x582
 |583=>some x583
 |584=>some x584
 |585=>some x585
 |586=>some x586
 |587=>some x587
 |588=>some x588
 |589=>some x589
 |627=>some x627
 |630=>some x630
 |631=>some x631
 |632=>some x632
 |633=>some x633
 |636=>some x636
 |639=>some x639
 |640=>some x640
 |641=>some x641
 |642=>some x642
 |643=>some x643
 |740=>some x740
 |741=>some x741
 |742=>some x742
 |743=>some x743
 |749=>some x749
 |759=>some x759
 |646=>some x646
 |647=>some x647
 |650=>some x650
 |651=>some x651
 |652=>some x652
 |653=>some x653
 |654=>some x654
 |655=>some x655
 |656=>some x656
 |745=>some x745
 |755=>some x755
 |_=>none
theorem zdg:code11 yieldNo=none:=by
 unfold code11
 split<;>first|(rename_i h;exact absurd h (by decide))|rfl
theorem lives11:callW code11 (fun _ _ _=>none) 489 [] []=some (avb true,[]):=(zb6 code11 (fun _ _ _=>none)).2 ⟨60,by kernel_rfl⟩
end Go.EX


namespace Go.EX
def code11l:Nat→Option XFun
 |1=>some x1W
 |9=>some x9W
 |10=>some x10W
 |12=>some x12W
 |14=>some x14W
 |16=>some x16W
 |17=>some x17W
 |18=>some x18W
 |19=>some x19W
 |20=>some x20W
 |21=>some x21W
 |22=>some x22W
 |23=>some x23W
 |24=>some x24W
 |25=>some x25W
 |26=>some x26W
 |27=>some x27W
 |28=>some x28W
 |29=>some x29W
 |30=>some x30W
 |31=>some x31W
 |32=>some x32W
 |33=>some x33W
 |34=>some x34W
 |35=>some x35W
 |36=>some x36W
 |37=>some x37W
 |38=>some x38W
 |39=>some x39W
 |40=>some x40W
 |41=>some x41W
 |42=>some x42W
 |43=>some x43W
 |44=>some x44W
 |45=>some x45W
 |46=>some x46W
 |47=>some x47W
 |48=>some x48W
 |49=>some x49W
 |50=>some x50W
 |51=>some x51W
 |52=>some x52W
 |53=>some x53W
 |54=>some x54W
 |55=>some x55W
 |62=>some x62W
 |64=>some x64W
 |66=>some x66W
 |67=>some x67W
 |68=>some x68W
 |69=>some x69W
 |70=>some x70W
 |71=>some x71W
 |72=>some x72W
 |73=>some x73W
 |74=>some x74W
 |75=>some x75W
 |76=>some x76W
 |77=>some x77W
 |78=>some x78W
 |79=>some x79W
 |80=>some x80W
 |81=>some x81W
 |82=>some x82W
 |83=>some x83W
 |84=>some x84W
 |85=>some x85W
 |150=>some x150L
 |152=>some x152
 |161=>some x161
 |163=>some x163
 |165=>some x165
 |166=>some x166
 |329=>some x329
 |330=>some x330
 |334=>some x334
 |336=>some x336
 |338=>some x338
 |339=>some x339
 |351=>some x351
 |352=>some x352
 |355=>some x355
 |357=>some x357
 |361=>some x361
 |372=>some x372R
 |373=>some x373R
 |377=>some x377
 |379=>some x379
 |380=>some x380
 |394=>some x394
 |400=>some x400
 |414=>some x414
 |420=>some x420
 |422=>some x422
 |479=>some x479B
 |486=>some x486W
 |487=>some x487
 |490=>some x490
 |492=>some x492
 |500=>some x500
 |502=>some x502
 |503=>some x503
 |506=>some x506
 |507=>some x507
 |508=>some x508
 |509=>some x509
 |510=>some x510
 |557=>some x557
 |558=>some x558
 |559=>some x559
 |561=>some x561
 |562=>some x562
 |709=>some x709
 |786=>some x786
 |_=>none
theorem zdk:code11l yieldNo=none:=rfl
def code11b:Nat→Option XFun
 |206=>some x206
 |208=>some x208
 |209=>some x209
 |210=>some x210
 |211=>some x211
 |212=>some x212
 |213=>some x213
 |214=>some x214
 |216=>some x216
 |218=>some x218
 |219=>some x219
 |578=>some x578
 |579=>some x579
 |580=>some x580
 |581=>some x581
 |582=>some x582
 |583=>some x583
 |584=>some x584
 |585=>some x585
 |586=>some x586
 |587=>some x587
 |588=>some x588
 |589=>some x589
 |627=>some x627Q
 |639=>some x639
 |640=>some x640Q
 |641=>some x641V
 |642=>some x642
 |742=>some x742
 |749=>some x749
 |759=>some x759
 |_=>none
theorem zdh:code11b yieldNo=none:=rfl
def code11r:Nat→Option XFun
 |643=>some x643R
 |740=>some x740
 |741=>some x741
 |742=>some x742
 |743=>some x743
 |_=>none
theorem zdl:code11r yieldNo=none:=rfl
def code11c:Nat→Option XFun
 |643=>some (x643P 1000000000002)
 |740=>some x740
 |741=>some x741
 |742=>some x742
 |743=>some x743
 |_=>none
theorem zdi:code11c yieldNo=none:=rfl
def code11h:Nat→Option XFun
 |372=>some x372
 |373=>some x373
 |377=>some x377
 |379=>some x379
 |488=>some x488
 |_=>none
theorem zdj:code11h yieldNo=none:=rfl
abbrev noQ:Calls':=fun _ _ _=>none
def extIf(g:Nat)(c:Calls'):Calls':=fun f a m=>if f=g∧a.all AV.isImm=true then c f a m else none
noncomputable def extP1:Calls':=extOr (extIf 643 (callW code11c noQ)) (extOr (extOne 643 (callW code11r noQ)) (extTag 646 (callW code11 noQ)))
noncomputable def extP2:Calls':=extOr (extOne 643 (callW code11r noQ)) (extTag 646 (callW code11 noQ))
noncomputable def extPi(i:Nat):Calls':=if i=0 then extP1 else extP2
noncomputable def extB(i:Nat):Calls':=extOr (extItoa 708) (extOr (extOne 489 (callW code11 noQ)) (extOr (extOne 627 (callW code11b (extPi i))) (extOne 488 (callW code11h noQ))))
theorem orQ_l{a b:Calls'}{f:Nat}{al:List AV}{m:Mem}{r:AV×Mem}(h:a f al m=some r):extOr a b f al m=some r:=by
 unfold extOr
 rw[h]
theorem orQ_r{a b:Calls'}{f:Nat}{al:List AV}{m:Mem}(h:a f al m=none):extOr a b f al m=b f al m:=by
 unfold extOr
 rw[h]
theorem oneQ_n{g f:Nat}(h:f≠g)(c:Calls')(a:List AV)(m:Mem):extOne g c f a m=none:=by
 unfold extOne
 rw[if_neg h]
theorem oneQ_y(g:Nat)(c:Calls')(a:List AV)(m:Mem):extOne g c g a m=c g a m:=by
 unfold extOne
 rw[if_pos rfl]
theorem zjd{f:Nat}(h3:f≠708)(a:List AV)(m:Mem):extItoa 708 f a m=none:=by
 unfold extItoa
 rw[if_neg h3]
theorem ifQ_n{g f:Nat}(h:f≠g)(c:Calls')(a:List AV)(m:Mem):extIf g c f a m=none:=by
 unfold extIf
 rw[if_neg (fun hh=>h hh.1)]
theorem livesQ(i:Nat):callW code11l (extB i) 489 [] []=some (avb true,[]):=by
 rw[zb4 code11l (extB i) rfl (by decide)]
 unfold extB
 rw[orQ_r (zjd (by decide) _ _)]
 exact orQ_l ((oneQ_y _ _ _ _).trans lives11)
theorem zby{code:Nat→Option XFun}{ext:Calls'}{g:Nat}{sv:IV}{S:List Obj}(h651:code 651=some x651)(hr:Reads tObj sv S){rest:List AV}{r:AV×Mem}(h:∀{sA:AV} {t:TP},StoreT code ext sA t S→callW code ext g (sA::rest) []=some r):
  extTag g (callW code ext) g (.imm sv::rest) []=some r:=by
 by_cases h0:S.length=0
 ·have:S=[]:=List.eq_nil_of_length_eq_zero h0
  subst this
  have h:=h (zt5 h651 ⟨0,0,[],0⟩ hr)
  rcases hr.2.2 with⟨rfl,_⟩|⟨row,off,cap,rfl,_⟩
  ·unfold extTag
   rw[if_pos rfl]
   exact h
  ·unfold extTag
   rw[if_pos rfl]
   exact h
 ·obtain⟨row,off,cap,rfl,_⟩:=zps hr (List.getElem?_eq_getElem (by omega:0<S.length))
  exact zf5 h0 fun b a=>h (zt6 (t:=⟨b,a,row,off⟩) h651 S cap hr)
noncomputable def okQ(S:List Obj)(v:Val):Bool:=@decide (CheckOk S v) (Classical.propDecidable _)
theorem okQ_of{S:List Obj}{v:Val}{b:Bool}(h:b=true↔CheckOk S v):b=okQ S v:=by
 unfold okQ
 cases b with
 |true=>exact(@decide_eq_true _ (Classical.propDecidable _) (h.1 rfl)).symm
 |false=>exact(@decide_eq_false _ (Classical.propDecidable _) (fun hc=>by have:=h.2 hc;cases this)).symm
theorem okQ_true{S:List Obj}{v:Val}:okQ S v=true↔CheckOk S v:=by
 unfold okQ
 exact @decide_eq_true_iff _ (Classical.propDecidable _)
theorem zcl{sv:IV}{S:List Obj}(hr:Reads tObj sv S)(hb:S.length≤1048576)(v:Val)(hv:tVal.wf v):
  extTag 646 (callW code11 noQ) 646 [.imm sv,.agg [.imm (.val (.int .u8 v.k)),int64 v.n]] []=some (avb (okQ S v),[]):=by
 refine zby rfl hr fun hT=>?_
 obtain⟨b,h,hbo⟩:=zci hT rfl rfl rfl rfl rfl rfl rfl rfl rfl rfl rfl rfl hb v hv
 rw[←okQ_of hbo]
 exact h
theorem checkQ(i:Nat){sv:IV}{S:List Obj}(hr:Reads tObj sv S)(hb:S.length≤1048576)(v:Val)(hv:tVal.wf v):
  callW code11b (extPi i) 646 [.imm sv,.agg [.imm (.val (.int .u8 v.k)),int64 v.n]] []=some (avb (okQ S v),[]):=by
 rw[zb4 code11b (extPi i) rfl (by decide)]
 unfold extPi extP1 extP2
 split
 ·rw[orQ_r (ifQ_n (by decide) _ _ _),orQ_r (oneQ_n (by decide) _ _ _)]
  exact zcl hr hb v hv
 ·rw[orQ_r (oneQ_n (by decide) _ _ _)]
  exact zcl hr hb v hv
theorem twinQr:TwinQ code11r:=⟨rfl,rfl,rfl,rfl,rfl⟩
theorem twinQc:TwinCode code11c 200000000000:=⟨rfl,rfl,rfl,rfl,rfl⟩
theorem twinK0:TwinK code11b (extPi 0) where
 nil:=by
  rw[zb4 code11b (extPi 0) rfl (by decide)]
  exact orQ_l (show extIf 643 (callW code11c noQ) 643 [nilS] []=_ from zvc twinQc)
 imm:=fun {sv S} hr hz hS hn=>by
  rw[zb4 code11b (extPi 0) rfl (by decide)]
  have h1:=zvd (ext:=noQ) twinQc hr hz hS (by omega)
  have h2:S[200000000000]?=none:=List.getElem?_eq_none (by omega)
  rw[zun h2]at h1
  exact orQ_l (show extIf 643 (callW code11c noQ) 643 [.imm sv] []=_ from h1)
 obj:=fun {T} cap hT hn=>by
  obtain⟨o,ho,h1⟩:=zvf (ext:=noQ) twinQr hT hn cap
  refine⟨o::clM T,⟨o,rfl,ho⟩,?_⟩
  rw[zb4 code11b (extPi 0) rfl (by decide)]
  show extOr (extOne 643 (callW code11r noQ)) (extTag 646 (callW code11 noQ)) 643 [.osl 0 0 5 T.length cap] [.flat (tObj.row T) false]=_
  exact orQ_l ((oneQ_y _ _ _ _).trans h1)
theorem twinK1{sv:IV}{S:List Obj}(hr:Reads tObj sv S)(hz:isNilIV sv=false)(hS:∀o∈S,o.l.xs.length≤1000000)(hn:S.length≤1000000):∃X,XM 0 S X∧callW code11b (extPi 1) 643 [.imm sv] []=some (.osl 0 0 5 S.length (some S.length),X):=by
 rcases zvg (ext:=noQ) twinQr hr hS (by omega)with⟨rfl,_⟩|⟨_,o,ho,h1⟩
 ·simp[isNilIV]at hz
 ·refine⟨o::clM S,⟨o,rfl,ho⟩,?_⟩
  rw[zb4 code11b (extPi 1) rfl (by decide)]
  exact orQ_l ((oneQ_y _ _ _ _).trans h1)
theorem plainB:PlainFns code11b:=⟨⟨rfl,rfl,rfl,rfl,rfl,rfl,rfl,rfl,rfl⟩,rfl,rfl,rfl,rfl,rfl,rfl,rfl,rfl,rfl,rfl,rfl,rfl,rfl,rfl,rfl⟩
theorem doQB:DoQ code11b:=⟨plainB,rfl,rfl,rfl,rfl,rfl,rfl⟩
theorem bookL:BookFns code11l:=by constructor<;>rfl
theorem refL:RefBin code11l:=by constructor<;>rfl
theorem sameL:SameFns code11l:=by constructor<;>rfl
theorem markL:MarkFns code11l:=by constructor<;>rfl
theorem itoaL(i:Nat):ItoaFns code11l (extB i):=⟨rfl,rfl,rfl,fun a m=>by
 unfold extB
 cases h:extItoa 708 708 a m with
 |some r=>exact orQ_l h
 |none=>
  rw[orQ_r h,orQ_r (oneQ_n (by decide) _ _ _),orQ_r (oneQ_n (by decide) _ _ _),oneQ_n (by decide)]⟩
theorem primL(i:Nat)(args:List AV){r:AV×Mem}(h:callW code11b (extPi i) 627 args []=some r):callW code11l (extB i) 627 args []=some r:=by
 rw[zb4 code11l (extB i) rfl (by decide)]
 unfold extB
 rw[orQ_r (zjd (by decide) _ _),orQ_r (oneQ_n (by decide) _ _ _)]
 exact orQ_l ((oneQ_y _ _ _ _).trans h)
theorem heapL(i:Nat){sv:IV}{S:List Obj}(hr:Reads tObj sv S)(hS:∀o∈S,o.l.xs.length≤1000000)(hn:S.length≤1000000):callW code11l (extB i) 488 [.imm sv] []=some (.optr 0 0,[.rich [.osl 1 0 5 S.length (some (S.length+1))],.flat (tObj.row (S.map twinObj++[spObj])) false]):=by
 rw[zb4 code11l (extB i) rfl (by decide)]
 unfold extB
 rw[orQ_r (zjd (by decide) _ _),orQ_r (oneQ_n (by decide) _ _ _),orQ_r (oneQ_n (by decide) _ _ _),oneQ_y]
 exact zhm (code:=code11h) (ext:=noQ) rfl (zvi (code:=code11h) (ext:=noQ) rfl rfl rfl rfl hr hS (by omega))
set_option maxHeartbeats 4000000 in
theorem zo2 {sv:IV} {S:List Obj} (hr:Reads tObj sv S) {op:Int} (h0:0≤op) (h255:op≤255) {a b:Val} (hw:∀x∈[a,b],tVal.wf x):
  ∃i m,callW code11l (extB i) 479 [.imm sv,.imm (.val (.int .u8 op)),.agg [.imm (.val (.int .u8 a.k)),int64 a.n,.imm (.val (.int .u8 b.k)),int64 b.n]] []=some (avb true,m):=by
 by_cases hbig:50000<sizeGo S.length S
 ·have hb:=zbl (code:=code11l) (ext:=extB 0) rfl rfl rfl rfl rfl hr
  rw[decide_eq_true hbig]at hb
  exact⟨0,[],ziy rfl hb ⟨_,livesQ 0⟩⟩
 ·obtain⟨z1,z2,z3,z4⟩:=ztn hr.1 (show sizeGo S.length S≤50000 by omega)
  have hh:=zhi hr.1 (show sizeGo S.length S≤50000 by omega)
  have hS:∀o∈S,o.l.xs.length≤1000000:=fun o ho=>by have:=z4 o ho;omega
  have hlm:(S.map twinObj).length=S.length:=List.length_map ..
  have hrT:Reads tObj (tsv S) (S.map twinObj):=by
   have:=zt8 hh
   rw[hlm]at this
   exact this
  have hTl:∀o∈S.map twinObj,o.l.xs.length≤1000000:=fun o ho=>by have:=hh.l o ho;omega
  have hTn:=hh.n
  have h646:∀i,∀v∈[a,b],callW code11b (extPi i) 646 [.imm (tsv S),.agg [.imm (.val (.int .u8 v.k)),int64 v.n]] []=some (avb (okQ (S.map twinObj) v),[]):=fun i v hv=>checkQ i hrT (by omega) v (hw v hv)
  have h500:∀i,∀v∈[a,b],callW code11l (extB i) 500 [.imm (tsv S),.agg [.imm (.val (.int .u8 v.k)),int64 v.n]] []=some (avb (okQ (S.map twinObj) v),[]):=fun i v hv=>by
   have hu:=zvq (S.map twinObj)
   obtain⟨b',hc,hb'⟩:=zpv (code:=code11l) (ext:=extB i) rfl rfl rfl rfl rfl rfl rfl rfl hrT v (hw v hv) (by have:=hh.sum;omega) (by omega)
   rw[←okQ_of hb']
   exact hc
  have hck:∀v∈[a,b],okQ (S.map twinObj) v=true→CheckOk (S.map twinObj) v:=fun v _ h=>okQ_true.1 h
  have key:∀i,PrimDid code11b (extPi i) (tsv S) (S.map twinObj) (okQ (S.map twinObj)) op a b→∃m,callW code11l (extB i) 479 [.imm sv,.imm (.val (.int .u8 op)),.agg [.imm (.val (.int .u8 a.k)),int64 a.n,.imm (.val (.int .u8 b.k)),int64 b.n]] []=some (avb true,m):=fun i hp=>by
   have hp':PrimDid code11l (extB i) (tsv S) (S.map twinObj) (okQ (S.map twinObj)) op a b:=by
    obtain⟨X,TD,q1,q2,q3,q4⟩:=hp
    exact⟨X,TD,q1,q2,q3,primL i _ q4⟩
   have hb:=zbl (code:=code11l) (ext:=extB i) rfl rfl rfl rfl rfl hr
   rw[decide_eq_false hbig]at hb
   exact zbr (code:=code11l) (ext:=extB i) rfl bookL rfl markL (itoaL i) hS (by omega) hb ⟨_,livesQ i⟩ (twin377R (code:=code11l) (ext:=extB i) rfl rfl rfl rfl hr (by omega) hS) (heapL i hr hS (by omega)) (zbq refL rfl sameL hr hh hw (h500 i) hck hp')
  by_cases hok:okQ (S.map twinObj) a=true∧okQ (S.map twinObj) b=true
  ·exact⟨0,key 0 (zo4 doQB twinK0 rfl hrT rfl hTl (by omega) h0 h255 hw (h646 0) hok.1 hok.2 hck)⟩
  ·obtain⟨X,hX,h1⟩:=twinK1 hrT rfl hTl (by omega)
   exact⟨1,key 1 (zo3 doQB rfl hrT hX (by omega) h1 h0 h255 (h646 1) hok)⟩
end Go.EX


namespace Go.Proofs.YtjdfihnmpmckjaaGreatDoor
open Go.EX
def gids:List Nat:=[100000,100001,703,479,481,482,487,489,377,627,488,150,490,486,154,160,636,630,379,163,156,157,638,632,633,153,629,336,151,628,14,12,1,361,491,373,640,152,562,557,161,561,166,355,492,334,164,167,560,165,643,206,578,500,64,10,25,29,33,34,28,24,18,17,23,22,21,32,35,30,26,20,19,27,16,31,45,49,53,54,48,44,38,37,43,42,41,52,55,50,46,40,39,47,36,51,75,79,83,84,78,74,68,67,73,72,71,82,85,80,76,70,69,77,66,81,339,372,749,641,646,642,639,558,352,330,559,743,740,742,741,219,207,212,580,210,588,217,208,214,211,215,510,509,508,9,62,411,415,419,420,414,410,404,403,409,408,407,418,421,416,412,406,405,413,402,417,391,395,399,400,394,390,384,383,389,388,387,398,401,396,392,386,385,393,382,397,338,759,656,745,654,647,652,351,329,218,216,579,213,648,209,581,502,506,507,422,380,651,755,655,653,650,357,582,589,246,244,670,503,786,583,584,585,586,587,673,785,245,669,709,674,708,100233,719,718,713,714,716,732,712,715,733,734,735,100245,100246,100247,100248,100249,100250,100251,100252,100253,100254,100255,100256,100257,100258,100259,100260,100261,100262,100263,100264,100265,100266,704]
def num(f:FuncId):Nat:=(gids[f]?).getD (100000+f)
theorem ok3:FunOK Tryz.prog num 3 x479B:=.one Tryz.func3 (by kernel_rfl)
theorem ok6:FunOK Tryz.prog num 6 x487:=.one Tryz.func6 (by kernel_rfl)
theorem ok8:FunOK Tryz.prog num 8 x377:=.one Tryz.func8 (by kernel_rfl)
theorem ok11:FunOK Tryz.prog num 11 x150L:=.one Tryz.func11 (by kernel_rfl)
theorem ok12:FunOK Tryz.prog num 12 x490:=.one Tryz.func12 (by kernel_rfl)
theorem ok13:FunOK Tryz.prog num 13 x486W:=.one Tryz.func13 (by kernel_rfl)
theorem ok18:FunOK Tryz.prog num 18 x379:=.one Tryz.func18 (by kernel_rfl)
theorem ok19:FunOK Tryz.prog num 19 x163:=.one Tryz.func19 (by kernel_rfl)
theorem ok27:FunOK Tryz.prog num 27 x336:=.one Tryz.func27 (by kernel_rfl)
theorem ok30:FunOK Tryz.prog num 30 x14W:=.one Tryz.func30 (by kernel_rfl)
theorem ok31:FunOK Tryz.prog num 31 x12W:=.one Tryz.func31 (by kernel_rfl)
theorem ok32:FunOK Tryz.prog num 32 x1W:=.one Tryz.func32 (by kernel_rfl)
theorem ok33:FunOK Tryz.prog num 33 x361:=.one Tryz.func33 (by kernel_rfl)
theorem ok35:FunOK Tryz.prog num 35 x373R:=.one Tryz.func35 (by kernel_rfl)
theorem ok37:FunOK Tryz.prog num 37 x152:=.one Tryz.func37 (by kernel_rfl)
theorem ok38:FunOK Tryz.prog num 38 x562:=.one Tryz.func38 (by kernel_rfl)
theorem ok39:FunOK Tryz.prog num 39 x557:=.one Tryz.func39 (by kernel_rfl)
theorem ok40:FunOK Tryz.prog num 40 x161:=.one Tryz.func40 (by kernel_rfl)
theorem ok41:FunOK Tryz.prog num 41 x561:=.one Tryz.func41 (by kernel_rfl)
theorem ok42:FunOK Tryz.prog num 42 x166:=.one Tryz.func42 (by kernel_rfl)
theorem ok43:FunOK Tryz.prog num 43 x355:=.one Tryz.func43 (by kernel_rfl)
theorem ok44:FunOK Tryz.prog num 44 x492:=.one Tryz.func44 (by kernel_rfl)
theorem ok45:FunOK Tryz.prog num 45 x334:=.one Tryz.func45 (by kernel_rfl)
theorem ok49:FunOK Tryz.prog num 49 x165:=.one Tryz.func49 (by kernel_rfl)
theorem ok53:FunOK Tryz.prog num 53 x500:=.one Tryz.func53 (by kernel_rfl)
theorem ok54:FunOK Tryz.prog num 54 x64W:=.one Tryz.func54 (by kernel_rfl)
theorem ok55:FunOK Tryz.prog num 55 x10W:=.one Tryz.func55 (by kernel_rfl)
theorem ok56:FunOK Tryz.prog num 56 x25W:=.one Tryz.func56 (by kernel_rfl)
theorem ok57:FunOK Tryz.prog num 57 x29W:=.one Tryz.func57 (by kernel_rfl)
theorem ok58:FunOK Tryz.prog num 58 x33W:=.one Tryz.func58 (by kernel_rfl)
theorem ok59:FunOK Tryz.prog num 59 x34W:=.one Tryz.func59 (by kernel_rfl)
theorem ok60:FunOK Tryz.prog num 60 x28W:=.one Tryz.func60 (by kernel_rfl)
theorem ok61:FunOK Tryz.prog num 61 x24W:=.one Tryz.func61 (by kernel_rfl)
theorem ok62:FunOK Tryz.prog num 62 x18W:=.one Tryz.func62 (by kernel_rfl)
theorem ok63:FunOK Tryz.prog num 63 x17W:=.one Tryz.func63 (by kernel_rfl)
theorem ok64:FunOK Tryz.prog num 64 x23W:=.one Tryz.func64 (by kernel_rfl)
theorem ok65:FunOK Tryz.prog num 65 x22W:=.one Tryz.func65 (by kernel_rfl)
theorem ok66:FunOK Tryz.prog num 66 x21W:=.one Tryz.func66 (by kernel_rfl)
theorem ok67:FunOK Tryz.prog num 67 x32W:=.one Tryz.func67 (by kernel_rfl)
theorem ok68:FunOK Tryz.prog num 68 x35W:=.one Tryz.func68 (by kernel_rfl)
theorem ok69:FunOK Tryz.prog num 69 x30W:=.one Tryz.func69 (by kernel_rfl)
theorem ok70:FunOK Tryz.prog num 70 x26W:=.one Tryz.func70 (by kernel_rfl)
theorem ok71:FunOK Tryz.prog num 71 x20W:=.one Tryz.func71 (by kernel_rfl)
theorem ok72:FunOK Tryz.prog num 72 x19W:=.one Tryz.func72 (by kernel_rfl)
theorem ok73:FunOK Tryz.prog num 73 x27W:=.one Tryz.func73 (by kernel_rfl)
theorem ok74:FunOK Tryz.prog num 74 x16W:=.one Tryz.func74 (by kernel_rfl)
theorem ok75:FunOK Tryz.prog num 75 x31W:=.one Tryz.func75 (by kernel_rfl)
theorem ok76:FunOK Tryz.prog num 76 x45W:=.one Tryz.func76 (by kernel_rfl)
theorem ok77:FunOK Tryz.prog num 77 x49W:=.one Tryz.func77 (by kernel_rfl)
theorem ok78:FunOK Tryz.prog num 78 x53W:=.one Tryz.func78 (by kernel_rfl)
theorem ok79:FunOK Tryz.prog num 79 x54W:=.one Tryz.func79 (by kernel_rfl)
theorem ok80:FunOK Tryz.prog num 80 x48W:=.one Tryz.func80 (by kernel_rfl)
theorem ok81:FunOK Tryz.prog num 81 x44W:=.one Tryz.func81 (by kernel_rfl)
theorem ok82:FunOK Tryz.prog num 82 x38W:=.one Tryz.func82 (by kernel_rfl)
theorem ok83:FunOK Tryz.prog num 83 x37W:=.one Tryz.func83 (by kernel_rfl)
theorem ok84:FunOK Tryz.prog num 84 x43W:=.one Tryz.func84 (by kernel_rfl)
theorem ok85:FunOK Tryz.prog num 85 x42W:=.one Tryz.func85 (by kernel_rfl)
theorem ok86:FunOK Tryz.prog num 86 x41W:=.one Tryz.func86 (by kernel_rfl)
theorem ok87:FunOK Tryz.prog num 87 x52W:=.one Tryz.func87 (by kernel_rfl)
theorem ok88:FunOK Tryz.prog num 88 x55W:=.one Tryz.func88 (by kernel_rfl)
theorem ok89:FunOK Tryz.prog num 89 x50W:=.one Tryz.func89 (by kernel_rfl)
theorem ok90:FunOK Tryz.prog num 90 x46W:=.one Tryz.func90 (by kernel_rfl)
theorem ok91:FunOK Tryz.prog num 91 x40W:=.one Tryz.func91 (by kernel_rfl)
theorem ok92:FunOK Tryz.prog num 92 x39W:=.one Tryz.func92 (by kernel_rfl)
theorem ok93:FunOK Tryz.prog num 93 x47W:=.one Tryz.func93 (by kernel_rfl)
theorem ok94:FunOK Tryz.prog num 94 x36W:=.one Tryz.func94 (by kernel_rfl)
theorem ok95:FunOK Tryz.prog num 95 x51W:=.one Tryz.func95 (by kernel_rfl)
theorem ok96:FunOK Tryz.prog num 96 x75W:=.one Tryz.func96 (by kernel_rfl)
theorem ok97:FunOK Tryz.prog num 97 x79W:=.one Tryz.func97 (by kernel_rfl)
theorem ok98:FunOK Tryz.prog num 98 x83W:=.one Tryz.func98 (by kernel_rfl)
theorem ok99:FunOK Tryz.prog num 99 x84W:=.one Tryz.func99 (by kernel_rfl)
theorem ok100:FunOK Tryz.prog num 100 x78W:=.one Tryz.func100 (by kernel_rfl)
theorem ok101:FunOK Tryz.prog num 101 x74W:=.one Tryz.func101 (by kernel_rfl)
theorem ok102:FunOK Tryz.prog num 102 x68W:=.one Tryz.func102 (by kernel_rfl)
theorem ok103:FunOK Tryz.prog num 103 x67W:=.one Tryz.func103 (by kernel_rfl)
theorem ok104:FunOK Tryz.prog num 104 x73W:=.one Tryz.func104 (by kernel_rfl)
theorem ok105:FunOK Tryz.prog num 105 x72W:=.one Tryz.func105 (by kernel_rfl)
theorem ok106:FunOK Tryz.prog num 106 x71W:=.one Tryz.func106 (by kernel_rfl)
theorem ok107:FunOK Tryz.prog num 107 x82W:=.one Tryz.func107 (by kernel_rfl)
theorem ok108:FunOK Tryz.prog num 108 x85W:=.one Tryz.func108 (by kernel_rfl)
theorem ok109:FunOK Tryz.prog num 109 x80W:=.one Tryz.func109 (by kernel_rfl)
theorem ok110:FunOK Tryz.prog num 110 x76W:=.one Tryz.func110 (by kernel_rfl)
theorem ok111:FunOK Tryz.prog num 111 x70W:=.one Tryz.func111 (by kernel_rfl)
theorem ok112:FunOK Tryz.prog num 112 x69W:=.one Tryz.func112 (by kernel_rfl)
theorem ok113:FunOK Tryz.prog num 113 x77W:=.one Tryz.func113 (by kernel_rfl)
theorem ok114:FunOK Tryz.prog num 114 x66W:=.one Tryz.func114 (by kernel_rfl)
theorem ok115:FunOK Tryz.prog num 115 x81W:=.one Tryz.func115 (by kernel_rfl)
theorem ok116:FunOK Tryz.prog num 116 x339:=.one Tryz.func116 (by kernel_rfl)
theorem ok117:FunOK Tryz.prog num 117 x372R:=.one Tryz.func117 (by kernel_rfl)
theorem ok123:FunOK Tryz.prog num 123 x558:=.one Tryz.func123 (by kernel_rfl)
theorem ok124:FunOK Tryz.prog num 124 x352:=.one Tryz.func124 (by kernel_rfl)
theorem ok125:FunOK Tryz.prog num 125 x330:=.one Tryz.func125 (by kernel_rfl)
theorem ok126:FunOK Tryz.prog num 126 x559:=.one Tryz.func126 (by kernel_rfl)
theorem ok142:FunOK Tryz.prog num 142 x510:=.one Tryz.func142 (by kernel_rfl)
theorem ok143:FunOK Tryz.prog num 143 x509:=.one Tryz.func143 (by kernel_rfl)
theorem ok144:FunOK Tryz.prog num 144 x508:=.one Tryz.func144 (by kernel_rfl)
theorem ok145:FunOK Tryz.prog num 145 x9W:=.one Tryz.func145 (by kernel_rfl)
theorem ok146:FunOK Tryz.prog num 146 x62W:=.one Tryz.func146 (by kernel_rfl)
theorem ok150:FunOK Tryz.prog num 150 x420:=.one Tryz.func150 (by kernel_rfl)
theorem ok151:FunOK Tryz.prog num 151 x414:=.one Tryz.func151 (by kernel_rfl)
theorem ok170:FunOK Tryz.prog num 170 x400:=.one Tryz.func170 (by kernel_rfl)
theorem ok171:FunOK Tryz.prog num 171 x394:=.one Tryz.func171 (by kernel_rfl)
theorem ok187:FunOK Tryz.prog num 187 x338:=.one Tryz.func187 (by kernel_rfl)
theorem ok194:FunOK Tryz.prog num 194 x351:=.one Tryz.func194 (by kernel_rfl)
theorem ok195:FunOK Tryz.prog num 195 x329:=.one Tryz.func195 (by kernel_rfl)
theorem ok203:FunOK Tryz.prog num 203 x502:=.one Tryz.func203 (by kernel_rfl)
theorem ok204:FunOK Tryz.prog num 204 x506:=.one Tryz.func204 (by kernel_rfl)
theorem ok205:FunOK Tryz.prog num 205 x507:=.one Tryz.func205 (by kernel_rfl)
theorem ok206:FunOK Tryz.prog num 206 x422:=.one Tryz.func206 (by kernel_rfl)
theorem ok207:FunOK Tryz.prog num 207 x380:=.one Tryz.func207 (by kernel_rfl)
theorem ok213:FunOK Tryz.prog num 213 x357:=.one Tryz.func213 (by kernel_rfl)
theorem ok219:FunOK Tryz.prog num 219 x503:=.one Tryz.func219 (by kernel_rfl)
theorem ok220:FunOK Tryz.prog num 220 x786:=.one Tryz.func220 (by kernel_rfl)
theorem ok230:FunOK Tryz.prog num 230 x709:=.one Tryz.func230 (by kernel_rfl)
abbrev FnAt(f:Nat):Prop:=∀xf,code11l (num f)=some xf→FunOK Tryz.prog num f xf
theorem hit{n:Nat}{x:XFun}(e:code11l (num n)=some x)(k:FunOK Tryz.prog num n x)(r:∀f,f<n→FnAt f):∀f,f<n+1→FnAt f:=fun f h xf hx=>by
 rcases Nat.lt_or_eq_of_le (Nat.le_of_lt_succ h)with h|rfl
 ·exact r f h xf hx
 ·rw[e]at hx;cases hx;exact k
theorem nix{n:Nat}(e:code11l (num n)=none)(r:∀f,f<n→FnAt f):∀f,f<n+1→FnAt f:=fun f h xf hx=>by
 rcases Nat.lt_or_eq_of_le (Nat.le_of_lt_succ h)with h|rfl
 ·exact r f h xf hx
 ·rw[e]at hx;cases hx
theorem upto20:∀f,f<20→FnAt f:=
 hit (by kernel_rfl) ok19<|
 hit (by kernel_rfl) ok18<|
 nix (by kernel_rfl)<|
 nix (by kernel_rfl)<|
 nix (by kernel_rfl)<|
 nix (by kernel_rfl)<|
 hit (by kernel_rfl) ok13<|
 hit (by kernel_rfl) ok12<|
 hit (by kernel_rfl) ok11<|
 nix (by kernel_rfl)<|
 nix (by kernel_rfl)<|
 hit (by kernel_rfl) ok8<|
 nix (by kernel_rfl)<|
 hit (by kernel_rfl) ok6<|
 nix (by kernel_rfl)<|
 nix (by kernel_rfl)<|
 hit (by kernel_rfl) ok3<|
 nix (by kernel_rfl)<|
 nix (by kernel_rfl)<|
 nix (by kernel_rfl) (fun f h=>absurd h (Nat.not_lt_zero f))
theorem upto40:∀f,f<40→FnAt f:=
 hit (by kernel_rfl) ok39<|
 hit (by kernel_rfl) ok38<|
 hit (by kernel_rfl) ok37<|
 nix (by kernel_rfl)<|
 hit (by kernel_rfl) ok35<|
 nix (by kernel_rfl)<|
 hit (by kernel_rfl) ok33<|
 hit (by kernel_rfl) ok32<|
 hit (by kernel_rfl) ok31<|
 hit (by kernel_rfl) ok30<|
 nix (by kernel_rfl)<|
 nix (by kernel_rfl)<|
 hit (by kernel_rfl) ok27<|
 nix (by kernel_rfl)<|
 nix (by kernel_rfl)<|
 nix (by kernel_rfl)<|
 nix (by kernel_rfl)<|
 nix (by kernel_rfl)<|
 nix (by kernel_rfl)<|
 nix (by kernel_rfl) upto20
theorem upto60:∀f,f<60→FnAt f:=
 hit (by kernel_rfl) ok59<|
 hit (by kernel_rfl) ok58<|
 hit (by kernel_rfl) ok57<|
 hit (by kernel_rfl) ok56<|
 hit (by kernel_rfl) ok55<|
 hit (by kernel_rfl) ok54<|
 hit (by kernel_rfl) ok53<|
 nix (by kernel_rfl)<|
 nix (by kernel_rfl)<|
 nix (by kernel_rfl)<|
 hit (by kernel_rfl) ok49<|
 nix (by kernel_rfl)<|
 nix (by kernel_rfl)<|
 nix (by kernel_rfl)<|
 hit (by kernel_rfl) ok45<|
 hit (by kernel_rfl) ok44<|
 hit (by kernel_rfl) ok43<|
 hit (by kernel_rfl) ok42<|
 hit (by kernel_rfl) ok41<|
 hit (by kernel_rfl) ok40 upto40
theorem upto80:∀f,f<80→FnAt f:=
 hit (by kernel_rfl) ok79<|
 hit (by kernel_rfl) ok78<|
 hit (by kernel_rfl) ok77<|
 hit (by kernel_rfl) ok76<|
 hit (by kernel_rfl) ok75<|
 hit (by kernel_rfl) ok74<|
 hit (by kernel_rfl) ok73<|
 hit (by kernel_rfl) ok72<|
 hit (by kernel_rfl) ok71<|
 hit (by kernel_rfl) ok70<|
 hit (by kernel_rfl) ok69<|
 hit (by kernel_rfl) ok68<|
 hit (by kernel_rfl) ok67<|
 hit (by kernel_rfl) ok66<|
 hit (by kernel_rfl) ok65<|
 hit (by kernel_rfl) ok64<|
 hit (by kernel_rfl) ok63<|
 hit (by kernel_rfl) ok62<|
 hit (by kernel_rfl) ok61<|
 hit (by kernel_rfl) ok60 upto60
theorem upto100:∀f,f<100→FnAt f:=
 hit (by kernel_rfl) ok99<|
 hit (by kernel_rfl) ok98<|
 hit (by kernel_rfl) ok97<|
 hit (by kernel_rfl) ok96<|
 hit (by kernel_rfl) ok95<|
 hit (by kernel_rfl) ok94<|
 hit (by kernel_rfl) ok93<|
 hit (by kernel_rfl) ok92<|
 hit (by kernel_rfl) ok91<|
 hit (by kernel_rfl) ok90<|
 hit (by kernel_rfl) ok89<|
 hit (by kernel_rfl) ok88<|
 hit (by kernel_rfl) ok87<|
 hit (by kernel_rfl) ok86<|
 hit (by kernel_rfl) ok85<|
 hit (by kernel_rfl) ok84<|
 hit (by kernel_rfl) ok83<|
 hit (by kernel_rfl) ok82<|
 hit (by kernel_rfl) ok81<|
 hit (by kernel_rfl) ok80 upto80
theorem upto120:∀f,f<120→FnAt f:=
 nix (by kernel_rfl)<|
 nix (by kernel_rfl)<|
 hit (by kernel_rfl) ok117<|
 hit (by kernel_rfl) ok116<|
 hit (by kernel_rfl) ok115<|
 hit (by kernel_rfl) ok114<|
 hit (by kernel_rfl) ok113<|
 hit (by kernel_rfl) ok112<|
 hit (by kernel_rfl) ok111<|
 hit (by kernel_rfl) ok110<|
 hit (by kernel_rfl) ok109<|
 hit (by kernel_rfl) ok108<|
 hit (by kernel_rfl) ok107<|
 hit (by kernel_rfl) ok106<|
 hit (by kernel_rfl) ok105<|
 hit (by kernel_rfl) ok104<|
 hit (by kernel_rfl) ok103<|
 hit (by kernel_rfl) ok102<|
 hit (by kernel_rfl) ok101<|
 hit (by kernel_rfl) ok100 upto100
theorem upto140:∀f,f<140→FnAt f:=
 nix (by kernel_rfl)<|
 nix (by kernel_rfl)<|
 nix (by kernel_rfl)<|
 nix (by kernel_rfl)<|
 nix (by kernel_rfl)<|
 nix (by kernel_rfl)<|
 nix (by kernel_rfl)<|
 nix (by kernel_rfl)<|
 nix (by kernel_rfl)<|
 nix (by kernel_rfl)<|
 nix (by kernel_rfl)<|
 nix (by kernel_rfl)<|
 nix (by kernel_rfl)<|
 hit (by kernel_rfl) ok126<|
 hit (by kernel_rfl) ok125<|
 hit (by kernel_rfl) ok124<|
 hit (by kernel_rfl) ok123<|
 nix (by kernel_rfl)<|
 nix (by kernel_rfl)<|
 nix (by kernel_rfl) upto120
theorem upto160:∀f,f<160→FnAt f:=
 nix (by kernel_rfl)<|
 nix (by kernel_rfl)<|
 nix (by kernel_rfl)<|
 nix (by kernel_rfl)<|
 nix (by kernel_rfl)<|
 nix (by kernel_rfl)<|
 nix (by kernel_rfl)<|
 nix (by kernel_rfl)<|
 hit (by kernel_rfl) ok151<|
 hit (by kernel_rfl) ok150<|
 nix (by kernel_rfl)<|
 nix (by kernel_rfl)<|
 nix (by kernel_rfl)<|
 hit (by kernel_rfl) ok146<|
 hit (by kernel_rfl) ok145<|
 hit (by kernel_rfl) ok144<|
 hit (by kernel_rfl) ok143<|
 hit (by kernel_rfl) ok142<|
 nix (by kernel_rfl)<|
 nix (by kernel_rfl) upto140
theorem upto180:∀f,f<180→FnAt f:=
 nix (by kernel_rfl)<|
 nix (by kernel_rfl)<|
 nix (by kernel_rfl)<|
 nix (by kernel_rfl)<|
 nix (by kernel_rfl)<|
 nix (by kernel_rfl)<|
 nix (by kernel_rfl)<|
 nix (by kernel_rfl)<|
 hit (by kernel_rfl) ok171<|
 hit (by kernel_rfl) ok170<|
 nix (by kernel_rfl)<|
 nix (by kernel_rfl)<|
 nix (by kernel_rfl)<|
 nix (by kernel_rfl)<|
 nix (by kernel_rfl)<|
 nix (by kernel_rfl)<|
 nix (by kernel_rfl)<|
 nix (by kernel_rfl)<|
 nix (by kernel_rfl)<|
 nix (by kernel_rfl) upto160
theorem upto200:∀f,f<200→FnAt f:=
 nix (by kernel_rfl)<|
 nix (by kernel_rfl)<|
 nix (by kernel_rfl)<|
 nix (by kernel_rfl)<|
 hit (by kernel_rfl) ok195<|
 hit (by kernel_rfl) ok194<|
 nix (by kernel_rfl)<|
 nix (by kernel_rfl)<|
 nix (by kernel_rfl)<|
 nix (by kernel_rfl)<|
 nix (by kernel_rfl)<|
 nix (by kernel_rfl)<|
 hit (by kernel_rfl) ok187<|
 nix (by kernel_rfl)<|
 nix (by kernel_rfl)<|
 nix (by kernel_rfl)<|
 nix (by kernel_rfl)<|
 nix (by kernel_rfl)<|
 nix (by kernel_rfl)<|
 nix (by kernel_rfl) upto180
theorem upto220:∀f,f<220→FnAt f:=
 hit (by kernel_rfl) ok219<|
 nix (by kernel_rfl)<|
 nix (by kernel_rfl)<|
 nix (by kernel_rfl)<|
 nix (by kernel_rfl)<|
 nix (by kernel_rfl)<|
 hit (by kernel_rfl) ok213<|
 nix (by kernel_rfl)<|
 nix (by kernel_rfl)<|
 nix (by kernel_rfl)<|
 nix (by kernel_rfl)<|
 nix (by kernel_rfl)<|
 hit (by kernel_rfl) ok207<|
 hit (by kernel_rfl) ok206<|
 hit (by kernel_rfl) ok205<|
 hit (by kernel_rfl) ok204<|
 hit (by kernel_rfl) ok203<|
 nix (by kernel_rfl)<|
 nix (by kernel_rfl)<|
 nix (by kernel_rfl) upto200
theorem upto240:∀f,f<240→FnAt f:=
 nix (by kernel_rfl)<|
 nix (by kernel_rfl)<|
 nix (by kernel_rfl)<|
 nix (by kernel_rfl)<|
 nix (by kernel_rfl)<|
 nix (by kernel_rfl)<|
 nix (by kernel_rfl)<|
 nix (by kernel_rfl)<|
 nix (by kernel_rfl)<|
 hit (by kernel_rfl) ok230<|
 nix (by kernel_rfl)<|
 nix (by kernel_rfl)<|
 nix (by kernel_rfl)<|
 nix (by kernel_rfl)<|
 nix (by kernel_rfl)<|
 nix (by kernel_rfl)<|
 nix (by kernel_rfl)<|
 nix (by kernel_rfl)<|
 nix (by kernel_rfl)<|
 hit (by kernel_rfl) ok220 upto220
theorem upto260:∀f,f<260→FnAt f:=
 nix (by kernel_rfl)<|
 nix (by kernel_rfl)<|
 nix (by kernel_rfl)<|
 nix (by kernel_rfl)<|
 nix (by kernel_rfl)<|
 nix (by kernel_rfl)<|
 nix (by kernel_rfl)<|
 nix (by kernel_rfl)<|
 nix (by kernel_rfl)<|
 nix (by kernel_rfl)<|
 nix (by kernel_rfl)<|
 nix (by kernel_rfl)<|
 nix (by kernel_rfl)<|
 nix (by kernel_rfl)<|
 nix (by kernel_rfl)<|
 nix (by kernel_rfl)<|
 nix (by kernel_rfl)<|
 nix (by kernel_rfl)<|
 nix (by kernel_rfl)<|
 nix (by kernel_rfl) upto240
theorem upto268:∀f,f<268→FnAt f:=
 nix (by kernel_rfl)<|
 nix (by kernel_rfl)<|
 nix (by kernel_rfl)<|
 nix (by kernel_rfl)<|
 nix (by kernel_rfl)<|
 nix (by kernel_rfl)<|
 nix (by kernel_rfl)<|
 nix (by kernel_rfl) upto260
theorem fns(f:FuncId)(xf:XFun)(h:code11l (num f)=some xf):FunOK Tryz.prog num f xf:=by
 by_cases hf:f<268
 ·exact upto268 f hf xf h
 ·have hn:num f=100000+f:=by
   unfold num
   rw[List.getElem?_eq_none (by rw[show gids.length=268 from by kernel_rfl];simp only[FuncId]at *;omega)];rfl
  rw[hn]at h
  unfold code11l at h
  split at h<;>first|(exfalso;simp only[FuncId]at *;omega)|cases h
theorem nz(f:FuncId):num f≠yieldNo:=by
 by_cases hf:f<268
 ·exact(by decide+kernel:∀f:Fin 268,num f.val≠yieldNo) ⟨f,hf⟩
 ·have hn:num f=100000+f:=by
   unfold num
   rw[List.getElem?_eq_none (by rw[show gids.length=268 from by kernel_rfl];simp only[FuncId]at *;omega)];rfl
  rw[hn,yieldNo]
  simp only[FuncId]at *;omega
end Go.Proofs.YtjdfihnmpmckjaaGreatDoor

