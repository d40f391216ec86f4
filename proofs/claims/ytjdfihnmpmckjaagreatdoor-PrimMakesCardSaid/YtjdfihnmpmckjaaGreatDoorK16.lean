import Derived.Test.YtjdfihnmpmckjaaGreatDoorExt
import Derived.Test.YtjdfihnmpmckjaaGreatDoorK6
import Derived.Test.YtjdfihnmpmckjaaGreatDoorK8
import Derived.Test.YtjdfihnmpmckjaaGreatDoorK9
import Derived.Test.YtjdfihnmpmckjaaGreatDoorK12
import Derived.Test.YtjdfihnmpmckjaaGreatDoorK15
import Derived.Test.YtjdfihnmpmckjaaGreatDoorK13
import Derived.Test.YtjdfihnmpmckjaaGreatDoorK14
import Derived.Test.YtjdfihnmpmckjaaGreatDoorFmt2
import Derived.Test.YtjdfihnmpmckjaaGreatDoorRows
import Derived.Test.YtjdfihnmpmckjaaGreatDoorK7
set_option linter.unusedVariables false
namespace Go.EX
open Classical
noncomputable def zfx(g:Nat)(c:zac):zac:=fun f args m=>
 if f=g then
  match args with
  |.imm (.slice row off (n+1) cap)::rest=>
   if ∀b a,c f (.tag b a (.slice row off (n+1) cap)::rest) m=c f (.tag 0 0 (.slice row off (n+1) cap)::rest) m then c f (.tag 0 0 (.slice row off (n+1) cap)::rest) m else none
  |_=>c f args m
 else none
theorem z82{g:Nat}{c:zac}{row:List IV}{off n:Nat}{cap:Option Nat}{rest:List AV}{m:Mem}{r:AV×Mem}(hn:n≠0)(h:∀b a,c g (.tag b a (.slice row off n cap)::rest) m=some r):zfx g c g (.imm (.slice row off n cap)::rest) m=some r:=by
 cases n with
 |zero=>exact absurd rfl hn
 |succ n=>
  unfold zfx
  rw[if_pos rfl]
  dsimp only
  rw[if_pos fun b a=>by rw[h b a,h 0 0],h 0 0]
theorem z0r{num:Names}{P:Program}{g:Nat}{c:zac}(h:zev num P c):zev num P (zfx g c):=by
 intro f args m r m' C vals hc hm hl hr
 unfold zfx at hc
 split at hc
 ·split at hc
  ·rename_i row off n cap rest
   split at hc
   ·rename_i hall
    obtain⟨v0,hv0⟩:∃v0,vals[0]?=some v0:=by
     have:0<vals.size:=by rw[<-hl];simp
     exact⟨_,xbr this⟩
    have h0:=hr 0 _ v0 rfl hv0
    obtain⟨b,a,hadr⟩:∃b a,ARep num C (.tag b a (.slice row off (n+1) cap)) v0:=by
     cases h0 with
     |imm _ _ hi=>
      cases hi with
      |slice _ _ _ _ b o c a u hb hc' hu hl' hk ha=>exact⟨b,a,.tag b a _ _ (.slice row off (n+1) cap b o c a u hb hc' hu hl' hk ha) rfl⟩
    rw[<-hall b a]at hc
    refine h f _ m r m' C vals hc hm (by simpa using hl) fun j x u hx hu=>?_
    cases j with
    |zero=>
     simp only[xbw,xaf]at hx
     subst hx
     rw[hv0]at hu
     cases hu
     exact hadr
    |succ j=>exact hr (j+1) x u (by simpa using hx) hu
   ·cases hc
  ·exact h f args m r m' C vals hc hm hl hr
 ·cases hc
end Go.EX


set_option linter.unusedSimpArgs false
namespace Go.EX
def zfh:Nat->Option zab
 |206=>some zfq
 |207=>some zj6
 |209=>some zif
 |210=>some zx9
 |211=>some zya
 |212=>some zi8
 |213=>some znb
 |214=>some zp8
 |215=>some z5b
 |216=>some zj8
 |217=>some yix
 |218=>some znc
 |219=>some znd
 |485=>some yi2
 |489=>some yi4
 |491=>some yi6
 |578=>some zfb
 |579=>some zyd
 |580=>some zlm
 |581=>some zud
 |582=>some zye
 |583=>some zyf
 |584=>some zyg
 |585=>some zyh
 |586=>some zyi
 |587=>some zyj
 |588=>some zyk
 |589=>some zyl
 |627=>some yjc
 |630=>some yjd
 |631=>some yje
 |632=>some yjf
 |633=>some yjg
 |636=>some yjh
 |639=>some zlo
 |640=>some yji
 |641=>some yjj
 |642=>some zlp
 |643=>some yjk
 |740=>some zes
 |741=>some zgn
 |742=>some zda
 |743=>some zfr
 |749=>some zbf
 |759=>some zbc
 |646=>some zql
 |647=>some zqm
 |650=>some zb3
 |651=>some zfc
 |652=>some zan
 |653=>some zbs
 |654=>some zqn
 |655=>some zg3
 |656=>some zbq
 |745=>some znr
 |755=>some zlr
 |_=>none
theorem z7o:zfh zfs=none:=by
 unfold zfh
 split<;>first|(rename_i h;exact absurd h (by decide))|rfl
theorem yau:callW zfh (fun _ _ _=>none) 489 [] []=some (avb true,[]):=(zff zfh (fun _ _ _=>none)).2 ⟨60,by kernel_rfl⟩
def z7r:Nat->Option zab
 |1=>some x1W
 |9=>some x9W
 |10=>some zp4
 |12=>some zp5
 |14=>some zj1
 |16=>some zsz
 |17=>some zs0
 |18=>some zs1
 |19=>some zs2
 |20=>some zs3
 |21=>some zs4
 |22=>some zs5
 |23=>some zs6
 |24=>some zs7
 |25=>some zs8
 |26=>some zs9
 |27=>some zta
 |28=>some ztb
 |29=>some ztc
 |30=>some ztd
 |31=>some zte
 |32=>some ztf
 |33=>some zti
 |34=>some ztj
 |35=>some ztk
 |36=>some ztl
 |37=>some zto
 |38=>some ztp
 |39=>some ztr
 |40=>some ztt
 |41=>some ztv
 |42=>some zty
 |43=>some ztz
 |44=>some zt0
 |45=>some zt1
 |46=>some zt2
 |47=>some zt3
 |48=>some zt5
 |49=>some zt6
 |50=>some zt7
 |51=>some zt8
 |52=>some zt9
 |53=>some zua
 |54=>some zub
 |55=>some zuc
 |62=>some zln
 |64=>some zi9
 |66=>some zuf
 |67=>some zug
 |68=>some zuh
 |69=>some zui
 |70=>some zuk
 |71=>some zul
 |72=>some zum
 |73=>some zun
 |74=>some zuo
 |75=>some zqo
 |76=>some zup
 |77=>some zuq
 |78=>some zus
 |79=>some zqp
 |80=>some zut
 |81=>some zuu
 |82=>some zuv
 |83=>some zqq
 |84=>some zuw
 |85=>some zux
 |150=>some yiw
 |152=>some zj2
 |161=>some zie
 |163=>some zj5
 |165=>some zhl
 |166=>some zhm
 |329=>some zne
 |330=>some zp9
 |334=>some zqa
 |336=>some zlf
 |338=>some zj9
 |339=>some znf
 |351=>some zlg
 |352=>some zng
 |355=>some zqd
 |357=>some zka
 |361=>some zqf
 |372=>some zlh
 |373=>some zqh
 |377=>some zli
 |379=>some zhn
 |380=>some zkb
 |394=>some ztq
 |400=>some zts
 |414=>some ztu
 |420=>some ztw
 |422=>some ztx
 |479=>some yi1
 |486=>some yi3
 |487=>some zt4
 |490=>some zqi
 |492=>some zlk
 |500=>some znk
 |502=>some zc9
 |503=>some zd3
 |506=>some zg1
 |507=>some zg2
 |508=>some zbx
 |509=>some znn
 |510=>some zer
 |557=>some yi8
 |558=>some yi9
 |559=>some zfa
 |561=>some yja
 |562=>some zll
 |709=>some zuj
 |786=>some zur
 |_=>none
def zg7:Nat->Option zab
 |643=>some znq
 |740=>some zes
 |741=>some zgn
 |742=>some zda
 |743=>some zfr
 |_=>none
theorem z7u:zg7 zfs=none:=rfl
def zks:Nat->Option zab
 |372=>some zqg
 |373=>some zyb
 |377=>some zli
 |379=>some zhn
 |488=>some zyc
 |_=>none
theorem z7q:zks zfs=none:=rfl
abbrev noQ:zac:=fun _ _ _=>none
def zit(g:Nat)(c:zac):zac:=fun f a m=>if f=g/\a.all AV.isImm=true then c f a m else none
theorem zgc{a b:zac}{f:Nat}{al:List AV}{m:Mem}{r:AV×Mem}(h:a f al m=some r):zdl a b f al m=some r:=by
 unfold zdl
 rw[h]
theorem zbz{a b:zac}{f:Nat}{al:List AV}{m:Mem}(h:a f al m=none):zdl a b f al m=b f al m:=by
 unfold zdl
 rw[h]
theorem zck{g f:Nat}(h:f≠g)(c:zac)(a:List AV)(m:Mem):zd6 g c f a m=none:=by
 unfold zd6
 rw[if_neg h]
theorem zh5(g:Nat)(c:zac)(a:List AV)(m:Mem):zd6 g c g a m=c g a m:=by
 unfold zd6
 rw[if_pos rfl]
theorem zk0{f:Nat}(h3:f≠708)(a:List AV)(m:Mem):ziu 708 f a m=none:=by
 unfold ziu
 rw[if_neg h3]
theorem z9x{g f:Nat}(h:f≠g)(c:zac)(a:List AV)(m:Mem):zit g c f a m=none:=by
 unfold zit
 rw[if_neg (fun hh=>h hh.1)]
theorem z62{code:Nat->Option zab}{ext:zac}{g:Nat}{sv:IV}{S:List Obj}(h651:code 651=some zfc)(hr:zak tObj sv S){rest:List AV}{r:AV×Mem}(h:∀{sA:AV} {t:TP},zbd code ext sA t S->callW code ext g (sA::rest) []=some r):
  zfx g (callW code ext) g (.imm sv::rest) []=some r:=by
 by_cases h0:S.length=0
 ·have:S=[]:=xat h0
  subst this
  have h:=h (yhj h651 ⟨0,0,[],0⟩ hr)
  rcases hr.2.2 with⟨rfl,_⟩|⟨row,off,cap,rfl,_⟩
  ·unfold zfx
   rw[if_pos rfl]
   exact h
  ·unfold zfx
   rw[if_pos rfl]
   exact h
 ·obtain⟨row,off,cap,rfl,_⟩:=zbv hr (xaa (by omega:0<S.length))
  exact z82 h0 fun b a=>h (yhk (t:=⟨b,a,row,off⟩) h651 S cap hr)
noncomputable def okQ(S:List Obj)(v:Val):Bool:=@decide (zft S v) (Classical.propDecidable _)
theorem z2j{S:List Obj}{v:Val}{b:Bool}(h:b=true↔zft S v):b=okQ S v:=by
 unfold okQ
 cases b with
 |true=>exact(@decide_eq_true _ (Classical.propDecidable _) (h.1 rfl)).symm
 |false=>exact(@decide_eq_false _ (Classical.propDecidable _) (fun hc=>by have:=h.2 hc;cases this)).symm
theorem okQ_true{S:List Obj}{v:Val}:okQ S v=true↔zft S v:=by
 unfold okQ
 exact @decide_eq_true_iff _ (Classical.propDecidable _)
theorem zzi{sv:IV}{S:List Obj}(hr:zak tObj sv S)(hb:S.length<=1048576)(v:Val)(hv:tVal.wf v):
  zfx 646 (callW zfh noQ) 646 [.imm sv,.agg [.imm (.val (.int .u8 v.k)),zaa v.n]] []=some (avb (okQ S v),[]):=by
 refine z62 rfl hr fun hT=>?_
 obtain⟨b,h,hbo⟩:=z7b hT rfl rfl rfl rfl rfl rfl rfl rfl rfl rfl rfl rfl hb v hv
 rw[<-z2j hbo]
 exact h
theorem zx3:zqw zg7:=⟨rfl,rfl,rfl,rfl,rfl⟩
theorem sameL:zhs z7r:=by constructor<;>rfl
def zhv(c:Nat):Nat->Option zab
 |643=>some (zue (c*5+2))
 |740=>some zes
 |741=>some zgn
 |742=>some zda
 |743=>some zfr
 |_=>none
theorem z7p(c:Nat):zhv c zfs=none:=rfl
noncomputable def zcj:Option Nat->zac
 |none=>zdl (zd6 643 (callW zg7 noQ)) (zfx 646 (callW zfh noQ))
 |some c=>zdl (zit 643 (callW (zhv c) noQ)) (zdl (zd6 643 (callW zg7 noQ)) (zfx 646 (callW zfh noQ)))
theorem zx2(c:Nat):TwinCode (zhv c) c:=⟨rfl,rfl,rfl,rfl,rfl⟩
def zcb:Nat->Option zab
 |1=>some x1W
 |9=>some x9W
 |10=>some zp4
 |12=>some zp5
 |14=>some zj1
 |16=>some zsz
 |17=>some zs0
 |18=>some zs1
 |19=>some zs2
 |20=>some zs3
 |21=>some zs4
 |22=>some zs5
 |23=>some zs6
 |24=>some zs7
 |25=>some zs8
 |26=>some zs9
 |27=>some zta
 |28=>some ztb
 |29=>some ztc
 |30=>some ztd
 |31=>some zte
 |32=>some ztf
 |33=>some zti
 |34=>some ztj
 |35=>some ztk
 |36=>some ztl
 |37=>some zto
 |38=>some ztp
 |39=>some ztr
 |40=>some ztt
 |41=>some ztv
 |42=>some zty
 |43=>some ztz
 |44=>some zt0
 |45=>some zt1
 |46=>some zt2
 |47=>some zt3
 |48=>some zt5
 |49=>some zt6
 |50=>some zt7
 |51=>some zt8
 |52=>some zt9
 |53=>some zua
 |54=>some zub
 |55=>some zuc
 |62=>some zln
 |64=>some zi9
 |66=>some zuf
 |67=>some zug
 |68=>some zuh
 |69=>some zui
 |70=>some zuk
 |71=>some zul
 |72=>some zum
 |73=>some zun
 |74=>some zuo
 |75=>some zqo
 |76=>some zup
 |77=>some zuq
 |78=>some zus
 |79=>some zqp
 |80=>some zut
 |81=>some zuu
 |82=>some zuv
 |83=>some zqq
 |84=>some zuw
 |85=>some zux
 |151=>some zsw
 |152=>some zj2
 |153=>some zsx
 |156=>some zp6
 |157=>some zp7
 |161=>some zie
 |163=>some zj5
 |164=>some zsy
 |165=>some zhl
 |166=>some zhm
 |329=>some zne
 |330=>some zp9
 |334=>some zqa
 |336=>some zlf
 |338=>some zj9
 |339=>some znf
 |351=>some zlg
 |352=>some zng
 |355=>some zqd
 |357=>some zka
 |361=>some zqf
 |372=>some zlh
 |373=>some zqh
 |377=>some zli
 |379=>some zhn
 |380=>some zkb
 |394=>some ztq
 |400=>some zts
 |414=>some ztu
 |420=>some ztw
 |422=>some ztx
 |482=>some znh
 |487=>some zt4
 |490=>some zqi
 |492=>some zlk
 |500=>some znk
 |502=>some zc9
 |503=>some zd3
 |506=>some zg1
 |507=>some zg2
 |508=>some zbx
 |509=>some znn
 |510=>some zer
 |559=>some zfa
 |562=>some zll
 |709=>some zuj
 |786=>some zur
 |_=>none
theorem z7s:zcb zfs=none:=rfl
def zce:Nat->Option zab
 |206=>some zfq
 |207=>some zj6
 |208=>some z5a
 |209=>some zif
 |210=>some zx9
 |211=>some zya
 |212=>some zi8
 |213=>some znb
 |214=>some zp8
 |216=>some zj8
 |218=>some znc
 |219=>some znd
 |578=>some zfb
 |579=>some zyd
 |580=>some zlm
 |581=>some zud
 |582=>some zye
 |583=>some zyf
 |584=>some zyg
 |585=>some zyh
 |586=>some zyi
 |587=>some zyj
 |588=>some zyk
 |589=>some zyl
 |628=>some x628Q
 |629=>some x629Q
 |632=>some x632Q
 |633=>some x633Q
 |638=>some x638
 |639=>some zlo
 |640=>some x640Q
 |641=>some zkd
 |642=>some zlp
 |742=>some zda
 |749=>some zbf
 |759=>some zbc
 |_=>none
theorem z7t:zce zfs=none:=rfl
noncomputable def zb9(j:Nat->Option Nat):zac:=zdl (ziu 708) (zdl (zd6 489 (callW zfh noQ)) (zdl (zd6 628 (callW zce (zcj (j 628)))) (zdl (zd6 629 (callW zce (zcj (j 629)))) (zdl (zd6 632 (callW zce (zcj (j 632)))) (zdl (zd6 633 (callW zce (zcj (j 633)))) (zdl (zd6 638 (callW zce (zcj (j 638)))) (zd6 488 (callW zks noQ))))))))
theorem zwk(j:Nat->Option Nat):callW zcb (zb9 j) 489 [] []=some (avb true,[]):=by
 rw[zfe zcb (zb9 j) rfl (by decide)]
 unfold zb9
 rw[zbz (zk0 (by decide) _ _)]
 exact zgc ((zh5 _ _ _ _).trans yau)
theorem z7a(j:Option Nat){sv:IV}{S:List Obj}(hr:zak tObj sv S)(hb:S.length<=1048576)(v:Val)(hv:tVal.wf v):
  callW zce (zcj j) 646 [.imm sv,.agg [.imm (.val (.int .u8 v.k)),zaa v.n]] []=some (avb (okQ S v),[]):=by
 rw[zfe zce (zcj j) rfl (by decide)]
 cases j with
 |none=>
  show zdl (zd6 643 (callW zg7 noQ)) (zfx 646 (callW zfh noQ)) 646 _ []=_
  rw[zbz (zck (by decide) _ _ _)]
  exact zzi hr hb v hv
 |some c=>
  show zdl (zit 643 (callW (zhv c) noQ)) (zdl (zd6 643 (callW zg7 noQ)) (zfx 646 (callW zfh noQ))) 646 _ []=_
  rw[zbz (z9x (by decide) _ _ _),zbz (zck (by decide) _ _ _)]
  exact zzi hr hb v hv
theorem yh6:zkl zce (zcj (some 200000000000)) where
 nil:=by
  rw[zfe zce _ rfl (by decide)]
  exact zgc (show zit 643 (callW (zhv 200000000000) noQ) 643 [zae] []=_ from yh8 (zx2 _))
 imm:=fun {sv S} hr hz hS hn=>by
  rw[zfe zce _ rfl (by decide)]
  have h1:=z4r (ext:=noQ) (zx2 200000000000) hr hz hS (by omega)
  have h2:S[200000000000]?=none:=xaq (by omega)
  rw[yhv h2]at h1
  exact zgc (show zit 643 (callW (zhv 200000000000) noQ) 643 [.imm sv] []=_ from h1)
 obj:=fun {T} cap hT hn=>by
  obtain⟨o,ho,h1⟩:=yib (ext:=noQ) zx3 hT hn cap
  refine⟨o::clM T,⟨o,rfl,ho⟩,?_⟩
  rw[zfe zce _ rfl (by decide)]
  show zdl (zd6 643 (callW zg7 noQ)) (zfx 646 (callW zfh noQ)) 643 [.osl 0 0 5 T.length cap] [.flat (tObj.row T) false]=_
  exact zgc ((zh5 _ _ _ _).trans h1)
theorem yh5(q:Nat):zny zce (zcj (some q)) q where
 imm:=fun {sv S} hr hz hS hn=>by
  rw[zfe zce _ rfl (by decide)]
  exact zgc (show zit 643 (callW (zhv q) noQ) 643 [.imm sv] []=_ from z4r (ext:=noQ) (zx2 q) hr hz hS (by omega))
 obj:=fun {T o} ho cap cap0 hT hn hiv=>by
  obtain⟨ob,hob,h1⟩:=yig (ext:=noQ) zx3 ho hT hn cap cap0 hiv
  refine⟨ob::clM T,⟨ob,rfl,hob⟩,?_⟩
  rw[zfe zce _ rfl (by decide)]
  show zdl (zd6 643 (callW zg7 noQ)) (zfx 646 (callW zfh noQ)) 643 [.osl 0 0 5 T.length cap0] _=_
  exact zgc ((zh5 _ _ _ _).trans h1)
theorem yia{sv:IV}{S:List Obj}(hr:zak tObj sv S)(hz:zbt sv=false)(hS:∀o∈S,o.l.xs.length<=1000000)(hn:S.length<=1000000):∃X,XM 0 S X/\callW zce (zcj none) 643 [.imm sv] []=some (.osl 0 0 5 S.length (some S.length),X):=by
 rcases yic (ext:=noQ) zx3 hr hS (by omega)with⟨rfl,_⟩|⟨_,o,ho,h1⟩
 ·simp[zbt]at hz
 ·refine⟨o::clM S,⟨o,rfl,ho⟩,?_⟩
  rw[zfe zce _ rfl (by decide)]
  exact zgc ((zh5 _ _ _ _).trans h1)
theorem yez:PlainFns zce:=⟨⟨rfl,rfl,rfl,rfl,rfl,rfl,rfl,rfl,rfl⟩,rfl,rfl,rfl,rfl,rfl,rfl,rfl,rfl,rfl,rfl,rfl,rfl,rfl,rfl,rfl⟩
theorem z8a:DoQ zce:=⟨yez,rfl,rfl,rfl,rfl,rfl,rfl⟩
theorem zov:zkj zce:=⟨z8a,rfl,rfl,rfl,rfl,rfl,rfl⟩
theorem z6z:zij zcb:=by constructor<;>rfl
theorem zpc:zek zcb:=by constructor<;>rfl
theorem zpr:zhs zcb:=by constructor<;>rfl
theorem ybd:zkk zcb:=by constructor<;>rfl
theorem z91(j:Nat->Option Nat):zki zcb (zb9 j):=⟨rfl,rfl,rfl,fun a m=>by
 unfold zb9
 cases h:ziu 708 708 a m with
 |some r=>exact zgc h
 |none=>
  rw[zbz h,zbz (zck (by decide) _ _ _),zbz (zck (by decide) _ _ _),zbz (zck (by decide) _ _ _),zbz (zck (by decide) _ _ _),zbz (zck (by decide) _ _ _),zbz (zck (by decide) _ _ _),zck (by decide)]⟩
theorem ye3(j:Nat->Option Nat)(args:List AV){r:AV×Mem}(h:callW zce (zcj (j 628)) 628 args []=some r):callW zcb (zb9 j) 628 args []=some r:=by
 rw[zfe zcb (zb9 j) rfl (by decide)]
 unfold zb9
 rw[zbz (zk0 (by decide) _ _),zbz (zck (by decide) _ _ _)]
 exact zgc ((zh5 _ _ _ _).trans h)
theorem ye4(j:Nat->Option Nat)(args:List AV){r:AV×Mem}(h:callW zce (zcj (j 629)) 629 args []=some r):callW zcb (zb9 j) 629 args []=some r:=by
 rw[zfe zcb (zb9 j) rfl (by decide)]
 unfold zb9
 rw[zbz (zk0 (by decide) _ _),zbz (zck (by decide) _ _ _),zbz (zck (by decide) _ _ _)]
 exact zgc ((zh5 _ _ _ _).trans h)
theorem ye5(j:Nat->Option Nat)(args:List AV){r:AV×Mem}(h:callW zce (zcj (j 632)) 632 args []=some r):callW zcb (zb9 j) 632 args []=some r:=by
 rw[zfe zcb (zb9 j) rfl (by decide)]
 unfold zb9
 rw[zbz (zk0 (by decide) _ _),zbz (zck (by decide) _ _ _),zbz (zck (by decide) _ _ _),zbz (zck (by decide) _ _ _)]
 exact zgc ((zh5 _ _ _ _).trans h)
theorem ye6(j:Nat->Option Nat)(args:List AV){r:AV×Mem}(h:callW zce (zcj (j 633)) 633 args []=some r):callW zcb (zb9 j) 633 args []=some r:=by
 rw[zfe zcb (zb9 j) rfl (by decide)]
 unfold zb9
 rw[zbz (zk0 (by decide) _ _),zbz (zck (by decide) _ _ _),zbz (zck (by decide) _ _ _),zbz (zck (by decide) _ _ _),zbz (zck (by decide) _ _ _)]
 exact zgc ((zh5 _ _ _ _).trans h)
theorem ye7(j:Nat->Option Nat)(args:List AV){r:AV×Mem}(h:callW zce (zcj (j 638)) 638 args []=some r):callW zcb (zb9 j) 638 args []=some r:=by
 rw[zfe zcb (zb9 j) rfl (by decide)]
 unfold zb9
 rw[zbz (zk0 (by decide) _ _),zbz (zck (by decide) _ _ _),zbz (zck (by decide) _ _ _),zbz (zck (by decide) _ _ _),zbz (zck (by decide) _ _ _),zbz (zck (by decide) _ _ _)]
 exact zgc ((zh5 _ _ _ _).trans h)
theorem z9u(j:Nat->Option Nat){sv:IV}{S:List Obj}(hr:zak tObj sv S)(hS:∀o∈S,o.l.xs.length<=1000000)(hn:S.length<=1000000):callW zcb (zb9 j) 488 [.imm sv] []=some (.optr 0 0,[.rich [.osl 1 0 5 S.length (some (S.length+1))],.flat (tObj.row (S.map zam++[zap])) false]):=by
 rw[zfe zcb (zb9 j) rfl (by decide)]
 unfold zb9
 rw[zbz (zk0 (by decide) _ _),zbz (zck (by decide) _ _ _),zbz (zck (by decide) _ _ _),zbz (zck (by decide) _ _ _),zbz (zck (by decide) _ _ _),zbz (zck (by decide) _ _ _),zbz (zck (by decide) _ _ _),zh5]
 exact z9v (code:=zks) (ext:=noQ) rfl (yid (code:=zks) (ext:=noQ) rfl rfl rfl rfl hr hS (by omega))
end Go.EX


set_option maxRecDepth 100000
namespace Go.Proofs.YtjdfihnmpmckjaaGreatDoor
open Go.EX
def gids:List Nat:=[100000,100001,703,479,481,482,487,489,377,627,488,150,490,486,154,160,636,630,379,163,156,157,638,632,633,153,629,336,151,628,14,12,1,361,491,373,640,152,562,557,161,561,166,355,492,334,164,167,560,165,643,206,578,500,64,10,25,29,33,34,28,24,18,17,23,22,21,32,35,30,26,20,19,27,16,31,45,49,53,54,48,44,38,37,43,42,41,52,55,50,46,40,39,47,36,51,75,79,83,84,78,74,68,67,73,72,71,82,85,80,76,70,69,77,66,81,339,372,749,641,646,642,639,558,352,330,559,743,740,742,741,219,207,212,580,210,588,217,208,214,211,215,510,509,508,9,62,411,415,419,420,414,410,404,403,409,408,407,418,421,416,412,406,405,413,402,417,391,395,399,400,394,390,384,383,389,388,387,398,401,396,392,386,385,393,382,397,338,759,656,745,654,647,652,351,329,218,216,579,213,648,209,581,502,506,507,422,380,651,755,655,653,650,357,582,589,246,244,670,503,786,583,584,585,586,587,673,785,245,669,709,674,708,100233,719,718,713,714,716,732,712,715,733,734,735,100245,100246,100247,100248,100249,100250,100251,100252,100253,100254,100255,100256,100257,100258,100259,100260,100261,100262,100263,100264,100265,100266,704]
def num(f:FuncId):Nat:=zww gids f
theorem zjr(f:Nat)(h:268<=f):num f=100000+f:=yd8 (by rw[show gids.length=268 from by kernel_rfl];exact h)
theorem nz(f:FuncId):num f≠zfs:=by
 by_cases hf:f<268
 ·exact(by decide+kernel:∀f:Fin 268,num f.val≠zfs) ⟨f,hf⟩
 ·rw[zjr f (Nat.le_of_not_lt hf),zfs]
  simp only[FuncId]at *;omega
theorem fns:∀(f:FuncId) (xf:zab),zcb (num f)=some xf->FunOK Tryz.prog num f xf:=
 FunOK.all (n:=268) (by kernel_rfl) fun f h=>by
  rw[zjr f h]
  unfold zcb
  split<;>first|rfl|omega
theorem z9e:∀(f:FuncId) (xf:zab),zce (num f)=some xf->FunOK Tryz.prog num f xf:=
 FunOK.all (n:=268) (by kernel_rfl) fun f h=>by
  rw[zjr f h]
  unfold zce
  split<;>first|rfl|omega
theorem z9f:∀(f:FuncId) (xf:zab),zg7 (num f)=some xf->FunOK Tryz.prog num f xf:=
 FunOK.all (n:=268) (by kernel_rfl) fun f h=>by
  rw[zjr f h]
  unfold zg7
  split<;>first|rfl|omega
theorem z9c:∀(f:FuncId) (xf:zab),zks (num f)=some xf->FunOK Tryz.prog num f xf:=
 FunOK.all (n:=268) (by kernel_rfl) fun f h=>by
  rw[zjr f h]
  unfold zks
  split<;>first|rfl|omega
theorem z9b (c:Nat):∀(f:FuncId) (xf:zab),(zhv c) (num f)=some xf->FunOK Tryz.prog num f xf:=
 FunOK.all (n:=268) (by kernel_rfl) fun f h=>by
  rw[zjr f h]
  unfold zhv
  split<;>first|rfl|omega
theorem z9d:∀(f:FuncId) (xf:zab),zfh (num f)=some xf->FunOK Tryz.prog num f xf:=
 FunOK.all (n:=268) (by kernel_rfl) fun f h=>by
  rw[zjr f h]
  unfold zfh
  split<;>first|rfl|omega
end Go.Proofs.YtjdfihnmpmckjaaGreatDoor

namespace Go.Proofs.YtjdfihnmpmckjaaGreatDoor
open Go.EX Go.Shelf
def ren246:Go.Shelf.Ren:=⟨fun|246=>232|283=>234|284=>235|285=>236|286=>237|129=>239|317=>238|318=>240|319=>241|320=>242|337=>243|338=>244|n=>n,fun|2=>2|3=>3|9=>9|4=>4|171=>320|0=>0|53=>321|37=>298|5=>5|173=>324|212=>327|51=>328|20=>20|213=>329|46=>330|232=>333|233=>334|n=>n,fun|17=>0|18=>1|19=>2|n=>n⟩
theorem yal:Go.Proofs.LaysM.n246 Tryz.prog ren246:={
 mixed:=by kernel_rfl
 f129:=Tryz.func239.trans (congrArg some (by kernel_rfl))
 f246:=Tryz.func232.trans (congrArg some (by kernel_rfl))
 f283:=Tryz.func234.trans (congrArg some (by kernel_rfl))
 f284:=Tryz.func235.trans (congrArg some (by kernel_rfl))
 f285:=Tryz.func236.trans (congrArg some (by kernel_rfl))
 f286:=Tryz.func237.trans (congrArg some (by kernel_rfl))
 f317:=Tryz.func238.trans (congrArg some (by kernel_rfl))
 f318:=Tryz.func240.trans (congrArg some (by kernel_rfl))
 f319:=Tryz.func241.trans (congrArg some (by kernel_rfl))
 f320:=Tryz.func242.trans (congrArg some (by kernel_rfl))
 f337:=Tryz.func243.trans (congrArg some (by kernel_rfl))
 f338:=Tryz.func244.trans (congrArg some (by kernel_rfl))
 t0:=Tryz.underlying0
 a0:=Tryz.isAgg0
 z0:=Tryz.sizeOf0
 v0:=Tryz.zeroValue0
 t2:=Tryz.underlying2
 a2:=Tryz.isAgg2
 z2:=Tryz.sizeOf2
 v2:=Tryz.zeroValue2
 t3:=Tryz.underlying3
 a3:=Tryz.isAgg3
 z3:=Tryz.sizeOf3
 v3:=Tryz.zeroValue3
 t4:=Tryz.underlying4
 a4:=Tryz.isAgg4
 z4:=Tryz.sizeOf4
 v4:=Tryz.zeroValue4
 t5:=Tryz.underlying5
 a5:=Tryz.isAgg5
 z5:=Tryz.sizeOf5
 v5:=Tryz.zeroValue5
 t9:=Tryz.underlying9
 a9:=Tryz.isAgg9
 z9:=Tryz.sizeOf9
 v9:=Tryz.zeroValue9
 t20:=Tryz.underlying20
 a20:=Tryz.isAgg20
 z20:=Tryz.sizeOf20
 v20:=Tryz.zeroValue20
 t37:=Tryz.underlying298
 a37:=Tryz.isAgg298
 z37:=Tryz.sizeOf298
 v37:=Tryz.zeroValue298
 t46:=Tryz.underlying330
 a46:=Tryz.isAgg330
 z46:=Tryz.sizeOf330
 v46:=Tryz.zeroValue330
 t51:=Tryz.underlying328
 a51:=Tryz.isAgg328
 z51:=Tryz.sizeOf328
 v51:=Tryz.zeroValue328
 t53:=Tryz.underlying321
 a53:=Tryz.isAgg321
 z53:=Tryz.sizeOf321
 v53:=Tryz.zeroValue321
 t171:=Tryz.underlying320
 a171:=Tryz.isAgg320
 z171:=Tryz.sizeOf320
 v171:=Tryz.zeroValue320
 t173:=Tryz.underlying324
 a173:=Tryz.isAgg324
 z173:=Tryz.sizeOf324
 v173:=Tryz.zeroValue324
 t212:=Tryz.underlying327
 a212:=Tryz.isAgg327
 z212:=Tryz.sizeOf327
 v212:=Tryz.zeroValue327
 t213:=Tryz.underlying329
 a213:=Tryz.isAgg329
 z213:=Tryz.sizeOf329
 t232:=Tryz.underlying333
 a232:=Tryz.isAgg333
 z232:=Tryz.sizeOf333
 v232:=Tryz.zeroValue333
 t233:=Tryz.underlying334
 a233:=Tryz.isAgg334
 z233:=Tryz.sizeOf334
 v233:=Tryz.zeroValue334
 g17:=by kernel_rfl
 g18:=by kernel_rfl
 g19:=by kernel_rfl
 i0:=by kernel_rfl
 i2:=by kernel_rfl
 i3:=by kernel_rfl
 i4:=by kernel_rfl
 i5:=by kernel_rfl
 i9:=by kernel_rfl
 i20:=by kernel_rfl
 i37:=by kernel_rfl
 i46:=by kernel_rfl
 i51:=by kernel_rfl
 i53:=by kernel_rfl
 i171:=by kernel_rfl
 i173:=by kernel_rfl
 i212:=by kernel_rfl
 i232:=by kernel_rfl
 i233:=by kernel_rfl
 m17:=by kernel_rfl
 m18:=by kernel_rfl
 m19:=by kernel_rfl }
theorem fmt_num(f:FuncId)(h:num f=708):f=ren246.f 246:=by
 by_cases hf:f<268
 ·exact(by decide+kernel:∀f:Fin 268,num f.val=708->f.val=ren246.f 246) ⟨f,hf⟩ h
 ·have hn:num f=100000+f:=zjr f (Nat.le_of_not_lt hf)
  rw[hn]at h
  exfalso;simp only[FuncId]at *;omega
theorem z87:zkg Tryz.prog (ren246.f 246):=⟨Tryz.f232,Tryz.func232,by decide+kernel,by kernel_rfl⟩
abbrev zh7:Tab:=("internal/strconv.uint64pow10",.u64,Lib.pow10Tab)
theorem yar:zev (Names.tabs num Tryz.prog [zh7]) Tryz.prog (ziu 708):=
 z81 yal (xbh ..) fmt_num z87
end Go.Proofs.YtjdfihnmpmckjaaGreatDoor


namespace Go.EX
open Go.RowKit Go.ChangeShapes Go.WideShapes Go.ChangeAt
theorem yak{P:Program}{num:Names}{ι:Type}{code:Nat->Option zab}{ext:ι->zac}(hrun:∀i,zg5 P num code (ext i)){f:FuncId}{fn:Func}{s:ChangeSpec}(hs:zyu s fn.params.toList.length)(hl:laidOutB P=true)
  (hts:(fn.params.toList.all fun t=>P.readableRec t&&decide (t<P.types.size))=true) {tb:TypeId} (hres:fn.resultTypes= #[tb]) (htb:P.underlying tb=some .bool)
  {Q:List AV->Prop} (hQ:ArgsOf P fn.params.toList Q) (hcall:∀az,Q az->∃i m,callW code (ext i) (num f) az []=some (.imm (.val (.bool true)),m)) {H:Type} {enc:TypeId×Value->H}
  (W:World) (base:Nat) (args:Array Value) (ds gs:List (DataW H)) (before:List MemPlace)
  (hval:∀(j:Nat) t v,fn.params[j]?=some t->args[j]?=some v->Value.okWide P W .any base t v)
  (hW:DataW.Whole enc P fn.params.toList s.vars false W args.toList ds gs before)
  (hwt:(DataW.weightsEach P (fn.params.toList++s.plain.varTypes P) (ds++gs)).all (· <=reachBytes)=true) (hG:num.G (fun b=>b<W.heap.size) W):
  Calls P f args W fun e W'=>∃v,e=.returned v/\s.post enc P fn false true false false W args v W':=by
 have hW':=hW
 obtain⟨p,q,hA,hV,rfl,hfz,hnd⟩:=hW
 rw[hs.1]at hV
 obtain⟨rfl,rfl⟩:=trodVars_none hV
 obtain⟨az,h1,h2,h3,h4⟩:=yad (num:=num) hQ args.toList ds p (fun j t v ht hv=>hval j t v (by simpa using ht) (by simpa using hv)) hA (by
  have e:s.plain.varTypes P=[]:=by simp[ChangeSpec.plain,DataSpec.varTypes,hs.1]
  rw[e,xas,xas]at hwt
  exact hwt)
 obtain⟨i,m,hm⟩:=hcall az h1
 refine(yaj (hrun i) hG hm (by simpa using h2) fun j x u hx hu=>h4 j x u hx (by simpa using hu)).mono fun e W' ⟨he,bel⟩=>?_
 subst he
 have hfn:s.fn H (ds++[])={ results:=[.lit (.bool true)],args:=ds }:=by rw[xas];exact hs.2 H ds h3
 refine⟨_,rfl,ds,[],p++[],[],p,[],hW',?_,?_,?_,bel.frame _,fun h=>by cases h⟩
 ·rw[hfn,hres];exact trodAll_mk1 (shut_bool htb _)
 ·rw[hfn];exact z4m hl bel hts hA
 ·rw[hfn,hs.1];rfl
end Go.EX


namespace Go.EX
theorem yfm{lv:IV}{xs:List Val}(h:zak tVal lv xs)(hl:xs.length<=60000):zak tVal (lvT xs) xs:=by
 refine⟨h.1,by omega,.inr ⟨_,0,_,rfl,fun c hc=>by cases hc;omega,?_⟩⟩
 have h1:tVal.row (xs++[zby])=tVal.row xs++tVal.enc zby:=by unfold Ty.row;simp
 have h2:(tVal.row xs).length=xs.length*tVal.sz:=zca tVal xs
 rw[h1]
 unfold cut
 rw[xc5,<-h2,List.take_append_of_le_length (xap _),xbp]
 simp[Ty.row]
theorem zou{ext':zac}{ext:zac}{code code':Nat->Option zab}{sv:IV}{T:List Obj}{pf:Nat}{pargs:List AV}{o:Obj}(h:∀args {r:AV×Mem},callW code' ext' pf args []=some r->callW code ext pf args []=some r)(hm:zf3 code' ext' sv T pf pargs o):zf3 code ext sv T pf pargs o:=by
 obtain⟨X,hX,h1⟩:=hm
 exact⟨X,hX,h _ h1⟩
theorem zo2{ext':zac}{ext:zac}{code code':Nat->Option zab}{sv:IV}{T:List Obj}{pf:Nat}{pargs:List AV}{t:ByteArray}(h:∀args {r:AV×Mem},callW code' ext' pf args []=some r->callW code ext pf args []=some r)(hm:zf4 code' ext' sv T pf pargs t):zf4 code ext sv T pf pargs t:=by
 obtain⟨TD,X,hA,hX,h1⟩:=hm
 exact⟨TD,X,hA,hX,h _ h1⟩
set_option maxHeartbeats 4000000 in
theorem ye8 {sv lv:IV} {t:ByteArray} {S:List Obj} {xs:List Val} (hr:zak tObj sv S) (hrl:zak tVal lv xs) (ht:t.size<=9223372036854775807):
  ∃j m,callW zcb (zb9 j) 482 [.imm sv,zaj t,.imm lv] []=some (avb true,m):=by
 have hlen:=zau hrl
 by_cases hbig:50000<zdq S.length S
 ·have hb:=zvb (code:=zcb) (ext:=zb9 fun _=>none) rfl rfl rfl rfl rfl hr
  rw[decide_eq_true hbig]at hb
  exact⟨fun _=>none,[],z1y rfl hlen (.inl rfl) hb ⟨_,zwk _⟩⟩
 ·by_cases hlong:2000<xs.length
  ·have hb:=zvb (code:=zcb) (ext:=zb9 fun _=>none) rfl rfl rfl rfl rfl hr
   rw[decide_eq_false hbig]at hb
   exact⟨fun _=>none,[],z1y rfl hlen (.inr hlong) hb ⟨_,zwk _⟩⟩
  ·have hx:xs.length<=2000:=by omega
   obtain⟨z1,z2,z3,z4⟩:=z4d hr.1 (show zdq S.length S<=50000 by omega)
   have hh:=z9s hr.1 (show zdq S.length S<=50000 by omega)
   have hS:∀o∈S,o.l.xs.length<=1000000:=fun o ho=>by have:=z4 o ho;omega
   have hlm:(S.map zam).length=S.length:=xam ..
   have hrT:zak tObj (tsv S) (S.map zam):=by
    have:=zxx hh
    rw[hlm]at this
    exact this
   have hTl:∀o∈S.map zam,o.l.xs.length<=1000000:=fun o ho=>by have:=hh.l o ho;omega
   have hTn:=hh.n
   have hrl':=yfm hrl (by omega)
   have hw:∀y∈xs,tVal.wf y:=hrl.1
   obtain⟨ck,hckd⟩:∃ck,ck=okQ (S.map zam):=⟨_,rfl⟩
   have h646:∀j,∀y∈xs,callW zce (zcj j) 646 [.imm (tsv S),.agg [.imm (.val (.int .u8 y.k)),zaa y.n]] []=some (avb (ck y),[]):=fun j y hy=>by rw[hckd];exact z7a j hrT (by omega) y (hw y hy)
   have h500:∀j,∀y∈xs,callW zcb (zb9 j) 500 [.imm (tsv S),.agg [.imm (.val (.int .u8 y.k)),zaa y.n]] []=some (avb (ck y),[]):=fun j y hy=>by
    have hu:=z4v (S.map zam)
    obtain⟨b',hc,hb'⟩:=yfn (code:=zcb) (ext:=zb9 j) rfl rfl rfl rfl rfl rfl rfl rfl hrT y (hw y hy) (by have:=hh.sum;omega) (by omega)
    rw[hckd,<-z2j hb']
    exact hc
   have hck:∀y∈xs,ck y=true->zch (S.map zam) y:=fun y _ h=>by
    rw[hckd]at h
    exact yhs (okQ_true.1 h).1
   clear hckd
   have tw:zlx zce (zcj none) (zcj (some 200000000000)) (zcj (some (S.map zam).length)) (tsv S) (S.map zam):=⟨yia hrT rfl hTl (by omega),yh6,yh5 _,hrT,rfl,fun o ho=>hh.l o ho,by omega⟩
   have pick:∀{e:zac},(e=zcj none\/e=zcj (some 200000000000)\/e=zcj (some (S.map zam).length))->∃j,e=zcj j:=fun h=>by
    rcases h with rfl|rfl|rfl<;>exact⟨_,rfl⟩
   have h646':∀e,(e=zcj none\/e=zcj (some 200000000000)\/e=zcj (some (S.map zam).length))->∀y∈xs,callW zce e 646 [.imm (tsv S),.agg [.imm (.val (.int .u8 y.k)),zaa y.n]] []=some (avb (ck y),[]):=fun e he=>by
    obtain⟨j,rfl⟩:=pick he
    exact h646 j
   obtain⟨eL,heL,hL⟩:=yat zov tw hrl' rfl (by omega) h646'
   obtain⟨eM,heM,hM⟩:=ybc zov tw hrl' (by omega) hck h646'
   obtain⟨eF,heF,hF⟩:=z89 zov tw hrl' rfl (by omega) h646'
   have hC:∃eC,(eC=zcj none\/eC=zcj (some 200000000000)\/eC=zcj (some (S.map zam).length))/\∀v,xs[0]?=some v->(zc6 ck [v]=true->∃l:Sl tVal,l.xs=[v]/\zf3 zce eC (tsv S) (S.map zam) 628 [zc7 v] (zal 7 0 0 l))/\(zc6 ck [v]=false->zf4 zce eC (tsv S) (S.map zam) 628 [zc7 v] zcg):=by
    cases hv:xs[0]? with
    |none=>exact⟨_,.inl rfl,fun v h=>by cases h⟩
    |some v=>
     have hm:=xah hv
     obtain⟨e,he,h⟩:=z68 zov tw (hw v hm) (ck:=ck) (fun e he y hy=>by rw[xav.1 hy];exact h646' e he v hm)
     exact⟨e,he,fun u hu=>by cases hu;exact h⟩
   obtain⟨eC,heC,hC⟩:=hC
   have hT:=yhu zov tw t
   obtain⟨jL,rfl⟩:=pick heL
   obtain⟨jM,rfl⟩:=pick heM
   obtain⟨jF,rfl⟩:=pick heF
   obtain⟨jC,rfl⟩:=pick heC
   obtain⟨j,j8,j9,j2,j3,jt⟩:∃j:Nat->Option Nat,j 628=jC/\j 629=jF/\j 632=jL/\j 633=jM/\j 638=some 200000000000:=⟨fun f=>if f=628 then jC else if f=629 then jF else if f=632 then jL else if f=633 then jM else some 200000000000,rfl,rfl,rfl,rfl,rfl⟩
   have p8:=@ye3 j;rw[j8]at p8
   have p9:=@ye4 j;rw[j9]at p9
   have p2:=@ye5 j;rw[j2]at p2
   have p3:=@ye6 j;rw[j3]at p3
   have pt:=@ye7 j;rw[jt]at pt
   have fnA:∀fn:Int,0<=fn->fn<=9223372036854775807->zex zcb (zb9 j) sv S 629 [zaa fn,.imm (lvT xs)] 153 [zaa fn,.imm lv,avb false]:=fun fn f0 f1=>z88 zpc zpr hr hh hrl (by omega) f0 f1 (h500 j) (fun h=>by
    obtain⟨l,h1,h2⟩:=(hF fn).1 h
    exact⟨l,h1,zou p9 h2⟩) (fun h=>zo2 p9 ((hF fn).2 h))
   have hb:=zvb (code:=zcb) (ext:=zb9 j) rfl rfl rfl rfl rfl hr
   rw[decide_eq_false hbig]at hb
   refine⟨j,ya8 (code:=zcb) (ext:=zb9 j) rfl z6z ybd (z91 j) hrl hx hb ⟨_,zwk j⟩ (yh0 (code:=zcb) (ext:=zb9 j) rfl rfl rfl rfl hr (by omega) hS) (zx4 (code:=zcb) (ext:=zb9 j) rfl hrl (by omega)) (z13 (code:=zcb) (ext:=zb9 j) rfl hrl) (z9u j hr hS (by omega)) ?_ ?_ ?_ (fnA t.size (by omega) (by omega)) ?_ (zvn (fnA 0 (by decide) (by decide)))⟩
   ·exact yht zpc zpr hr hh t (fun h=>zou pt (hT.1 h)) (fun h=>zo2 pt (hT.2 h))
   ·exact yas zpc rfl zpr hr hh hrl (by omega) (h500 j) (fun h=>by
     obtain⟨l,h1,h2⟩:=hL.1 h
     exact⟨l,h1,zou p2 h2⟩) (fun h=>zo2 p2 (hL.2 h))
   ·exact ybb zpc rfl zpr hr hh hrl (by omega) hck (h500 j) (fun h=>by
     obtain⟨l,h1,h2⟩:=hM.1 h
     exact⟨l,h1,zou p3 h2⟩) (fun h=>zo2 p3 (hM.2 h))
   ·intro v hv
    have hm:=xah hv
    exact z67 zpc rfl zpr hr hh (hw v hm) (fun y hy=>by rw[xav.1 hy];exact h500 j v hm) (fun h=>by
     obtain⟨l,h1,h2⟩:=(hC v hv).1 h
     exact⟨l,h1,zou p8 h2⟩) (fun h=>zo2 p8 ((hC v hv).2 h))
end Go.EX

