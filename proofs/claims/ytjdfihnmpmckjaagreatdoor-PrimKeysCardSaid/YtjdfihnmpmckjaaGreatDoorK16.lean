import Derived.Test.YtjdfihnmpmckjaaGreatDoorExt
import Derived.Test.YtjdfihnmpmckjaaGreatDoorK6
import Derived.Test.YtjdfihnmpmckjaaGreatDoorK8
import Derived.Test.YtjdfihnmpmckjaaGreatDoorK9
import Derived.Test.YtjdfihnmpmckjaaGreatDoorK13
import Derived.Test.YtjdfihnmpmckjaaGreatDoorK10
import Derived.Test.YtjdfihnmpmckjaaGreatDoorK15
import Derived.Test.YtjdfihnmpmckjaaGreatDoorK14
import Derived.Test.YtjdfihnmpmckjaaGreatDoorFmt2
import Derived.Test.YtjdfihnmpmckjaaGreatDoorRows
import Derived.Test.YtjdfihnmpmckjaaGreatDoorK7
set_option linter.unusedVariables false
namespace Go.EX
open Classical
noncomputable def zfu(g:Nat)(c:zac):zac:=fun f args m=>
 if f=g then
  match args with
  |.imm (.slice row off (n+1) cap)::rest=>
   if ∀b a,c f (.tag b a (.slice row off (n+1) cap)::rest) m=c f (.tag 0 0 (.slice row off (n+1) cap)::rest) m then c f (.tag 0 0 (.slice row off (n+1) cap)::rest) m else none
  |_=>c f args m
 else none
theorem z7x{g:Nat}{c:zac}{row:List IV}{off n:Nat}{cap:Option Nat}{rest:List AV}{m:Mem}{r:AV×Mem}(hn:n≠0)(h:∀b a,c g (.tag b a (.slice row off n cap)::rest) m=some r):zfu g c g (.imm (.slice row off n cap)::rest) m=some r:=by
 cases n with
 |zero=>exact absurd rfl hn
 |succ n=>
  unfold zfu
  rw[if_pos rfl]
  dsimp only
  rw[if_pos fun b a=>by rw[h b a,h 0 0],h 0 0]
theorem zzt{num:Names}{P:Program}{g:Nat}{c:zac}(h:zew num P c):zew num P (zfu g c):=by
 intro f args m r m' C vals hc hm hl hr
 unfold zfu at hc
 split at hc
 ·split at hc
  ·rename_i row off n cap rest
   split at hc
   ·rename_i hall
    obtain⟨v0,hv0⟩:∃v0,vals[0]?=some v0:=by
     have:0<vals.size:=by rw[<-hl];simp
     exact⟨_,xbq this⟩
    have h0:=hr 0 _ v0 rfl hv0
    obtain⟨b,a,hadr⟩:∃b a,ARep num C (.tag b a (.slice row off (n+1) cap)) v0:=by
     cases h0 with
     |imm _ _ hi=>
      cases hi with
      |slice _ _ _ _ b o c a u hb hc' hu hl' hk ha=>exact⟨b,a,.tag b a _ _ (.slice row off (n+1) cap b o c a u hb hc' hu hl' hk ha) rfl⟩
    rw[<-hall b a]at hc
    refine h f _ m r m' C vals hc hm (by simpa using hl) fun j x u hx hu=>?_
    cases j with
    |zero=>
     simp only[xbw,xae]at hx
     subst hx
     rw[hv0]at hu
     cases hu
     exact hadr
    |succ j=>exact hr (j+1) x u (by simpa using hx) hu
   ·cases hc
  ·exact h f args m r m' C vals hc hm hl hr
 ·cases hc
end Go.EX


set_option linter.unusedSimpArgs false
namespace Go.EX
def zfb:Nat->Option zab
 |206=>some zeg
 |207=>some yhs
 |209=>some zhj
 |210=>some zw5
 |211=>some zgx
 |212=>some zpd
 |213=>some zhk
 |214=>some zw6
 |215=>some zeh
 |216=>some zfo
 |217=>some yhu
 |218=>some zjz
 |219=>some zm1
 |485=>some yhz
 |489=>some yh0
 |491=>some yh2
 |578=>some zet
 |579=>some zw9
 |580=>some zhm
 |581=>some zi1
 |582=>some zxa
 |583=>some zxb
 |584=>some zxc
 |585=>some zxd
 |586=>some zxe
 |587=>some zxf
 |588=>some zxg
 |589=>some zxh
 |627=>some yh8
 |630=>some yh9
 |631=>some yia
 |632=>some yib
 |633=>some yic
 |636=>some yid
 |639=>some zi2
 |640=>some yie
 |641=>some yif
 |642=>some zlb
 |643=>some yig
 |740=>some zeu
 |741=>some zgl
 |742=>some zd0
 |743=>some zfp
 |749=>some zbr
 |759=>some zbp
 |646=>some zpr
 |647=>some zps
 |650=>some zb2
 |651=>some ze6
 |652=>some zam
 |653=>some zbt
 |654=>some zpt
 |655=>some zg1
 |656=>some zbo
 |745=>some zne
 |755=>some zld
 |_=>none
theorem z6r:zfb zfq=none:=by
 unfold zfb
 split<;>first|(rename_i h;exact absurd h (by decide))|rfl
theorem z9n:callW zfb (fun _ _ _=>none) 489 [] []=some (avb true,[]):=(zfa zfb (fun _ _ _=>none)).2 ⟨60,by kernel_rfl⟩
def z6w:Nat->Option zab
 |1=>some x1W
 |9=>some x9W
 |10=>some zo8
 |12=>some zo9
 |14=>some zjy
 |16=>some zr1
 |17=>some zr2
 |18=>some zr3
 |19=>some zr4
 |20=>some zr5
 |21=>some zr6
 |22=>some zr7
 |23=>some zr8
 |24=>some zr9
 |25=>some zsa
 |26=>some zsb
 |27=>some zsc
 |28=>some zsd
 |29=>some zse
 |30=>some zsf
 |31=>some zsg
 |32=>some zsh
 |33=>some zsk
 |34=>some zsl
 |35=>some zsm
 |36=>some zsn
 |37=>some zsq
 |38=>some zsr
 |39=>some zst
 |40=>some zsv
 |41=>some zsx
 |42=>some zs0
 |43=>some zs1
 |44=>some zs2
 |45=>some zs3
 |46=>some zs4
 |47=>some zs5
 |48=>some zs7
 |49=>some zs8
 |50=>some zs9
 |51=>some zta
 |52=>some ztb
 |53=>some ztc
 |54=>some ztd
 |55=>some zte
 |62=>some zla
 |64=>some zi3
 |66=>some ztg
 |67=>some zth
 |68=>some zti
 |69=>some ztj
 |70=>some ztl
 |71=>some ztm
 |72=>some ztn
 |73=>some zto
 |74=>some ztp
 |75=>some zpu
 |76=>some ztq
 |77=>some ztr
 |78=>some ztt
 |79=>some zpv
 |80=>some ztu
 |81=>some ztv
 |82=>some ztw
 |83=>some zpw
 |84=>some ztx
 |85=>some zty
 |150=>some yhr
 |152=>some zpa
 |161=>some zic
 |163=>some zpb
 |165=>some zm0
 |166=>some zhi
 |329=>some zm2
 |330=>some zpe
 |334=>some zpf
 |336=>some zk4
 |338=>some zj0
 |339=>some zm3
 |351=>some zk5
 |352=>some zm4
 |355=>some zpi
 |357=>some zj1
 |361=>some zpk
 |372=>some zk6
 |373=>some zpm
 |377=>some zk7
 |379=>some zhl
 |380=>some zj2
 |394=>some zss
 |400=>some zsu
 |414=>some zsw
 |420=>some zsy
 |422=>some zsz
 |479=>some yhy
 |486=>some zm6
 |487=>some zs6
 |490=>some zpn
 |492=>some zk8
 |500=>some zm7
 |502=>some zdf
 |503=>some zdz
 |506=>some zgy
 |507=>some zgz
 |508=>some zbv
 |509=>some zna
 |510=>some zes
 |557=>some yh4
 |558=>some yh5
 |559=>some zgk
 |561=>some yh6
 |562=>some zpq
 |709=>some ztk
 |786=>some zts
 |_=>none
def zg5:Nat->Option zab
 |643=>some znd
 |740=>some zeu
 |741=>some zgl
 |742=>some zd0
 |743=>some zfp
 |_=>none
theorem z6x:zg5 zfq=none:=rfl
def zkg:Nat->Option zab
 |372=>some zpl
 |373=>some zw7
 |377=>some zk7
 |379=>some zhl
 |488=>some zw8
 |_=>none
theorem z6v:zkg zfq=none:=rfl
abbrev noQ:zac:=fun _ _ _=>none
def zik(g:Nat)(c:zac):zac:=fun f a m=>if f=g/\a.all AV.isImm=true then c f a m else none
theorem zhw{a b:zac}{f:Nat}{al:List AV}{m:Mem}{r:AV×Mem}(h:a f al m=some r):zeb a b f al m=some r:=by
 unfold zeb
 rw[h]
theorem zen{a b:zac}{f:Nat}{al:List AV}{m:Mem}(h:a f al m=none):zeb a b f al m=b f al m:=by
 unfold zeb
 rw[h]
theorem zgv{g f:Nat}(h:f≠g)(c:zac)(a:List AV)(m:Mem):ze1 g c f a m=none:=by
 unfold ze1
 rw[if_neg h]
theorem zko(g:Nat)(c:zac)(a:List AV)(m:Mem):ze1 g c g a m=c g a m:=by
 unfold ze1
 rw[if_pos rfl]
theorem zqq{f:Nat}(h3:f≠708)(a:List AV)(m:Mem):zil 708 f a m=none:=by
 unfold zil
 rw[if_neg h3]
theorem z8t{g f:Nat}(h:f≠g)(c:zac)(a:List AV)(m:Mem):zik g c f a m=none:=by
 unfold zik
 rw[if_neg (fun hh=>h hh.1)]
theorem z59{code:Nat->Option zab}{ext:zac}{g:Nat}{sv:IV}{S:List Obj}(h651:code 651=some ze6)(hr:zao tObj sv S){rest:List AV}{r:AV×Mem}(h:∀{sA:AV} {t:TP},zbb code ext sA t S->callW code ext g (sA::rest) []=some r):
  zfu g (callW code ext) g (.imm sv::rest) []=some r:=by
 by_cases h0:S.length=0
 ·have:S=[]:=xav h0
  subst this
  have h:=h (ygk h651 ⟨0,0,[],0⟩ hr)
  rcases hr.2.2 with⟨rfl,_⟩|⟨row,off,cap,rfl,_⟩
  ·unfold zfu
   rw[if_pos rfl]
   exact h
  ·unfold zfu
   rw[if_pos rfl]
   exact h
 ·obtain⟨row,off,cap,rfl,_⟩:=zb6 hr (xab (by omega:0<S.length))
  exact z7x h0 fun b a=>h (ygl (t:=⟨b,a,row,off⟩) h651 S cap hr)
noncomputable def okQ(S:List Obj)(v:Val):Bool:=@decide (zcq S v) (Classical.propDecidable _)
theorem z1h{S:List Obj}{v:Val}{b:Bool}(h:b=true↔zcq S v):b=okQ S v:=by
 unfold okQ
 cases b with
 |true=>exact(@decide_eq_true _ (Classical.propDecidable _) (h.1 rfl)).symm
 |false=>exact(@decide_eq_false _ (Classical.propDecidable _) (fun hc=>by have:=h.2 hc;cases this)).symm
theorem okQ_true{S:List Obj}{v:Val}:okQ S v=true↔zcq S v:=by
 unfold okQ
 exact @decide_eq_true_iff _ (Classical.propDecidable _)
theorem zye{sv:IV}{S:List Obj}(hr:zao tObj sv S)(hb:S.length<=1048576)(v:Val)(hv:tVal.wf v):
  zfu 646 (callW zfb noQ) 646 [.imm sv,.agg [.imm (.val (.int .u8 v.k)),zaa v.n]] []=some (avb (okQ S v),[]):=by
 refine z59 rfl hr fun hT=>?_
 obtain⟨b,h,hbo⟩:=z6e hT rfl rfl rfl rfl rfl rfl rfl rfl rfl rfl rfl rfl hb v hv
 rw[<-z1h hbo]
 exact h
theorem zw1:zp4 zg5:=⟨rfl,rfl,rfl,rfl,rfl⟩
theorem sameL:zp1 z6w:=by constructor<;>rfl
def zcr:Nat->Option zab
 |1=>some x1W
 |9=>some x9W
 |10=>some zo8
 |12=>some zo9
 |14=>some zjy
 |16=>some zr1
 |17=>some zr2
 |18=>some zr3
 |19=>some zr4
 |20=>some zr5
 |21=>some zr6
 |22=>some zr7
 |23=>some zr8
 |24=>some zr9
 |25=>some zsa
 |26=>some zsb
 |27=>some zsc
 |28=>some zsd
 |29=>some zse
 |30=>some zsf
 |31=>some zsg
 |32=>some zsh
 |33=>some zsk
 |34=>some zsl
 |35=>some zsm
 |36=>some zsn
 |37=>some zsq
 |38=>some zsr
 |39=>some zst
 |40=>some zsv
 |41=>some zsx
 |42=>some zs0
 |43=>some zs1
 |44=>some zs2
 |45=>some zs3
 |46=>some zs4
 |47=>some zs5
 |48=>some zs7
 |49=>some zs8
 |50=>some zs9
 |51=>some zta
 |52=>some ztb
 |53=>some ztc
 |54=>some ztd
 |55=>some zte
 |62=>some zla
 |64=>some zi3
 |66=>some ztg
 |67=>some zth
 |68=>some zti
 |69=>some ztj
 |70=>some ztl
 |71=>some ztm
 |72=>some ztn
 |73=>some zto
 |74=>some ztp
 |75=>some zpu
 |76=>some ztq
 |77=>some ztr
 |78=>some ztt
 |79=>some zpv
 |80=>some ztu
 |81=>some ztv
 |82=>some ztw
 |83=>some zpw
 |84=>some ztx
 |85=>some zty
 |152=>some zpa
 |154=>some zf3
 |160=>some zgj
 |161=>some zic
 |163=>some zpb
 |164=>some zr0
 |165=>some zm0
 |166=>some zhi
 |167=>some zpc
 |329=>some zm2
 |330=>some zpe
 |334=>some zpf
 |336=>some zk4
 |338=>some zj0
 |339=>some zm3
 |351=>some zk5
 |352=>some zm4
 |355=>some zpi
 |357=>some zj1
 |361=>some zpk
 |372=>some zk6
 |373=>some zpm
 |377=>some zk7
 |379=>some zhl
 |380=>some zj2
 |394=>some zss
 |400=>some zsu
 |414=>some zsw
 |420=>some zsy
 |422=>some zsz
 |481=>some zm5
 |486=>some zm6
 |487=>some zs6
 |490=>some zpn
 |492=>some zk8
 |500=>some zm7
 |502=>some zdf
 |503=>some zdz
 |506=>some zgy
 |507=>some zgz
 |508=>some zbv
 |509=>some zna
 |510=>some zes
 |559=>some zgk
 |560=>some zk9
 |562=>some zpq
 |709=>some ztk
 |786=>some zts
 |_=>none
theorem z6s:zcr zfq=none:=rfl
def zcu:Nat->Option zab
 |206=>some zeg
 |208=>some z4g
 |209=>some zhj
 |210=>some zw5
 |211=>some zgx
 |212=>some zpd
 |213=>some zhk
 |214=>some zw6
 |215=>some zeh
 |216=>some zfo
 |218=>some zjz
 |219=>some zm1
 |578=>some zet
 |579=>some zw9
 |580=>some zhm
 |581=>some zi1
 |582=>some zxa
 |583=>some zxb
 |584=>some zxc
 |585=>some zxd
 |586=>some zxe
 |587=>some zxf
 |588=>some zxg
 |589=>some zxh
 |630=>some x630Q
 |636=>some x636Q
 |639=>some zi2
 |640=>some x640Q
 |641=>some znc
 |642=>some zlb
 |742=>some zd0
 |749=>some zbr
 |759=>some zbp
 |_=>none
theorem z6u:zcu zfq=none:=rfl
def zhp(c:Nat):Nat->Option zab
 |643=>some (ztf (c*5+2))
 |740=>some zeu
 |741=>some zgl
 |742=>some zd0
 |743=>some zfp
 |_=>none
theorem z6t(c:Nat):zhp c zfq=none:=rfl
noncomputable def ze0:Option Nat->zac
 |none=>zeb (ze1 643 (callW zg5 noQ)) (zfu 646 (callW zfb noQ))
 |some c=>zeb (zik 643 (callW (zhp c) noQ)) (zeb (ze1 643 (callW zg5 noQ)) (zfu 646 (callW zfb noQ)))
noncomputable def zc3(j1 j2:Option Nat):zac:=zeb (zil 708) (zeb (ze1 489 (callW zfb noQ)) (zeb (ze1 630 (callW zcu (ze0 j1))) (zeb (ze1 636 (callW zcu (ze0 j2))) (ze1 488 (callW zkg noQ)))))
theorem z07(j1 j2:Option Nat):callW zcr (zc3 j1 j2) 489 [] []=some (avb true,[]):=by
 rw[zgp zcr (zc3 j1 j2) rfl (by decide)]
 unfold zc3
 rw[zen (zqq (by decide) _ _)]
 exact zhw ((zko _ _ _ _).trans z9n)
theorem zyd(j:Option Nat){sv:IV}{S:List Obj}(hr:zao tObj sv S)(hb:S.length<=1048576)(v:Val)(hv:tVal.wf v):
  callW zcu (ze0 j) 646 [.imm sv,.agg [.imm (.val (.int .u8 v.k)),zaa v.n]] []=some (avb (okQ S v),[]):=by
 rw[zgp zcu (ze0 j) rfl (by decide)]
 cases j with
 |none=>
  show zeb (ze1 643 (callW zg5 noQ)) (zfu 646 (callW zfb noQ)) 646 _ []=_
  rw[zen (zgv (by decide) _ _ _)]
  exact zye hr hb v hv
 |some c=>
  show zeb (zik 643 (callW (zhp c) noQ)) (zeb (ze1 643 (callW zg5 noQ)) (zfu 646 (callW zfb noQ))) 646 _ []=_
  rw[zen (z8t (by decide) _ _ _),zen (zgv (by decide) _ _ _)]
  exact zye hr hb v hv
theorem zw0(c:Nat):TwinCode (zhp c) c:=⟨rfl,rfl,rfl,rfl,rfl⟩
theorem z3u:zlp zcu (ze0 (some 200000000000)) where
 nil:=by
  rw[zgp zcu _ rfl (by decide)]
  exact zhw (show zik 643 (callW (zhp 200000000000) noQ) 643 [zaf] []=_ from yg4 (zw0 _))
 imm:=fun {sv S} hr hz hS hn=>by
  rw[zgp zcu _ rfl (by decide)]
  have h1:=z3w (ext:=noQ) (zw0 200000000000) hr hz hS (by omega)
  have h2:S[200000000000]?=none:=xaq (by omega)
  rw[ygr h2]at h1
  exact zhw (show zik 643 (callW (zhp 200000000000) noQ) 643 [.imm sv] []=_ from h1)
 obj:=fun {T} cap hT hn=>by
  obtain⟨o,ho,h1⟩:=yg6 (ext:=noQ) zw1 hT hn cap
  refine⟨o::clM T,⟨o,rfl,ho⟩,?_⟩
  rw[zgp zcu _ rfl (by decide)]
  show zeb (ze1 643 (callW zg5 noQ)) (zfu 646 (callW zfb noQ)) 643 [.osl 0 0 5 T.length cap] [.flat (tObj.row T) false]=_
  exact zhw ((zko _ _ _ _).trans h1)
theorem ygz(q:Nat):zp3 zcu (ze0 (some q)) q where
 imm:=fun {sv S} hr hz hS hn=>by
  rw[zgp zcu _ rfl (by decide)]
  exact zhw (show zik 643 (callW (zhp q) noQ) 643 [.imm sv] []=_ from z3w (ext:=noQ) (zw0 q) hr hz hS (by omega))
 obj:=fun {T o} ho cap cap0 hT hn hiv=>by
  obtain⟨ob,hob,h1⟩:=yhb (ext:=noQ) zw1 ho hT hn cap cap0 hiv
  refine⟨ob::clM T,⟨ob,rfl,hob⟩,?_⟩
  rw[zgp zcu _ rfl (by decide)]
  show zeb (ze1 643 (callW zg5 noQ)) (zfu 646 (callW zfb noQ)) 643 [.osl 0 0 5 T.length cap0] _=_
  exact zhw ((zko _ _ _ _).trans h1)
theorem z3v{sv:IV}{S:List Obj}(hr:zao tObj sv S)(hz:zbs sv=false)(hS:∀o∈S,o.l.xs.length<=1000000)(hn:S.length<=1000000):∃X,XM 0 S X/\callW zcu (ze0 none) 643 [.imm sv] []=some (.osl 0 0 5 S.length (some S.length),X):=by
 rcases yg7 (ext:=noQ) zw1 hr hS (by omega)with⟨rfl,_⟩|⟨_,o,ho,h1⟩
 ·simp[zbs]at hz
 ·refine⟨o::clM S,⟨o,rfl,ho⟩,?_⟩
  rw[zgp zcu _ rfl (by decide)]
  exact zhw ((zko _ _ _ _).trans h1)
theorem ydm:PlainFns zcu:=⟨⟨rfl,rfl,rfl,rfl,rfl,rfl,rfl,rfl,rfl⟩,rfl,rfl,rfl,rfl,rfl,rfl,rfl,rfl,rfl,rfl,rfl,rfl,rfl,rfl,rfl⟩
theorem zp8:DoQ zcu:=⟨ydm,rfl,rfl,rfl,rfl,rfl,rfl⟩
theorem ydu:zgn zcu:=by constructor<;>rfl
theorem z56:zlg zcr:=by constructor<;>rfl
theorem z18:zdr zcr:=by constructor<;>rfl
theorem z2y:zp1 zcr:=by constructor<;>rfl
theorem z91:zlk zcr:=by constructor<;>rfl
theorem z8x(j1 j2:Option Nat):zlj zcr (zc3 j1 j2):=⟨rfl,rfl,rfl,fun a m=>by
 unfold zc3
 cases h:zil 708 708 a m with
 |some r=>exact zhw h
 |none=>
  rw[zen h,zen (zgv (by decide) _ _ _),zen (zgv (by decide) _ _ _),zen (zgv (by decide) _ _ _),zgv (by decide)]⟩
theorem z8f(j1 j2:Option Nat)(args:List AV){r:AV×Mem}(h:callW zcu (ze0 j1) 630 args []=some r):callW zcr (zc3 j1 j2) 630 args []=some r:=by
 rw[zgp zcr (zc3 j1 j2) rfl (by decide)]
 unfold zc3
 rw[zen (zqq (by decide) _ _),zen (zgv (by decide) _ _ _)]
 exact zhw ((zko _ _ _ _).trans h)
theorem ydt(j1 j2:Option Nat)(args:List AV){r:AV×Mem}(h:callW zcu (ze0 j2) 636 args []=some r):callW zcr (zc3 j1 j2) 636 args []=some r:=by
 rw[zgp zcr (zc3 j1 j2) rfl (by decide)]
 unfold zc3
 rw[zen (zqq (by decide) _ _),zen (zgv (by decide) _ _ _),zen (zgv (by decide) _ _ _)]
 exact zhw ((zko _ _ _ _).trans h)
theorem z8q(j1 j2:Option Nat){sv:IV}{S:List Obj}(hr:zao tObj sv S)(hS:∀o∈S,o.l.xs.length<=1000000)(hn:S.length<=1000000):callW zcr (zc3 j1 j2) 488 [.imm sv] []=some (.optr 0 0,[.rich [.osl 1 0 5 S.length (some (S.length+1))],.flat (tObj.row (S.map zal++[zat])) false]):=by
 rw[zgp zcr (zc3 j1 j2) rfl (by decide)]
 unfold zc3
 rw[zen (zqq (by decide) _ _),zen (zgv (by decide) _ _ _),zen (zgv (by decide) _ _ _),zen (zgv (by decide) _ _ _),zko]
 exact z8r (code:=zkg) (ext:=noQ) rfl (yg8 (code:=zkg) (ext:=noQ) rfl rfl rfl rfl hr hS (by omega))
set_option maxHeartbeats 4000000 in
theorem ydq {sv:IV} {S:List Obj} (hr:zao tObj sv S) {v k x:Val} (hw:∀y∈[v,k,x],tVal.wf y):
  ∃j1 j2 m,callW zcr (zc3 j1 j2) 481 [.imm sv,znq v k x] []=some (avb true,m):=by
 by_cases hbig:50000<zdp S.length S
 ·have hb:=zx7 (code:=zcr) (ext:=zc3 none none) rfl rfl rfl rfl rfl hr
  rw[decide_eq_true hbig]at hb
  exact⟨none,none,[],z9c rfl hb ⟨_,z07 none none⟩⟩
 ·obtain⟨z1,z2,z3,z4⟩:=z3c hr.1 (show zdp S.length S<=50000 by omega)
  have hh:=z8p hr.1 (show zdp S.length S<=50000 by omega)
  have hS:∀o∈S,o.l.xs.length<=1000000:=fun o ho=>by have:=z4 o ho;omega
  have hlm:(S.map zal).length=S.length:=xam ..
  have hrT:zao tObj (tsv S) (S.map zal):=by
   have:=zrm hh
   rw[hlm]at this
   exact this
  have hTl:∀o∈S.map zal,o.l.xs.length<=1000000:=fun o ho=>by have:=hh.l o ho;omega
  have hTn:=hh.n
  have hw2:∀y∈[v,k],tVal.wf y:=fun y hy=>hw y (by
   simp only[xbt,xb4,or_false]at hy ⊢
   rcases hy with e|e
   ·exact .inl e
   ·exact .inr (.inl e))
  have h646:∀j,∀y∈[v,k,x],callW zcu (ze0 j) 646 [.imm (tsv S),.agg [.imm (.val (.int .u8 y.k)),zaa y.n]] []=some (avb (okQ (S.map zal) y),[]):=fun j y hy=>zyd j hrT (by omega) y (hw y hy)
  have h646':∀j,∀y∈[v,k],callW zcu (ze0 j) 646 [.imm (tsv S),.agg [.imm (.val (.int .u8 y.k)),zaa y.n]] []=some (avb (okQ (S.map zal) y),[]):=fun j y hy=>zyd j hrT (by omega) y (hw2 y hy)
  have h500:∀j1 j2,∀y∈[v,k,x],callW zcr (zc3 j1 j2) 500 [.imm (tsv S),.agg [.imm (.val (.int .u8 y.k)),zaa y.n]] []=some (avb (okQ (S.map zal) y),[]):=fun j1 j2 y hy=>by
   have hu:=z31 (S.map zal)
   obtain⟨b',hc,hb'⟩:=yei (code:=zcr) (ext:=zc3 j1 j2) rfl rfl rfl rfl rfl rfl rfl rfl hrT y (hw y hy) (by have:=hh.sum;omega) (by omega)
   rw[<-z1h hb']
   exact hc
  have h500':∀j1 j2,∀y∈[v,k],callW zcr (zc3 j1 j2) 500 [.imm (tsv S),.agg [.imm (.val (.int .u8 y.k)),zaa y.n]] []=some (avb (okQ (S.map zal) y),[]):=fun j1 j2 y hy=>h500 j1 j2 y (by
   simp only[xbt,xb4,or_false]at hy ⊢
   rcases hy with e|e
   ·exact .inl e
   ·exact .inr (.inl e))
  have hck:∀y,okQ (S.map zal) y=true->zcq (S.map zal) y:=fun y h=>okQ_true.1 h
  obtain⟨j1,hg⟩:∃j1,znj zcu (ze0 j1) (tsv S) (S.map zal) (okQ (S.map zal)) v k:=by
   by_cases hok:okQ (S.map zal) v=true/\okQ (S.map zal) k=true
   ·exact⟨_,z8i zp8 z3u rfl hrT rfl hTl (by omega) hw2 (h646' _) hok.1 hok.2 (fun y _ h=>hck y h)⟩
   ·obtain⟨X,hX,h1⟩:=z3v hrT rfl hTl (by omega)
    exact⟨none,z8h zp8 rfl hrT hX (by omega) h1 (h646' none) hok⟩
  obtain⟨j2,hp⟩:∃j2,zj8 zcu (ze0 j2) (tsv S) (S.map zal) (okQ (S.map zal)) v k x:=by
   by_cases hok:∀y∈[v,k,x],okQ (S.map zal) y=true
   ·obtain⟨e,he,hp⟩:=yd2 zp8 ydu rfl z3u (eK:=fun q=>ze0 (some q)) ygz hrT rfl (fun o ho=>by have:=hh.l o ho;omega) (by omega) hw (ck:=okQ (S.map zal)) (fun e he=>by
     rcases he with rfl|⟨q,rfl⟩
     ·exact h646 _
     ·exact h646 _) hok (fun y hy=>hck y (hok y hy))
    rcases he with rfl|⟨q,rfl⟩
    ·exact⟨_,hp⟩
    ·exact⟨_,hp⟩
   ·obtain⟨X,hX,h1⟩:=z3v hrT rfl hTl (by omega)
    refine⟨none,yd1 zp8 rfl hrT hX (by omega) h1 (h646 none) ?_⟩
    apply Classical.byContradiction
    intro hne
    exact hok fun y hy=>by
     cases h:okQ (S.map zal) y with
     |true=>rfl
     |false=>exact absurd ⟨y,hy,h⟩ hne
  have hg':znj zcr (zc3 j1 j2) (tsv S) (S.map zal) (okQ (S.map zal)) v k:=by
   obtain⟨kk,n,t,B,X,TD,q1,q2,q3,q4,q5,q6⟩:=hg
   exact⟨kk,n,t,B,X,TD,q1,q2,q3,q4,q5,z8f j1 j2 _ q6⟩
  have hp':zj8 zcr (zc3 j1 j2) (tsv S) (S.map zal) (okQ (S.map zal)) v k x:=by
   obtain⟨t,d,ch,X,TD,q1,q2,q3,q4,q5,q6⟩:=hp
   exact⟨t,d,ch,X,TD,q1,q2,q3,q4,q5,ydt j1 j2 _ q6⟩
  have hb:=zx7 (code:=zcr) (ext:=zc3 j1 j2) rfl rfl rfl rfl rfl hr
  rw[decide_eq_false hbig]at hb
  exact⟨j1,j2,z89 (code:=zcr) (ext:=zc3 j1 j2) rfl z56 rfl z91 (z8x j1 j2) hS (by omega) hb ⟨_,z07 j1 j2⟩ (ygw (code:=zcr) (ext:=zc3 j1 j2) rfl rfl rfl rfl hr (by omega) hS) (z8q j1 j2 hr hS (by omega))
   (z8g z18 z2y hr hh hw2 (h500' j1 j2) (fun y _ h=>hck y h) hg') (ydw z18 z2y hr hh hw (h500 j1 j2) (fun y _ h=>hck y h) hp')⟩
end Go.EX


set_option maxRecDepth 100000
namespace Go.Proofs.YtjdfihnmpmckjaaGreatDoor
open Go.EX
def gids:List Nat:=[100000,100001,703,479,481,482,487,489,377,627,488,150,490,486,154,160,636,630,379,163,156,157,638,632,633,153,629,336,151,628,14,12,1,361,491,373,640,152,562,557,161,561,166,355,492,334,164,167,560,165,643,206,578,500,64,10,25,29,33,34,28,24,18,17,23,22,21,32,35,30,26,20,19,27,16,31,45,49,53,54,48,44,38,37,43,42,41,52,55,50,46,40,39,47,36,51,75,79,83,84,78,74,68,67,73,72,71,82,85,80,76,70,69,77,66,81,339,372,749,641,646,642,639,558,352,330,559,743,740,742,741,219,207,212,580,210,588,217,208,214,211,215,510,509,508,9,62,411,415,419,420,414,410,404,403,409,408,407,418,421,416,412,406,405,413,402,417,391,395,399,400,394,390,384,383,389,388,387,398,401,396,392,386,385,393,382,397,338,759,656,745,654,647,652,351,329,218,216,579,213,648,209,581,502,506,507,422,380,651,755,655,653,650,357,582,589,246,244,670,503,786,583,584,585,586,587,673,785,245,669,709,674,708,100233,719,718,713,714,716,732,712,715,733,734,735,100245,100246,100247,100248,100249,100250,100251,100252,100253,100254,100255,100256,100257,100258,100259,100260,100261,100262,100263,100264,100265,100266,704]
def num(f:FuncId):Nat:=zvu gids f
theorem zjn(f:Nat)(h:268<=f):num f=100000+f:=ycy (by rw[show gids.length=268 from by kernel_rfl];exact h)
theorem nz(f:FuncId):num f≠zfq:=by
 by_cases hf:f<268
 ·exact(by decide+kernel:∀f:Fin 268,num f.val≠zfq) ⟨f,hf⟩
 ·rw[zjn f (Nat.le_of_not_lt hf),zfq]
  simp only[FuncId]at *;omega
theorem fns:∀(f:FuncId) (xf:zab),zcr (num f)=some xf->FunOK Tryz.prog num f xf:=
 FunOK.all (n:=268) (by kernel_rfl) fun f h=>by
  rw[zjn f h]
  unfold zcr
  split<;>first|rfl|omega
theorem z73:∀(f:FuncId) (xf:zab),zcu (num f)=some xf->FunOK Tryz.prog num f xf:=
 FunOK.all (n:=268) (by kernel_rfl) fun f h=>by
  rw[zjn f h]
  unfold zcu
  split<;>first|rfl|omega
theorem z76:∀(f:FuncId) (xf:zab),zg5 (num f)=some xf->FunOK Tryz.prog num f xf:=
 FunOK.all (n:=268) (by kernel_rfl) fun f h=>by
  rw[zjn f h]
  unfold zg5
  split<;>first|rfl|omega
theorem z72 (c:Nat):∀(f:FuncId) (xf:zab),(zhp c) (num f)=some xf->FunOK Tryz.prog num f xf:=
 FunOK.all (n:=268) (by kernel_rfl) fun f h=>by
  rw[zjn f h]
  unfold zhp
  split<;>first|rfl|omega
theorem z74:∀(f:FuncId) (xf:zab),zkg (num f)=some xf->FunOK Tryz.prog num f xf:=
 FunOK.all (n:=268) (by kernel_rfl) fun f h=>by
  rw[zjn f h]
  unfold zkg
  split<;>first|rfl|omega
theorem z75:∀(f:FuncId) (xf:zab),zfb (num f)=some xf->FunOK Tryz.prog num f xf:=
 FunOK.all (n:=268) (by kernel_rfl) fun f h=>by
  rw[zjn f h]
  unfold zfb
  split<;>first|rfl|omega
end Go.Proofs.YtjdfihnmpmckjaaGreatDoor

namespace Go.Proofs.YtjdfihnmpmckjaaGreatDoor
open Go.EX Go.Shelf
def ren246:Go.Shelf.Ren:=⟨fun|246=>232|283=>234|284=>235|285=>236|286=>237|129=>239|317=>238|318=>240|319=>241|320=>242|337=>243|338=>244|n=>n,fun|2=>2|3=>3|9=>9|4=>4|171=>320|0=>0|53=>321|37=>298|5=>5|173=>324|212=>327|51=>328|20=>20|213=>329|46=>330|232=>333|233=>334|n=>n,fun|17=>0|18=>1|19=>2|n=>n⟩
theorem z9f:Go.Proofs.LaysM.n246 Tryz.prog ren246:={
 mixed:=by kernel_rfl
 f129:=Tryz.func239.trans (congrArg some (by kernel_rfl))
 f246:=Tryz.func232.trans (congrArg some (by kernel_rfl))
 f283:=Tryz.func234.trans (congrArg some (by kernel_rfl))
 f284:=Tryz.func235.trans (congrArg some (by kernel_rfl))
 f285:=Tryz.func236.trans (congrArg some (by kernel_rfl))
 f286:=Tryz.func237.trans (congrArg some (by kernel_rfl))
 f317:=Tryz.func238.trans (congrArg some (by kernel_rfl))
 f318:=Tryz.func240.trans (congrArg some (by kernel_rfl))
 f319:=Tryz.func241.trans (congrArg some (by kernel_rfl))
 f320:=Tryz.func242.trans (congrArg some (by kernel_rfl))
 f337:=Tryz.func243.trans (congrArg some (by kernel_rfl))
 f338:=Tryz.func244.trans (congrArg some (by kernel_rfl))
 t0:=Tryz.underlying0
 a0:=Tryz.isAgg0
 z0:=Tryz.sizeOf0
 v0:=Tryz.zeroValue0
 t2:=Tryz.underlying2
 a2:=Tryz.isAgg2
 z2:=Tryz.sizeOf2
 v2:=Tryz.zeroValue2
 t3:=Tryz.underlying3
 a3:=Tryz.isAgg3
 z3:=Tryz.sizeOf3
 v3:=Tryz.zeroValue3
 t4:=Tryz.underlying4
 a4:=Tryz.isAgg4
 z4:=Tryz.sizeOf4
 v4:=Tryz.zeroValue4
 t5:=Tryz.underlying5
 a5:=Tryz.isAgg5
 z5:=Tryz.sizeOf5
 v5:=Tryz.zeroValue5
 t9:=Tryz.underlying9
 a9:=Tryz.isAgg9
 z9:=Tryz.sizeOf9
 v9:=Tryz.zeroValue9
 t20:=Tryz.underlying20
 a20:=Tryz.isAgg20
 z20:=Tryz.sizeOf20
 v20:=Tryz.zeroValue20
 t37:=Tryz.underlying298
 a37:=Tryz.isAgg298
 z37:=Tryz.sizeOf298
 v37:=Tryz.zeroValue298
 t46:=Tryz.underlying330
 a46:=Tryz.isAgg330
 z46:=Tryz.sizeOf330
 v46:=Tryz.zeroValue330
 t51:=Tryz.underlying328
 a51:=Tryz.isAgg328
 z51:=Tryz.sizeOf328
 v51:=Tryz.zeroValue328
 t53:=Tryz.underlying321
 a53:=Tryz.isAgg321
 z53:=Tryz.sizeOf321
 v53:=Tryz.zeroValue321
 t171:=Tryz.underlying320
 a171:=Tryz.isAgg320
 z171:=Tryz.sizeOf320
 v171:=Tryz.zeroValue320
 t173:=Tryz.underlying324
 a173:=Tryz.isAgg324
 z173:=Tryz.sizeOf324
 v173:=Tryz.zeroValue324
 t212:=Tryz.underlying327
 a212:=Tryz.isAgg327
 z212:=Tryz.sizeOf327
 v212:=Tryz.zeroValue327
 t213:=Tryz.underlying329
 a213:=Tryz.isAgg329
 z213:=Tryz.sizeOf329
 t232:=Tryz.underlying333
 a232:=Tryz.isAgg333
 z232:=Tryz.sizeOf333
 v232:=Tryz.zeroValue333
 t233:=Tryz.underlying334
 a233:=Tryz.isAgg334
 z233:=Tryz.sizeOf334
 v233:=Tryz.zeroValue334
 g17:=by kernel_rfl
 g18:=by kernel_rfl
 g19:=by kernel_rfl
 i0:=by kernel_rfl
 i2:=by kernel_rfl
 i3:=by kernel_rfl
 i4:=by kernel_rfl
 i5:=by kernel_rfl
 i9:=by kernel_rfl
 i20:=by kernel_rfl
 i37:=by kernel_rfl
 i46:=by kernel_rfl
 i51:=by kernel_rfl
 i53:=by kernel_rfl
 i171:=by kernel_rfl
 i173:=by kernel_rfl
 i212:=by kernel_rfl
 i232:=by kernel_rfl
 i233:=by kernel_rfl
 m17:=by kernel_rfl
 m18:=by kernel_rfl
 m19:=by kernel_rfl }
theorem fmt_num(f:FuncId)(h:num f=708):f=ren246.f 246:=by
 by_cases hf:f<268
 ·exact(by decide+kernel:∀f:Fin 268,num f.val=708->f.val=ren246.f 246) ⟨f,hf⟩ h
 ·have hn:num f=100000+f:=zjn f (Nat.le_of_not_lt hf)
  rw[hn]at h
  exfalso;simp only[FuncId]at *;omega
theorem z71:zj6 Tryz.prog (ren246.f 246):=⟨Tryz.f232,Tryz.func232,by decide+kernel,by kernel_rfl⟩
abbrev zhy:Tab:=("internal/strconv.uint64pow10",.u64,Lib.pow10Tab)
theorem z9m:zew (Names.tabs num Tryz.prog [zhy]) Tryz.prog (zil 708):=
 z7w z9f (xbe ..) fmt_num z71
end Go.Proofs.YtjdfihnmpmckjaaGreatDoor


namespace Go.EX
open Go.RowKit
section
variable {P:Program} {t:TypeId}
theorem z5t{α:Type}{n:Nat}{e:TypeId}{τ:Ty α}(ht:P.underlying t=some (.array n e))(he:zd7 P e τ)(hc:P.cellsOf e=τ.sz){H:Type}(enc:TypeId×Value->H)(w:World)(spare:Nat->Bool)(hsp:∀b,spare b=true)(fuel:Nat)(cs:List Value)(x:DataW H×List MemPlace)
  (h:DataW.trod enc P w 0 spare true fuel t cs=some x) (hwt:(DataW.weights P t x.1).all (· <=reachBytes)=true):
  cs.length=P.cellsOf t/\∀i,i<n->∃d:α,τ.wf d/\∀(j:Nat) (y:IV) (u:Value),(τ.enc d)[j]?=some y->cs[i*τ.sz+j]?=some u->IRep (fun b=>b<w.heap.size) w y u:=by
 obtain⟨xs,m,_,rfl,hl,hxl,hg⟩:=DataW.trod_array ht h
 simp only[DataW.weights,ht]at hwt
 refine⟨hl,fun i hi=>?_⟩
 have hie:i<xs.length:=by omega
 have h1:=hg i hi
 rw[xab hie]at h1
 have h2:=zw3 _ hwt i xs[i].1 (by rw[xap,xab hie];rfl)
 obtain⟨d,hd,hdl,hr⟩:=he enc w spare hsp m _ _ h1 h2
 refine⟨d,hd,fun j y u hy hu=>hr j y u hy ?_⟩
 have hj:j<τ.sz:=by rw[<-τ.len d];exact(xaa.1 hy).1
 rw[xcd,hc,if_pos hj,xbp]
 exact hu
theorem yeg{α:Type}{e:TypeId}{τ:Ty α}(ht:P.underlying t=some (.array 3 e))(he:zd7 P e τ)(hc:P.cellsOf e=τ.sz)(hct:P.cellsOf t=τ.sz+(τ.sz+τ.sz)):zd7 P t (zf1 τ (zf1 τ τ)):=by
 intro H enc w spare hsp fuel cs x h hwt
 obtain⟨hl,hp⟩:=z5t ht he hc enc w spare hsp fuel cs x h hwt
 obtain⟨a,ha,ra⟩:=hp 0 (by decide)
 obtain⟨b,hb,rb⟩:=hp 1 (by decide)
 obtain⟨c,hc',rc⟩:=hp 2 (by decide)
 refine⟨(a,b,c),⟨ha,hb,hc'⟩,by rw[hl,hct];rfl,fun j y u hy hu=>?_⟩
 simp only[zf1]at hy
 rw[xcy,τ.len]at hy
 split at hy
 ·exact ra j y u hy (by rw[Nat.zero_mul,xau];exact hu)
 ·rename_i hj
  rw[xcy,τ.len]at hy
  split at hy
  ·refine rb _ y u hy ?_
   rw[<-hu]
   congr 1
   omega
  ·refine rc _ y u hy ?_
   rw[<-hu]
   congr 1
   omega
end
end Go.EX


namespace Go.EX
open Go.RowKit Go.ChangeShapes Go.WideShapes Go.ChangeAt
theorem z9e{P:Program}{num:Names}{ι:Type}{code:Nat->Option zab}{ext:ι->zac}(hrun:∀i,zg3 P num code (ext i)){f:FuncId}{fn:Func}{s:ChangeSpec}(hs:zxq s fn.params.toList.length)(hl:laidOutB P=true)
  (hts:(fn.params.toList.all fun t=>P.readableRec t&&decide (t<P.types.size))=true) {tb:TypeId} (hres:fn.resultTypes= #[tb]) (htb:P.underlying tb=some .bool)
  {Q:List AV->Prop} (hQ:ArgsOf P fn.params.toList Q) (hcall:∀az,Q az->∃i m,callW code (ext i) (num f) az []=some (.imm (.val (.bool true)),m)) {H:Type} {enc:TypeId×Value->H}
  (W:World) (base:Nat) (args:Array Value) (ds gs:List (DataW H)) (before:List MemPlace)
  (hval:∀(j:Nat) t v,fn.params[j]?=some t->args[j]?=some v->Value.okWide P W .any base t v)
  (hW:DataW.Whole enc P fn.params.toList s.vars false W args.toList ds gs before)
  (hwt:(DataW.weightsEach P (fn.params.toList++s.plain.varTypes P) (ds++gs)).all (· <=reachBytes)=true) (hG:num.G (fun b=>b<W.heap.size) W):
  Calls P f args W fun e W'=>∃v,e=.returned v/\s.post enc P fn false true false false W args v W':=by
 have hW':=hW
 obtain⟨p,q,hA,hV,rfl,hfz,hnd⟩:=hW
 rw[hs.1]at hV
 obtain⟨rfl,rfl⟩:=trodVars_none hV
 obtain⟨az,h1,h2,h3,h4⟩:=z9a (num:=num) hQ args.toList ds p (fun j t v ht hv=>hval j t v (by simpa using ht) (by simpa using hv)) hA (by
  have e:s.plain.varTypes P=[]:=by simp[ChangeSpec.plain,DataSpec.varTypes,hs.1]
  rw[e,xay,xay]at hwt
  exact hwt)
 obtain⟨i,m,hm⟩:=hcall az h1
 refine(z9d (hrun i) hG hm (by simpa using h2) fun j x u hx hu=>h4 j x u hx (by simpa using hu)).mono fun e W' ⟨he,bel⟩=>?_
 subst he
 have hfn:s.fn H (ds++[])={ results:=[.lit (.bool true)],args:=ds }:=by rw[xay];exact hs.2 H ds h3
 refine⟨_,rfl,ds,[],p++[],[],p,[],hW',?_,?_,?_,bel.frame _,fun h=>by cases h⟩
 ·rw[hfn,hres];exact trodAll_mk1 (shut_bool htb _)
 ·rw[hfn];exact z3m hl bel hts hA
 ·rw[hfn,hs.1];rfl
end Go.EX

