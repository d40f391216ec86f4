import Derived.Test.YtjdfihnmpmckjaaGreatDoorK9
import Derived.Test.YtjdfihnmpmckjaaGreatDoorK7
import Derived.Test.YtjdfihnmpmckjaaGreatDoorK8
import Derived.Shelf.Strings.Builder1
import Derived.Test.YtjdfihnmpmckjaaGreatDoorFmt
import Derived.Lib.ItoaLen
set_option linter.unusedVariables false
set_option linter.unusedSimpArgs false
namespace Go.EX
theorem zu9{M:Mem}{x:AV}{c:List AV}{n:Nat}(h:ze7 M x c n):lenOf x=some n:=by
 rcases h with⟨rfl,rfl,rfl⟩|⟨vid,o,rfl,_⟩<;>rfl
structure znk (M:Mem) (b f:Nat) (vx:AV) (E:List KE):Prop where
 B:∃B,M[b]?=some (.rich B)/\B[f]?=some vx
 h:ze7 M vx (zci E) E.length
 own:∀id∈zbx E,id≠b/\id ∉ vx.refs
 nd:(zbx E).Nodup
theorem z8s{M M':Mem}{b f:Nat}{vx:AV}{E:List KE}(h:znk M b f vx E)(hb:M'[b]?=M[b]?)(hv:∀id∈vx.refs,M'[id]?=M[id]?):znk M' b f vx E:=by
 obtain⟨B,h1,h2⟩:=h.B
 exact⟨⟨B,by rw[hb];exact h1,h2⟩,zhs h.h hv,h.own,h.nd⟩
theorem z2a(E:List KE)(e:KE):zbx (E++[e])=zbx E++e.x.refs:=by simp[zbx]
section
variable {code:Nat->Option zab} {ext:zac}
theorem zzu{g sz f mk:Nat}(hg:code g=some (zcw sz f mk)){mi:Int->List IV}{R:Int->Prop}(hmk:∀s n,R n->zb0 (callW code ext) s mk [zaa n]=some (.agg ((mi n).map .imm),s))(hms:∀n,(mi n).length=sz)
  {M:Mem} {b:Nat} {vx:AV} {E:List KE} (hk:znk M b f vx E) (hbl:b<M.length) (hE:E.length<=1000000000) (hEn:∀e∈E,R e.n) (hx:∀e∈E,KX M sz e.x e.len e.cells/\e.len<=1000000000) (hvl:∀id∈vx.refs,id<M.length):
  ∃M',callW code ext g [.optr b 0] M=some (.tup [],M')/\M.length<=M'.length/\(∀id,id<M.length->id ∉ zbx E->M'[id]?=M[id]?)/\∀e∈E,KX M' sz e.x e.len (zar e.len ((mi e.n).map .imm)++e.cells.drop (e.len*sz)):=by
 have hloop:∃e s',den code ext (.loop [1000000,0,2] (zn1 sz f mk)) ⟨M.length,[(0,.optr b 0),(2,zaa 0)],M⟩=some (e,s')/\e≠ .normal/\
   (e=.exit 0/\∃M',s'=⟨M.length,[(0,.optr b 0),(2,zaa E.length),(11,avb false)],M'⟩/\M.length<=M'.length/\(∀id,id<M.length->id ∉ zbx E->M'[id]?=M[id]?)/\∀e∈E,KX M' sz e.x e.len (zar e.len ((mi e.n).map .imm)++e.cells.drop (e.len*sz))):=by
  refine zb1 (fun m s=>∃(i:Nat) (Mi:Mem),i+m=E.length/\s.tidy [1000000,0,2]=⟨M.length,[(1000000,.junk),(0,.optr b 0),(2,zaa (i:Nat))],Mi⟩/\M.length<=Mi.length/\(∀id,id<M.length->id ∉ zbx (E.take i)->Mi[id]?=M[id]?)/\
   ∀e∈E.take i,KX Mi sz e.x e.len (zar e.len ((mi e.n).map .imm)++e.cells.drop (e.len*sz))) _ ?_ E.length _ ⟨0,M,by simp,by simp -implicitDefEqProofs [],xan _,fun _ _ _=>rfl,fun e he=>by simp at he⟩
  rintro m s ⟨i,Mi,hi,hst,hlen,hsame,hdone⟩
  rw[hst]
  have hsub:∀id∈zbx (E.take i),id∈zbx E:=fun id hid=>by
   obtain⟨e,he,hid⟩:=xa8.1 hid
   exact xa8.2 ⟨e,List.mem_of_mem_take he,hid⟩
  have hki:znk Mi b f vx E:=z8s hk (hsame b hbl fun hm=>(hk.own b (hsub b hm)).1 rfl) fun id hid=>hsame id (hvl id hid) fun hm=>(hk.own id (hsub id hm)).2 hid
  obtain⟨B,hB,hBf⟩:=hki.B
  have lb:loadAt Mi none (.optr b f)=some vx:=by simp only[loadAt,hB];exact hBf
  have hlx:=zu9 hki.h
  by_cases hlt:i<E.length
  ·have hlt':(i:Int)<E.length:=by omega
   have e1:IntKind.wrap .i64 ((i:Int)+1)=(i:Int)+1:=zap (by omega) (by omega)
   have hgi:=xab hlt
   have hmke:=fun s=>hmk s _ (hEn _ (xa7 hlt))
   obtain⟨hxi,hle⟩:=hx _ (xa7 hlt)
   have htk:E.take (i+1)=E.take i++[E[i]]:=by rw[xbk,hgi];rfl
   have hcut:=zqa E i _ hgi
   have hnd:∀id∈(E[i]).x.refs,id ∉ zbx (E.take i):=by
    have h1:=hk.nd
    rw[<-List.take_append_drop (i+1) E,htk]at h1
    unfold zbx at h1
    simp only[List.flatMap_append,xcp,List.flatMap_nil,xay,xbj]at h1
    rw[xc1]at h1
    intro id hid hm
    exact h1.2.2 id hm id (xcz _ hid) rfl
   generalize E[i]=e at hmke hxi hle htk hcut hnd
   obtain⟨x,lg,n,len,cells⟩:=e
   dsimp only at hmke
   simp only[KE.c3]at hcut hxi hle hnd
   rcases hki.h with⟨_,_,h0⟩|⟨vid,vo,rfl,hvo,hvr,_,_⟩
   ·omega
   have lv:=zmp hvo hvr hcut
   have hx':KX Mi sz x len cells:=zfh hxi fun id hid=>hsame id (zfg hxi id hid) (hnd id hid)
   have hst3:storeAt (Mi++[.rich [zaf,zaf,zaa 0]]) (.optr Mi.length 0) [x,lg,zaa n]=some (Mi++[.rich [x,lg,zaa n]]):=by
    simp[storeAt,setAll]
   have hh:(Mi++[.rich [x,lg,zaa n]])[Mi.length]?=some (.rich [x,lg,zaa n]):=zfe _ _
   have lx:=zvh hx'
   have lh0:loadAt (Mi++[.rich [x,lg,zaa n]]) none (.optr Mi.length 0)=some x:=by simp only[loadAt,hh];rfl
   have hin:∃M2,den code ext (.loop [1000000,0,2,3,4] (zkj sz f mk)) ⟨M.length,[(0,.optr b 0),(2,zaa (i:Nat)),(3,.optr Mi.length 0),(4,zaa 0)],Mi++[.rich [x,lg,zaa n]]⟩=some (.exit 2,⟨M.length,[(0,.optr b 0),(2,zaa (i:Nat)),(3,.optr Mi.length 0),(4,zaa len),(25,avb false)],M2⟩)/\
     Mi.length<M2.length/\(∀id,id<Mi.length->id ∉ x.refs->M2[id]?=Mi[id]?)/\KX M2 sz x len (zar len ((mi n).map .imm)++cells.drop (len*sz)):=by
    rcases hx' with⟨rid,c,ob,rfl,hro,hrr,hcl,hlc,hc2⟩|⟨rfl,rfl,hx0⟩
    ·have hrl:rid<Mi.length:=(xaa.1 hro).1
     have hfit:len*sz<=cells.length:=by rw[hcl];exact xb8 _ hlc
     have hro':(Mi++[.rich [.osl rid 0 sz len (some c),lg,zaa n]])[rid]?=some ob:=by rw[xac hrl];exact hro
     obtain⟨e,s',h1,_,rfl,ob',hr',rfl⟩:=z7y (K:=M.length) (b:=b) (j:=(i:Int)) (f:=f) hmke (hms n) hh (by omega) hro' hrr hfit hle
      (s:=⟨M.length,[(0,.optr b 0),(2,zaa (i:Nat)),(3,.optr Mi.length 0),(4,zaa 0)],Mi++[.rich [.osl rid 0 sz len (some c),lg,zaa n]]⟩) (by simp -implicitDefEqProofs [])
     refine⟨_,h1,by simp,fun id h3 h4=>?_,.inl ⟨rid,c,ob',rfl,?_,hr',?_,hlc,hc2⟩⟩
     ·rw[xa0 (fun e=>h4 (by simp[AV.refs,e])),xac h3]
     ·exact xbl (by simp;omega)
     ·rw[xao,zlw,xam,hms,List.length_drop]
      omega
    ·refine⟨Mi++[.rich [x,lg,zaa n]],?_,by simp,fun id h3 h4=>xac h3,.inr ⟨rfl,by simp[zar],hx0⟩⟩
     rw[zfc]
     rcases hx0 with rfl|⟨row,off,rfl⟩
     ·simp -implicitDefEqProofs [zkj,lh0,-loadAt]
     ·simp -implicitDefEqProofs [zkj,lh0,-loadAt]
   obtain⟨M2,h1,h2,h3,h4⟩:=hin
   refine⟨.normal,⟨M.length,[(0,.optr b 0),(2,zaa ((i:Int)+1))],M2⟩,?_,.inl ⟨rfl,m-1,by omega,i+1,M2,by omega,by simp -implicitDefEqProofs [],by omega,fun id q1 q2=>?_,fun e he=>?_⟩⟩
   ·simp -implicitDefEqProofs [zn1,lb,-loadAt,hlt',lv,hst3,-storeAt,h1,e1]
   ·rw[htk,z2a,xak,not_or]at q2
    rw[h3 id (by omega) q2.2]
    exact hsame id q1 q2.1
   ·rw[htk]at he
    rcases xak.1 he with he|he
    ·have hne:∀id∈e.x.refs,id ∉ x.refs:=fun id hid hm=>hnd id hm (xa8.2 ⟨e,he,hid⟩)
     exact zfh (hdone e he) fun id hid=>h3 id (zfg (hdone e he) id hid) (hne id hid)
    ·simp at he
     subst he
     exact h4
  ·have:i=E.length:=by omega
   subst this
   rw[xb0]at hsame hdone
   refine⟨.exit 0,⟨M.length,[(0,.optr b 0),(2,zaa E.length),(11,avb false)],Mi⟩,?_,.inr ⟨by simp,rfl,Mi,rfl,hlen,hsame,hdone⟩⟩
   simp -implicitDefEqProofs [zn1,lb,-loadAt,hlx]
 obtain⟨e,s',h1,_,rfl,M',rfl,h2,h3,h4⟩:=hloop
 refine⟨M',?_,h2,h3,h4⟩
 rw[zad code ext hg]
 simp -implicitDefEqProofs [zcw,h1]
end
section
variable {sz by_:Nat} {M:Mem} {ms:List IV}
theorem zmj(hms:ms.length=sz):elems (M++[.flat ms false]) sz (.osl M.length 0 sz 1 (some 1))=some (1,ms):=by
 simp only[elems,zfe]
 rw[zda _ (by omega)];rfl
theorem zvw(hms:ms.length=sz):zbq (M++[.flat ms false]) sz (.osl M.length 0 sz 1 (some 1))=some (1,ms.map .imm):=by
 simp only[zbq,zfe]
 rw[zda _ (by omega)];rfl
theorem z5k(hms:ms.length=sz){rid l c:Nat}{ob:AObj}{cells:List AV}(ho:M[rid]?=some ob)(hr:za3 cells ob)(hl:l<c)(hc:(l+1)*sz<=cells.length):
  ∃o',za3 (setAll cells (l*sz) (ms.map .imm)) o'/\∀(K:Nat) (e:Env),zdk ⟨K,e,M++[.flat ms false]⟩ sz by_ (.osl rid 0 sz l (some c)) (.osl M.length 0 sz 1 (some 1))=some (.osl rid 0 sz (l+1) (some c),⟨K,e,M.set rid o'++[.flat ms false]⟩):=by
 have hrl:rid<M.length:=(xaa.1 ho).1
 have hg:(M++[.flat ms false])[rid]?=some ob:=by rw[xac hrl];exact ho
 have hs:∀o,(M++[AObj.flat ms false]).set rid o=M.set rid o++[.flat ms false]:=fun o=>xc0 _ _ hrl
 have h1:l+1<=c:=hl
 rcases hr with rfl|⟨cs,rfl,rfl⟩
 ·refine⟨.rich (setAll cells (l*sz) (ms.map .imm)),.inl rfl,fun K e=>?_⟩
  simp only[zdk,AV.isOpen,xar,if_false,za0,za1,zmj hms,hg,if_true,zb4,zvw hms,zh0]
  simp[h1,hc,hs]
 ·rw[xam]at hc
  refine⟨.flat (setAll cs (l*sz) ms) false,.inr ⟨_,rfl,zrf ms cs _⟩,fun K e=>?_⟩
  simp only[zdk,AV.isOpen,xar,if_false,za0,za1,zmj hms,hg,if_true]
  simp[h1,hc,hs]
theorem zxx(hms:ms.length=sz){rid c:Nat}{ob:AObj}{cells:List AV}(ho:M[rid]?=some ob)(hr:za3 cells ob)(hc:cells.length=c*sz)(hb:(c+1)*by_<=140737488355328):
  ∃o',za3 (cells++ms.map .imm) o'/\∀(K:Nat) (e:Env),zdk ⟨K,e,M++[.flat ms false]⟩ sz by_ (.osl rid 0 sz c (some c)) (.osl M.length 0 sz 1 (some 1))=some (.osl (M.length+1) 0 sz (c+1) none,⟨K,e,M++[.flat ms false,o']⟩):=by
 have hrl:rid<M.length:=(xaa.1 ho).1
 have hg:(M++[.flat ms false])[rid]?=some ob:=by rw[xac hrl];exact ho
 have h1:¬c+1<=c:=by omega
 rcases hr with rfl|⟨cs,rfl,rfl⟩
 ·refine⟨.rich (cells++ms.map .imm),.inl rfl,fun K e=>?_⟩
  have h2:zbq (M++[.flat ms false]) sz (.osl rid 0 sz c (some c))=some (c,cells):=by
   simp only[zbq,hg]
   rw[zda _ hc];rfl
  simp only[zdk,AV.isOpen,xar,if_false,za0,za1,zmj hms,hg,if_true,zb4,zvw hms,h2]
  simp[h1,hb]
 ·rw[xam]at hc
  refine⟨.flat (cs++ms) false,.inr ⟨_,rfl,by simp⟩,fun K e=>?_⟩
  have h2:cut cs 0 (c*sz)=some cs:=zda _ hc
  simp only[zdk,AV.isOpen,xar,if_false,za0,za1,zmj hms,hg,if_true,h2]
  simp[h1,hb]
theorem z5l(hms:ms.length=sz){x:AV}(hx:x=zaf\/∃row off,x=.imm (.slice row off 0 (some 0)))(hb:by_<=140737488355328)(K:Nat)(e:Env):
  zdk ⟨K,e,M++[.flat ms false]⟩ sz by_ x (.osl M.length 0 sz 1 (some 1))=some (.osl (M.length+1) 0 sz 1 none,⟨K,e,M++[.flat ms false,.flat ms false]⟩):=by
 rcases hx with rfl|⟨row,off,rfl⟩
 ·simp only[zdk,AV.isOpen,xar,if_false,za0,za1,zmj hms]
  simp[hb]
 ·have h2:cut row off 0=some []:=by simp[cut]
  simp only[zdk,AV.isOpen,xar,if_false,za0,za1,zmj hms,Nat.zero_mul,h2]
  simp[hb]
theorem z5m(hms:ms.length=sz){nid l:Nat}{ob:AObj}{cells:List AV}(ho:M[nid]?=some ob)(hr:za3 cells ob)(hc:cells.length=l*sz)(hb:(l+1)*by_<=140737488355328)(K:Nat)(e:Env):
  zdk ⟨K,e,M++[.flat ms false]⟩ sz by_ (.osl nid 0 sz l none) (.osl M.length 0 sz 1 (some 1))=some (.osl (M.length+1) 0 sz (l+1) none,⟨K,e,M.set nid .dead++[.flat ms false,.rich (cells++ms.map .imm)]⟩):=by
 have hrl:nid<M.length:=(xaa.1 ho).1
 have hg:(M++[.flat ms false])[nid]?=some ob:=by rw[xac hrl];exact ho
 have hs:∀o,(M++[AObj.flat ms false]).set nid o=M.set nid o++[.flat ms false]:=fun o=>xc0 _ _ hrl
 have h2:zbq (M++[.flat ms false]) sz (.osl nid 0 sz l none)=some (l,cells):=zwf hg hr hc
 simp only[zdk,AV.isOpen,if_true,zb4,zvw hms,h2]
 simp[hb,hs]
def GL(B:Nat)(M:Mem)(sz:Nat)(mi:List AV)(x:AV)(len:Nat)(lg:AV)(j:Nat):Prop:=
 (j=0/\lg=x)\/(j=1/\∃rid ob,x=.osl rid 0 sz len (some (len+1))/\lg=.osl rid 0 sz (len+1) (some (len+1))/\M[rid]?=some ob/\za3 (zar (len+1) mi) ob)\/
 (0<j/\∃nid ob,lg=.osl nid 0 sz (len+j) none/\B<=nid/\M[nid]?=some ob/\za3 (zar (len+j) mi) ob)
theorem z8m(hms:ms.length=sz)(hb0:by_<=1000){B len j:Nat}{x lg:AV}{rest:List AV}(hB:B<=M.length)(hlen:len<=1000000000)(hj:j<=100)(hk:KX M sz x len (zar len (ms.map .imm)++rest))(hx:∀id∈x.refs,id<B)(hg:GL B M sz (ms.map .imm) x len lg j):
  ∃lg' M' rest',(∀(K:Nat) (e:Env),zdk ⟨K,e,M++[.flat ms false]⟩ sz by_ lg (.osl M.length 0 sz 1 (some 1))=some (lg',⟨K,e,M'⟩))/\M.length<M'.length/\(∀id,id<B->id ∉ x.refs->M'[id]?=M[id]?)/\KX M' sz x len (zar len (ms.map .imm)++rest')/\GL B M' sz (ms.map .imm) x len lg' (j+1):=by
 have hmi:(ms.map AV.imm).length=sz:=by rw[xam,hms]
 have hcl:∀n,(zar n (ms.map AV.imm)).length=n*sz:=fun n=>by rw[zlw,hmi]
 have hbb:∀n,n<=1000000200->(n+1)*by_<=140737488355328:=fun n hn=>by
  have:(n+1)*by_<=(n+1)*1000:=Nat.mul_le_mul_left _ hb0
  omega
 have hfresh:∀(A o':AObj) (id:Nat),id<M.length->(M++[A,o'])[id]?=M[id]?:=fun A o' id h=>xac h
 have hnew:∀(N:Mem) (A o':AObj),N.length=M.length->(N++[A,o'])[M.length+1]?=some o':=fun N A o' h=>by
  rw[xah (by omega),h];simp
 rcases hg with⟨rfl,rfl⟩|⟨rfl,rid,ob,rfl,rfl,ho,hr⟩|⟨hj0,nid,ob,rfl,hnB,ho,hr⟩
 ·rcases hk with⟨rid,c,ob,rfl,ho,hr,hc,hlc,hc2⟩|⟨rfl,hcells,hx0⟩
  ·have hrB:=hx rid (by simp[AV.refs])
   have hrl:rid<M.length:=(xaa.1 ho).1
   rcases xaz len c with hlt|hge
   ·have:c=len+1:=by omega
    subst this
    have hrs:rest.length=sz:=by
     rw[xao,hcl]at hc
     have:(len+1)*sz=len*sz+sz:=by rw[Nat.add_mul,xc4]
     omega
    obtain⟨o',hr',hap⟩:=z5k (by_:=by_) hms ho hr hlt (by rw[hc];exact xan _)
    have hset:setAll (zar len (ms.map AV.imm)++rest) (len*sz) (ms.map .imm)=zar (len+1) (ms.map .imm):=by
     have:=zrh (zar len (ms.map AV.imm)) rest [] (ms.map .imm) (by rw[hrs,hmi]) (hcl len)
     rw[xay,xay]at this
     rw[this,zjb]
    rw[hset]at hr'
    have hg':(M.set rid o'++[AObj.flat ms false])[rid]?=some o':=by
     rw[xac (by rw[xaw];omega)]
     exact xbl (by omega)
    refine⟨_,_,ms.map .imm,hap,by simp,fun id h1 h2=>?_,.inl ⟨rid,len+1,o',rfl,hg',by rw[zjb];exact hr',by rw[zjb,hcl],by omega,by omega⟩,.inr (.inl ⟨rfl,rid,o',rfl,rfl,hg',hr'⟩)⟩
    rw[xac (by rw[xaw];omega),xa0 (fun e=>h2 (by simp[AV.refs,e]))]
   ·have:c=len:=by omega
    subst this
    have hrest:rest=[]:=by
     rw[xao,hcl]at hc
     exact xav (by omega)
    subst hrest
    rw[xay]at hr hc
    obtain⟨o',hr',hap⟩:=zxx (by_:=by_) hms ho hr hc (hbb _ (by omega))
    rw[zjb]at hr'
    refine⟨_,_,[],hap,by simp,fun id h1 h2=>hfresh _ _ id (by omega),.inl ⟨rid,c,ob,rfl,by rw[hfresh _ _ rid hrl];exact ho,by rw[xay];exact hr,by rw[xay,hcl],by omega,by omega⟩,.inr (.inr ⟨by omega,M.length+1,o',rfl,by omega,hnew M _ _ rfl,hr'⟩)⟩
  ·have hap:=z5l (by_:=by_) (M:=M) hms hx0 (by omega)
   refine⟨_,_,rest,hap,by simp,fun id h1 h2=>hfresh _ _ id (by omega),.inr ⟨rfl,hcells,hx0⟩,.inr (.inr ⟨by omega,M.length+1,.flat ms false,rfl,by omega,hnew M _ _ rfl,.inr ⟨ms,rfl,by simp[zar]⟩⟩)⟩
 ·have hrl:rid<M.length:=(xaa.1 ho).1
  obtain⟨o',hr',hap⟩:=zxx (by_:=by_) hms ho hr (hcl _) (hbb _ (by omega))
  rw[zjb]at hr'
  refine⟨_,_,rest,hap,by simp,fun id h1 h2=>hfresh _ _ id (by omega),zfh hk fun id hid=>hfresh _ _ id (zfg hk id hid),.inr (.inr ⟨by omega,M.length+1,o',rfl,by omega,hnew M _ _ rfl,hr'⟩)⟩
 ·have hnl:nid<M.length:=(xaa.1 ho).1
  have hap:=z5m (by_:=by_) hms ho hr (hcl _) (hbb _ (by omega))
  have hsame:∀id,id<B->(M.set nid .dead++[.flat ms false,.rich (zar (len+j) (ms.map AV.imm)++ms.map .imm)])[id]?=M[id]?:=fun id h1=>by
   rw[xac (by simp;omega),xa0 (by omega)]
  refine⟨_,_,rest,hap,by simp,fun id h1 h2=>hsame id h1,zfh hk fun id hid=>hsame id (hx id hid),.inr (.inr ⟨by omega,M.length+1,_,rfl,by omega,hnew _ _ _ (by simp),?_⟩)⟩
  rw[zjb]
  exact .inl rfl
end
theorem zov{M:Mem}{id off:Nat}{o:AObj}{cells vs:List AV}(hM:M[id]?=some o)(h:za3 cells o)(hl:off+vs.length<=cells.length):
  ∃o',za3 (setAll cells off vs) o'/\storeAt M (.optr id off) vs=some (M.set id o'):=by
 cases him:zdu vs with
 |some xs=>
  have:=zio _ _ him
  subst this
  rw[xam]at hl
  exact z2i hM h hl
 |none=>
  rcases h with rfl|⟨cs,rfl,rfl⟩
  ·exact⟨_,.inl rfl,by simp only[storeAt,hM];rw[if_pos hl]⟩
  ·rw[xam]at hl
   exact⟨_,.inl rfl,by simp[storeAt,hM,him,hl]⟩
theorem zzh:∀(E:List KE) (i:Nat) (e:KE) (lg:AV),E[i]?=some e->(zci E).set (i*3+1) lg=zci (E.set i { e with lg:=lg })
 |[],i,e,lg,h=>by simp at h
 |p::r,0,e,lg,h=>by
  simp at h;subst h
  rfl
 |p::r,i+1,e,lg,h=>by
  have h1:=zzh r i e lg (by simpa using h)
  have hr:∀(p:KE) r,zci (p::r)=p.c3++zci r:=fun _ _=>rfl
  rw[hr,xbs _ _ (by simp[KE.c3];omega),xce,hr,<-h1]
  congr 2
  simp[KE.c3];omega
def zt5(B:Nat)(M:Mem)(sz:Nat)(mi:Int->List IV)(e e':KE):Prop:=
 e'.x=e.x/\e'.n=e.n/\e'.len=e.len/\(∃rest,KX M sz e.x e.len (zar e.len ((mi e.n).map .imm)++rest))/\∃nid ob,e'.lg=.osl nid 0 sz (e.len+40) none/\B<=nid/\M[nid]?=some ob/\za3 (zar (e.len+40) ((mi e.n).map .imm)) ob
section
variable {code:Nat->Option zab} {ext:zac}
theorem z8l{sz by_ f mk:Nat}{zs:List Value}{n:Int}{ms:List IV}(hb0:by_<=1000)(hz:zs.length=sz)(hmk:∀s,zb0 (callW code ext) s mk [zaa n]=some (.agg (ms.map .imm),s))(hms:ms.length=sz){K b h len:Nat}{i:Int}{M:Mem}{x lg:AV}{rest:List AV}
  (hh:M[h]?=some (.rich [x,lg,zaa n])) (hhx:h ∉ x.refs) (hk:KX M sz x len (zar len (ms.map .imm)++rest)) (hlen:len<=1000000000) {s:St}
  (hst:s.tidy [1000000,0,2,3,4,5]=⟨K,[(1000000,.junk),(0,.optr b 0),(2,zaa i),(3,.optr h 0),(4,x),(5,zaa 0)],M⟩):
  ∃e s',den code ext (.loop [1000000,0,2,3,4,5] (zqj sz by_ zs f mk)) s=some (e,s')/\e≠ .normal/\
   (e=.exit 2/\∃M' lg' rest',s'=⟨K,[(0,.optr b 0),(2,zaa i),(3,.optr h 0),(4,lg'),(5,zaa 40),(25,avb false)],M'⟩/\M.length<=M'.length/\(∀id,id<M.length->id ∉ x.refs->M'[id]?=M[id]?)/\KX M' sz x len (zar len (ms.map .imm)++rest')/\GL M.length M' sz (ms.map .imm) x len lg' 40):=by
 refine zb1 (fun m s=>∃(j:Nat) (Mj:Mem) (lgj:AV) (restj:List AV),j+m=40/\s.tidy [1000000,0,2,3,4,5]=⟨K,[(1000000,.junk),(0,.optr b 0),(2,zaa i),(3,.optr h 0),(4,lgj),(5,zaa (j:Nat))],Mj⟩/\M.length<=Mj.length/\(∀id,id<M.length->id ∉ x.refs->Mj[id]?=M[id]?)/\
  KX Mj sz x len (zar len (ms.map .imm)++restj)/\GL M.length Mj sz (ms.map .imm) x len lgj j) _ ?_ 40 _ ⟨0,M,x,rest,by simp,by simpa using hst,xan _,fun _ _ _=>rfl,hk,.inl ⟨rfl,rfl⟩⟩
 clear hst
 rintro m s ⟨j,Mj,lgj,restj,hj,hst,hl,hsame,hkj,hgj⟩
 rw[hst]
 have hhl:h<M.length:=(xaa.1 hh).1
 have hMh:Mj[h]?=some (.rich [x,lg,zaa n]):=by rw[hsame h hhl hhx];exact hh
 have l2:loadAt Mj none (.optr h 2)=some (zaa n):=by simp only[loadAt,hMh];rfl
 by_cases hlt:j<40
 ·have e1:IntKind.wrap .i64 ((j:Int)+1)=(j:Int)+1:=zap (by omega) (by omega)
  have hlt':(j:Int)<40:=by omega
  obtain⟨lg',M',rest',hap,q1,q2,q3,q4⟩:=z8m hms hb0 hl hlen (by omega) hkj (fun id hid=>zfg hk id hid) hgj
  have hc1:zar 1 zs=zs:=by simp[zar]
  have hfa:zcm (imZ zs) [(0,sz,.agg (ms.map .imm))]=some (ms.map .imm):=by
   simp only[zcm,AV.cells,xam,hms,imZ,hz,xau,xan,and_self,if_true]
   rw[z26 _ _ (by simp[hz,hms])]
  refine⟨.normal,⟨K,[(0,.optr b 0),(2,zaa i),(3,.optr h 0),(4,lg'),(5,zaa ((j:Int)+1))],M'⟩,?_,.inl ⟨rfl,m-1,by omega,j+1,M',lg',rest',by omega,by simp -implicitDefEqProofs [],by omega,fun id h1 h2=>?_,q3,q4⟩⟩
  ·simp -implicitDefEqProofs [zqj,l2,-loadAt,hlt',hmk,-zb0,hc1,hfa,-zcm,-imZ,hap,e1]
  ·rw[q2 id h1 h2];exact hsame id h1 h2
 ·have:j=40:=by omega
  subst this
  refine⟨.exit 2,⟨K,[(0,.optr b 0),(2,zaa i),(3,.optr h 0),(4,lgj),(5,zaa 40),(25,avb false)],Mj⟩,?_,.inr ⟨by simp,rfl,Mj,lgj,restj,rfl,hl,hsame,hkj,hgj⟩⟩
  simp -implicitDefEqProofs [zqj]
theorem z0d{g sz by_ f mk:Nat}{zs:List Value}(hg:code g=some (zcx sz by_ zs f mk))(hb0:by_<=1000)(hz:zs.length=sz){mi:Int->List IV}{R:Int->Prop}(hmk:∀s n,R n->zb0 (callW code ext) s mk [zaa n]=some (.agg ((mi n).map .imm),s))(hms:∀n,(mi n).length=sz)
  {M:Mem} {b:Nat} {vx:AV} {E:List KE} (hk:znk M b f vx E) (hbl:b<M.length) (hE:E.length<=1000000000) (hEn:∀e∈E,R e.n) (hx:∀e∈E,(∃rest,KX M sz e.x e.len (zar e.len ((mi e.n).map .imm)++rest))/\e.len<=1000000000) (hvl:∀id∈vx.refs,id<M.length/\id≠b):
  ∃M' E',callW code ext g [.optr b 0] M=some (.tup [],M')/\M.length<=M'.length/\(∀id,id<M.length->id ∉ zbx E->id ∉ vx.refs->M'[id]?=M[id]?)/\ze7 M' vx (zci E') E.length/\E'.length=E.length/\∀(j:Nat) e,E[j]?=some e->∃e',E'[j]?=some e'/\zt5 M.length M' sz mi e e':=by
 have hloop:∃e s',den code ext (.loop [1000000,0,2] (zn4 sz by_ zs f mk)) ⟨M.length,[(0,.optr b 0),(2,zaa 0)],M⟩=some (e,s')/\e≠ .normal/\
   (e=.exit 0/\∃M' E',s'=⟨M.length,[(0,.optr b 0),(2,zaa E.length),(12,avb false)],M'⟩/\M.length<=M'.length/\(∀id,id<M.length->id ∉ zbx E->id ∉ vx.refs->M'[id]?=M[id]?)/\ze7 M' vx (zci E') E.length/\E'.length=E.length/\∀(j:Nat) e,E[j]?=some e->∃e',E'[j]?=some e'/\zt5 M.length M' sz mi e e'):=by
  refine zb1 (fun m s=>∃(i:Nat) (Mi:Mem) (Ei:List KE),i+m=E.length/\s.tidy [1000000,0,2]=⟨M.length,[(1000000,.junk),(0,.optr b 0),(2,zaa (i:Nat))],Mi⟩/\M.length<=Mi.length/\(∀id,id<M.length->id ∉ zbx (E.take i)->id ∉ vx.refs->Mi[id]?=M[id]?)/\
   ze7 Mi vx (zci Ei) E.length/\Ei.length=E.length/\(∀(j:Nat) e,j<i->E[j]?=some e->∃e',Ei[j]?=some e'/\zt5 M.length Mi sz mi e e')/\∀j,i<=j->Ei[j]?=E[j]?) _ ?_ E.length _ ⟨0,M,E,by simp,by simp -implicitDefEqProofs [],xan _,fun _ _ _ _=>rfl,hk.h,rfl,fun j e h=>by omega,fun _ _=>rfl⟩
  rintro m s ⟨i,Mi,Ei,hi,hst,hlen,hsame,hheld,hEl,hdone,hrest⟩
  rw[hst]
  have hsub:∀id∈zbx (E.take i),id∈zbx E:=fun id hid=>by
   obtain⟨e,he,hid⟩:=xa8.1 hid
   exact xa8.2 ⟨e,List.mem_of_mem_take he,hid⟩
  obtain⟨B,hB0,hBf⟩:=hk.B
  have hB:Mi[b]?=some (.rich B):=by rw[hsame b hbl (fun hm=>(hk.own b (hsub b hm)).1 rfl) fun hm=>(hvl b hm).2 rfl];exact hB0
  have lb:loadAt Mi none (.optr b f)=some vx:=by simp only[loadAt,hB];exact hBf
  have hlx:=zu9 hheld
  by_cases hlt:i<E.length
  ·have hlt':(i:Int)<E.length:=by omega
   have e1:IntKind.wrap .i64 ((i:Int)+1)=(i:Int)+1:=zap (by omega) (by omega)
   have hgi:=xab hlt
   have hmke:=fun s=>hmk s _ (hEn _ (xa7 hlt))
   have hgE:Ei[i]?=some E[i]:=by rw[hrest i (xan _)];exact hgi
   obtain⟨⟨rest,hxi⟩,hle⟩:=hx _ (xa7 hlt)
   have htk:E.take (i+1)=E.take i++[E[i]]:=by rw[xbk,hgi];rfl
   have hcut:=zqa Ei i _ hgE
   have hset:=fun lg=>zzh Ei i _ lg hgE
   have hnd:∀id∈(E[i]).x.refs,id ∉ zbx (E.take i):=by
    have h1:=hk.nd
    rw[<-List.take_append_drop (i+1) E,htk]at h1
    unfold zbx at h1
    simp only[List.flatMap_append,xcp,List.flatMap_nil,xay,xbj]at h1
    rw[xc1]at h1
    intro id hid hm
    exact h1.2.2 id hm id (xcz _ hid) rfl
   have hown:∀id∈(E[i]).x.refs,id≠b/\id ∉ vx.refs:=fun id hid=>hk.own id (xa8.2 ⟨E[i],xa7 hlt,hid⟩)
   generalize E[i]=e at hmke hxi hle htk hcut hnd hown hset hgE hgi
   obtain⟨x,lg,n,len,cells⟩:=e
   dsimp only at hmke
   simp only[KE.c3]at hcut hxi hle hnd hown hset
   rcases hheld with⟨_,_,h0⟩|⟨vid,vo,rfl,hvo,hvr,hvc,_⟩
   ·omega
   obtain⟨hvidl,hvidb⟩:=hvl vid (by simp[AV.refs])
   have lv:=zmp hvo hvr hcut
   have hxlt:∀id∈x.refs,id<M.length:=zfg hxi
   have hx':KX Mi sz x len (zar len ((mi n).map .imm)++rest):=zfh hxi fun id hid=>hsame id (hxlt id hid) (hnd id hid) (hown id hid).2
   have hst3:storeAt (Mi++[.rich [zaf,zaf,zaa 0]]) (.optr Mi.length 0) [x,lg,zaa n]=some (Mi++[.rich [x,lg,zaa n]]):=by
    simp[storeAt,setAll]
   have hh:(Mi++[.rich [x,lg,zaa n]])[Mi.length]?=some (.rich [x,lg,zaa n]):=zfe _ _
   have lh0:loadAt (Mi++[.rich [x,lg,zaa n]]) none (.optr Mi.length 0)=some x:=by simp only[loadAt,hh];rfl
   have hold:∀id,id<Mi.length->(Mi++[.rich [x,lg,zaa n]])[id]?=Mi[id]?:=fun id h=>xac h
   obtain⟨e,s',h1,_,rfl,M2,lg',rest',rfl,q1,q2,q3,q4⟩:=z8l (K:=M.length) (b:=b) (i:=(i:Int)) (zs:=zs) (f:=f) hb0 hz hmke (hms n) hh (fun hm=>by have:=hxlt _ hm;omega) (zfh hx' fun id hid=>hold id (zfg hx' id hid)) hle
    (s:=⟨M.length,[(0,.optr b 0),(2,zaa (i:Nat)),(3,.optr Mi.length 0),(4,x),(5,zaa 0)],Mi++[.rich [x,lg,zaa n]]⟩) (by simp -implicitDefEqProofs [])
   simp only[xao,xat,xa4,xau]at q1 q2 q4
   rcases q4 with⟨h0,_⟩|⟨h0,_⟩|⟨_,nid,nob,rfl,hnB,hno,hnr⟩
   ·omega
   ·omega
   have h2same:∀id,id<Mi.length->id ∉ x.refs->M2[id]?=Mi[id]?:=fun id h3 h4=>by rw[q2 id (by omega) h4];exact hold id h3
   have hvx:vid ∉ x.refs:=fun hm=>(hown vid hm).2 (by simp[AV.refs])
   have hbx:b ∉ x.refs:=fun hm=>(hown b hm).1 rfl
   have hB2:M2[b]?=some (.rich B):=by rw[h2same b (by omega) hbx];exact hB
   have lb2:loadAt M2 none (.optr b f)=some (.osl vid 0 3 E.length none):=by simp only[loadAt,hB2];exact hBf
   have hvo2:M2[vid]?=some vo:=by rw[h2same vid (by omega) hvx];exact hvo
   obtain⟨o',hr',hs'⟩:=zov (vs:=[.osl nid 0 sz (len+40) none]) (off:=i*3+1) hvo2 hvr (by simp only[xat,xa4];omega)
   have hset':setAll (zci Ei) (i*3+1) [.osl nid 0 sz (len+40) none]=zci (Ei.set i ⟨x,.osl nid 0 sz (len+40) none,n,len,cells⟩):=hset _
   rw[hset']at hr'
   have h3same:∀id,id<Mi.length->id ∉ x.refs->id≠vid->(M2.set vid o')[id]?=Mi[id]?:=fun id h3 h4 h5=>by rw[xa0 (fun e=>h5 e.symm)];exact h2same id h3 h4
   refine⟨.normal,⟨M.length,[(0,.optr b 0),(2,zaa ((i:Int)+1))],M2.set vid o'⟩,?_,.inl ⟨rfl,m-1,by omega,i+1,M2.set vid o',Ei.set i ⟨x,.osl nid 0 sz (len+40) none,n,len,cells⟩,by omega,by simp -implicitDefEqProofs [],by simp;omega,fun id q1 q2 q3=>?_,
    .inr ⟨vid,o',rfl,by rw[xbl (by omega)],hr',by rw[zzg];simp[hEl],by omega⟩,by simp[hEl],fun j e hj he=>?_,fun j hj=>?_⟩⟩
   ·simp -implicitDefEqProofs [zn4,lb,-loadAt,hlt',lv,hst3,-storeAt,lh0,h1,lb2,hs',e1]
   ·rw[htk,z2a,xak,not_or]at q2
    rw[h3same id (by omega) q2.2 fun e=>q3 (by simp[AV.refs,e])]
    exact hsame id q1 q2.1 q3
   ·rcases xaz j i with hji|hji
    ·obtain⟨e',he',g1,g2,g3,⟨rst,g4⟩,nid2,ob2,g5,g6,g7,g8⟩:=hdone j e hji he
     have hej:e∈E.take i:=xag (i:=j) (by rw[xcd,if_pos hji];exact he)
     refine⟨e',by rw[xa0 (by omega)];exact he',g1,g2,g3,⟨rst,zfh g4 fun id hid=>?_⟩,nid2,ob2,g5,g6,?_,g8⟩
     ·have hid2:id∈zbx (E.take i):=xa8.2 ⟨e,hej,hid⟩
      exact h3same id (zfg g4 id hid) (fun hm=>hnd id hm hid2) fun e=>(hk.own id (hsub id hid2)).2 (by simp[AV.refs,e])
     ·have hl2:nid2<Mi.length:=(xaa.1 g7).1
      rw[h3same nid2 hl2 (fun hm=>by have:=hxlt _ hm;omega) (by omega)]
      exact g7
    ·have:j=i:=by omega
     subst this
     rw[hgi]at he
     cases he
     refine⟨⟨x,.osl nid 0 sz (len+40) none,n,len,cells⟩,by rw[xbl (by omega)],rfl,rfl,rfl,⟨rest',zfh q3 fun id hid=>?_⟩,nid,nob,rfl,by omega,?_,hnr⟩
     ·rw[xa0]
      intro e
      exact hvx (by rw[e];exact hid)
     ·rw[xa0 (by omega)];exact hno
   ·rw[xa0 (by omega)];exact hrest j (by omega)
  ·have:i=E.length:=by omega
   subst this
   rw[xb0]at hsame
   refine⟨.exit 0,⟨M.length,[(0,.optr b 0),(2,zaa E.length),(12,avb false)],Mi⟩,?_,.inr ⟨by simp,rfl,Mi,Ei,rfl,hlen,hsame,hheld,hEl,fun j e he=>hdone j e ((xaa.1 he).1) he⟩⟩
   simp -implicitDefEqProofs [zn4,lb,-loadAt,hlx]
 obtain⟨e,s',h1,_,rfl,M',E',rfl,h2,h3,h4,h5,h6⟩:=hloop
 refine⟨M',E',?_,h2,h3,h4,h5,h6⟩
 rw[zad code ext hg]
 simp -implicitDefEqProofs [zcx,h1]
end
def zf4(c:Nat):XCode:=
  (.seq (.region [3,8,9,10] [⟨(some 10),.bin .lss (.t 9) (.t 8),none⟩])
  (.seq (.cond (.t 10)
    .skip
    (.exit 0))
  (.seq (.block 1 (.seq (.region [3,4,8,9] [⟨(some 11),.mv (.t 9),none⟩,
    ⟨(some 4),.mv (.t 11),none⟩])
  (.region [3,8,9] [⟨(some 12),.mv (.t 3),none⟩,
    ⟨(some 13),.mv (.t 4),none⟩,
    ⟨(some 14),.mv (.t 3),none⟩,
    ⟨(some 15),.mv (.t 4),none⟩,
    ⟨(some 16),.idxA 5 (.t 14) (.t 15),none⟩,
    ⟨(some 17),.fieldA 2 (.t 16),none⟩,
    ⟨(some 18),.load none (.t 17),none⟩,
    ⟨(some 19),.call .look 742 [(.t 18)],none⟩,
    ⟨(some 20),.call .share 740 [(.t 19)],none⟩,
    ⟨(some 21),.idxA 5 (.t 12) (.t 13),none⟩,
    ⟨(some 22),.fieldA 2 (.t 21),none⟩,
    ⟨none,.storeF c 1 (.t 22) (.t 20),none⟩])))
  (.region [3,8,9] [⟨(some 23),.bin .add (.t 9) (.c (.int .i64 1)),none⟩,
    ⟨(some 9),.mv (.t 23),none⟩]))))
def ztf(c:Nat):zab:=⟨[.tmp 2],
  (.seq (.region [0] [⟨(some 2),.mv (.c (.slice none 0 0)),none⟩])
  (.seq (.region [3] [⟨(some 5),.mv (.t 0),none⟩,
    ⟨(some 6),.call .share 743 [(.t 5)],none⟩,
    ⟨(some 3),.mv (.t 6),none⟩])
  (.seq (.seq (.region [3,8,9] [⟨(some 7),.mv (.t 3),none⟩,
    ⟨(some 8),.len (.t 7),none⟩,
    ⟨(some 9),.mv (.c (.int .i64 0)),none⟩])
  (.block 0 (.loop [3,8,9] (zf4 c))))
  (.seq (.region [2] [⟨(some 24),.mv (.t 3),none⟩,
    ⟨(some 25),.call .share 741 [(.t 24)],none⟩,
    ⟨(some 2),.mv (.t 25),none⟩])
  .ret))))⟩
def z4h:zab:=
 ⟨[.cell 8 (some 5)],(.seq (.region [1,2,3,4,8] [o0 4 (.box 1 (.t 0)),
 o0 8 (.alloc [(.slice none 0 0),(.int .u8 0),(.int .i64 0),(.string .empty),(.int .i64 0)])]) (.seq (.region [1,2,3,4,8,9] [o4 13 4,
 o0 14 (.call .own 643 [.t 13]),o3 9 14]) (.seq (.seq (.region [1,2,3,8,9,17] [o3 15 3,
 o0 16 (.mkClo 641 [.t 4]),
 o0 17 (.call .share 749 [(.t 15),(.t 16)])]) (.cond (.t 17) (.seq (.region [8] [o3 18 9,
 o0 19 (.build [(.slice none 0 0),(.int .u8 0),(.int .i64 0),(.string .empty),(.int .i64 0)] [(0,1,(.t 18)),(3,1,(.c (.string ⟨#[107,105,110,100]⟩)))]),
 o2 (.store 5 (.t 8) (.t 19))]) .ret) .skip)) (.seq (.region [1,2,3,8,9,10] [o3 20 9,
 o0 21 (.build [(.slice none 0 0),(.int .i64 0),(.int .i64 0)] [(0,1,(.t 20)),(1,1,(.c (.int .i64 1152921504606846976)))]),
 o0 22 (.box 3 (.t 21)),o3 10 22]) (.seq (.region [1,2,3,8,10,11] [o3 23 9,
 o0 24 (.call .own 642 [.t 23]),o3 11 24]) (.seq (.region [8,10,11,12] [o3 25 10,o3 26 1,o3 27 2,o3 28 3,
 o0 29 (.build [(.int .u8 0),(.int .i64 0),(.slice none 0 0),(.slice none 0 0)] [(0,1,(.t 26)),(1,1,(.t 27)),(2,1,(.t 28))]),
 o0 30 (.call .share 206 [(.t 25),(.t 29)]),
 o0 12 (.alloc [(.int .u8 0),(.int .i64 0),(.string .empty),(.bool false)]),
 o2 (.store 4 (.t 12) (.t 30))]) (.seq (.region [8] [o3 31 10,o7 32 31,o5 33 0 32,o4 34 33,
 o0 35 (.call .look 643 [.t 34]),o5 36 0 12,o6 37 2 36,o5 38 2 12,o4 39 38,o3 40 10,o7 41 40,o5 42 0 41,o4 43 42,o3 44 11,
 o0 45 (.call .view 639 [(.t 43),(.t 44)]),
 o0 46 (.build [(.slice none 0 0),(.int .u8 0),(.int .i64 0),(.string .empty),(.int .i64 0)] [(0,1,(.t 35)),(1,2,(.t 37)),(3,1,(.t 39)),(4,1,(.t 45))]),
 o2 (.store 5 (.t 8) (.t 46))]) .ret)))))))⟩
def znc:zab:=
 ⟨[.tmp 3],(.seq (.region [1,2] [o0 2 (.box 2 (.t 0)),
 o0 3 (.mv (.c (.bool false)))]) (.seq (.region [3] [o4 4 1,o6 5 2 2,
 o0 6 (.call .view 646 [(.t 4),(.t 5)]),
 o0 7 (.un .not (.t 6)),o3 3 7]) .ret))⟩
section
variable {code:Nat->Option zab} {ext:zac}
theorem z9l(h:code 336=some zk4){iv:IV}{xs:List Val}(hr:zao tVal iv xs):callW code ext 336 [.imm (zfn tVal zdq xs),.imm iv] []=some (avb true,[]):=by
 have hlen:=zaz hr
 have hb:=hr.2.1
 have loop:∃e s',den code ext (.loop [0,1,5] zsj) ⟨0,[(0,.imm (zfn tVal zdq xs)),(1,.imm iv),(5,zaa 0)],[]⟩=some (e,s')/\e≠ .normal/\
   (e=.exit 0/\s'=⟨0,[(0,.imm (zfn tVal zdq xs)),(1,.imm iv),(5,zaa xs.length),(22,avb false)],[]⟩):=by
  refine zb1 (fun n s=>∃(i:Nat),i+n=xs.length/\s=⟨0,[(0,.imm (zfn tVal zdq xs)),(1,.imm iv),(5,zaa (i:Nat))],[]⟩) _ ?_ xs.length _ ⟨0,by simp,rfl⟩
  rintro n _ ⟨i,hi,rfl⟩
  by_cases hlt:i<xs.length
  ·obtain⟨row,off,cap,rfl,hc,hcut,hget⟩:=zb6 hr (xab hlt)
   have e1:IntKind.wrap .i64 ((i:Int)+1)=(i:Int)+1:=zap (by omega) (by omega)
   have hget2:=zdc (t:=tVal) (xs:=xs++[zdq]) (i:=i) (x:=xs[i]) (by rw[xac hlt];exact xab hlt)
   generalize xs[i]=v at hget hget2
   simp only[tVal]at hget
   rw[show tVal.enc v=[.val (.int .u8 v.k),.val (.int .i64 v.n)]from rfl,show tVal.sz=2 from rfl]at hget2
   refine⟨.normal,⟨0,[(0,.imm (zfn tVal zdq xs)),(1,.imm (.slice row off xs.length cap)),(5,zaa ((i:Int)+1))],[]⟩,?_,.inl ⟨rfl,n-1,by omega,i+1,by omega,rfl⟩⟩
   simp -implicitDefEqProofs [zsj,hlt,hget,hget2,e1,zfn]
  ·have:i=xs.length:=by omega
   subst this
   refine⟨.exit 0,_,?_,.inr ⟨by simp,rfl,rfl⟩⟩
   simp -implicitDefEqProofs [zsj,hlen]
 obtain⟨e,s',h1,_,rfl,rfl⟩:=loop
 rw[zad code ext h]
 have e1:IntKind.wrap .i64 ((xs.length:Int)+1)=(xs.length:Int)+1:=zap (by omega) (by omega)
 have e2:(0:Int)<=(xs.length:Int)+1:=by omega
 have e5:((xs.length:Int)+1).toNat=xs.length+1:=by omega
 have e6:(xs.length:Int)<(xs.length:Int)+1:=by omega
 have e7:¬((xs.length:Int)+1<=(xs.length:Int)):=by omega
 have hget2:=zdc (t:=tVal) (xs:=xs++[zdq]) (i:=xs.length) (x:=zdq) (by simp)
 rw[show tVal.enc zdq=[.val (.int .u8 0),.val (.int .i64 7777)]from rfl,show tVal.sz=2 from rfl]at hget2
 simp only[zfn]at h1 ⊢
 simp -implicitDefEqProofs [zk4,hlen,h1,e1,e2,e5,e6,e7,zf6,hget2]
theorem z9k(h:code 336=some zk4)(h':code 329=some zm2)(o:Obj):
  callW code ext 329 [.agg [.imm (.val (.int .u8 o.k)),.imm (.val (.string o.s)),.imm (zfn tVal zdq o.l.xs),zaa o.room,zaa o.fn],.agg [.imm (.val (.int .u8 o.k)),.imm (.val (.string o.s)),.imm o.l.iv,zaa o.room,zaa o.fn]] []=some (avb true,[]):=by
 rw[zad code ext h']
 have ht:=z9l (ext:=ext) h o.l.ok
 simp -implicitDefEqProofs [zm2,ht]
theorem z06(h:code 336=some zk4)(h':code 329=some zm2)(h2:code 330=some zpe)(h3:code 334=some zpf){iv:IV}{xs:List Obj}(hr:zao tObj iv xs):
  callW code ext 334 [.imm (.slice (tObj.row (xs.map zal++[zat])) 0 xs.length (some (xs.length+1))),.imm iv] []=some (avb true,[]):=by
 have hlen:=zaz hr
 have hb:=hr.2.1
 generalize hT:IV.slice (tObj.row (xs.map zal++[zat])) 0 xs.length (some (xs.length+1))=T
 have loop:∃e s',den code ext (.loop [0,1,5] zsi) ⟨0,[(0,.imm T),(1,.imm iv),(5,zaa 0)],[]⟩=some (e,s')/\e≠ .normal/\
   (e=.exit 0/\s'=⟨0,[(0,.imm T),(1,.imm iv),(5,zaa xs.length),(22,avb false)],[]⟩):=by
  refine zb1 (fun n s=>∃(i:Nat),i+n=xs.length/\s=⟨0,[(0,.imm T),(1,.imm iv),(5,zaa (i:Nat))],[]⟩) _ ?_ xs.length _ ⟨0,by simp,rfl⟩
  rintro n _ ⟨i,hi,rfl⟩
  by_cases hlt:i<xs.length
  ·obtain⟨row,off,cap,rfl,hc,hcut,hget⟩:=zb6 hr (xab hlt)
   have e1:IntKind.wrap .i64 ((i:Int)+1)=(i:Int)+1:=zap (by omega) (by omega)
   have hget2:=zdc (t:=tObj) (xs:=xs.map zal++[zat]) (i:=i) (x:=zal xs[i]) (by rw[xac (by simpa using hlt),xap,xab hlt];rfl)
   have hlo:=z9k (ext:=ext) h h' xs[i]
   generalize xs[i]=o at hget hget2 hlo
   simp only[tObj]at hget
   rw[show tObj.enc (zal o)=[.val (.int .u8 o.k),.val (.string o.s),zfn tVal zdq o.l.xs,.val (.int .i64 o.room),.val (.int .i64 o.fn)]from rfl,show tObj.sz=5 from rfl]at hget2
   refine⟨.normal,⟨0,[(0,.imm T),(1,.imm (.slice row off xs.length cap)),(5,zaa ((i:Int)+1))],[]⟩,?_,.inl ⟨rfl,n-1,by omega,i+1,by omega,rfl⟩⟩
   subst hT
   simp -implicitDefEqProofs [zsi,hlt,hget,hget2,e1,hlo]
  ·have:i=xs.length:=by omega
   subst this
   refine⟨.exit 0,_,?_,.inr ⟨by simp,rfl,rfl⟩⟩
   simp -implicitDefEqProofs [zsi,hlen]
 obtain⟨e,s',h1,_,rfl,rfl⟩:=loop
 have e1:IntKind.wrap .i64 ((xs.length:Int)+1)=(xs.length:Int)+1:=zap (by omega) (by omega)
 have e2:(0:Int)<=(xs.length:Int)+1:=by omega
 have e5:((xs.length:Int)+1).toNat=xs.length+1:=by omega
 have e6:(xs.length:Int)<(xs.length:Int)+1:=by omega
 have e7:¬((xs.length:Int)+1<=(xs.length:Int)):=by omega
 have hget2:=zdc (t:=tObj) (xs:=xs.map zal++[zat]) (i:=xs.length) (x:=zat) (by rw[xah (by simp)];simp)
 rw[show tObj.enc zat=[.val (.int .u8 0),.val (.string ⟨#[115,112,97,114,101]⟩),.val (.slice none 0 0),.val (.int .i64 0),.val (.int .i64 0)]from rfl,show tObj.sz=5 from rfl]at hget2
 have hobjs:callW code ext 330 [.imm T,.imm iv] []=some (avb true,[]):=by
  rw[zad code ext h2]
  subst hT
  simp -implicitDefEqProofs [zpe,hlen,h1,e1,e2,e5,e6,e7,zf6,hget2]
 rw[zad code ext h3]
 simp -implicitDefEqProofs [zpf,hobjs]
end
def zau(S:List Obj)(v:Val):Option Nat:=
 if v.k<3 then none else if 7<v.k then none else if v.n<1 then none else if (S.length:Int)<v.n then none else
 match S[(v.n-1).toNat]? with
 |some o=>if o.k=v.k then some (v.n-1).toNat else none
 |none=>none
theorem zcg{S:List Obj}{v:Val}{k:Nat}(h:zau S v=some k):k<S.length/\(k:Int)=v.n-1/\3<=v.k/\v.k<=7/\∃o,S[k]?=some o/\o.k=v.k:=by
 unfold zau at h
 split at h
 ·cases h
 split at h
 ·cases h
 split at h
 ·cases h
 split at h
 ·cases h
 split at h
 ·rename_i o ho
  split at h
  ·rename_i hk
   cases h
   have:=(xaa.1 ho).1
   exact⟨this,by omega,by omega,by omega,o,ho,hk⟩
  ·cases h
 ·cases h
inductive Reach (S:List Obj) (roots:List Val):Nat->Prop
 |root {v:Val} {j:Nat} (hv:v∈roots) (h:zau S v=some j):Reach S roots j
 |step {k j:Nat} {o:Obj} {v:Val} (hk:Reach S roots k) (ho:S[k]?=some o) (hv:v∈o.l.xs) (h:zau S v=some j):Reach S roots j
theorem Reach.lt{S:List Obj}{roots:List Val}{k:Nat}(h:Reach S roots k):k<S.length:=by
 cases h with
 |root _ h=>exact(zcg h).1
 |step _ _ _ h=>exact(zcg h).1
def unm:List Bool->List Obj->Nat
 |false::F,o::S=>o.l.xs.length+1+unm F S
 |true::F,_::S=>unm F S
 |_,_=>0
theorem z30:∀(F:List Bool) (S:List Obj) (k:Nat) (o:Obj),F[k]?=some false->S[k]?=some o->unm (F.set k true) S+(o.l.xs.length+1)=unm F S
 |[],S,k,o,h,_=>by simp at h
 |b::F,[],k,o,_,h=>by simp at h
 |b::F,p::S,0,o,h,h'=>by simp at h h';subst h;subst h';simp[unm];omega
 |b::F,p::S,k+1,o,h,h'=>by
  simp only[xce]
  have:=z30 F S k o (by simpa using h) (by simpa using h')
  cases b<;>simp only[unm]<;>omega
structure Marks (S:List Obj) (roots:List Val) (F:List Bool) (T:List Val):Prop where
 len:F.length=S.length
 mark:∀k,F[k]?=some true->Reach S roots k
 todo:∀v∈T,∀j,zau S v=some j->Reach S roots j
 roots:∀v∈roots,∀j,zau S v=some j->F[j]?=some true\/v∈T
 step:∀(k:Nat) (o:Obj),F[k]?=some true->S[k]?=some o->∀v∈o.l.xs,∀j:Nat,zau S v=some j->F[j]?=some true\/v∈T
theorem Marks.start(S:List Obj)(roots:List Val):Marks S roots (List.replicate S.length false) roots:=
 ⟨by simp,fun k h=>by simp[List.getElem?_replicate]at h,fun v hv j h=>.root hv h,fun v hv j h=>.inr hv,fun k o h=>by simp[List.getElem?_replicate]at h⟩
theorem Marks.drop{S:List Obj}{roots:List Val}{F:List Bool}{T:List Val}{v:Val}(h:Marks S roots F (T++[v]))(hv:∀j,zau S v=some j->F[j]?=some true):Marks S roots F T:=by
 have key:∀u j,zau S u=some j->(F[j]?=some true\/u∈T++[v])->F[j]?=some true\/u∈T:=by
  intro u j hu h1
  rcases h1 with h1|h1
  ·exact .inl h1
  ·rw[xak,xbc]at h1
   rcases h1 with h1|rfl
   ·exact .inr h1
   ·exact .inl (hv j hu)
 exact⟨h.len,h.mark,fun u hu j hj=>h.todo u (xcz _ hu) j hj,fun u hu j hj=>key u j hj (h.roots u hu j hj),fun k o hk ho u hu j hj=>key u j hj (h.step k o hk ho u hu j hj)⟩
theorem Marks.take{S:List Obj}{roots:List Val}{F:List Bool}{T:List Val}{v:Val}{k:Nat}{o:Obj}(h:Marks S roots F (T++[v]))(hv:zau S v=some k)(hF:F[k]?=some false)(ho:S[k]?=some o):Marks S roots (F.set k true) (T++o.l.xs):=by
 have hkl:k<F.length:=(xaa.1 hF).1
 have hk:=h.todo v (by simp) k hv
 have hset:∀j,(F.set k true)[j]?=some true↔j=k\/F[j]?=some true:=by
  intro j
  rw[List.getElem?_set]
  by_cases e:k=j
  ·subst e;simp[hkl]
  ·rw[if_neg e];simp[Ne.symm e]
 have key:∀u j,zau S u=some j->(F[j]?=some true\/u∈T++[v])->(F.set k true)[j]?=some true\/u∈T++o.l.xs:=by
  intro u j hu h1
  rcases h1 with h1|h1
  ·exact .inl ((hset j).2 (.inr h1))
  ·rw[xak,xbc]at h1
   rcases h1 with h1|rfl
   ·exact .inr (xcz _ h1)
   ·rw[hv]at hu;cases hu;exact .inl ((hset k).2 (.inl rfl))
 refine⟨by simp[h.len],fun j hj=>?_,fun u hu j hj=>?_,fun u hu j hj=>key u j hj (h.roots u hu j hj),fun q p hq hp u hu j hj=>?_⟩
 ·rcases(hset j).1 hj with rfl|hj
  ·exact hk
  ·exact h.mark j hj
 ·rw[xak]at hu
  rcases hu with hu|hu
  ·exact h.todo u (xcz _ hu) j hj
  ·exact .step hk ho hu hj
 ·rcases(hset q).1 hq with rfl|hq
  ·rw[ho]at hp;cases hp
   exact .inr (List.mem_append_right _ hu)
  ·exact key u j hj (h.step q p hq hp u hu j hj)
theorem Marks.done{S:List Obj}{roots:List Val}{F:List Bool}(h:Marks S roots F [])(k:Nat):F[k]?=some true↔Reach S roots k:=by
 refine⟨h.mark k,fun hk=>?_⟩
 induction hk with
 |root hv hl=>rcases h.roots _ hv _ hl with h|h;exact h;cases h
 |step _ ho hv hl ih=>rcases h.step _ _ ih ho _ hv _ hl with h|h;exact h;cases h
def zb3(S:List Obj):List Nat->List Val->List Nat
 |out,[]=>out
 |out,v::l=>match zau S v with
  |some o=>if o∈out then zb3 S out l else zb3 S (out++[o]) l
  |none=>zb3 S out l
theorem znn(S:List Obj):∀(l:List Val) (out:List Nat),∃r,zb3 S out l=out++r
 |[],out=>⟨[],by simp[zb3]⟩
 |v::l,out=>by
  rw[zb3]
  split
  ·rename_i o ho
   split
   ·exact znn S l out
   ·obtain⟨r,hr⟩:=znn S l (out++[o])
    exact⟨o::r,by rw[hr];simp⟩
  ·exact znn S l out
theorem znm(S:List Obj):∀(l:List Val) (out:List Nat),out.Nodup->(zb3 S out l).Nodup
 |[],out,h=>h
 |v::l,out,h=>by
  rw[zb3]
  split
  ·rename_i o ho
   split
   ·exact znm S l out h
   ·rename_i hn
    refine znm S l _ ?_
    rw[xc1]
    exact⟨h,by simp,fun a ha b hb=>by simp at hb;subst hb;exact fun e=>hn (e▸ha)⟩
  ·exact znm S l out h
theorem zig(S:List Obj):∀(l:List Val) (out:List Nat) (j:Nat),j∈zb3 S out l↔j∈out\/∃v∈l,zau S v=some j
 |[],out,j=>by simp[zb3]
 |v::l,out,j=>by
  rw[zb3]
  split
  ·rename_i o ho
   split
   ·rename_i hm
    rw[zig S l out j]
    constructor
    ·rintro(h|⟨u,hu,h⟩)
     ·exact .inl h
     ·exact .inr ⟨u,xa5 _ hu,h⟩
    ·rintro(h|⟨u,hu,h⟩)
     ·exact .inl h
     ·rcases xbt.1 hu with rfl|hu
      ·rw[ho]at h;cases h;exact .inl hm
      ·exact .inr ⟨u,hu,h⟩
   ·rw[zig S l _ j,xak,xbc]
    constructor
    ·rintro((h|rfl)|⟨u,hu,h⟩)
     ·exact .inl h
     ·exact .inr ⟨v,xbe ..,ho⟩
     ·exact .inr ⟨u,xa5 _ hu,h⟩
    ·rintro(h|⟨u,hu,h⟩)
     ·exact .inl (.inl h)
     ·rcases xbt.1 hu with rfl|hu
      ·rw[ho]at h;cases h;exact .inl (.inr rfl)
      ·exact .inr ⟨u,hu,h⟩
  ·rename_i hn
   rw[zig S l out j]
   constructor
   ·rintro(h|⟨u,hu,h⟩)
    ·exact .inl h
    ·exact .inr ⟨u,xa5 _ hu,h⟩
   ·rintro(h|⟨u,hu,h⟩)
    ·exact .inl h
    ·rcases xbt.1 hu with rfl|hu
     ·rw[hn]at h;cases h
     ·exact .inr ⟨u,hu,h⟩
structure Grown (S:List Obj) (roots:List Val) (out:List Nat) (i:Nat):Prop where
 nodup:out.Nodup
 reach:∀k∈out,Reach S roots k
 roots:∀v∈roots,∀j,zau S v=some j->j∈out
 step:∀k∈out.take i,∀o:Obj,S[k]?=some o->∀v∈o.l.xs,∀j,zau S v=some j->j∈out
theorem Grown.start(S:List Obj)(roots:List Val):Grown S roots (zb3 S [] roots) 0:=
 ⟨znm S roots [] (by simp),fun k hk=>by
  rcases(zig S roots [] k).1 hk with h|⟨v,hv,h⟩
  ·cases h
  ·exact .root hv h,fun v hv j hj=>(zig S roots [] j).2 (.inr ⟨v,hv,hj⟩),fun k hk=>by simp at hk⟩
theorem Grown.next{S:List Obj}{roots:List Val}{out:List Nat}{i k:Nat}{o:Obj}(h:Grown S roots out i)(hk:out[i]?=some k)(ho:S[k]?=some o):Grown S roots (zb3 S out o.l.xs) (i+1):=by
 have hi:=(xaa.1 hk).1
 refine⟨znm S _ _ h.nodup,fun j hj=>?_,fun v hv j hj=>(zig S _ _ j).2 (.inl (h.roots v hv j hj)),fun q hq p hp v hv j hj=>?_⟩
 ·rcases(zig S _ _ j).1 hj with hj|⟨v,hv,hj⟩
  ·exact h.reach j hj
  ·exact .step (h.reach k (xag hk)) ho hv hj
 ·obtain⟨r,hr⟩:=znn S o.l.xs out
  rw[hr,List.take_append_of_le_length (by omega),xbk,hk,xak]at hq
  rcases hq with hq|hq
  ·exact(zig S _ _ j).2 (.inl (h.step q hq p hp v hv j hj))
  ·simp at hq;subst hq
   rw[ho]at hp;cases hp
   exact(zig S _ _ j).2 (.inr ⟨v,hv,hj⟩)
theorem Grown.done{S:List Obj}{roots:List Val}{out:List Nat}{i:Nat}(h:Grown S roots out i)(hi:out.length<=i)(k:Nat):k∈out↔Reach S roots k:=by
 refine⟨h.reach k,fun hk=>?_⟩
 have hs:=h.step
 rw[List.take_of_length_le hi]at hs
 induction hk with
 |root hv hl=>exact h.roots _ hv _ hl
 |step _ ho hv hl ih=>exact hs _ ih _ ho _ hv _ hl
theorem Grown.short{S:List Obj}{roots:List Val}{out:List Nat}{i:Nat}(h:Grown S roots out i):out.length<=S.length:=by
 have hp:out.Perm ((List.range S.length).filter fun k=>decide (k∈out)):=(List.perm_ext_iff_of_nodup h.nodup (List.nodup_range.filter _)).2 fun k=>by
  rw[List.mem_filter,xa6]
  exact⟨fun hk=>⟨(h.reach k hk).lt,by simpa using hk⟩,fun hk=>by simpa using hk.2⟩
 rw[hp.length_eq]
 exact xci (List.length_filter_le _ _) (by simp)
def yho(o:Obj):Nat:=
 if o.k=3 then 2+(o.s.size+7) / 8 else if o.k=4\/o.k=5 then(if 0<o.room then 4+2*o.room.toNat else 3)else if o.k=6 then 2+2*o.l.xs.length else 3
def yhn(S:List Obj)(k:Nat):Nat:=match S[k]? with
 |some o=>yho o
 |none=>0
section
variable {code:Nat->Option zab} {ext:zac}
def zji(S:List Obj)(v:Val):Int:=match zau S v with
 |some k=>(k:Nat)
 |none=> -1
theorem zma(h:code 502=some zdf){sv:IV}{S:List Obj}(hr:zao tObj sv S)(v:Val):callW code ext 502 [.imm sv,.agg [.imm (.val (.int .u8 v.k)),zaa v.n]] []=some (zaa (zji S v),[]):=by
 rw[zad code ext h]
 have hlen:=zaz hr
 have hb:=hr.2.1
 unfold zji zau
 by_cases c1:v.k<3
 ·simp -implicitDefEqProofs [zdf,c1]
 by_cases c2:7<v.k
 ·simp -implicitDefEqProofs [zdf,c1,c2]
 by_cases c3:v.n<1
 ·simp -implicitDefEqProofs [zdf,c1,c2,c3]
 by_cases c4:(S.length:Int)<v.n
 ·simp -implicitDefEqProofs [zdf,c1,c2,c3,c4,hlen]
 obtain⟨vk,vn⟩:=v
 simp only at c1 c2 c3 c4 ⊢
 obtain⟨p,rfl⟩:∃p:Nat,vn=(p:Int)+1:=⟨(vn-1).toNat,by omega⟩
 have hlt:p<S.length:=by omega
 obtain⟨row,off,cap,rfl,hc,hcut,hget⟩:=zb6 hr (xab hlt)
 have ep:((p:Int)+1-1).toNat=p:=by omega
 rw[if_neg c1,if_neg c2,if_neg c3,if_neg c4,ep,xab hlt]
 generalize S[p]=o at hget
 simp only[tObj]at hget
 have g0:row[off+p*5]?=some (.val (.int .u8 o.k)):=zai hget 0 (by omega)
 have e1:IntKind.wrap .i64 (p:Int)=p:=zap (by omega) (by omega)
 by_cases c5:o.k=vk
 ·simp -implicitDefEqProofs [zdf,c1,c2,c3,c4,hlen,e1,g0,c5,hlt]
 ·simp -implicitDefEqProofs [zdf,c1,c2,c3,c4,hlen,e1,g0,c5,hlt]
theorem yee(h:code 502=some zdf)(sv:IV)(S:List Obj)(roots:List Val)(hr:zao tObj sv S)(hM:roots.length+unm (List.replicate S.length false) S<=100000000){s:St}(C:List IV)(mv:Bool)(hC:cut C 0 (roots.length*2)=some (tVal.row roots))
  (hst:s.tidy [0,5,6]=⟨0,[(0,.imm sv),(5,.osl 0 0 1 S.length (some S.length)),(6,.osl 1 0 2 roots.length none)],[.flat (tBool.row (List.replicate S.length false)) false,.flat C mv]⟩):
  ∃e s',den code ext (.loop [0,5,6] zj3) s=some (e,s')/\e≠ .normal/\
   (e=.exit 0/\∃F C' mv',Marks S roots F []/\s'=⟨0,[(0,.imm sv),(5,.osl 0 0 1 S.length (some S.length)),(6,.osl 1 0 2 0 none),(16,avb false)],[.flat (tBool.row F) false,.flat C' mv']⟩):=by
 refine zb1 (fun n s=>∃(F:List Bool) (T:List Val) (C:List IV) (mv:Bool),n=T.length+unm F S/\n<=100000000/\Marks S roots F T/\cut C 0 (T.length*2)=some (tVal.row T)/\
  s.tidy [0,5,6]=⟨0,[(0,.imm sv),(5,.osl 0 0 1 S.length (some S.length)),(6,.osl 1 0 2 T.length none)],[.flat (tBool.row F) false,.flat C mv]⟩) _ ?_ _ _ ⟨_,roots,C,mv,rfl,hM,.start S roots,hC,hst⟩
 clear hst hC C mv s hM
 rintro n s ⟨F,T,C,mv,hn,hnb,hI,hC,hst⟩
 rw[hst]
 have hFl:=hI.len
 rcases List.eq_nil_or_concat T with rfl|⟨T0,v,rfl⟩
 ·refine⟨.exit 0,⟨0,[(0,.imm sv),(5,.osl 0 0 1 S.length (some S.length)),(6,.osl 1 0 2 0 none),(16,avb false)],[.flat (tBool.row F) false,.flat C mv]⟩,?_,.inr ⟨by simp,rfl,F,C,mv,hI,rfl⟩⟩
  simp -implicitDefEqProofs [zj3]
 ·have hlv:=zma (ext:=ext) h hr v
  have e0:(0:Int)<(T0.length:Int)+1:=by omega
  simp only[xao,xat,xa4,xau,List.concat_eq_append]at hn hC hI ⊢
  have e1:IntKind.wrap .i64 (T0.length:Int)=T0.length:=zap (by omega) (by omega)
  have e2:((T0.length:Int)+1-1)=T0.length:=by omega
  have e3:(T0.length:Int)<(T0.length:Int)+1:=by omega
  have e4:(T0.length:Int)<=(T0.length:Int)+1:=by omega
  have hcv:cut C (T0.length*2) 2=some [.val (.int .u8 v.k),.val (.int .i64 v.n)]:=by
   have:=znx hC (a:=T0.length*2) (b:=2) (by omega)
   rw[xau]at this
   rw[this]
   exact zdc (t:=tVal) (i:=T0.length) (x:=v) (by simp)
  have hc0:cut C 0 (T0.length*2)=some (tVal.row T0):=by
   have:=znx hC (a:=0) (b:=T0.length*2) (by omega)
   rw[xau]at this
   rw[this]
   exact zy0 tVal T0 [v]
  cases hl:zau S v with
  |none=>
   have hli:zji S v= -1:=by simp[zji,hl]
   rw[hli]at hlv
   refine⟨.normal,⟨0,[(0,.imm sv),(5,.osl 0 0 1 S.length (some S.length)),(6,.osl 1 0 2 T0.length none),(7,zaa (-1)),(38,avb false)],[.flat (tBool.row F) false,.flat C mv]⟩,?_,.inl ⟨rfl,T0.length+unm F S,by omega,F,T0,C,mv,rfl,by omega,hI.drop (fun j hj=>by rw[hl]at hj;cases hj),hc0,?_⟩⟩
   ·simp -implicitDefEqProofs [zj3,e0,e1,e2,e3,e4,hcv,hlv,zf6]
   ·simp -implicitDefEqProofs
  |some k=>
   have hli:zji S v=(k:Nat):=by simp[zji,hl]
   rw[hli]at hlv
   obtain⟨hks,_,_,_,o,ho,_⟩:=zcg hl
   have hkF:k<F.length:=by omega
   have hF:=xab hkF
   have hks':(k:Int)<S.length:=by omega
   have hfe:(tBool.row F)[k]?=some (.val (.bool F[k])):=by
    have:=zy1 (zdc (t:=tBool) hF)
    rwa [show tBool.sz=1 from rfl,Nat.mul_one]at this
   cases hb:F[k]with
   |true=>
    rw[hb]at hF hfe
    refine⟨.normal,⟨0,[(0,.imm sv),(5,.osl 0 0 1 S.length (some S.length)),(6,.osl 1 0 2 T0.length none),(7,zaa k),(38,avb false)],[.flat (tBool.row F) false,.flat C mv]⟩,?_,.inl ⟨rfl,T0.length+unm F S,by omega,F,T0,C,mv,rfl,by omega,hI.drop (fun j hj=>by rw[hl]at hj;cases hj;exact hF),hc0,?_⟩⟩
    ·simp -implicitDefEqProofs [zj3,e0,e1,e2,e3,e4,hcv,hlv,zf6,hks',hfe]
    ·simp -implicitDefEqProofs
   |false=>
    rw[hb]at hF hfe
    obtain⟨row,off,cap,rfl,hc,hcut,hget⟩:=zb6 hr ho
    simp only[tObj]at hget
    have g2:row[off+k*5+2]?=some o.l.iv:=zai hget 2 (by omega)
    have hset:=zwo (t:=tBool) (xs:=F) (by decide) (i:=k) (by omega) true
    have hset':setAll (tBool.row F) k [.val (.bool true)]=tBool.row (F.set k true):=by rw[show tBool.sz=1 from rfl,Nat.mul_one]at hset;exact hset
    have hle:k+1<=(tBool.row F).length:=by rw[zbg];simp only[tBool];omega
    have hel:=fun m=>zlx (t:=tVal) m o.l.ok
    rw[show tVal.sz=2 from rfl]at hel
    have hum:=z30 F S k o hF ho
    have hbd:(T0.length+o.l.xs.length)*16<=140737488355328:=by omega
    refine⟨.normal,⟨0,[(0,.imm (.slice row off S.length cap)),(5,.osl 0 0 1 S.length (some S.length)),(6,.osl 1 0 2 (T0.length+o.l.xs.length) none)],[.flat (tBool.row (F.set k true)) false,.flat (tVal.row (T0++o.l.xs)) false]⟩,?_,.inl ⟨rfl,(T0++o.l.xs).length+unm (F.set k true) S,by rw[xao];omega,F.set k true,T0++o.l.xs,tVal.row (T0++o.l.xs),false,rfl,by rw[xao];omega,hI.take hl hF ho,zg6 tVal _,?_⟩⟩
    ·simp -implicitDefEqProofs [zj3,e0,e1,e2,e3,e4,hcv,hlv,zf6,hks',hfe,g2,hset',hle,za0,za1,hel,hc0,hbd,z2j]
    ·simp -implicitDefEqProofs
theorem yef(h:code 502=some zdf)(h':code 509=some zna){sv rv:IV}{S:List Obj}{roots:List Val}(hr:zao tObj sv S)(hq:zao tVal rv roots)(hM:roots.length+unm (List.replicate S.length false) S<=100000000)(hS:S.length<=1048576):
  ∃F,Marks S roots F []/\callW code ext 509 [.imm sv,.imm rv] []=some (.osl 0 0 1 S.length (some S.length),[.flat (tBool.row F) false]):=by
 have hlen:=zaz hr
 have hlen2:=zaz hq
 have hz:zar S.length [IV.val (.bool false)]=tBool.row (List.replicate S.length false):=zul (t:=tBool) S.length false
 have e1:(S.length:Int)<=281474976710656:=by omega
 have e2:(S.length:Int)<=9223372036854775807:=by omega
 have hel:=fun m=>zlx (t:=tVal) m hq
 rw[show tVal.sz=2 from rfl]at hel
 have hbd:roots.length*16<=140737488355328:=by omega
 rw[zad code ext h']
 by_cases h0:roots=[]
 ·subst h0
  refine⟨List.replicate S.length false,.start S [],?_⟩
  have hl:den code ext (.loop [0,5,6] zj3) ⟨0,[(0,.imm sv),(5,.osl 0 0 1 S.length (some S.length)),(6,zaf)],[.flat (tBool.row (List.replicate S.length false)) false]⟩=some (.exit 0,⟨0,[(0,.imm sv),(5,.osl 0 0 1 S.length (some S.length)),(6,zaf),(16,avb false)],[.flat (tBool.row (List.replicate S.length false)) false]⟩):=by
   rw[zfc]
   simp -implicitDefEqProofs [zj3]
  simp -implicitDefEqProofs [zna,hlen,hz,e1,e2,za0,za1,hel,hl]
 ·have hne:¬roots.length=0:=fun e=>h0 (xav e)
  obtain⟨e,s',h1,_,rfl,F,C',mv',hI,rfl⟩:=yee (ext:=ext) h sv S roots hr hM (tVal.row roots) false (zg6 tVal roots)
   (s:=⟨0,[(0,.imm sv),(5,.osl 0 0 1 S.length (some S.length)),(6,.osl 1 0 2 roots.length none)],[.flat (tBool.row (List.replicate S.length false)) false,.flat (tVal.row roots) false]⟩) (by simp -implicitDefEqProofs)
  refine⟨F,hI,?_⟩
  simp -implicitDefEqProofs [zna,hlen,hz,e1,e2,za0,za1,hel,hbd,h0,h1]
end
def zog(s:Nat)(out:List Nat):List AV:=out.map fun k=>.optr s (k*5)
def zkz(s:Nat)(out:List Nat):List (AV×AV):=out.map fun k=>(.optr s (k*5),avb true)
@[simp] theorem ykw(f:Nat->Option Nat)(s:Nat)(out:List Nat)(h:(f s).isSome=true):AV.ren.renL f (zog s out)=zog ((f s).getD 0) out:=by
 obtain⟨j,hj⟩:=xbd.1 h
 rw[zfk]
 simp[zog,AV.ren,hj]
@[simp] theorem ylb(f:Nat->Option Nat)(s:Nat)(out:List Nat)(h:(f s).isSome=true):List.map (fun p=>(AV.ren f p.1,AV.ren f p.2)) (zkz s out)=zkz ((f s).getD 0) out:=by
 obtain⟨j,hj⟩:=xbd.1 h
 simp[zkz,AV.ren,hj]
@[simp] theorem ykq(s:Nat)(out:List Nat):AV.refs.refsL (zog s out)=List.replicate out.length s:=by
 unfold zog
 induction out with
 |nil=>rfl
 |cons x r ih=>simp only[xa1,AV.refs.refsL,ih,AV.refs,xat,List.replicate_succ];rfl
@[simp] theorem yks(s:Nat)(out:List Nat):AV.refs.refsL (List.map (fun x=>x.1) (zkz s out))=List.replicate out.length s:=by
 unfold zkz
 induction out with
 |nil=>rfl
 |cons x r ih=>simp only[xa1,AV.refs.refsL,ih,AV.refs,xat,List.replicate_succ];rfl
@[simp] theorem ykt(s:Nat)(out:List Nat):AV.refs.refsL (List.map (fun x=>x.2) (zkz s out))=[]:=by
 unfold zkz
 induction out with
 |nil=>rfl
 |cons x r ih=>simp only[xa1,AV.refs.refsL,ih,AV.refs];rfl
theorem zq2(m:Mem):∀(n:Nat) (todo acc:List Nat),(∀x∈todo,x∈acc)->reach m n todo acc=acc
 |0,_,_,_=>rfl
 |n+1,[],_,_=>rfl
 |n+1,x::todo,acc,h=>by
  rw[reach,if_pos (h x (xbe ..))]
  exact zq2 m n todo acc fun y hy=>h y (xa5 _ hy)
@[simp] theorem ykl(m:Mem)(n a s:Nat)(acc:List Nat)(h:s∈acc):reach m n (List.replicate a s) acc=acc:=
 zq2 m n _ acc fun x hx=>by rw[xbz hx];exact h
@[simp] theorem ykm(m:Mem)(n a b s t:Nat)(acc:List Nat)(h:s∈acc)(h':t∈acc):reach m n (List.replicate a s++List.replicate b t) acc=acc:=
 zq2 m n _ acc fun x hx=>by
  rcases xak.1 hx with hx|hx
  ·rw[xbz hx];exact h
  ·rw[xbz hx];exact h'
@[simp] theorem ykn(m:Mem)(n a b c s t u:Nat)(acc:List Nat)(h:s∈acc)(h':t∈acc)(h2:u∈acc):reach m n (List.replicate a s++(List.replicate b t++List.replicate c u)) acc=acc:=
 zq2 m n _ acc fun x hx=>by
  rcases xak.1 hx with hx|hx
  ·rw[xbz hx];exact h
  ·rcases xak.1 hx with hx|hx
   ·rw[xbz hx];exact h'
   ·rw[xbz hx];exact h2
section
variable {code:Nat->Option zab} {ext:zac}
def zrl(T:List Obj):List IV:=tObj.row (T++[zat])
end
abbrev zaq(b:ByteArray):AV:=.imm (.val (.string b))
section
variable {code:Nat->Option zab} {ext:zac}
end
def dig(n:Int):ByteArray:=⟨(Go.Lib.itoa n).toArray⟩
def zjo(S:List Obj)(v:Val):Option Obj:=(zau S v).bind fun k=>S[k]?
section
variable {code:Nat->Option zab} {ext:zac}
end
theorem z69{n:Int}(h:(zct .i64).wf n):(dig n).size<=21:=by
 obtain⟨h0,h1⟩:=wfI64.1 h
 have:=Go.Lib.itoa_length_le n h0 h1
 show(Go.Lib.itoa n).toArray.size<=21
 simpa using this
section
variable {code:Nat->Option zab} {ext:zac}
end
theorem zfw{x:Option (AV×Mem)}{r:AV}(h:x.map Prod.fst=some r):∃m,x=some (r,m):=by
 cases x with
 |none=>cases h
 |some p=>obtain⟨a,m⟩:=p;cases h;exact⟨m,rfl⟩
section
variable {code:Nat->Option zab} {ext:zac}
end
def zbf(o:Obj):Int:=
 if o.k=3 then IntKind.wrap .i64 (2+IntKind.wrap .i64 ((IntKind.wrap .i64 ((o.s.size:Int)+7)).tdiv 8))
 else if o.k=6 then IntKind.wrap .i64 (2+IntKind.wrap .i64 (2*(o.l.xs.length:Int)))
 else if (o.k=4\/o.k=5)/\0<o.room then IntKind.wrap .i64 (4+IntKind.wrap .i64 (2*o.room))
 else 3
section
variable {code:Nat->Option zab} {ext:zac}
theorem zo0(h:code 578=some zet)(o:Obj):
  ∃m,callW code ext 578 [.agg [.imm (.val (.int .u8 o.k)),.imm (.val (.string o.s)),.imm o.l.iv,zaa o.room,zaa o.fn]] []=some (zaa (zbf o),m):=by
 refine zfw ?_
 rw[zad code ext h]
 have hlen:=zaz o.l.ok
 unfold zbf
 by_cases k3:o.k=3
 ·simp -implicitDefEqProofs [zet,k3]
 by_cases k6:o.k=6
 ·simp -implicitDefEqProofs [zet,k6,hlen]
 by_cases k4:o.k=4
 ·by_cases hr:0<o.room
  ·simp -implicitDefEqProofs [zet,k4,hr]
  ·simp -implicitDefEqProofs [zet,k4,hr]
 by_cases k5:o.k=5
 ·by_cases hr:0<o.room
  ·simp -implicitDefEqProofs [zet,k5,hr]
  ·simp -implicitDefEqProofs [zet,k5,hr]
 ·simp -implicitDefEqProofs [zet,k3,k4,k5,k6]
theorem zys(h:code 742=some zd0):callW code ext 742 [zaf] []=some (zaf,[]):=by
 rw[zad code ext h]
 simp -implicitDefEqProofs [zd0]
theorem zyr(h:code 742=some zd0)(row:List IV)(off:Nat)(cap:Option Nat):callW code ext 742 [.imm (.slice row off 0 cap)] []=some (.osl 0 0 2 0 (some 0),[.flat [] false]):=by
 rw[zad code ext h]
 have hc:cut row off 0=some []:=by simp[cut]
 simp -implicitDefEqProofs [zd0,za0,za1,elems,hc]
theorem zyt(h:code 742=some zd0){row:List IV}{off n:Nat}{cap:Option Nat}{R:List IV}(hc:cut row off (n*2)=some R)(h0:0<n)(hn:n<=1000000000):callW code ext 742 [.imm (.slice row off n cap)] []=some (.osl 0 0 2 n none,[.flat R false]):=by
 rw[zad code ext h]
 have h1:¬n=0:=by omega
 have h2:n*16<=140737488355328:=by omega
 simp -implicitDefEqProofs [zd0,za0,za1,elems,hc,h1,h2]
theorem z6m(h:code 740=some zeu):callW code ext 740 [zaf] []=some (zaf,[]):=by
 rw[zad code ext h]
 simp -implicitDefEqProofs [zeu,zfd]
def zbs:IV->Bool
 |.val _=>true
 |_=>false
def zea(l:Sl tVal):Sl tVal:=
 if zbs l.iv=true then l else⟨.slice (tVal.row l.xs) 0 l.xs.length (some l.xs.length),l.xs,⟨l.ok.1,l.ok.2.1,.inr ⟨_,0,_,rfl,fun c h=>by cases h;exact xan _,zg6 tVal l.xs⟩⟩⟩
def zae(o:Obj):Obj:={ o with l:=zea o.l }
theorem zq8:∀(xs:List Obj) (i:Nat) (o:Obj) (l:Sl tVal),xs[i]?=some o->(tObj.row xs).set (i*5+2) l.iv=tObj.row (xs.set i { o with l:=l })
 |[],i,o,l,h=>by cases h
 |x::r,0,o,l,h=>by
  cases h
  simp[Ty.row,tObj]
 |x::r,i+1,o,l,h=>by
  have ih:=zq8 r i o l (by simpa using h)
  have e:(i+1)*5+2=(i*5+2)+1+1+1+1+1:=by omega
  have er:∀(y:Obj) (q:List Obj),tObj.row (y::q)=.val (.int .u8 y.k):: .val (.string y.s)::y.l.iv:: .val (.int .i64 y.room):: .val (.int .i64 y.fn)::tObj.row q:=fun y q=>rfl
  rw[xce,er,er,e]
  simp only[xce]
  rw[ih]
end
section
variable {code:Nat->Option zab} {ext:zac}
theorem z6q(h:code 743=some zfp){T:List Obj}(hn:T.length<=100000000){C:List IV}(mv:Bool)(cap:Option Nat)(hc:cut C 0 (T.length*5)=some (tObj.row T)):
  callW code ext 743 [.osl 0 0 5 T.length cap] [.flat C mv]=some (.osl 1 0 5 T.length (if T.length=0 then some 0 else none),[.flat C mv,.flat (tObj.row T) false]):=by
 rw[zad code ext h]
 by_cases h0:T.length=0
 ·have hx:T=[]:=xav h0
  subst hx
  have hr:tObj.row ([]:List Obj)=[]:=rfl
  rw[hr]
  simp -implicitDefEqProofs [zfp,za0,za1,elems]
 ·have h2:T.length*64<=140737488355328:=by omega
  rw[if_neg h0]
  simp -implicitDefEqProofs [zfp,za0,za1,elems,hc,h0,h2]
def zby(T:List Obj):List IV:=T.map fun o=>.val (.int .i64 (zbf o))
def zfz(n:Nat):AV:=if n=0 then zaf else .osl 0 0 1 n none
def zfy(T:List Obj):Mem:=if T.length=0 then[]else[.flat (zby T) false]
theorem yge(h:code 578=some zet){T:List Obj}{C:List IV}(cap:Option Nat)(hC:cut C 0 (T.length*5)=some (tObj.row T))(hn:T.length<=100000000)(s0:St)
  (hs0:s0.tidy [2,5,6,7]=⟨0,[(2,zaf),(5,.imm (.slice C 0 T.length cap)),(6,zaa T.length),(7,zaa 0)],[]⟩):
  ∃e s',den code ext (.loop [2,5,6,7] zlc) s0=some (e,s')/\e≠ .normal/\(e=.exit 0/\
   s'=⟨0,[(2,zfz T.length),(5,.imm (.slice C 0 T.length cap)),(6,zaa T.length),(7,zaa T.length),(8,avb false)],zfy T⟩):=by
 refine zb1 (fun n s=>∃i,i+n=T.length/\s.tidy [2,5,6,7]=⟨0,[(2,zfz i),(5,.imm (.slice C 0 T.length cap)),(6,zaa T.length),(7,zaa (i:Nat))],zfy (T.take i)⟩) _ ?_ T.length _ ⟨0,by simp,by simpa [zfz,zfy]using hs0⟩
 rintro n s ⟨i,hi,hst⟩
 rw[hst]
 by_cases hlt:i<T.length
 ·have hx:=xab hlt
  have hel:cut C (i*5) 5=some (tObj.enc T[i]):=by
   have:=znx hC (a:=i*5) (b:=5) (by omega)
   rw[xau]at this
   rw[this]
   exact zdc (t:=tObj) hx
  have htk:T.take (i+1)=T.take i++[T[i]]:=by rw[xbk,hx];rfl
  have hsr:zby (T.take (i+1))=zby (T.take i)++[.val (.int .i64 (zbf T[i]))]:=by rw[htk];unfold zby;rw[xcu];rfl
  obtain⟨m,hs⟩:=zo0 (ext:=ext) h T[i]
  simp only[tObj]at hel
  generalize T[i]=o at *
  generalize zbf o=w at *
  have e1:IntKind.wrap .i64 ((i:Int)+1)=(i:Int)+1:=zap (by omega) (by omega)
  have hlt':(i:Int)<T.length:=by omega
  have hti:(T.take i).length=i:=by rw[xca];omega
  have hti1:(T.take (i+1)).length=i+1:=by rw[xca];omega
  by_cases h0:i=0
  ·subst h0
   simp only[Nat.zero_mul]at hel
   have e10:IntKind.wrap .i64 1=1:=rfl
   refine⟨.normal,⟨0,[(2,.osl 2 0 1 1 none),(5,.imm (.slice C 0 T.length cap)),(6,zaa T.length),(7,zaa 1)],[.rich [.imm (.val (.int .u8 o.k)),zaq o.s,.imm o.l.iv,zaa o.room,zaa o.fn],.flat [.val (.int .i64 w)] false,.flat [.val (.int .i64 w)] false]⟩,?_,.inl ⟨rfl,n-1,by omega,1,by omega,?_⟩⟩
   ·simp only[zfz,zfy,hti,if_true]
    simp -implicitDefEqProofs [zlc,hlt,hel,hs,za0,za1,elems,e10]
   ·have hsr1:zby (T.take 1)=[.val (.int .i64 w)]:=by simpa [zby]using hsr
    simp -implicitDefEqProofs [zfz,zfy,hti1,hsr1]
  ·refine⟨.normal,⟨0,[(2,.osl 0 0 1 (i+1) none),(5,.imm (.slice C 0 T.length cap)),(6,zaa T.length),(7,zaa ((i:Int)+1))],[.flat (zby (T.take (i+1))) false,.rich [.imm (.val (.int .u8 o.k)),zaq o.s,.imm o.l.iv,zaa o.room,zaa o.fn],.flat [.val (.int .i64 w)] false]⟩,?_,.inl ⟨rfl,n-1,by omega,i+1,by omega,?_⟩⟩
   ·have hcut:cut (zby (T.take i)) 0 i=some (zby (T.take i)):=zda _ (by unfold zby;rw[xam,hti])
    have hle:(i+1)*8<=140737488355328:=by omega
    simp only[zfz,zfy,hti,h0,if_false]
    simp -implicitDefEqProofs [zlc,hlt',hel,hs,za0,za1,elems,hcut,hle,e1,hsr]
   ·simp -implicitDefEqProofs [zfz,zfy,hti1]
 ·have:i=T.length:=by omega
  subst this
  rw[xb0]
  refine⟨.exit 0,⟨0,[(2,zfz T.length),(5,.imm (.slice C 0 T.length cap)),(6,zaa T.length),(7,zaa T.length),(8,avb false)],zfy T⟩,?_,.inr ⟨by simp,rfl,rfl⟩⟩
  unfold zfz zfy
  by_cases h0:T.length=0
  ·simp -implicitDefEqProofs [zlc,h0]
  ·simp -implicitDefEqProofs [zlc,h0]
theorem zwr(h:code 642=some zlb)(h1:code 578=some zet){T:List Obj}{C:List IV}(cap:Option Nat)(hC:cut C 0 (T.length*5)=some (tObj.row T))(hn:T.length<=100000000):
  callW code ext 642 [.imm (.slice C 0 T.length cap)] []=some (zfz T.length,zfy T):=by
 obtain⟨e,s',l1,_,rfl,rfl⟩:=yge (ext:=ext) h1 cap hC hn ⟨0,[(2,zaf),(5,.imm (.slice C 0 T.length cap)),(6,zaa T.length),(7,zaa 0)],[]⟩ (by simp -implicitDefEqProofs)
 rw[zad code ext h]
 unfold zlb
 generalize zlc=L at *
 unfold zfz zfy at *
 by_cases h0:T.length=0
 ·simp only[h0,if_true,Int.natCast_zero]at *
  simp -implicitDefEqProofs [l1]
 ·simp only[h0,if_false]at *
  simp -implicitDefEqProofs [l1]
end
def zak(R:List IV)(p:Nat)(v:AV):List AV:=(R.map AV.imm).set p v
theorem z3f{p:Option (XExit×St)}{k:List Nat}{X:St}(h:p.map (fun q=>(q.1,q.2.tidy k))=some (.normal,X)):∃s',p=some (.normal,s')/\s'.tidy k=X:=by
 cases p with
 |none=>cases h
 |some q=>
  obtain⟨e,s'⟩:=q
  simp only[xal,xae,xax]at h
  obtain⟨rfl,h⟩:=h
  exact⟨s',rfl,h⟩
theorem zh2(R:List IV)(p:Nat)(v:AV):(zak R p v).length=R.length:=by simp[zak]
theorem zkw{R:List IV}{p q:Nat}{v:AV}{x:IV}(h:R[q]?=some x)(hq:q≠p):(zak R p v)[q]?=some (.imm x):=by
 unfold zak
 rw[xa0 (Ne.symm hq),xap,h];rfl
theorem zh1{R:List IV}{p:Nat}{v:AV}(h:p<R.length):(zak R p v)[p]?=some v:=by
 unfold zak
 rw[xbl (by simpa using h)]
theorem ye5{R:List IV}{p q:Nat}{v:AV}{x:IV}(hq:q≠p):(zak R p v).set q (.imm x)=zak (R.set q x) p v:=by
 unfold zak
 rw[List.set_comm _ _ (Ne.symm hq),List.map_set]
theorem zot{R:List IV}{p q:Nat}{v:AV}{x:IV}(hq:q≠p):setAll (zak R p v) q [.imm x]=zak (R.set q x) p v:=ye5 hq
theorem ziv(R:List IV)(p:Nat)(v:AV):setAll (R.map AV.imm) p [v]=zak R p v:=rfl
theorem ye4(R:List IV)(p:Nat)(v w:AV):(zak R p v).set p w=zak R p w:=by simp[zak]
theorem zok:∀(R:List IV),AV.refs.refsL (R.map AV.imm)=[]
 |[]=>rfl
 |x::r=>by simp[AV.refs.refsL,AV.refs,zok r]
theorem z2b:∀(R:List IV) (p:Nat) (v:AV),p<R.length->AV.refs.refsL ((R.map AV.imm).set p v)=v.refs
 |[],p,v,h=>absurd h (xcn p)
 |x::r,0,v,h=>by simp[AV.refs.refsL,zok]
 |x::r,p+1,v,h=>by
  have:=z2b r p v (by simpa using h)
  simp[AV.refs.refsL,AV.refs,this]
theorem zch{R:List IV}{p:Nat}{v:AV}(h:p<R.length):AV.refs.refsL (zak R p v)=v.refs:=z2b R p v h
theorem zc7(f:Nat->Option Nat)(R:List IV)(p:Nat)(v:AV):AV.ren.renL f (zak R p v)=zak R p (v.ren f):=by
 rw[zfk]
 unfold zak
 rw[List.map_set,xc3]
 congr 1
section
variable {code:Nat->Option zab} {ext:zac}
theorem zyu(h:code 743=some zfp){sv:IV}{S:List Obj}(hr:zao tObj sv S)(hn:S.length<=100000000):
  (sv=.val (.slice none 0 0)/\S=[]/\callW code ext 743 [.imm sv] []=some (zaf,[]))\/
  (zbs sv=false/\∃cp:Option Nat,(cp=none\/cp=some S.length)/\callW code ext 743 [.imm sv] []=some (.osl 0 0 5 S.length cp,[.flat (tObj.row S) false])):=by
 rcases hr.2.2 with⟨rfl,rfl⟩|⟨row,off,cap,rfl,hc,hcut⟩
 ·left
  refine⟨rfl,rfl,?_⟩
  rw[zad code ext h]
  simp -implicitDefEqProofs [zfp]
 ·right
  refine⟨rfl,?_⟩
  rw[zad code ext h]
  by_cases h0:S.length=0
  ·have hx:S=[]:=xav h0
   subst hx
   have hr0:tObj.row ([]:List Obj)=[]:=rfl
   have hc0:cut row off 0=some []:=by simp[cut]
   refine⟨some 0,.inr rfl,?_⟩
   rw[hr0]
   simp -implicitDefEqProofs [zfp,za0,za1,elems,hc0]
  ·have h2:S.length*64<=140737488355328:=by omega
   have hcut:cut row off (S.length*5)=some (tObj.row S):=hcut
   refine⟨none,.inl rfl,?_⟩
   simp -implicitDefEqProofs [zfp,za0,za1,elems,hcut,h0,h2]
theorem z6o(h:code 742=some zd0)(h2:code 740=some zeu)(l:Sl tVal)(hb:l.xs.length<=1000000000):
  (l.iv=.val (.slice none 0 0)/\l.xs=[]/\callW code ext 742 [.imm l.iv] []=some (zaf,[])/\callW code ext 740 [zaf] []=some (zaf,[])/\(zea l).iv=.val (.slice none 0 0))\/
  (zbs l.iv=false/\∃(cap:Option Nat),callW code ext 742 [.imm l.iv] []=some (.osl 0 0 2 l.xs.length cap,[.flat (tVal.row l.xs) false])/\callW code ext 740 [.osl 0 0 2 l.xs.length cap] [.flat (tVal.row l.xs) false]=some (.osl 0 0 2 l.xs.length (some l.xs.length),[.flat (tVal.row l.xs) false])/\(zea l).iv=.slice (tVal.row l.xs) 0 l.xs.length (some l.xs.length)):=by
 obtain⟨iv,xs,ok⟩:=l
 dsimp only at hb ⊢
 have hclip:∀cap:Option Nat,(cap=none\/cap=some xs.length)->callW code ext 740 [.osl 0 0 2 xs.length cap] [.flat (tVal.row xs) false]=some (.osl 0 0 2 xs.length (some xs.length),[.flat (tVal.row xs) false]):=by
  intro cap hcap
  rw[zad code ext h2]
  generalize tVal.row xs=R
  rcases hcap with rfl|rfl<;>simp -implicitDefEqProofs [zeu,zfd]
 rcases ok.2.2 with⟨rfl,rfl⟩|⟨row,off,cap,rfl,hc,hcut⟩
 ·exact .inl ⟨rfl,rfl,zys h,z6m h2,rfl⟩
 ·right
  refine⟨rfl,?_⟩
  have hr:zea ⟨.slice row off xs.length cap,xs,ok⟩=⟨.slice (tVal.row xs) 0 xs.length (some xs.length),xs,⟨ok.1,ok.2.1,.inr ⟨_,0,_,rfl,fun c h=>by cases h;exact xan _,zg6 tVal xs⟩⟩⟩:=by
   unfold zea
   rw[if_neg (by simp[zbs])]
  rw[hr]
  by_cases h0:xs.length=0
  ·have hx:xs=[]:=xav h0
   subst hx
   exact⟨_,zyr h row off cap,hclip _ (.inr rfl),rfl⟩
  ·exact⟨_,zyt h (R:=tVal.row xs) hcut (by omega) hb,hclip _ (.inl rfl),rfl⟩
end
def zhn:XCode:=
 (.seq (.region [3,8,9,10] [o0 10 (.bin .lss (.t 9) (.t 8))]) (.seq (.cond (.t 10) .skip (.exit 0)) (.seq (.block 1 (.seq (.region [3,4,8,9] [o3 11 9,o3 4 11]) (.region [3,8,9] [o3 12 3,o3 13 4,o3 14 3,o3 15 4,
 o0 16 (.idxA 5 (.t 14) (.t 15)),o5 17 2 16,o4 18 17,
 o0 19 (.call .own 742 [.t 18]),
 o0 20 (.call .whole 740 [.t 19]),
 o0 21 (.idxA 5 (.t 12) (.t 13)),o5 22 2 21,
 o2 (.store 1 (.t 22) (.t 20))]))) (.region [3,8,9] [o0 23 (.bin .add (.t 9) (.c (.int .i64 1))),o3 9 23]))))
def znd:zab:=
 ⟨[.whole,.tmp 2],(.seq (.region [0] [o0 2 (.mv (.c (.slice none 0 0)))]) (.seq (.region [3] [o3 5 0,
 o0 6 (.call .share 743 [.t 5]),o3 3 6]) (.seq (.seq (.region [3,8,9] [o3 7 3,o8 8 7,
 o0 9 (.mv (.c (.int .i64 0)))]) (.block 0 (.loop [1000000,3,8,9] zhn))) (.seq (.region [2] [o3 24 3,
 o0 25 (.call .whole 741 [.t 24]),o3 2 25]) .ret))))⟩
def clO(j:Nat)(o:Obj):RO:=⟨.imm (.val (.int .u8 o.k)),.imm (.val (.string o.s)),if zbs o.l.iv=true then zaf else .osl j 0 2 o.l.xs.length (some o.l.xs.length),zaa o.room,zaa o.fn⟩
def clL(o:Obj):Mem:=if zbs o.l.iv=true then[]else[.flat (tVal.row o.l.xs) false]
def clR:Nat->List Obj->List RO
 |_,[]=>[]
 |j,o::r=>clO j o::clR (j+(clL o).length) r
def clM(T:List Obj):Mem:=T.flatMap clL
def zjf(T:List Obj):List AV:=(tObj.row T).map .imm
theorem znw:∀(S:List Obj) (j:Nat),(clR j S).length=S.length
 |[],j=>rfl
 |o::r,j=>by simp[clR,znw r]
theorem zyg(S:List Obj)(o:Obj):clM (S++[o])=clM S++clL o:=by simp[clM]
theorem zug:∀(S:List Obj) (j:Nat) (o:Obj),clR j (S++[o])=clR j S++[clO (j+(clM S).length) o]
 |[],j,o=>by simp[clR,clM]
 |g::r,j,o=>by
  have:j+(clL g).length+(clM r).length=j+(clM (g::r)).length:=by simp[clM];omega
  simp only[xby,clR,zug r,this]
theorem z8u(o:Obj)(r:List Obj):zjf (o::r)=[.imm (.val (.int .u8 o.k)),.imm (.val (.string o.s)),.imm o.l.iv,zaa o.room,zaa o.fn]++zjf r:=rfl
theorem z2g{M:Mem}{id off:Nat}{o:AObj}{cells:List AV}(hM:M[id]?=some o)(h:za3 cells o):loadAt M none (.optr id off)=cells[off]?:=by
 rcases h with rfl|⟨cs,rfl,rfl⟩
 ·simp only[loadAt,hM,zd4]
 ·simp only[loadAt,hM,zf8,xap]
section
variable {code:Nat->Option zab} {ext:zac}
theorem zyo(h2:code 740=some zeu)(M:Mem)(id n:Nat){cap:Option Nat}(hc:cap=none\/cap=some n):callW code ext 740 [.osl id 0 2 n cap] M=some (.osl id 0 2 n (some n),M):=by
 rw[zad code ext h2]
 rcases hc with rfl|rfl<;>simp -implicitDefEqProofs [zeu,zfd]
theorem zyp(h2:code 740=some zeu)(M:Mem):callW code ext 740 [zaf] M=some (zaf,M):=by
 rw[zad code ext h2]
 simp -implicitDefEqProofs [zeu,zfd]
theorem zuj(h2:code 741=some zgl)(M:Mem)(id n:Nat){cap:Option Nat}(hc:cap=none\/cap=some n):callW code ext 741 [.osl id 0 5 n cap] M=some (.osl id 0 5 n (some n),M):=by
 rw[zad code ext h2]
 rcases hc with rfl|rfl<;>simp -implicitDefEqProofs [zgl,zfd]
theorem zyq(h:code 742=some zd0)(l:Sl tVal)(hb:l.xs.length<=1000000000):
  (zbs l.iv=true/\callW code ext 742 [.imm l.iv] []=some (zaf,[]))\/
  (zbs l.iv=false/\∃cap:Option Nat,(cap=none\/cap=some l.xs.length)/\callW code ext 742 [.imm l.iv] []=some (.osl 0 0 2 l.xs.length cap,[.flat (tVal.row l.xs) false])):=by
 obtain⟨iv,xs,ok⟩:=l
 dsimp only at hb ⊢
 rcases ok.2.2 with⟨rfl,rfl⟩|⟨row,off,cap,rfl,hc,hcut⟩
 ·exact .inl ⟨rfl,zys h⟩
 ·right
  refine⟨rfl,?_⟩
  by_cases h0:xs.length=0
  ·have hx:xs=[]:=xav h0
   subst hx
   exact⟨_,.inr rfl,zyr h row off cap⟩
  ·exact⟨_,.inl rfl,zyt h (R:=tVal.row xs) hcut (by omega) hb⟩
theorem z3x(h:code 742=some zd0)(h2:code 740=some zeu){T:List Obj}(hT:∀o∈T,o.l.xs.length<=1000000)(hn:T.length<=100000000){K:Nat}{Pm:Mem}{cap:Option Nat}{o0:AObj}(ho0:za3 (zjf T) o0){s:St}
  (hst:s.tidy [1000000,3,8,9]=⟨K,[(1000000,.junk),(3,.osl Pm.length 0 5 T.length cap),(8,zaa T.length),(9,zaa 0)],Pm++[o0]⟩):
  ∃e s',den code ext (.loop [1000000,3,8,9] zhn) s=some (e,s')/\e≠ .normal/\
   (e=.exit 0/\∃o,za3 (zay (clR (Pm.length+1) T)) o/\s'=⟨K,[(3,.osl Pm.length 0 5 T.length cap),(8,zaa T.length),(9,zaa T.length),(10,avb false)],Pm++o::clM T⟩):=by
 refine zb1 (fun m s=>∃(i:Nat) (o:AObj),i+m=T.length/\za3 (zay (clR (Pm.length+1) (T.take i))++zjf (T.drop i)) o/\s.tidy [1000000,3,8,9]=⟨K,[(1000000,.junk),(3,.osl Pm.length 0 5 T.length cap),(8,zaa T.length),(9,zaa (i:Nat))],Pm++o::clM (T.take i)⟩) _ ?_ T.length _
  ⟨0,o0,by simp,by simpa [clR,zay]using ho0,by simpa [clM]using hst⟩
 clear hst
 rintro m s ⟨i,o,hi,ho,hst⟩
 rw[hst]
 by_cases hlt:i<T.length
 ·have hx:=xab hlt
  have hb:=hT _ (xa7 hlt)
  have e1:IntKind.wrap .i64 ((i:Int)+1)=(i:Int)+1:=zap (by omega) (by omega)
  have hlt':(i:Int)<T.length:=by omega
  have htk:T.take (i+1)=T.take i++[T[i]]:=by rw[xbk,hx];rfl
  have hdr:T.drop i=T[i]::T.drop (i+1):=xb2 hlt
  have hcc:=zyq (ext:=ext) h T[i].l (by omega)
  have hcl:(zay (clR (Pm.length+1) (T.take i))).length=i*5:=by rw[zh3,znw,xca];omega
  rw[hdr,z8u]at ho
  have hR2:zay (clR (Pm.length+1) (T.take (i+1)))=zay (clR (Pm.length+1) (T.take i))++(clO (Pm.length+1+(clM (T.take i)).length) T[i]).cells:=by rw[htk,zug,zwd]
  have hM2:clM (T.take (i+1))=clM (T.take i)++clL T[i]:=by rw[htk,zyg]
  generalize T[i]=w at *
  generalize zay (clR (Pm.length+1) (T.take i))=A at *
  generalize clM (T.take i)=C at *
  have hMq:(Pm++o::C)[Pm.length]?=some o:=by simp
  have hld:loadAt (Pm++o::C) none (.optr Pm.length (i*5+2))=some (.imm w.l.iv):=by
   rw[z2g hMq ho,xah (by omega),hcl,xbn];rfl
  have hset:∀v,setAll (A++([.imm (.val (.int .u8 w.k)),.imm (.val (.string w.s)),.imm w.l.iv,zaa w.room,zaa w.fn]++zjf (T.drop (i+1)))) (i*5+2) [v]=A++([.imm (.val (.int .u8 w.k)),.imm (.val (.string w.s)),v,zaa w.room,zaa w.fn]++zjf (T.drop (i+1))):=by
   intro v
   simp only[setAll]
   rw[xbs _ _ (by omega),hcl,xbn];rfl
  have hfit:∀v:AV,i*5+2+[v].length<=(A++([.imm (.val (.int .u8 w.k)),.imm (.val (.string w.s)),.imm w.l.iv,zaa w.room,zaa w.fn]++zjf (T.drop (i+1)))).length:=by
   intro v;simp[hcl];omega
  have hlen:(Pm++o::C).length=Pm.length+1+C.length:=by simp;omega
  rcases hcc with⟨hz,c1⟩|⟨hz,cp,hcp,c1⟩
  ·obtain⟨o',hr',hs'⟩:=zov (vs:=[zaf]) hMq ho (hfit _)
   rw[hset]at hr'
   have hs2:(Pm++o::C).set Pm.length o'=Pm++o'::C:=by rw[xbs _ _ (xan _)];simp
   rw[hs2]at hs'
   have c2:=zyp (ext:=ext) h2 (Pm++o::C)
   have hmo:=ziw ho
   refine⟨.normal,⟨K,[(3,.osl Pm.length 0 5 T.length cap),(8,zaa T.length),(9,zaa ((i:Int)+1))],Pm++o'::C⟩,?_,.inl ⟨rfl,m-1,by omega,i+1,o',by omega,?_,?_⟩⟩
   ·generalize Pm++o::C=N at *
    generalize Pm.length=q at *
    simp -implicitDefEqProofs [zhn,hlt',hld,-loadAt,c1,c2,hMq,hmo,-AObj.moved,hs',-storeAt,e1]
   ·rw[hR2]
    unfold clO RO.cells
    rw[if_pos hz]
    rw[xbj]
    exact hr'
   ·rw[hM2]
    simp -implicitDefEqProofs [clL,hz]
  ·have hMq2:((Pm++o::C)++[.flat (tVal.row w.l.xs) false])[Pm.length]?=some o:=by rw[xac (by simp)];exact hMq
   obtain⟨o',hr',hs'⟩:=zov (vs:=[.osl (Pm++o::C).length 0 2 w.l.xs.length (some w.l.xs.length)]) hMq2 ho (hfit _)
   rw[hset]at hr'
   have hs2:((Pm++o::C)++[AObj.flat (tVal.row w.l.xs) false]).set Pm.length o'=Pm++o'::(C++[.flat (tVal.row w.l.xs) false]):=by
    rw[xbj,xby,xbs _ _ (xan _)];simp
   rw[hs2]at hs'
   have c2:=zyo (ext:=ext) h2 ((Pm++o::C)++[.flat (tVal.row w.l.xs) false]) (Pm++o::C).length w.l.xs.length hcp
   have hmo:=ziw ho
   have hmf:(AObj.flat (tVal.row w.l.xs) false).moved=false:=rfl
   have hgl:((Pm++o::C)++[AObj.flat (tVal.row w.l.xs) false])[(Pm++o::C).length]?=some (.flat (tVal.row w.l.xs) false):=zfe _ _
   refine⟨.normal,⟨K,[(3,.osl Pm.length 0 5 T.length cap),(8,zaa T.length),(9,zaa ((i:Int)+1))],Pm++o'::(C++[.flat (tVal.row w.l.xs) false])⟩,?_,.inl ⟨rfl,m-1,by omega,i+1,o',by omega,?_,?_⟩⟩
   ·generalize Pm++o::C=N at *
    generalize Pm.length=q at *
    simp -implicitDefEqProofs [zhn,hlt',hld,-loadAt,c1,c2,hMq2,hmo,hmf,-AObj.moved,hs',-storeAt,e1]
   ·rw[hR2]
    unfold clO RO.cells
    rw[if_neg (by rw[hz];decide),xbj,<-hlen]
    exact hr'
   ·rw[hM2]
    simp -implicitDefEqProofs [clL,hz]
 ·have:i=T.length:=by omega
  subst this
  rw[xb0,List.drop_length]at ho
  rw[xb0]
  refine⟨.exit 0,⟨K,[(3,.osl Pm.length 0 5 T.length cap),(8,zaa T.length),(9,zaa T.length),(10,avb false)],Pm++o::clM T⟩,?_,.inr ⟨by simp,rfl,o,by simpa [zjf,Ty.row]using ho,rfl⟩⟩
  simp -implicitDefEqProofs [zhn]
end
structure zp4 (code:Nat->Option zab):Prop where
 c643:code 643=some znd
 c740:code 740=some zeu
 c741:code 741=some zgl
 c742:code 742=some zd0
 c743:code 743=some zfp
section
variable {code:Nat->Option zab} {ext:zac}
theorem yg6(c:zp4 code){T:List Obj}(hT:∀o∈T,o.l.xs.length<=1000000)(hn:T.length<=100000000)(cap:Option Nat):
  ∃o,za3 (zay (clR 2 T)) o/\callW code ext 643 [.osl 0 0 5 T.length cap] [.flat (tObj.row T) false]=some (.osl 1 0 5 T.length (some T.length),.flat (tObj.row T) false::o::clM T):=by
 have h1:=z6q (ext:=ext) c.c743 hn false cap (zg6 tObj T)
 obtain⟨cp,hcp,hcp2⟩:∃cp:Option Nat,(if T.length=0 then some 0 else none)=cp/\(cp=none\/cp=some T.length):=by
  by_cases h0:T.length=0
  ·exact⟨some 0,if_pos h0,.inr (by rw[h0])⟩
  ·exact⟨none,if_neg h0,.inl rfl⟩
 rw[hcp]at h1
 obtain⟨e,s',h2,_,rfl,o,hr,rfl⟩:=z3x (ext:=ext) c.c742 c.c740 hT hn (K:=1) (Pm:=[.flat (tObj.row T) false]) (cap:=cp) (o0:=.flat (tObj.row T) false) (.inr ⟨_,rfl,rfl⟩)
  (s:=⟨1,[(3,.osl 1 0 5 T.length cp),(8,zaa T.length),(9,zaa 0)],[.flat (tObj.row T) false,.flat (tObj.row T) false]⟩) (by simp -implicitDefEqProofs [])
 refine⟨o,hr,?_⟩
 have h3:=zuj (ext:=ext) c.c741 ([.flat (tObj.row T) false]++o::clM T) 1 T.length hcp2
 have hmo:=ziw hr
 rw[zad code ext c.c643]
 simp only[xat,xa4,xau,xby,xbg]at h2 h3
 generalize tObj.row T=R at *
 generalize clM T=C at *
 generalize T.length=N at *
 have hmf:(AObj.flat R false).moved=false:=rfl
 simp -implicitDefEqProofs [znd,h1,h2,h3,hmo,hmf,-AObj.moved]
theorem yg7(c:zp4 code){sv:IV}{S:List Obj}(hrd:zao tObj sv S)(hT:∀o∈S,o.l.xs.length<=1000000)(hn:S.length<=100000000):
  (sv=.val (.slice none 0 0)/\S=[]/\callW code ext 643 [.imm sv] []=some (zaf,[]))\/
  (zbs sv=false/\∃o,za3 (zay (clR 1 S)) o/\callW code ext 643 [.imm sv] []=some (.osl 0 0 5 S.length (some S.length),o::clM S)):=by
 rcases zyu (ext:=ext) c.c743 hrd hn with⟨rfl,rfl,h1⟩|⟨hz,cp,hcp,h1⟩
 ·refine .inl ⟨rfl,rfl,?_⟩
  have h4:callW code ext 741 [zaf] []=some (zaf,[]):=by
   rw[zad code ext c.c741]
   simp -implicitDefEqProofs [zgl,zfd]
  have h2:den code ext (.loop [1000000,3,8,9] zhn) ⟨0,[(3,zaf),(8,zaa 0),(9,zaa 0)],[]⟩=some (.exit 0,⟨0,[(3,zaf),(8,zaa 0),(9,zaa 0),(10,avb false)],[]⟩):=by
   rw[zfc]
   simp -implicitDefEqProofs [zhn]
  rw[zad code ext c.c643]
  simp -implicitDefEqProofs [znd,h1,h2,h4]
 ·refine .inr ⟨hz,?_⟩
  obtain⟨e,s',h2,_,rfl,o,hr,rfl⟩:=z3x (ext:=ext) c.c742 c.c740 hT hn (K:=0) (Pm:=[]) (cap:=cp) (o0:=.flat (tObj.row S) false) (.inr ⟨_,rfl,rfl⟩)
   (s:=⟨0,[(3,.osl 0 0 5 S.length cp),(8,zaa S.length),(9,zaa 0)],[.flat (tObj.row S) false]⟩) (by simp -implicitDefEqProofs [])
  refine⟨o,hr,?_⟩
  have h3:=zuj (ext:=ext) c.c741 (o::clM S) 0 S.length hcp
  have hmo:=ziw hr
  rw[zad code ext c.c643]
  simp only[xa4,xbg]at h2 h3
  generalize tObj.row S=R at *
  generalize clM S=C at *
  generalize S.length=N at *
  simp -implicitDefEqProofs [znd,h1,h2,h3,hmo,-AObj.moved]
end
def XM(b:Nat)(T:List Obj)(X:Mem):Prop:=∃ob,X=ob::clM T/\za3 (zay (clR (b+1) T)) ob
theorem z6i{o:Obj}:∀a∈clL o,∃cs,a=.flat cs false:=by
 intro a ha
 unfold clL at ha
 split at ha
 ·simp at ha
 ·simp at ha;exact⟨_,ha⟩
theorem zuf{T:List Obj}:∀a∈clM T,∃cs,a=.flat cs false:=by
 intro a ha
 obtain⟨o,_,ha⟩:=xa8.1 ha
 exact z6i a ha
theorem zuh:∀(T:List Obj) (j:Nat),AV.refs.refsL (zay (clR j T))=List.range' j (clM T).length
 |[],j=>rfl
 |o::r,j=>by
  have h:zay (clR j (o::r))=(clO j o).cells++zay (clR (j+(clL o).length) r):=rfl
  rw[h,zkt,zuh r]
  have hm:clM (o::r)=clL o++clM r:=by simp[clM]
  rw[hm,xao,<-List.range'_append_1]
  congr 1
  unfold clO clL RO.cells
  split
  ·rfl
  ·rfl
theorem zyl{f:Nat->Option Nat}:∀(T:List Obj) (j j':Nat),(∀i,i<(clM T).length->f (j+i)=some (j'+i))->AV.ren.renL f (zay (clR j T))=zay (clR j' T)
 |[],j,j',_=>rfl
 |o::r,j,j',h=>by
  have hm:clM (o::r)=clL o++clM r:=by simp[clM]
  rw[hm,xao]at h
  have h1:∀j,zay (clR j (o::r))=(clO j o).cells++zay (clR (j+(clL o).length) r):=fun _=>rfl
  have h2:=zyl (f:=f) r (j+(clL o).length) (j'+(clL o).length) fun i hi=>by
   have:=h ((clL o).length+i) (by omega)
   rw[xb5,this,xb5]
  rw[h1,h1,zfk,xcu,<-zfk,<-zfk,h2]
  congr 1
  unfold clO RO.cells
  split
  ·rfl
  ·rename_i hz
   have h0:=h 0 (by
    unfold clL
    rw[if_neg hz];simp;omega)
   simp only[xbf]at h0
   simp only[AV.ren.renL,AV.ren,h0]
theorem z2h{f:Nat->Option Nat}{cells:List AV}{o:AObj}(h:za3 cells o):za3 (AV.ren.renL f cells) (o.ren f):=by
 rcases h with rfl|⟨cs,rfl,rfl⟩
 ·exact .inl rfl
 ·refine .inr ⟨cs,rfl,?_⟩
  rw[zfk,xc3]
  rfl
theorem z6k(f:Nat->Option Nat)(T:List Obj):(clM T).map (AObj.ren f)=clM T:=by
 have:∀l:Mem,(∀a∈l,∃cs,a=.flat cs false)->l.map (AObj.ren f)=l:=by
  intro l hl
  induction l with
  |nil=>rfl
  |cons a l ih=>
   obtain⟨cs,rfl⟩:=hl a (xbe ..)
   rw[xa1,ih fun b hb=>hl b (xa5 _ hb)]
   rfl
 exact this _ zuf
theorem zj5{b:Nat}{T:List Obj}{X:Mem}(h:XM b T X):X.length=(clM T).length+1:=by
 obtain⟨ob,rfl,_⟩:=h;simp
theorem zng{f:Nat->Option Nat}{b b':Nat}{T:List Obj}{X:Mem}(h:XM b T X)(hf:∀i,i<X.length->f (b+i)=some (b'+i)):XM b' T (X.map (AObj.ren f)):=by
 have hl:=zj5 h
 obtain⟨ob,rfl,hr⟩:=h
 refine⟨ob.ren f,by rw[xa1,z6k],?_⟩
 have:=z2h (f:=f) hr
 rw[zyl T (b+1) (b'+1) fun i hi=>by
  have:=hf (1+i) (by omega)
  rw[<-Nat.add_assoc,<-Nat.add_assoc]at this
  exact this]at this
 exact this
theorem znf{b:Nat}{T:List Obj}{X:Mem}(h:XM b T X):∀o∈X,∀r∈o.refs,b<r/\r<b+X.length:=by
 have hl:=zj5 h
 obtain⟨ob,rfl,hr⟩:=h
 intro o ho r hrr
 rcases xbt.1 ho with rfl|ho
 ·rw[zou hr,zuh]at hrr
  rw[xcq]at hrr
  omega
 ·obtain⟨cs,rfl⟩:=zuf o ho
  simp[AObj.refs]at hrr
theorem z6j(T:List Obj):(clM T).length<=T.length:=by
 induction T with
 |nil=>simp[clM]
 |cons o r ih=>
  have hm:clM (o::r)=clL o++clM r:=by simp[clM]
  rw[hm,xao,xat]
  have:(clL o).length<=1:=by unfold clL;split<;>simp
  omega
theorem z4l{b k:Nat}{P:Mem}{T:List Obj}{X:Mem}(h:XM b T X)(hP:P.length=b)(hk:k<=b)(hr:Mem.refs (P.take k)=[])(hT:T.length<=10000000):order k [b] (P++X)=List.range k++List.range' b X.length:=by
 have hl:=zj5 h
 have hle:=z6j T
 obtain⟨ob,rfl,hro⟩:=h
 have htk:(P++ob::clM T).take k=P.take k:=by rw[List.take_append_of_le_length (by omega)]
 unfold order
 rw[htk,hr,xay]
 rw[show(1000000000000:Nat)=999999999999+1 from rfl,reach]
 have hbl:b<(P++ob::clM T).length:=by simp;omega
 have hgb:(P++ob::clM T)[b]?=some ob:=by rw[xah (by omega),hP,Nat.sub_self];rfl
 rw[if_neg (by simp;omega),if_pos hbl,hgb,xa2,zou hro,zuh,xbg]
 rw[zv8]
 ·rw[xbj,hl,List.range'_succ];rfl
 ·simp;omega
 ·intro t ht
  rw[xcq]at ht
  refine⟨by simp;omega,?_,by simp;omega⟩
  rw[xah (by omega),hP]
  have:t-b=(t-b-1)+1:=by omega
  rw[this,xbb]
  have hlt:t-b-1<(clM T).length:=by omega
  rw[xab hlt,xa2]
  obtain⟨cs,e⟩:=zuf _ (xa7 hlt)
  rw[e];rfl
 ·exact List.nodup_range'
theorem zv5{k b n i:Nat}(hk:k<=b)(hi:i<n):place (List.range k++List.range' b n) (b+i)=some (k+i):=by
 refine zhe _ _ _ ?_ ?_
 ·rw[xc1]
  refine⟨List.nodup_range,List.nodup_range',?_⟩
  intro a ha c hc
  rw[xa6]at ha
  rw[xcq]at hc
  omega
 ·rw[xah (by simp),List.length_range,xbn,List.getElem?_range' hi];simp
theorem z4m{b k:Nat}{P:Mem}{T:List Obj}{X:Mem}(h:XM b T X)(hP:P.length=b)(hk:k<=b)(hr:∀o∈P.take k,o.refs=[]):
  ∃X',Mem.pickAll (P++X) (List.range k++List.range' b X.length)=P.take k++X'/\XM k T X':=by
 refine⟨X.map (AObj.ren (place (List.range k++List.range' b X.length))),?_,zng h fun i hi=>zv5 hk hi⟩
 unfold Mem.pickAll
 rw[xcu]
 congr 1
 ·refine xbh fun j=>?_
  by_cases hj:j<k
  ·rw[xap,xbx hj,xal,xcd,if_pos hj,xac (by omega)]
   have hg:=xab (show j<P.length by omega)
   rw[hg,xa2,zhd fun id hid=>?_]
   have:=hr P[j] (xag (i:=j) (by rw[xcd,if_pos hj];exact hg))
   rw[this]at hid
   simp at hid
  ·rw[xaq (by simp;omega),xaq (by simp;omega)]
 ·refine xbh fun j=>?_
  by_cases hj:j<X.length
  ·rw[xap,List.getElem?_range' hj,xal,xap,xah (by omega)]
   have:b+1*j-P.length=j:=by omega
   rw[this,xab hj]
   rfl
  ·rw[xaq (by simp;omega),xaq (by simp;omega)]
def zdy(T:List Obj)(idx:Nat)(b:Bool)(R:List IV):Mem:=match T[idx]? with
 |some o=>if b=true/\zbs o.l.iv=false then[.rich (zak R (idx*5+2) (.osl 1 0 2 o.l.xs.length (some o.l.xs.length))),.flat (tVal.row o.l.xs) false]else[.flat R false]
 |none=>[.flat R false]
section
variable {code:Nat->Option zab} {ext:zac}
set_option maxHeartbeats 4000000 in
theorem yg5 (h:code 742=some zd0) (h2:code 740=some zeu) {T:List Obj} (hT:∀o∈T,o.l.xs.length<=1000000) (hn:T.length<=100000000) (idx:Nat) (cp:Option Nat) {i:Nat} (hlt:i<T.length):
  ∃s',den code ext (zf4 (idx*5+2)) ⟨0,[(3,.osl 0 0 5 T.length cp),(8,zaa T.length),(9,zaa i)],zdy T idx (decide (idx<i)) (tObj.row ((T.take i).map zae++T.drop i))⟩=some (.normal,s')/\
   s'.tidy [3,8,9]=⟨0,[(3,.osl 0 0 5 T.length cp),(8,zaa T.length),(9,zaa ((i:Int)+1))],zdy T idx (decide (idx<i+1)) (tObj.row ((T.take (i+1)).map zae++T.drop (i+1)))⟩:=by
 have hx:=xab hlt
 have hmem:=xa7 hlt
 have hb:=hT _ hmem
 have hti:((T.take i).map zae).length=i:=by rw[xam,xca];omega
 have hgo:((T.take i).map zae++T.drop i)[i]?=some T[i]:=by
  rw[xah (by omega),hti,Nat.sub_self,xbp,xbf];exact hx
 have hset:=zq8 _ i _ (zea T[i].l) hgo
 have hcell:=zai (zdc (t:=tObj) hgo) 2 (by decide)
 have hnew:((T.take i).map zae++T.drop i).set i { T[i]with l:=zea T[i].l }=(T.take (i+1)).map zae++T.drop (i+1):=by
  rw[xb2 hlt,xbs _ _ (by omega),hti,Nat.sub_self,List.set_cons_zero,xbk,hx,Option.toList_some,xcu,xbj]
  rfl
 rw[hnew]at hset
 have hlen:((T.take i).map zae++T.drop i).length=T.length:=by rw[xao,hti,List.length_drop];omega
 have hrl:=zbg tObj ((T.take i).map zae++T.drop i)
 rw[hlen]at hrl
 have hcc:=z6o (ext:=ext) h h2 T[i].l (by omega)
 have e1:IntKind.wrap .i64 ((i:Int)+1)=(i:Int)+1:=zap (by omega) (by omega)
 have hlt':(i:Int)<T.length:=by omega
 have hcl:(tObj.row ((T.take i).map zae++T.drop i))[i*5+2]?=some T[i].l.iv:=hcell
 generalize tObj.row ((T.take i).map zae++T.drop i)=R at *
 generalize tObj.row ((T.take (i+1)).map zae++T.drop (i+1))=R' at *
 have hR:i*5+2+1<=R.length:=by rw[hrl];simp only[tObj];omega
 have hR1:i*5+2<R.length:=by omega
 have hsa:setAll R (i*5+2) [(zea T[i].l).iv]=R':=hset
 have p1:=zc7
 refine z3f ?_
 by_cases hidx:i=idx
 ·
  subst hidx
  have d1:decide (i<i)=false:=by simp
  have d2:decide (i<i+1)=true:=by simp
  rw[d1,d2]
  unfold zdy
  rw[hx]
  simp only[xar,false_and,if_false,true_and]
  generalize T[i]=o at *
  rcases hcc with⟨c0,cx,c1,c2,c3⟩|⟨c0,cap,c1,c2,c3⟩
  ·have hn0:¬zbs o.l.iv=false:=by rw[c0];simp[zbs]
   rw[if_neg hn0]
   rw[c3]at hsa
   rw[c0]at c1 hcl
   simp -implicitDefEqProofs [zf4,zd3,zax,hlt',hcl,c1,c2,e1,hR,hsa]
  ·rw[if_pos c0]
   have hmk:=ziv R (i*5+2)
   have hrr:zak R (i*5+2) (.osl 1 0 2 o.l.xs.length (some o.l.xs.length))=zak R' (i*5+2) (.osl 1 0 2 o.l.xs.length (some o.l.xs.length)):=by
    rw[<-hset]
    unfold zak
    rw[List.map_set,List.set_set]
   have hrf:=zch (R:=R) (p:=i*5+2) (v:=.osl 1 0 2 o.l.xs.length (some o.l.xs.length)) hR1
   rw[<-hrr]
   generalize tVal.row o.l.xs=W at *
   generalize o.l.xs.length=n at *
   simp -implicitDefEqProofs [zf4,zd3,zax,hlt',hcl,c1,c2,e1,hR,hmk,hrf,p1]
 ·have hoff:¬i*5+2=idx*5+2:=by omega
  have hoff2:¬i*5=idx*5:=by omega
  by_cases hi:idx<i
  ·
   have d1:decide (idx<i)=true:=by simpa using hi
   have d2:decide (idx<i+1)=true:=by simp;omega
   rw[d1,d2]
   unfold zdy
   have hxi:T[idx]?=some T[idx]:=xab (by omega)
   rw[hxi]
   have hpR:idx*5+2<R.length:=by omega
   have hpR':idx*5+2<R'.length:=by rw[<-hset,xaw];omega
   generalize T[idx]=q at *
   by_cases hq:zbs q.l.iv=false
   ·simp only[hq,and_self,if_true]
    have hrf:=zch (R:=R') (p:=idx*5+2) (v:=.osl 1 0 2 q.l.xs.length (some q.l.xs.length)) hpR'
    have hgt:=zkw (v:=.osl 1 0 2 q.l.xs.length (some q.l.xs.length)) hcl hoff
    have hrs:=zot (R:=R) (p:=idx*5+2) (q:=i*5+2) (v:=.osl 1 0 2 q.l.xs.length (some q.l.xs.length)) (x:=(zea T[i].l).iv) hoff
    have hset':R.set (i*5+2) (zea T[i].l).iv=R':=hset
    rw[hset']at hrs
    have hll:=zh2 R (idx*5+2) (.osl 1 0 2 q.l.xs.length (some q.l.xs.length))
    generalize T[i]=o at *
    generalize tVal.row q.l.xs=W at *
    generalize q.l.xs.length=n at *
    rcases hcc with⟨c0,cx,c1,c2,c3⟩|⟨c0,cap,c1,c2,c3⟩
    ·rw[c3]at hrs
     rw[c0]at c1 hcl hgt
     simp -implicitDefEqProofs [zf4,zd3,zax,hlt',hgt,c1,c2,e1,hR,hrs,hrf,hll,p1]
    ·rw[c3]at hrs
     generalize tVal.row o.l.xs=W2 at *
     generalize o.l.xs.length=n2 at *
     simp -implicitDefEqProofs [zf4,zd3,zax,hlt',hgt,c1,c2,e1,hR,hrs,hrf,hll,hoff2,p1]
   ·simp only[hq]
    generalize T[i]=o at *
    rcases hcc with⟨c0,cx,c1,c2,c3⟩|⟨c0,cap,c1,c2,c3⟩
    ·rw[c3]at hsa
     rw[c0]at c1 hcl
     simp -implicitDefEqProofs [zf4,zd3,zax,hlt',hcl,c1,c2,e1,hR,hsa]
    ·rw[c3]at hsa
     generalize tVal.row o.l.xs=W2 at *
     generalize o.l.xs.length=n2 at *
     simp -implicitDefEqProofs [zf4,zd3,zax,hlt',hcl,c1,c2,e1,hR,hsa,hoff2]
  ·have d1:decide (idx<i)=false:=by simpa using hi
   have d2:decide (idx<i+1)=false:=by simp;omega
   rw[d1,d2]
   have hf:∀Q:List IV,zdy T idx false Q=[.flat Q false]:=fun Q=>by
    unfold zdy
    cases T[idx]? with
    |none=>rfl
    |some o=>simp
   rw[hf,hf]
   generalize T[i]=o at *
   rcases hcc with⟨c0,cx,c1,c2,c3⟩|⟨c0,cap,c1,c2,c3⟩
   ·rw[c3]at hsa
    rw[c0]at c1 hcl
    simp -implicitDefEqProofs [zf4,zd3,zax,hlt',hcl,c1,c2,e1,hR,hsa]
   ·rw[c3]at hsa
    generalize tVal.row o.l.xs=W2 at *
    generalize o.l.xs.length=n2 at *
    simp -implicitDefEqProofs [zf4,zd3,zax,hlt',hcl,c1,c2,e1,hR,hsa,hoff2]
end
section
variable {code:Nat->Option zab} {ext:zac}
theorem yg3(h:code 742=some zd0)(h2:code 740=some zeu){T:List Obj}(hT:∀o∈T,o.l.xs.length<=1000000)(hn:T.length<=100000000)(idx:Nat)(cp:Option Nat)(s0:St)
  (hs0:s0.tidy [3,8,9]=⟨0,[(3,.osl 0 0 5 T.length cp),(8,zaa T.length),(9,zaa 0)],[.flat (tObj.row T) false]⟩):
  ∃e s',den code ext (.loop [3,8,9] (zf4 (idx*5+2))) s0=some (e,s')/\e≠ .normal/\(e=.exit 0/\s'=⟨0,[(3,.osl 0 0 5 T.length cp),(8,zaa T.length),(9,zaa T.length),(10,avb false)],zdy T idx (decide (idx<T.length)) (tObj.row (T.map zae))⟩):=by
 have h0:zdy T idx (decide (idx<0)) (tObj.row ((T.take 0).map zae++T.drop 0))=[.flat (tObj.row T) false]:=by
  unfold zdy
  cases T[idx]? with
  |none=>rfl
  |some o=>simp
 refine zb1 (fun n s=>∃i,i+n=T.length/\s.tidy [3,8,9]=⟨0,[(3,.osl 0 0 5 T.length cp),(8,zaa T.length),(9,zaa (i:Nat))],zdy T idx (decide (idx<i)) (tObj.row ((T.take i).map zae++T.drop i))⟩) _ ?_ T.length _ ⟨0,by simp,by rw[h0];exact hs0⟩
 rintro n s ⟨i,hi,hst⟩
 rw[hst]
 by_cases hlt:i<T.length
 ·obtain⟨s',g1,g2⟩:=yg5 (ext:=ext) h h2 hT hn idx cp hlt
  exact⟨.normal,s',g1,.inl ⟨rfl,n-1,by omega,i+1,by omega,by rw[g2,Int.natCast_add];rfl⟩⟩
 ·have:i=T.length:=by omega
  subst this
  rw[xb0,List.drop_length,xay]
  refine⟨.exit 0,_,?_,.inr ⟨by simp,rfl,rfl⟩⟩
  generalize zdy T idx (decide (idx<T.length)) (tObj.row (T.map zae))=M
  simp -implicitDefEqProofs [zf4]
theorem z6l(h:code 741=some zgl)(n:Nat)(cp:Option Nat)(hc:cp=none\/cp=some n)(T:List Obj)(idx:Nat)(b:Bool)(R:List IV)(hp:∀o,T[idx]?=some o->idx*5+2<R.length):
  callW code ext 741 [.osl 0 0 5 n cp] (zdy T idx b R)=some (.osl 0 0 5 n (some n),zdy T idx b R):=by
 have p1:=zc7
 rw[zad code ext h]
 unfold zdy
 split
 ·rename_i o ho
  have hrf:=zch (R:=R) (p:=idx*5+2) (v:=.osl 1 0 2 o.l.xs.length (some o.l.xs.length)) (hp o ho)
  split
  ·generalize tVal.row o.l.xs=W at *
   generalize o.l.xs.length=n2 at *
   rcases hc with rfl|rfl<;>simp -implicitDefEqProofs [zgl,zfd]
  ·rcases hc with rfl|rfl<;>simp -implicitDefEqProofs [zgl,zfd]
 ·rcases hc with rfl|rfl<;>simp -implicitDefEqProofs [zgl,zfd]
structure TwinCode (code:Nat->Option zab) (idx:Nat):Prop where
 c643:code 643=some (ztf (idx*5+2))
 c740:code 740=some zeu
 c741:code 741=some zgl
 c742:code 742=some zd0
 c743:code 743=some zfp
theorem yg4{idx:Nat}(c:TwinCode code idx):callW code ext 643 [zaf] []=some (zaf,[]):=by
 have g1:callW code ext 743 [zaf] []=some (zaf,[]):=by
  rw[zad code ext c.c743]
  simp -implicitDefEqProofs [zfp]
 have g2:callW code ext 741 [zaf] []=some (zaf,[]):=by
  rw[zad code ext c.c741]
  simp -implicitDefEqProofs [zgl,zfd]
 rw[zad code ext c.c643]
 simp -implicitDefEqProofs [ztf,g1]
 rw[zfc]
 simp -implicitDefEqProofs [zf4,g2]
theorem z3w{idx:Nat}(c:TwinCode code idx){sv:IV}{S:List Obj}(hr:zao tObj sv S)(hz:zbs sv=false)(hT:∀o∈S,o.l.xs.length<=1000000)(hn:S.length<=100000000):
  callW code ext 643 [.imm sv] []=some (.osl 0 0 5 S.length (some S.length),zdy S idx (decide (idx<S.length)) (tObj.row (S.map zae))):=by
 rcases zyu (ext:=ext) c.c743 hr hn with⟨rfl,_⟩|⟨_,cp,hcp,g1⟩
 ·simp[zbs]at hz
 ·obtain⟨e,s',l1,_,rfl,rfl⟩:=yg3 (ext:=ext) c.c742 c.c740 hT hn idx cp ⟨0,[(3,.osl 0 0 5 S.length cp),(8,zaa S.length),(9,zaa 0)],[.flat (tObj.row S) false]⟩ (by generalize tObj.row S=R;simp -implicitDefEqProofs [])
  have hrl:=zbg tObj (S.map zae)
  rw[xam]at hrl
  have g2:=z6l (ext:=ext) c.c741 S.length cp hcp S idx (decide (idx<S.length)) (tObj.row (S.map zae)) (fun o ho=>by
   have:=(xaa.1 ho).1
   rw[hrl];simp only[tObj];omega)
  have p1:=zc7
  rw[zad code ext c.c643]
  have hpl:∀o,S[idx]?=some o->idx*5+2<(tObj.row (S.map zae)).length:=fun o ho=>by
   have:=(xaa.1 ho).1
   rw[hrl];simp only[tObj];omega
  generalize tObj.row (S.map zae)=R at *
  generalize tObj.row S=R0 at *
  unfold ztf
  generalize zf4 (idx*5+2)=L at *
  unfold zdy at *
  cases hS:S[idx]? with
  |none=>
   simp only[hS]at l1 g2 ⊢
   generalize S.length=n at *
   simp -implicitDefEqProofs [g1,g2,l1]
  |some o=>
   simp only[hS]at l1 g2 ⊢
   have hrf:=zch (R:=R) (p:=idx*5+2) (v:=.osl 1 0 2 o.l.xs.length (some o.l.xs.length)) (hpl o hS)
   generalize decide (idx<S.length)=b at *
   generalize tVal.row o.l.xs=W at *
   generalize o.l.xs.length=n2 at *
   generalize S.length=n at *
   by_cases hb:b=true/\zbs o.l.iv=false
   ·rw[if_pos hb]at l1 g2 ⊢
    simp -implicitDefEqProofs [g1,g2,l1,hrf,p1]
   ·rw[if_neg hb]at l1 g2 ⊢
    simp -implicitDefEqProofs [g1,g2,l1]
end
section
variable {code:Nat->Option zab} {ext:zac}
def zer(T:List Obj):AV:=if T.length=0 then zaf else .imm (.slice (zby T) 0 T.length none)
def ze9(B:List Obj):Int:=B.foldl (fun n o=>IntKind.wrap .i64 (n+zbf o)) 0
theorem z5w(h:code 578=some zet){T B:List Obj}{C:List IV}(cap:Option Nat)(hC:cut C 0 ((T++B).length*5)=some (tObj.row (T++B)))(hn:(T++B).length<=100000000)(s0:St)
  (hs0:s0.tidy [1,4,7,8,9]=⟨0,[(1,zer T),(4,zaa 0),(7,.imm (.slice C 0 (T++B).length cap)),(8,zaa (T++B).length),(9,zaa 0)],[]⟩):
  ∃e s',den code ext (.loop [1,4,7,8,9] zg0) s0=some (e,s')/\e≠ .normal/\(e=.exit 0/\
   s'=⟨0,[(1,zer T),(4,zaa (ze9 B)),(7,.imm (.slice C 0 (T++B).length cap)),(8,zaa (T++B).length),(9,zaa (T++B).length),(10,avb false)],[]⟩):=by
 refine zb1 (fun n s=>∃i,i+n=(T++B).length/\s.tidy [1,4,7,8,9]=⟨0,[(1,zer T),(4,zaa (ze9 (B.take (i-T.length)))),(7,.imm (.slice C 0 (T++B).length cap)),(8,zaa (T++B).length),(9,zaa (i:Nat))],[]⟩) _ ?_ (T++B).length _ ⟨0,by simp,by simpa [ze9]using hs0⟩
 rintro n s ⟨i,hi,hst⟩
 rw[hst]
 have hL:(T++B).length=T.length+B.length:=xao
 by_cases hlt:i<(T++B).length
 ·have hx:=xab hlt
  have hel:cut C (i*5) 5=some (tObj.enc (T++B)[i]):=by
   have:=znx hC (a:=i*5) (b:=5) (by omega)
   rw[xau]at this
   rw[this]
   exact zdc (t:=tObj) hx
  obtain⟨m,hs⟩:=zo0 (ext:=ext) h (T++B)[i]
  simp only[tObj]at hel
  have e1:IntKind.wrap .i64 ((i:Int)+1)=(i:Int)+1:=zap (by omega) (by omega)
  have hlt':(i:Int)<(T++B).length:=by omega
  by_cases hold:i<T.length
  ·have hT:=xab hold
   have hgt:(T++B)[i]=T[i]:=by rw[List.getElem_append_left hold]
   rw[hgt]at hel hs hx
   have hw:(zby T)[i]?=some (.val (.int .i64 (zbf T[i]))):=by unfold zby;rw[xap,hT];rfl
   have hwv:zer T=.imm (.slice (zby T) 0 T.length none):=by unfold zer;rw[if_neg (by omega)]
   have hz:i-T.length=0:=by omega
   have hz1:i+1-T.length=0:=by omega
   have h1:¬(T.length:Int)<=i:=by omega
   have h2:(i:Int)<T.length:=by omega
   have ha:ze9 (B.take 0)=0:=rfl
   generalize T[i]=o at *
   generalize zbf o=w at *
   rw[hwv,hz,ha]
   clear hgt
   generalize (T++B).length=N at *
   refine⟨.normal,⟨0,[(1,.imm (.slice (zby T) 0 T.length none)),(4,zaa 0),(7,.imm (.slice C 0 N cap)),(8,zaa N),(9,zaa ((i:Int)+1))],[.rich [.imm (.val (.int .u8 o.k)),zaq o.s,.imm o.l.iv,zaa o.room,zaa o.fn]]⟩,?_,.inl ⟨rfl,n-1,by omega,i+1,by omega,?_⟩⟩
   ·simp -implicitDefEqProofs [zg0,hlt',hel,hs,hw,h1,h2,e1]
   ·rw[hz1,ha]
    simp -implicitDefEqProofs
  ·have hB:i-T.length<B.length:=by omega
   have hBx:=xab hB
   have hgt:(T++B)[i]=B[i-T.length]:=by rw[List.getElem_append_right (by omega)]
   rw[hgt]at hel hs hx
   have hz1:i+1-T.length=(i-T.length)+1:=by omega
   have htk:B.take (i-T.length+1)=B.take (i-T.length)++[B[i-T.length]]:=by rw[xbk,hBx];rfl
   have ha:ze9 (B.take (i-T.length+1))=IntKind.wrap .i64 (ze9 (B.take (i-T.length))+zbf B[i-T.length]):=by rw[htk];unfold ze9;rw[List.foldl_append];rfl
   have h1:(T.length:Int)<=i:=by omega
   generalize B[i-T.length]=o at *
   generalize zbf o=w at *
   generalize ze9 (B.take (i-T.length))=a at *
   have hwv:lenOf (zer T)=some T.length:=by
    unfold zer
    by_cases h0:T.length=0
    ·rw[if_pos h0,h0];rfl
    ·rw[if_neg h0];rfl
   have hws:∃x,zer T=.imm x:=by
    unfold zer
    split
    ·exact⟨_,rfl⟩
    ·exact⟨_,rfl⟩
   obtain⟨x,hws⟩:=hws
   rw[hws]at hwv ⊢
   clear hgt
   generalize (T++B).length=N at *
   refine⟨.normal,⟨0,[(1,.imm x),(4,zaa (IntKind.wrap .i64 (a+w))),(7,.imm (.slice C 0 N cap)),(8,zaa N),(9,zaa ((i:Int)+1))],[.rich [.imm (.val (.int .u8 o.k)),zaq o.s,.imm o.l.iv,zaa o.room,zaa o.fn]]⟩,?_,.inl ⟨rfl,n-1,by omega,i+1,by omega,?_⟩⟩
   ·simp -implicitDefEqProofs [zg0,hlt',hel,hs,hwv,h1,e1]
   ·rw[hz1,ha]
    simp -implicitDefEqProofs
 ·have:i=(T++B).length:=by omega
  subst this
  have hz:(T++B).length-T.length=B.length:=by omega
  rw[hz,xb0]
  have hws:∃x,zer T=.imm x:=by
   unfold zer
   split
   ·exact⟨_,rfl⟩
   ·exact⟨_,rfl⟩
  obtain⟨x,hws⟩:=hws
  rw[hws]
  refine⟨.exit 0,⟨0,[(1,.imm x),(4,zaa (ze9 B)),(7,.imm (.slice C 0 (T++B).length cap)),(8,zaa (T++B).length),(9,zaa (T++B).length),(10,avb false)],[]⟩,?_,.inr ⟨by simp,rfl,rfl⟩⟩
  generalize (T++B).length=N at *
  simp -implicitDefEqProofs [zg0]
theorem zx0(h:code 639=some zi2)(h1:code 578=some zet){T B:List Obj}{C:List IV}(cap:Option Nat)(hC:cut C 0 ((T++B).length*5)=some (tObj.row (T++B)))(hn:(T++B).length<=100000000):
  callW code ext 639 [.imm (.slice C 0 (T++B).length cap),zer T] []=some (zaa (ze9 B),[]):=by
 have hws:∃x,zer T=.imm x:=by
  unfold zer
  split
  ·exact⟨_,rfl⟩
  ·exact⟨_,rfl⟩
 obtain⟨x,hws⟩:=hws
 obtain⟨e,s',l1,_,rfl,rfl⟩:=z5w (ext:=ext) h1 cap hC hn ⟨0,[(1,zer T),(4,zaa 0),(7,.imm (.slice C 0 (T++B).length cap)),(8,zaa (T++B).length),(9,zaa 0)],[]⟩ (by rw[hws];generalize (T++B).length=N;simp -implicitDefEqProofs)
 rw[hws]at l1 ⊢
 rw[zad code ext h]
 unfold zi2
 generalize zg0=L at *
 generalize (T++B).length=N at *
 simp -implicitDefEqProofs [l1]
end
abbrev zdm:ByteArray:=⟨#[107,105,110,100]⟩
section
variable {code:Nat->Option zab} {ext:zac}
structure z44 (code:Nat->Option zab):Prop where
 c579:code 579=some zw9
 c582:code 582=some zxa
 c583:code 583=some zxb
 c584:code 584=some zxc
 c585:code 585=some zxd
 c586:code 586=some zxe
 c587:code 587=some zxf
 c588:code 588=some zxg
 c589:code 589=some zxh
end
abbrev zbk(k n:Int)(t:ByteArray):AV:=.agg [.imm (.val (.int .u8 k)),zaa n,zaq t,avb false]
abbrev z8k:ByteArray:=⟨#[103,114,101,97,116]⟩
abbrev zho:ByteArray:=⟨#[98,111,117,110,100,115]⟩
def sM(nl:Bool)(T:List Obj):Mem:=if nl=true then[.rich [zaf,zaa 1152921504606846976,zaa 0]]else[.rich [.osl 1 0 5 T.length (some T.length),zaa 1152921504606846976,zaa 0],.flat (tObj.row T) false]
def sK(nl:Bool)(T:List Obj)(o:Obj)(w:Int):Mem:=if nl=true then[.rich [.osl 1 0 5 1 none,zaa 1152921504606846976,zaa w],.flat (tObj.row (T++[o])) false]else[.rich [.osl 2 0 5 (T.length+1) none,zaa 1152921504606846976,zaa w],.flat (tObj.row T) false,.flat (tObj.row (T++[o])) false]
structure PlainFns (code:Nat->Option zab):Prop where
 whole:z44 code
 c206:code 206=some zeg
 c209:code 209=some zhj
 c210:code 210=some zw5
 c211:code 211=some zgx
 c212:code 212=some zpd
 c213:code 213=some zhk
 c214:code 214=some zw6
 c216:code 216=some zfo
 c218:code 218=some zjz
 c219:code 219=some zm1
 c208:code 208=some z4g
 c578:code 578=some zet
 c580:code 580=some zhm
 c581:code 581=some zi1
 c742:code 742=some zd0
def zdd(t:ByteArray):Obj:=⟨3,t,⟨.val (.slice none 0 0),[],⟨by simp,by simp,.inl ⟨rfl,rfl⟩⟩⟩,0,0⟩
section
variable {code:Nat->Option zab} {ext:zac}
theorem zhu(h:code 213=some zhk){T:List Obj}{q:Nat}(k n:Int)(hq:(q:Int)=n-1)(hN:q<T.length)(hb:T.length<=1000000000):
  callW code ext 213 [.optr 0 0,.agg [.imm (.val (.int .u8 k)),zaa n]] (sM false T)=some (.optr 1 (q*5),sM false T):=by
 have e1:IntKind.wrap .i64 (n-1)=(q:Nat):=by rw[<-hq];exact zap (by omega) (by omega)
 have h2:(q:Int)<T.length:=by omega
 rw[zad code ext h]
 unfold sM
 generalize tObj.row T=R
 generalize T.length=N at *
 simp -implicitDefEqProofs [zhk,e1,h2]
theorem zvt(h:code 218=some zjz)(nl:Bool)(T:List Obj){w:Int}(h0:0<=w)(h1:w<=1000000):
  callW code ext 218 [.optr 0 0,zaa w] (sM nl T)=some (avb true,if nl=true then[.rich [zaf,zaa 1152921504606846976,zaa w]]else[.rich [.osl 1 0 5 T.length (some T.length),zaa 1152921504606846976,zaa w],.flat (tObj.row T) false]):=by
 have e1:IntKind.wrap .i64 w=w:=zap (by omega) (by omega)
 have h2:¬(1152921504606846976:Int)<w:=by omega
 rw[zad code ext h]
 unfold sM
 generalize tObj.row T=R
 cases nl<;>simp -implicitDefEqProofs [zjz,e1,h2]
theorem ycz(t:ByteArray)(ht:t.size<=4096):0<=zbf (zdd t)/\zbf (zdd t)<=1000:=by
 have e1:IntKind.wrap .i64 ((t.size:Int)+7)=(t.size:Int)+7:=zap (by omega) (by omega)
 have e2:((t.size:Int)+7).tdiv 8=((t.size:Int)+7) / 8:=Int.tdiv_eq_ediv_of_nonneg (by omega)
 have e3:IntKind.wrap .i64 (((t.size:Int)+7) / 8)=((t.size:Int)+7) / 8:=zap (by omega) (by omega)
 have e4:IntKind.wrap .i64 (2+((t.size:Int)+7) / 8)=2+((t.size:Int)+7) / 8:=zap (by omega) (by omega)
 have:zbf (zdd t)=2+((t.size:Int)+7) / 8:=by
  unfold zbf
  rw[if_pos (show(zdd t).k=3 from rfl)]
  show IntKind.wrap .i64 (2+IntKind.wrap .i64 ((IntKind.wrap .i64 ((t.size:Int)+7)).tdiv 8))=_
  rw[e1,e2,e3,e4]
 rw[this]
 omega
theorem ycr(c:PlainFns code){nl:Bool}{T:List Obj}(hnl:nl=true->T=[])(hn:T.length<=100000000)(t:ByteArray)(ht:t.size<=4096):
  callW code ext 212 [.optr 0 0,.agg [.imm (.val (.int .u8 3)),zaq t,zaf,zaa 0,zaa 0]] (sM nl T)=
   some (zbk 3 ((T.length+1:Nat):Int) .empty,sK nl T (zdd t) (zbf (zdd t))):=by
 obtain⟨m,hs⟩:=zo0 (ext:=ext) c.c578 (zdd t)
 obtain⟨w0,w1⟩:=ycz t ht
 have hr:tObj.row (T++[zdd t])=tObj.row T++[.val (.int .u8 3),.val (.string t),.val (.slice none 0 0),.val (.int .i64 0),.val (.int .i64 0)]:=by unfold Ty.row;simp[tObj,zdd]
 have hc:cut (tObj.row T) 0 (T.length*5)=some (tObj.row T):=zg6 tObj T
 generalize zbf (zdd t)=w at *
 have htk:=zvt (ext:=ext) c.c218 nl T w0 (by omega)
 simp only[zdd]at hs
 cases nl with
 |true=>
  have hT:=hnl rfl
  subst hT
  have hr0:tObj.row ([]:List Obj)=[]:=rfl
  rw[hr0]at hr
  simp only[xbg]at hr
  rw[zad code ext c.c212]
  unfold sM sK at *
  simp only[if_true,xbg]at htk ⊢
  rw[hr]
  simp -implicitDefEqProofs [zpd,hs,htk,za0,za1,elems]
 |false=>
  rw[zad code ext c.c212]
  unfold sM sK at *
  rw[hr]
  simp only[xar,if_false]at htk
  generalize tObj.row T=R at *
  have hle:(T.length+1)*64<=140737488355328:=by omega
  have hno:¬(T.length+1<=T.length):=by omega
  generalize T.length=N at *
  simp -implicitDefEqProofs [zpd,hs,htk,za0,za1,elems,hc,hle,hno]
theorem ycx(c:PlainFns code){nl:Bool}{T:List Obj}(hnl:nl=true->T=[])(hn:T.length<=100000000)(t:ByteArray):
  callW code ext 219 [.optr 0 0,zaq t] (sM nl T)=if t.size<=4096 then some (zbk 3 ((T.length+1:Nat):Int) .empty,sK nl T (zdd t) (zbf (zdd t)))else some (zbk 0 0 z8k,sM nl T):=by
 by_cases ht:t.size<=4096
 ·rw[if_pos ht]
  have hm:=ycr (ext:=ext) c hnl hn t ht
  generalize zbf (zdd t)=w at *
  have ht':¬(4096:Int)<t.size:=by omega
  have ht'':¬4096<t.size:=by omega
  rw[zad code ext c.c219]
  unfold sM sK at *
  generalize tObj.row (T++[zdd t])=R2 at *
  generalize tObj.row T=R at *
  generalize ((T.length+1:Nat):Int)=N at *
  cases nl
  ·simp only[xar,if_false]at hm ⊢
   simp -implicitDefEqProofs [zm1,hm,ht']
  ·simp only[if_true]at hm ⊢
   simp -implicitDefEqProofs [zm1,hm,ht']
 ·rw[if_neg ht]
  have ht':(4096:Int)<t.size:=by omega
  have ht'':4096<t.size:=by omega
  rw[zad code ext c.c219]
  unfold sM
  generalize tObj.row T=R at *
  cases nl<;>simp -implicitDefEqProofs [zm1,ht']
end
end Go.EX

