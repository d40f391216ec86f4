import Derived.Test.YtjdfihnmpmckjaaGreatDoorK13
set_option linter.unusedVariables false
set_option linter.unusedSimpArgs false
namespace Go.EX
def zhc(ck:Val->Bool)(v k x:Val):Bool:=[v,k,x].all fun v=>decide (v.k≠7)&&ck v
def zt6(T:List Obj)(ck:Val->Bool)(v k x:Val)(t:ByteArray)(d:Int)(ch:Option (Nat×List Val×Int×Bool)):Prop:=
 (zhc ck v k x=true/\PutIs T v k x t d ch)\/(zhc ck v k x=false/\t=zdm/\d=0/\ch=none)
def z43(T TD:List Obj):Option (Nat×List Val×Int×Bool)->Prop
 |none=>zei T TD
 |some (q,xs,room,g)=>∃(o:Obj) (l:Sl tVal),T[q]?=some o/\l.iv=.slice (tVal.row xs) 0 xs.length none/\l.xs=xs/\tObj.wf { o with room:=room,l:=l }/\(g=false->room=o.room)/\xs.length<=60000/\zei (T.set q { o with room:=room,l:=l }) TD
def zj8(code:Nat->Option zab)(ext:zac)(sv:IV)(T:List Obj)(ck:Val->Bool)(v k x:Val):Prop:=
 ∃(t:ByteArray) (d:Int) (ch:Option (Nat×List Val×Int×Bool)) (X:Mem) (TD:List Obj),zt6 T ck v k x t d ch/\(t≠ .empty->d=0)/\XM 0 TD X/\TD.length=T.length/\z43 T TD ch/\
  callW code ext 636 [.imm sv,zag v,zag k,zag x] []=some (.agg [.osl 0 0 5 T.length (some T.length),.imm (.val (.int .u8 0)),zaa 0,zaq t,zaa d],X)
theorem z5b{T B:List Obj}(h:zei T B){q:Nat}{u w:Obj}(hs:LikeObj u w)(hw:tObj.wf w):zei (T.set q u) (B.set q w):=by
 refine⟨by simp[h.len],fun i a b ha hb=>?_,fun o ho=>?_⟩
 ·by_cases hi:q=i
  ·subst hi
   have hlt:q<T.length:=by
    have:=(xaa.1 ha).1
    simpa using this
   rw[xbl hlt]at ha
   rw[xbl (by rw[h.len];exact hlt)]at hb
   cases ha;cases hb
   exact hs
  ·rw[xa0 hi]at ha hb
   exact h.like i a b ha hb
 ·rcases xb7 ho with ho|rfl
  ·exact h.wf o ho
  ·exact hw
theorem zub{o:Obj}(l:Sl tVal)(h45:o.k=4\/o.k=5):ze8 (zae o) { zae o with room:=o.room,l:=l }=0:=by
 unfold ze8
 rw[if_pos]
 unfold zbf
 have h3:¬(zae o).k=3:=by show ¬o.k=3;omega
 have h6:¬(zae o).k=6:=by show ¬o.k=6;omega
 simp only[h3,h6,if_false]
 rfl
theorem zxz{o:Obj}(l:Sl tVal)(h45:o.k=4\/o.k=5){step:Int}(hs:step=1\/step=2){n:Nat}(h0:(n:Int)<=o.room)(h1:o.room<=262144):ze8 (zae o) { zae o with room:=zbm step n o.room,l:=l }=zca step n o.room:=by
 by_cases hc:o.room<(n:Int)+step
 ·have hg:zbm step n o.room=if 4*step<2*o.room then 2*o.room else 4*step:=by unfold zbm;rw[if_pos hc]
  have hu:zca step n o.room=1+2*zbm step n o.room:=by unfold zca;rw[if_pos hc]
  rw[hu]
  have hgb:o.room<zbm step n o.room/\zbm step n o.room<=1000000:=by
   rw[hg]
   split<;>rcases hs with rfl|rfl<;>omega
  generalize zbm step n o.room=g at *
  unfold ze8
  rw[if_neg]
  have h3:¬(zae o).k=3:=by show ¬o.k=3;omega
  have h6:¬(zae o).k=6:=by show ¬o.k=6;omega
  have h4:(zae o).k=4\/(zae o).k=5:=h45
  have hr:(zae o).room=o.room:=rfl
  unfold zbf
  simp only[h3,h6,if_false,h4,true_and,hr]
  rw[if_pos (by omega),zap (x:=2*g) (by omega) (by omega),zap (x:=4+2*g) (by omega) (by omega)]
  split
  ·rw[zap (x:=2*o.room) (by omega) (by omega),zap (x:=4+2*o.room) (by omega) (by omega)]
   omega
  ·omega
 ·have hg:zbm step n o.room=o.room:=by unfold zbm;rw[if_neg hc]
  have hu:zca step n o.room=0:=by unfold zca;rw[if_neg hc]
  rw[hg,hu]
  exact zub l h45
section
variable {code:Nat->Option zab}
set_option maxHeartbeats 1000000 in
theorem yd2 (c:DoQ code) (p:zgn code) (h:code 636=some x636Q) {e0:zac} (kt:zlp code e0) {eK:Nat->zac} (ktp:∀q,zp3 code (eK q) q) {sv:IV} {T:List Obj} (hr:zao tObj sv T) (hz:zbs sv=false) (hS:∀o∈T,o.l.xs.length<=50000) (hn:T.length<=50000) {ck:Val->Bool} {v k x:Val} (hw:∀y∈[v,k,x],tVal.wf y)
  (h646:∀e,(e=e0\/∃q,e=eK q)->∀y∈[v,k,x],callW code e 646 [.imm sv,.agg [.imm (.val (.int .u8 y.k)),zaa y.n]] []=some (avb (ck y),[])) (hall:∀y∈[v,k,x],ck y=true) (hck:∀y∈[v,k,x],zcq T y):∃e,(e=e0\/∃q,e=eK q)/\zj8 code e sv T ck v k x:=by
 have hS6:∀o∈T,o.l.xs.length<=1000000:=fun o ho=>xci (hS o ho) (by decide)
 have hq:∀e,(e=e0\/∃q,e=eK q)->zg2 code e sv [v,k,x] false:=fun e he=>by
  have h1:=zp5 (ext:=e) c sv [v,k,x] ck (by simp) (h646 e he)
  have h0:([v,k,x].any fun v=> !ck v)=false:=by
   simp[hall v (by simp),hall k (by simp),hall x (by simp)]
  rw[h0]at h1;exact h1
 have hA:=zyv hr.1
 have hTl:(T.map zae).length=T.length:=xam ..
 have thr0:∀{t:ByteArray},zt6 T ck v k x t 0 none->callW code e0 206 [.optr 0 0,.agg [.imm (.val (.int .u8 25)),zaa 0,.osl 1 0 2 3 (some 3),zaf]] (sL false (T.map zae) (tVal.row [v,k,x]) 0)=some (zbk 0 0 t,sL false (T.map zae) (tVal.row [v,k,x]) 0)->
   ∃e,(e=e0\/∃q,e=eK q)/\zj8 code e sv T ck v k x:=by
  intro t ht hd
  obtain⟨X,hX,h2⟩:=zv7 (ext:=e0) h (by rw[hTl];omega) (zuo (ext:=e0) c kt hr hz hS6 (by omega) (by simp) (hq e0 (.inl rfl)) 25 0 0 0 t hd)
  exact⟨e0,.inl rfl,t,0,none,X,_,ht,fun _=>rfl,hX,hTl,hA,h2⟩
 cases h7:[v,k,x].any fun v=>decide (v.k=7)with
 |true=>
  have hm:zhc ck v k x=false:=by
   unfold zhc
   cases hh:([v,k,x].all fun v=>decide (v.k≠7)&&ck v)with
   |false=>rfl
   |true=>
    obtain⟨y,hy,h7'⟩:=xcb.1 h7
    have:=xai.1 hh y hy
    simp at h7' this
    exact absurd h7' this.1
  exact thr0 (.inr ⟨hm,rfl,rfl,rfl⟩) (zy7 (ext:=e0) c.toPlainFns false (T.map zae) 25 0 (by decide) (by decide) (by simp) hw h7)
 |false=>
  have hm:zhc ck v k x=true:=by
   unfold zhc
   rw[xai]
   intro y hy
   rw[List.any_eq_false]at h7
   have h8:¬y.k=7:=by simpa using h7 y hy
   simp[h8,hall y hy]
  have thr:∀{t:ByteArray},PutIs T v k x t 0 none->_->_:=fun ht hd=>thr0 (.inl ⟨hm,ht⟩) hd
  by_cases hkey:v.k=5\/(v.k=4/\k.k=2)
  case neg=>exact thr (.kind hkey) (zzb p.c206 p.c580 false _ hw h7 zdm (yd0 (ext:=e0) p false _ hkey))
  have hv45:v.k=4\/v.k=5:=by omega
  obtain⟨q,o0,q1,q2,q3,q4⟩:=zue (hck v (by simp)) (by omega)
  obtain⟨l1,l2,_⟩:=zcg q1
  have hT:(T.map zae)[q]?=some (zae o0):=z0b q2
  have hqT:q<(T.map zae).length:=by omega
  have hxc:(zae o0).l.xs=o0.l.xs:=zg4 o0
  have h50:=hS o0 (xag q2)
  have hxw:=o0.l.ok.1
  have hwo:=hr.1 o0 (xag q2)
  have hsz:(o0.l.xs.length:Int)<=o0.room/\o0.room<=262144:=by
   rcases hv45 with v4|v5
   ·have:=(zqv (by omega)).1 q4
    exact⟨this.2.2.2.1,this.2.2.2.2.1⟩
   ·have:=(zoc (by omega)).1 q4
    exact⟨this.2.2.2.2.1,this.2.2.2.2.2.1⟩
  have hnilx:zbs o0.l.iv=true->o0.l.xs=[]/\(zae o0).l.iv=.val (.slice none 0 0):=by
   intro e
   rcases o0.l.ok.2.2 with⟨hiv,b⟩|⟨row,off,cap,b,_⟩
   ·refine⟨b,?_⟩
    unfold zae zea
    dsimp only
    rw[if_pos e]
    exact hiv
   ·rw[b]at e;cases e
  have done:∀(xs2:List Val) (hx2:xs2.length<=60000) (hw2:∀y∈xs2,tVal.wf y) (cap2:Option Nat) (hc2:∀c,cap2=some c->xs2.length<=c) (room u d:Int) (g:Bool),0<=room/\room<=262144->(g=false->room=o0.room)->PutIs T v k x .empty d (some (q,xs2,room,g))->(∀l:Sl tVal,ze8 (zae o0) { zae o0 with room:=room,l:=l }=d)->
    ((zbs o0.l.iv=false/\(callW code (eK q) 206 [.optr 0 0,.agg [.imm (.val (.int .u8 25)),zaa 0,.osl 1 0 2 3 (some 3),zaf]] (rL (tObj.row (T.map zae)) T.length q (tVal.row [v,k,x]) (tVal.row o0.l.xs) o0.l.xs.length (some o0.l.xs.length) 0)=some (zbk 0 0 .empty,rL (zbi (tObj.row (T.map zae)) q room) T.length q (tVal.row [v,k,x]) (tVal.row xs2) xs2.length cap2 u)\/
     callW code (eK q) 206 [.optr 0 0,.agg [.imm (.val (.int .u8 25)),zaa 0,.osl 1 0 2 3 (some 3),zaf]] (rL (tObj.row (T.map zae)) T.length q (tVal.row [v,k,x]) (tVal.row o0.l.xs) o0.l.xs.length (some o0.l.xs.length) 0)=some (zbk 0 0 .empty,rLV (zbi (tObj.row (T.map zae)) q room) T.length q (tVal.row [v,k,x]) (tVal.row o0.l.xs) (tVal.row xs2) xs2.length cap2 u)))\/
    (zbs o0.l.iv=true/\callW code (eK q) 206 [.optr 0 0,.agg [.imm (.val (.int .u8 25)),zaa 0,.osl 1 0 2 3 (some 3),zaf]] [.rich [.osl 2 0 5 T.length (some T.length),zaa 1152921504606846976,zaa 0],.flat (tVal.row [v,k,x]) false,.flat (tObj.row (T.map zae)) false]=some (zbk 0 0 .empty,rL (zbi (tObj.row (T.map zae)) q room) T.length q (tVal.row [v,k,x]) (tVal.row xs2) xs2.length cap2 u)))->
    ∃e,(e=e0\/∃q,e=eK q)/\zj8 code e sv T ck v k x:=by
   intro xs2 hx2 hw2 cap2 hc2 room u d g hrm hg his hask hd
   obtain⟨X,hX,h1⟩:=z7a (ext:=eK q) c (ktp q) hr hz hS6 (by omega) q2 (xsv:=[v,k,x]) rfl (hq _ (.inr ⟨q,rfl⟩)) xs2 (by omega) cap2 (zws xs2 cap2 hw2 (by omega) hc2) rfl rfl room u hrm.1 (by omega) hd
   rw[hask]at h1
   have hwr:∀l:Sl tVal,tObj.wf { o0 with room:=room,l:=l }:=fun l=>⟨hwo.1,hwo.2.1,wfI64.2 ⟨by show(-9223372036854775808:Int)<=room;omega,by show room<=9223372036854775807;omega⟩,hwo.2.2.2⟩
   obtain⟨X',hX',h2⟩:=zv7 (ext:=eK q) h (T:=(T.map zae).set q { zae o0 with room:=room,l:=zws xs2 cap2 hw2 (by omega) hc2 }) (by rw[xaw,hTl];omega) ⟨X,hX,h1⟩
   refine⟨_,.inr ⟨q,rfl⟩,.empty,d,some (q,xs2,room,g),X',_,.inl ⟨hm,his⟩,fun e=>absurd rfl e,hX',by rw[xaw,hTl],?_,h2⟩
   refine⟨o0,zws xs2 none hw2 (by omega) (fun c hc=>by cases hc),q2,rfl,rfl,hwr _,hg,hx2,?_⟩
   exact z5b hA ⟨rfl,rfl,rfl,rfl,rfl⟩ ⟨hwo.1,hwo.2.1,wfI64.2 ⟨by show(-9223372036854775808:Int)<=room;omega,by show room<=9223372036854775807;omega⟩,hwo.2.2.2⟩
  by_cases v4:v.k=4
  ·have k2:k.k=2:=by omega
   have h45:o0.k=4\/o0.k=5:=by omega
   by_cases hb:k.n<0\/(o0.l.xs.length:Int)<k.n
   ·exact thr (.bounds v4 k2 q1 q2 hb) (zzb p.c206 p.c580 false _ hw h7 zho (ydx (ext:=e0) p (by omega) hqT v4 k2 l2 hT (by rw[hxc];omega) (by rw[hxc];exact hb)))
   ·by_cases hlt:k.n<o0.l.xs.length
    ·have hnz:zbs o0.l.iv=false:=by
      cases hz:zbs o0.l.iv with
      |false=>rfl
      |true=>rw[(hnilx hz).1]at hlt;simp at hlt;omega
     obtain⟨i,hi⟩:∃i:Nat,k.n=i:=⟨k.n.toNat,by omega⟩
     have h1:=yd7 (ext:=eK q) p (T:=T.map zae) (by omega) hqT v4 k2 l2 o0.l.xs (by omega) (some o0.l.xs.length) hi (by omega) (x:=x)
     have h2:=zza p.c206 p.c580 hqT hw h7 _ _ _ _ h1
     have hsame:=zkx (R:=tObj.row (T.map zae)) (q:=q) (room:=o0.room) (zai (zdc (t:=tObj) hT) 3 (by decide))
     rw[hTl]at h2
     refine done (o0.l.xs.set i x) (by rw[xaw];omega) (fun y hy=>?_) (some o0.l.xs.length) (fun c hc=>by cases hc;rw[xaw];exact xan _) o0.room 0 0 false ⟨by omega,hsz.2⟩ (fun _=>rfl) (.set v4 k2 q1 q2 hi (by omega)) (fun l=>zub l h45) (.inl ⟨hnz,.inl ?_⟩)
     ·rcases xb7 hy with hy|rfl
      ·exact hxw y hy
      ·exact hw _ (by simp)
     ·rw[hsame,xaw]
      exact h2
    ·have hkn:k.n=o0.l.xs.length:=by omega
     have hxw2:∀y∈o0.l.xs++[x],tVal.wf y:=fun y hy=>by
      rcases xak.1 hy with hy|hy
      ·exact hxw y hy
      ·rw[xbc.1 hy];exact hw _ (by simp)
     have hgl:=z0e 1 (.inl rfl) o0.l.xs.length o0.room hsz.1 hsz.2 h50
     have hask:=fun l=>zxz (o:=o0) l h45 (step:=1) (.inl rfl) hsz.1 hsz.2
     have his:PutIs T v k x .empty _ _:=.push v4 k2 q1 q2 hkn
     cases hz:zbs o0.l.iv with
     |false=>
      have h1:=yd3 (ext:=eK q) p (T:=T.map zae) (by omega) hqT v4 k2 l2 o0.l.xs (by omega) hkn hT hsz.1 hsz.2 (x:=x)
      have h2:=zy8 p.c206 p.c580 hqT hw h7 _ _ _ _ _ _ _ h1
      rw[hTl]at h2
      refine done (o0.l.xs++[x]) (by simp;omega) hxw2 none (fun c hc=>by cases hc) _ (zca 1 o0.l.xs.length o0.room) _ true hgl (fun e=>by cases e) his hask (.inl ⟨hz,.inr ?_⟩)
      rw[xao]
      exact h2
     |true=>
      obtain⟨e1,e2⟩:=hnilx hz
      rw[e1]at hkn hsz hgl his hask
      have h1:=yd6 (ext:=eK q) p (T:=T.map zae) (by omega) hqT v4 k2 l2 hkn hT e2 hsz.1 hsz.2 (x:=x)
      have h2:=zy9 p.c206 p.c580 hqT hw h7 _ _ _ _ h1
      rw[z2v _ _ _ hTl,hTl]at h2
      exact done [x] (by simp) (fun y hy=>hw y (by rw[xbc.1 hy];simp)) none (fun c hc=>by cases hc) _ _ _ true hgl (fun e=>by cases e) his hask (.inr ⟨hz,h2⟩)
  ·have v5:v.k=5:=by omega
   have h45:o0.k=4\/o0.k=5:=by omega
   have hob:=(zoc (by omega)).1 q4
   have hev:=zzn hob.2.2.1
   have hkt:zbw (T.map zae) k:=zrr (zmb T) (hck k (by simp)).1
   have hxt:∀(j:Nat) a,o0.l.xs[2*j]?=some a->zbw (T.map zae) a:=fun j a hy=>zrr (zmb T) (zva hob.2.2.2.2.2.2.1 a (xag hy))
   have hgl:=z0e 2 (.inr rfl) o0.l.xs.length o0.room hsz.1 hsz.2 h50
   have hask:=fun l=>zxz (o:=o0) l h45 (step:=2) (.inr rfl) hsz.1 hsz.2
   have hxw2:∀y∈o0.l.xs++[k,x],tVal.wf y:=fun y hy=>by
    rcases xak.1 hy with hy|hy
    ·exact hxw y hy
    ·exact hw _ (xa5 _ hy)
   have atc:∀{r:Int},AtV (T.map zae) o0.l.xs k r->AtV T o0.l.xs k r:=fun {r} ha=>by
    rcases ha with⟨e,h1⟩|⟨j,a,e,h1,h2,h3⟩
    ·exact .inl ⟨e,fun j a hj=>by rw[<-zms];exact h1 j a hj⟩
    ·exact .inr ⟨j,a,e,h1,by rw[<-zms];exact h2,fun i b hi hb=>by rw[<-zms];exact h3 i b hi hb⟩
   cases hz:zbs o0.l.iv with
   |true=>
    obtain⟨e1,e2⟩:=hnilx hz
    have hat0:AtV (T.map zae) [] k (-1):=.inl ⟨rfl,fun j a h=>by simp at h⟩
    have hat:=zvp (ext:=eK q) c.toPlainFns (T:=T.map zae) (by omega) (iv:=.val (.slice none 0 0)) (xs:=[]) ⟨by simp,by simp,.inl ⟨rfl,rfl⟩⟩ (by simp) hkt (fun j a h=>by simp at h) hat0
    have his:PutIs T v k x .empty _ _:=.key v5 q1 q2 (atc (by rw[e1];exact hat0))
    rw[e1]at hsz hgl his hask
    have h1:=yd5 (ext:=eK q) p (T:=T.map zae) (by omega) hqT v5 l2 hT e2 hsz.1 hsz.2 hat (x:=x)
    have h2:=zy9 p.c206 p.c580 hqT hw h7 _ _ _ _ h1
    rw[z2v _ _ _ hTl,hTl]at h2
    exact done [k,x] (by simp) (fun y hy=>hw y (xa5 _ hy)) none (fun c hc=>by cases hc) _ _ _ true hgl (fun e=>by cases e) his hask (.inr ⟨hz,h2⟩)
   |false=>
    obtain⟨r,hr0,hat⟩:=yeb (ext:=eK q) p.c209 p.c216 p.c213 (T:=T.map zae) (by omega) hqT (xs:=o0.l.xs) (some o0.l.xs.length) (by omega) hkt hxt
    have hra:=atc hr0
    rcases hr0 with⟨rfl,_⟩|⟨j,a,rfl,hja,_⟩
    ·have h1:=yd4 (ext:=eK q) p (T:=T.map zae) (by omega) hqT v5 l2 o0.l.xs (by omega) hev hT hsz.1 hsz.2 hat (x:=x)
     have h2:=zy8 p.c206 p.c580 hqT hw h7 _ _ _ _ _ _ _ h1
     rw[hTl]at h2
     refine done (o0.l.xs++[k,x]) (by simp;omega) hxw2 none (fun c hc=>by cases hc) _ (zca 2 o0.l.xs.length o0.room) _ true hgl (fun e=>by cases e) (.key v5 q1 q2 hra) hask (.inl ⟨hz,.inr ?_⟩)
     rw[xao]
     exact h2
    ·have hjl:=(xaa.1 hja).1
     have h1:=ydz (ext:=eK q) p (T:=T.map zae) (by omega) hqT v5 l2 o0.l.xs (by omega) (some o0.l.xs.length) (j:=j) (by omega) hat (x:=x)
     have h2:=zza p.c206 p.c580 hqT hw h7 _ _ _ _ h1
     have hsame:=zkx (R:=tObj.row (T.map zae)) (q:=q) (room:=o0.room) (zai (zdc (t:=tObj) hT) 3 (by decide))
     rw[hTl]at h2
     refine done (o0.l.xs.set (2*j+1) x) (by rw[xaw];omega) (fun y hy=>?_) (some o0.l.xs.length) (fun c hc=>by cases hc;rw[xaw];exact xan _) o0.room 0 0 false ⟨by omega,hsz.2⟩ (fun _=>rfl) (.found v5 q1 q2 hra (by omega)) (fun l=>zub l h45) (.inl ⟨hz,.inl ?_⟩)
     ·rcases xb7 hy with hy|rfl
      ·exact hxw y hy
      ·exact hw _ (by simp)
     ·rw[hsame,xaw]
      exact h2
theorem yd1{ext:zac}(c:DoQ code)(h:code 636=some x636Q){sv:IV}{T:List Obj}(hr:zao tObj sv T){X:Mem}(hX:XM 0 T X)(hn:T.length<=900000)(h1:callW code ext 643 [.imm sv] []=some (.osl 0 0 5 T.length (some T.length),X)){ck:Val->Bool}{v k x:Val}
  (h646:∀y∈[v,k,x],callW code ext 646 [.imm sv,.agg [.imm (.val (.int .u8 y.k)),zaa y.n]] []=some (avb (ck y),[])) (hno:∃y∈[v,k,x],ck y=false):zj8 code ext sv T ck v k x:=by
 have hq:=zp5 (ext:=ext) c sv [v,k,x] ck (by simp) h646
 obtain⟨y,hy,hcy⟩:=hno
 have hq0:([v,k,x].any fun v=> !ck v)=true:=xcb.2 ⟨y,hy,by simp[hcy]⟩
 rw[hq0]at hq
 have hm:zhc ck v k x=false:=by
  unfold zhc
  cases hh:([v,k,x].all fun v=>decide (v.k≠7)&&ck v)with
  |false=>rfl
  |true=>
   have h1:=xai.1 hh y hy
   simp[hcy]at h1
 obtain⟨X',hX',hc⟩:=zv7 (ext:=ext) h (by omega) (zy6 (ext:=ext) c hX (by omega) h1 hq 25 0)
 exact⟨zdm,0,none,X',T,.inr ⟨hm,rfl,rfl,rfl⟩,fun _=>rfl,hX',rfl,zt8 hr.1,hc⟩
end
def zli(M:Mem)(A:Nat)(mc:Mem):Prop:=∀(i:Nat) o,mc[i]?=some o->M[A+i]?=some (o.ren fun i=>some (A+i))
section
variable {code:Nat->Option zab} {ext:zac}
theorem z1q{fn:Nat}{rest:List AV}{sv:IV}{T:List Obj}{X:Mem}{N N2 b1:Nat}{kk n w:Int}{t:ByteArray}(hX:XM 0 T X){M1:Mem}(hf:frz M1 (.osl b1 0 5 N (some (N+1)))=some (.imm sv))(hrest:rest.mapM (frz M1)=some rest)
  (h:callW code ext fn (.imm sv::rest) []=some (.agg [.osl 0 0 5 N2 (some N2),.imm (.val (.int .u8 kk)),zaa n,zaq t,zaa w],X)):
  ∃M2,(∀e,zcj (callW code ext) ⟨0,e,M1⟩ fn (.osl b1 0 5 N (some (N+1))::rest)=some (.agg [.osl M1.length 0 5 N2 (some N2),.imm (.val (.int .u8 kk)),zaa n,zaq t,zaa w],⟨0,e,M2⟩))/\zi6 M2 M1.length T/\M1.length<M2.length/\∀id,id<M1.length->M2[id]?=M1[id]?:=by
 have hX':XM M1.length T (X.map (AObj.ren fun i=>some (M1.length+i))):=zng hX fun i _=>by rw[xau]
 have hl:=zj5 hX
 have hown:=yin hX
 refine⟨M1++X.map (AObj.ren fun i=>some (M1.length+i)),fun e=>?_,?_,by simp;omega,fun id hid=>xac hid⟩
 ·have hm:(AV.osl b1 0 5 N (some (N+1))::rest).mapM (frz M1)=some (.imm sv::rest):=by
   rw[xba,hf,hrest];rfl
  simp only[zcj,hm,h]
  rw[if_pos (by rw[hown];simp[AV.own,AV.own2,AV.own1,AV.isImm])]
  simp[AV.ren,AV.ren.renL]
 ·obtain⟨ob,e,hr⟩:=hX'
  rw[e]
  refine⟨⟨ob,by rw[xah (xan _),Nat.sub_self];rfl,hr⟩,fun i a ha=>?_⟩
  rw[xah (by omega)]
  have e2:M1.length+1+i-M1.length=i+1:=by omega
  rw[e2,xbb];exact ha
theorem z29{fn:Nat}{rest:List AV}(hr1:AV.refs.refsL rest=[])(hr2:∀f,AV.ren.renL f rest=rest){A:Mem}{N c:Nat}{R:List IV}{r:AV}(hrr:∀f,r.ren f=r){mc:Mem}(hl:2<=mc.length)(hm0:((mc[0]?).getD AObj.dead).moved=false)(hm1:((mc[1]?).getD AObj.dead).moved=false)
  (h:callW code ext fn (.optr 0 0::rest) (zba R N c)=some (r,mc)):
  ∀e,zcf (callW code ext) ⟨0,e,A++[.rich [.osl (A.length+1) 0 5 N (some c)],.flat R false]⟩ fn (.optr A.length 0::rest)=some (r,⟨0,e,A++mc.map (AObj.ren fun i=>some (A.length+i))⟩):=by
 intro e
 generalize hM:A++[AObj.rich [.osl (A.length+1) 0 5 N (some c)],.flat R false]=M
 have g0:M[A.length]?=some (.rich [.osl (A.length+1) 0 5 N (some c)]):=by rw[<-hM];simp
 have g1:M[A.length+1]?=some (.flat R false):=by rw[<-hM,xah (by omega)];simp
 have gl:M.length=A.length+2:=by rw[<-hM];simp
 have ho:order 0 [A.length] M=[A.length,A.length+1]:=by
  unfold order
  simp only[List.take_zero,Mem.refs,xay,List.range_zero]
  rw[show(1000000000000:Nat)=999999999997+1+1+1 from rfl,reach,if_neg (by simp),if_pos (by omega),g0]
  simp only[xa2,AObj.refs,AV.refs.refsL,AV.refs,xay,xbg]
  rw[reach,if_neg (by simp),if_pos (by omega),g1]
  simp only[xa2,AObj.refs,xay,xby,xbg]
  rw[reach]
 have hro:AV.refs.refsL (.optr A.length 0::rest)=[A.length]:=by
  show(AV.optr A.length 0).refs++AV.refs.refsL rest=_
  rw[hr1];rfl
 have p0:place [A.length,A.length+1] A.length=some 0:=by simp[place]
 have p1:place [A.length,A.length+1] (A.length+1)=some 1:=by simp[place]
 have pn:∀id,id≠A.length->id≠A.length+1->place [A.length,A.length+1] id=none:=fun id h1 h2=>by
  simp[place,h1,h2]
 have hpk:M.pickAll [A.length,A.length+1]=zba R N c:=by
  simp only[Mem.pickAll,xa1,List.map_nil,g0,g1,xa2,AObj.ren,AV.ren.renL,AV.ren,p1,zba]
 have hrn:AV.ren.renL (place [A.length,A.length+1]) (.optr A.length 0::rest)=.optr 0 0::rest:=by
  show(AV.optr A.length 0).ren _::AV.ren.renL _ rest=_
  rw[hr2]
  simp only[AV.ren,p0]
 have hok:zgd M [A.length,A.length+1]=true:=by
  simp[zgd,g0,g1,AObj.isFix]
 unfold zcf
 rw[hro]
 dsimp only
 rw[ho,hok,if_neg (by decide),hrn,hpk,h]
 dsimp only
 have hback:(fun i=>if i<[A.length,A.length+1].length then[A.length,A.length+1][i]? else some (M.length+(i-[A.length,A.length+1].length)))=fun i=>some (A.length+i):=by
  funext i
  have e2:[A.length,A.length+1].length=2:=rfl
  rw[e2,gl]
  match i with
  |0=>rfl
  |1=>rfl
  |i+2=>rw[if_neg (by omega)];congr 1;omega
 have hstay:(fun id=>match place [A.length,A.length+1] id with
   |some i=>if ((mc[i]?).getD AObj.dead).moved then none else some id
   |none=>some id)=some:=by
  funext id
  by_cases h1:id=A.length
  ·subst h1;rw[p0];dsimp only;rw[hm0];rfl
  ·by_cases h2:id=A.length+1
   ·subst h2;rw[p1];dsimp only;rw[hm1];rfl
   ·rw[pn id h1 h2]
 have key:∀(back stay:Nat->Option Nat),back=(fun i=>some (A.length+i))->stay=some->some (r.ren back,(⟨0,e.ren stay,(List.range (M.length+(mc.length-[A.length,A.length+1].length))).map (zdx ⟨0,e,M⟩ [A.length,A.length+1] mc back stay)⟩:St))=some (r,⟨0,e,A++mc.map (AObj.ren fun i=>some (A.length+i))⟩):=by
  rintro back stay rfl rfl
  rw[hrr,zcc]
  congr 3
  have hll:M.length+(mc.length-[A.length,A.length+1].length)=A.length+mc.length:=by
   have e2:[A.length,A.length+1].length=2:=rfl
   rw[gl,e2];omega
  rw[hll]
  refine xbh fun id=>?_
  by_cases hid:id<A.length+mc.length
  ·rw[xap,xbx hid,xal]
   by_cases h0:id<A.length
   ·simp only[zdx,pn id (by omega) (by omega)]
    rw[if_pos (by rw[gl];omega),zmh,<-hM,xac h0,xac h0,xab h0]
    rfl
   ·obtain⟨i,rfl⟩:∃i,id=A.length+i:=⟨id-A.length,by omega⟩
    rw[xah (by omega),xbn,xap,xab (show i<mc.length by omega),xal]
    match i with
    |0=>
     simp only[xbf,zdx,p0,g0,xab (show 0<mc.length by omega),xa2]
     congr 1
     exact zoe _
    |1=>
     simp only[zdx,p1,g1,xab (show 1<mc.length by omega),xa2]
     congr 1
     exact zoe _
    |i+2=>
     simp only[zdx,pn (A.length+(i+2)) (by omega) (by omega)]
     rw[if_neg (by rw[gl];omega)]
     have e3:[A.length,A.length+1].length+(A.length+(i+2)-M.length)=i+2:=by
      have e2:[A.length,A.length+1].length=2:=rfl
      rw[e2,gl];omega
     rw[e3,xab (show i+2<mc.length by omega)]
     rfl
  ·rw[xaq (by simp;omega),xaq (by simp;omega)]
 exact key _ _ hback hstay
theorem z0i(A:Mem)(mc:Mem):zli (A++mc.map (AObj.ren fun i=>some (A.length+i))) A.length mc:=fun i o ho=>by
 rw[xah (by omega),xbn,xap,ho];rfl
theorem z0j{M M':Mem}{A:Nat}{mc:Mem}(h:zli M A mc)(hs:∀id,id<M.length->M'[id]?=M[id]?):zli M' A mc:=fun i o ho=>by
 have:=h i o ho
 rw[hs _ (xaa.1 this).1];exact this
def zt4(mc:Mem)(hv:IV):Prop:=∀(M:Mem) (A:Nat),zli M A mc->frz M (.optr A 0)=some (.imm (.ptr [hv] 0))
theorem zu5{R:List IV}{N c:Nat}:zt4 (zba R N c) (.slice R 0 N (some c)):=fun M A h=>by
 refine z8b (h0:=?_) (h1:=?_) (r:=A+1)
 ·exact h 0 _ rfl
 ·exact h 1 _ rfl
theorem zu6(M:Mem)(n:Nat):∀W:List IV,(W.map AV.imm).mapM (za5 M (n+1))=some W
 |[]=>rfl
 |w::r=>by
  rw[xa1,xba,zu6 M n r]
  rfl
theorem z0a{M:Mem}{n:Nat}{v:AV}{y:IV}(hv:za5 M (n+1) v=some y):∀(R:List IV) (p:Nat),p<R.length->((R.map AV.imm).set p v).mapM (za5 M (n+1))=some (R.set p y)
 |[],p,h=>by simp at h
 |w::r,0,h=>by
  rw[xa1,List.set_cons_zero,xba,hv,zu6 M n r]
  rfl
 |w::r,p+1,h=>by
  rw[xa1,xce,xba,z0a hv r p (by simpa using h)]
  rfl
theorem z79{R W:List IV}{N c p n:Nat}(hp:p<R.length):zt4 [.rich [.osl 1 0 5 N (some c)],.rich (zak R p (.osl 2 0 2 n none)),.rich (W.map .imm)] (.slice (R.set p (.slice W 0 n none)) 0 N (some c)):=fun M A h=>by
 have h0:M[A]?=some (.rich [.osl (A+1) 0 5 N (some c)]):=h 0 _ rfl
 have h1:M[A+1]?=some (.rich (zak R p (.osl (A+2) 0 2 n none))):=by
  have:=h 1 _ rfl
  rw[this]
  simp only[AObj.ren,zc7,AV.ren]
 have h2:M[A+2]?=some (.rich (W.map .imm)):=by
  have:=h 2 _ rfl
  rw[this]
  simp only[AObj.ren,zon]
 have f3:za5 M 18 (.osl (A+2) 0 2 n none)=some (.slice W 0 n none):=by
  show(match M[A+2]? with
    |some (.flat cells _)=>some (IV.slice cells 0 n none)
    |some (.rich cells)=>(cells.mapM (za5 M 17)).map fun row=>.slice row 0 n none
    |_=>none)=_
  rw[h2]
  dsimp only
  rw[zu6];rfl
 have f2:za5 M 19 (.osl (A+1) 0 5 N (some c))=some (.slice (R.set p (.slice W 0 n none)) 0 N (some c)):=by
  show(match M[A+1]? with
    |some (.flat cells _)=>some (IV.slice cells 0 N (some c))
    |some (.rich cells)=>(cells.mapM (za5 M 18)).map fun row=>.slice row 0 N (some c)
    |_=>none)=_
  rw[h1]
  dsimp only
  unfold zak
  rw[z0a f3 R p hp];rfl
 have f1:za5 M 20 (.optr A 0)=some (.ptr [.slice (R.set p (.slice W 0 n none)) 0 N (some c)] 0):=by
  show(match M[A]? with
    |some (.flat cells _)=>some (IV.ptr cells 0)
    |some (.rich cells)=>(cells.mapM (za5 M 19)).map fun row=>.ptr row 0
    |_=>none)=_
  rw[h0]
  dsimp only
  rw[xba,f2];rfl
 show(za5 M 20 (.optr A 0)).map AV.imm=_
 rw[f1];rfl
end
abbrev zkc(v k x:Val):AObj:=.rich [.imm (.val (.int .u8 v.k)),zaa v.n,.imm (.val (.int .u8 k.k)),zaa k.n,.imm (.val (.int .u8 x.k)),zaa x.n]
abbrev znq(v k x:Val):AV:=.agg [.imm (.val (.int .u8 v.k)),zaa v.n,.imm (.val (.int .u8 k.k)),zaa k.n,.imm (.val (.int .u8 x.k)),zaa x.n]
section
variable {code:Nat->Option zab} {ext:zac}
theorem z9c(h:code 481=some zm5){sv:IV}{v k x:Val}
  (h487:∃m,callW code ext 487 [.imm sv] []=some (avb true,m)) (h489:∃m,callW code ext 489 [] []=some (avb true,m)):
  callW code ext 481 [.imm sv,znq v k x] []=some (avb true,[]):=by
 obtain⟨m1,h487⟩:=h487
 obtain⟨m2,h489⟩:=h489
 rw[zad code ext h]
 simp -implicitDefEqProofs [zm5,h487,h489]
theorem z9b(h:code 481=some zm5){sv:IV}{v k x:Val}{M1 M2 M3 M4 M5 M6 M7 M8 M9 M10 M11:Mem}{N b2 N2 b3 N3 q1 q2 qa qb qd:Nat}{k1 n1 u1 w1 k2 n2 u2 w2:Int}{t1 t2:ByteArray}{F:Nat->Option Nat}
  (h487:∃m,callW code ext 487 [.imm sv] []=some (avb false,m)) (h489:∃m,callW code ext 489 [] []=some (avb true,m))
  (h377:∀e,zcj (callW code ext) ⟨0,e,[zkc v k x]⟩ 377 [.imm sv]=some (.osl 1 0 5 N (some (N+1)),⟨0,e,M1⟩))
  (h488a:∀e,zcj (callW code ext) ⟨0,e,M1⟩ 488 [.imm sv]=some (.optr q1 0,⟨0,e,M2⟩))
  (g2:M2[0]?=some (zkc v k x))
  (h154:∀e,zcf (callW code ext) ⟨0,e,M2⟩ 154 [.optr q1 0,zag v,zag k,avb false]=some (za2 k1 n1 t1 u1,⟨0,e,M3⟩))
  (hqa:M3.length=qa)
  (s4:storeAt (M3++[.rich [.imm (.val (.int .u8 0)),zaa 0,zaq .empty,zaa 0]]) (.optr qa 0) [.imm (.val (.int .u8 k1)),zaa n1,zaq t1,zaa u1]=some M4)
  (h488b:∀e,zcj (callW code ext) ⟨0,e,M4⟩ 488 [.imm sv]=some (.optr q2 0,⟨0,e,M5⟩))
  (g5:M5[0]?=some (zkc v k x))
  (h160:∀e,zcf (callW code ext) ⟨0,e,M5⟩ 160 [.optr q2 0,zag v,zag k,zag x,avb false]=some (za2 k2 n2 t2 u2,⟨0,e,M6⟩))
  (hqb:M6.length=qb)
  (s7:storeAt (M6++[.rich [.imm (.val (.int .u8 0)),zaa 0,zaq .empty,zaa 0]]) (.optr qb 0) [.imm (.val (.int .u8 k2)),zaa n2,zaq t2,zaa u2]=some M7)
  (g7:M7[0]?=some (zkc v k x))
  (h636:∀e,zcj (callW code ext) ⟨0,e,M7⟩ 636 [.osl 1 0 5 N (some (N+1)),zag v,zag k,zag x]=some (.agg [.osl b2 0 5 N2 (some N2),.imm (.val (.int .u8 k2)),zaa n2,zaq t2,zaa w2],⟨0,e,M8⟩))
  (hqd:M8.length=qd)
  (s9:storeAt (M8++[.rich [zaf,.imm (.val (.int .u8 0)),zaa 0,zaq .empty,zaa 0]]) (.optr qd 0) [.osl b2 0 5 N2 (some N2),.imm (.val (.int .u8 k2)),zaa n2,zaq t2,zaa w2]=some M9)
  (g9:M9[0]?=some (zkc v k x))
  (h630:∀e,zcj (callW code ext) ⟨0,e,M9⟩ 630 [.osl 1 0 5 N (some (N+1)),zag v,zag k]=some (.agg [.osl b3 0 5 N3 (some N3),.imm (.val (.int .u8 k1)),zaa n1,zaq t1,zaa w1],⟨0,e,M10⟩))
  (ga:M10[qa]?=some (.rich [.imm (.val (.int .u8 k1)),zaa n1,zaq t1,zaa u1]))
  (gb:M10[qb]?=some (.rich [.imm (.val (.int .u8 k2)),zaa n2,zaq t2,zaa u2]))
  (gd:M10[qd]?=some (.rich [.osl b2 0 5 N2 (some N2),.imm (.val (.int .u8 k2)),zaa n2,zaq t2,zaa w2]))
  (h490a:∀e,zb0 (callW code ext) ⟨0,e,M10⟩ 490 [.agg [.osl b3 0 5 N3 (some N3),.imm (.val (.int .u8 k1)),zaa n1,zaq t1,zaa w1],.optr q1 0,za2 k1 n1 t1 u1,.osl 1 0 5 N (some (N+1)),.imm sv]=some (avb true,⟨0,e,M10⟩))
  (h490b:∀e,zb0 (callW code ext) ⟨0,e,M10⟩ 490 [.agg [.osl b2 0 5 N2 (some N2),.imm (.val (.int .u8 k2)),zaa n2,zaq t2,zaa w2],.optr q2 0,za2 k2 n2 t2 u2,.osl 1 0 5 N (some (N+1)),.imm sv]=some (avb true,⟨0,e,M10⟩))
  (h486:∀e,zel (callW code ext) ⟨0,e,M10⟩ 486 [.osl 1 0 5 N (some (N+1)),.osl b2 0 5 N2 (some N2)]=some (avb true,⟨0,e.ren F,M11⟩)):
  ∃m,callW code ext 481 [.imm sv,znq v k x] []=some (avb true,m):=by
 obtain⟨m1,h487⟩:=h487
 obtain⟨m2,h489⟩:=h489
 refine zfw ?_
 rw[zad code ext h]
 unfold za2 zag znq zkc at *
 have e487:∀s,zb0 (callW code ext) s 487 [.imm sv]=some (avb false,s):=fun s=>by simp -implicitDefEqProofs [zb0,h487]
 have e489:∀s,zb0 (callW code ext) s 489 []=some (avb true,s):=fun s=>by simp -implicitDefEqProofs [zb0,h489]
 clear h487 h489
 simp -implicitDefEqProofs [zm5,e487,e489,h377,-zcj,-zcf,-zel,-storeAt,-zb0,h488a,g2,h154,hqa,s4,h488b,g5,h160,hqb,s7,g7,h636,hqd,s9,g9,h630,ga,gb,gd,h490a,h490b,h486]
 split<;>rfl
def zxn(code:Nat->Option zab)(ext:zac)(sv:IV)(S:List Obj)(v k:Val):Prop:=
 ∃(X:Mem) (TD:List Obj) (kk n w w':Int) (t:ByteArray) (R1:List IV) (N1:Nat),XM 0 TD X/\
  callW code ext 630 [.imm (tsv S),zag v,zag k] []=some (.agg [.osl 0 0 5 TD.length (some TD.length),.imm (.val (.int .u8 kk)),zaa n,zaq t,zaa w],X)/\
  callW code ext 154 [.optr 0 0,zag v,zag k,avb false] (zba (tObj.row (S.map zal++[zat])) S.length (S.length+1))=some (za2 kk n t w',zba R1 N1 (S.length+1))/\
  ∃m,callW code ext 490 [.agg [.imm (.slice (tObj.row (TD.map zae)) 0 TD.length (some TD.length)),.imm (.val (.int .u8 kk)),zaa n,zaq t,zaa w],.imm (.ptr [.slice R1 0 N1 (some (S.length+1))] 0),za2 kk n t w',.imm (tsv S),.imm sv] []=some (avb true,m)
def zxr(code:Nat->Option zab)(ext:zac)(sv:IV)(S:List Obj)(v k x:Val):Prop:=
 ∃(X:Mem) (TD:List Obj) (w w':Int) (t:ByteArray) (mc:Mem) (hv:IV),XM 0 TD X/\TD.length<=1000000/\(∀o∈TD,o.l.xs.length<=1000000)/\
  callW code ext 636 [.imm (tsv S),zag v,zag k,zag x] []=some (.agg [.osl 0 0 5 TD.length (some TD.length),.imm (.val (.int .u8 0)),zaa 0,zaq t,zaa w],X)/\
  callW code ext 160 [.optr 0 0,zag v,zag k,zag x,avb false] (zba (tObj.row (S.map zal++[zat])) S.length (S.length+1))=some (za2 0 0 t w',mc)/\
  2<=mc.length/\((mc[0]?).getD AObj.dead).moved=false/\((mc[1]?).getD AObj.dead).moved=false/\zt4 mc hv/\
  ∃m,callW code ext 490 [.agg [.imm (.slice (tObj.row (TD.map zae)) 0 TD.length (some TD.length)),.imm (.val (.int .u8 0)),zaa 0,zaq t,zaa w],.imm (.ptr [hv] 0),za2 0 0 t w',.imm (tsv S),.imm sv] []=some (avb true,m)
theorem zy5(k n w:Int)(t:ByteArray)(f:Nat->Option Nat):(za2 k n t w).ren f=za2 k n t w:=rfl
theorem z8a{M:Mem}{b:Nat}{TD:List Obj}{kk n w:Int}{t:ByteArray}(h:zi6 M b TD):frz M (.agg [.osl b 0 5 TD.length (some TD.length),.imm (.val (.int .u8 kk)),zaa n,zaq t,zaa w])=some (.agg [.imm (.slice (tObj.row (TD.map zae)) 0 TD.length (some TD.length)),.imm (.val (.int .u8 kk)),zaa n,zaq t,zaa w]):=by
 have f2:=z8c (z67 h)
 show(List.mapM (za5 M 20) _).map _=_
 rw[xba,f2];rfl
set_option maxHeartbeats 4000000 in
theorem z89 (h481:code 481=some zm5) (bk:zlg code) (h486:code 486=some zm6) (mk:zlk code) (tc:zlj code ext) {sv:IV} {S:List Obj} (hS:∀o∈S,o.l.xs.length<=1000000) (hn:S.length<=1000000) {v k x:Val}
  (h487:∃m,callW code ext 487 [.imm sv] []=some (avb false,m)) (h489:∃m,callW code ext 489 [] []=some (avb true,m))
  (h377:∃o,za3 (zay (twR 1 S)++zge) o/\callW code ext 377 [.imm sv] []=some (.osl 0 0 5 S.length (some (S.length+1)),o::S.map zcs))
  (h488:callW code ext 488 [.imm sv] []=some (.optr 0 0,[.rich [.osl 1 0 5 S.length (some (S.length+1))],.flat (tObj.row (S.map zal++[zat])) false]))
  (hg:zxn code ext sv S v k) (hp:zxr code ext sv S v k x):
  ∃m,callW code ext 481 [.imm sv,znq v k x] []=some (avb true,m):=by
 obtain⟨o,hro,h377⟩:=h377
 obtain⟨Xg,TG,kg,ng,wg,wg',tg,RG,NG,hXg,h630,h154,mg,h490g⟩:=hg
 obtain⟨Xp,TP,wp,wp',tp,mc,hv,hXp,hTn,hTl,h636,h160,hml,hm0,hm1,hfz,mp,h490p⟩:=hp
 generalize hB:zkc v k x=B
 obtain⟨M1,c377,t1,l1,p1⟩:=ydh (ext:=ext) hro h377 [B]
 simp only[xat,xa4,xau]at c377 t1 l1 p1
 have g1:M1[0]?=some B:=by rw[p1 0 (by omega)];rfl
 have c488a:=z1r (ext:=ext) h488 M1
 have c154:=z29 (ext:=ext) (fn:=154) (rest:=[zag v,zag k,avb false]) rfl (fun f=>rfl) (A:=M1) (zy5 kg ng wg' tg) (show 2<=(zba RG NG (S.length+1)).length from xan _) rfl rfl h154
 have ha3:=z0i M1 (zba RG NG (S.length+1))
 generalize hM3:M1++(zba RG NG (S.length+1)).map (AObj.ren fun i=>some (M1.length+i))=M3 at *
 have p3:∀id,id<M1.length->M3[id]?=M1[id]?:=fun id h=>by rw[<-hM3];exact xac h
 have l3:M3.length=M1.length+2:=by rw[<-hM3];simp[zba]
 generalize hDa:AObj.rich [.imm (.val (.int .u8 kg)),zaa ng,zaq tg,zaa wg']=Da
 have s4:storeAt (M3++[.rich [.imm (.val (.int .u8 0)),zaa 0,zaq .empty,zaa 0]]) (.optr M3.length 0) [.imm (.val (.int .u8 kg)),zaa ng,zaq tg,zaa wg']=some (M3++[Da]):=by
  rw[<-hDa];exact zwt M3 _ _ rfl
 generalize hM4:M3++[Da]=M4 at *
 have p4:∀id,id<M3.length->M4[id]?=M3[id]?:=fun id h=>by rw[<-hM4];exact xac h
 have l4:M4.length=M3.length+1:=by rw[<-hM4];simp
 have ga4:M4[M3.length]?=some Da:=by rw[<-hM4];exact zfe M3 Da
 have c488b:=z1r (ext:=ext) h488 M4
 have c160:=z29 (ext:=ext) (fn:=160) (rest:=[zag v,zag k,zag x,avb false]) rfl (fun f=>rfl) (A:=M4) (zy5 0 0 wp' tp) hml hm0 hm1 h160
 have ha6:=z0i M4 mc
 generalize hM6:M4++mc.map (AObj.ren fun i=>some (M4.length+i))=M6 at *
 have p6:∀id,id<M4.length->M6[id]?=M4[id]?:=fun id h=>by rw[<-hM6];exact xac h
 have l6:M4.length<=M6.length:=by rw[<-hM6];simp
 generalize hDb:AObj.rich [.imm (.val (.int .u8 0)),zaa 0,zaq tp,zaa wp']=Db
 have s7:storeAt (M6++[.rich [.imm (.val (.int .u8 0)),zaa 0,zaq .empty,zaa 0]]) (.optr M6.length 0) [.imm (.val (.int .u8 0)),zaa 0,zaq tp,zaa wp']=some (M6++[Db]):=by
  rw[<-hDb];exact zwt M6 _ _ rfl
 generalize hM7:M6++[Db]=M7 at *
 have p7:∀id,id<M6.length->M7[id]?=M6[id]?:=fun id h=>by rw[<-hM7];exact xac h
 have l7:M7.length=M6.length+1:=by rw[<-hM7];simp
 have gb7:M7[M6.length]?=some Db:=by rw[<-hM7];exact zfe M6 Db
 have q71:∀id,id<M1.length->M7[id]?=M1[id]?:=fun id h=>by rw[p7 id (by omega),p6 id (by omega),p4 id (by omega),p3 id h]
 have t7:=zwz t1 q71
 obtain⟨M8,c636,d8,l8,p8⟩:=z1q (ext:=ext) (fn:=636) (rest:=[zag v,zag k,zag x]) hXp (zwy t7) rfl h636
 generalize hD:AObj.rich [.osl M7.length 0 5 TP.length (some TP.length),.imm (.val (.int .u8 0)),zaa 0,zaq tp,zaa wp]=D
 have s9:storeAt (M8++[.rich [zaf,.imm (.val (.int .u8 0)),zaa 0,zaq .empty,zaa 0]]) (.optr M8.length 0) [.osl M7.length 0 5 TP.length (some TP.length),.imm (.val (.int .u8 0)),zaa 0,zaq tp,zaa wp]=some (M8++[D]):=by
  rw[<-hD];exact zwt M8 _ _ rfl
 generalize hM9:M8++[D]=M9 at *
 have p9:∀id,id<M8.length->M9[id]?=M8[id]?:=fun id h=>by rw[<-hM9];exact xac h
 have l9:M9.length=M8.length+1:=by rw[<-hM9];simp
 have gd9:M9[M8.length]?=some D:=by rw[<-hM9];exact zfe M8 D
 have q97:∀id,id<M7.length->M9[id]?=M7[id]?:=fun id h=>by rw[p9 id (by omega),p8 id h]
 have t9:=zwz t7 q97
 obtain⟨M10,c630,d10,l10,p10⟩:=z1q (ext:=ext) (fn:=630) (rest:=[zag v,zag k]) hXg (zwy t9) rfl h630
 have q10:∀id,id<M7.length->M10[id]?=M7[id]?:=fun id h=>by rw[p10 id (by omega),q97 id h]
 have t10:=zwz t9 p10
 have dp10:=zy4 (zy4 d8 p9) p10
 have ga10:M10[M3.length]?=some Da:=by rw[q10 _ (by omega),p7 _ (by omega),p6 _ (by omega)];exact ga4
 have gb10:M10[M6.length]?=some Db:=by rw[q10 _ (by omega)];exact gb7
 have gd10:M10[M8.length]?=some D:=by rw[p10 _ (by omega)];exact gd9
 have hg3:zli M10 M1.length (zba RG NG (S.length+1)):=z0j ha3 fun id h=>by rw[q10 id (by omega),p7 id (by omega),p6 id (by omega),p4 id h]
 have hg6:zli M10 M4.length mc:=z0j ha6 fun id h=>by rw[q10 id (by omega),p7 id h]
 have f1:=zwy t10
 have e490:∀{b TD kk n w w' t A hh m} (hd:zi6 M10 b TD) (hf:frz M10 (.optr A 0)=some (.imm (.ptr [hh] 0))),callW code ext 490 [.agg [.imm (.slice (tObj.row (TD.map zae)) 0 TD.length (some TD.length)),.imm (.val (.int .u8 kk)),zaa n,zaq t,zaa w],.imm (.ptr [hh] 0),za2 kk n t w',.imm (tsv S),.imm sv] []=some (avb true,m)->
   ∀e,zb0 (callW code ext) ⟨0,e,M10⟩ 490 [.agg [.osl b 0 5 TD.length (some TD.length),.imm (.val (.int .u8 kk)),zaa n,zaq t,zaa w],.optr A 0,za2 kk n t w',.osl 1 0 5 S.length (some (S.length+1)),.imm sv]=some (avb true,⟨0,e,M10⟩):=by
  intro b TD kk n w w' t A hh m hd hf h e
  have hm:[AV.agg [.osl b 0 5 TD.length (some TD.length),.imm (.val (.int .u8 kk)),zaa n,zaq t,zaa w],.optr A 0,za2 kk n t w',.osl 1 0 5 S.length (some (S.length+1)),.imm sv].mapM (frz M10)=some [.agg [.imm (.slice (tObj.row (TD.map zae)) 0 TD.length (some TD.length)),.imm (.val (.int .u8 kk)),zaa n,zaq t,zaa w],.imm (.ptr [hh] 0),za2 kk n t w',.imm (tsv S),.imm sv]:=by
   have hdv:frz M10 (za2 kk n t w')=some (za2 kk n t w'):=rfl
   rw[xba,z8a hd,xba,hf,xba,hdv,xba,f1];rfl
  simp only[zb0,hm,h]
  rfl
 have hb12:1+S.length<M7.length:=by omega
 obtain⟨M11,c486,l11⟩:=z5h (ext:=ext) bk h486 mk tc t10 dp10 hS hTl hn hTn hb12
 have e486:∀e,zel (callW code ext) ⟨0,e,M10⟩ 486 [.osl 1 0 5 S.length (some (S.length+1)),.osl M7.length 0 5 TP.length (some TP.length)]=some (avb true,⟨0,e.ren (fun id=>if ((M11[id]?).getD .dead).moved then none else some id),M11⟩):=fun e=>by
  unfold zel
  rw[c486]
 subst hB hD hDa hDb
 refine z9b h481 h487 h489 c377 c488a ?_ c154 rfl s4 c488b ?_ c160 rfl s7 ?_ c636 rfl s9 ?_ c630 ga10 gb10 gd10 (e490 d10 (zu5 M10 _ hg3) h490g) (e490 dp10 (hfz M10 _ hg6) h490p) e486
 ·rw[xac (by omega)];exact g1
 ·rw[xac (by omega),p4 0 (by omega),p3 0 (by omega)];exact g1
 ·rw[q71 0 (by omega)];exact g1
 ·rw[q97 0 (by omega),q71 0 (by omega)];exact g1
end
theorem zo2{T:List Obj}{v:Val}(h:zbz T v=true):zbw T v:=by
 intro h3
 unfold zbz at h
 rw[if_neg (by omega),if_neg (by omega),if_neg (by omega)]at h
 exact xbd.1 h
theorem znv{T:List Obj}{v:Val}(h:zcq T v){q:Nat}{o:Obj}(hq:zau T v=some q)(ho:T[q]?=some o):zan T o/\o.k=v.k:=by
 refine⟨h.2 q o (.root (List.mem_singleton_self _) hq) ho,?_⟩
 obtain⟨_,_,_,_,o',ho',hk⟩:=zcg hq
 rw[ho]at ho';cases ho';exact hk
theorem zqo{T:List Obj}{o:Obj}(h:zan T o)(h5:o.k=5):∀(j:Nat) a,o.l.xs[2*j]?=some a->zbw T a:=fun j a hy=>
 zo2 (zva ((zoc h5).1 h).2.2.2.2.2.2.1 a (xag hy))
section
variable {code:Nat->Option zab} {ext:zac} {T:List Obj}
theorem yeq(c:zdr code)(h:HeapK T){ck:Val->Bool}{v k:Val}(hf:zif code ext T v k (zhb ck v k))(hck:zhb ck v k=true->zcq T v/\zcq T k){kk n:Int}{t:ByteArray}{B:List ByteArray}(hg:zxo T ck v k kk n t B):
  callW code ext 154 [.optr 0 0,zag v,zag k,avb false] (zc4 T [])=some (za2 kk n t (z4e B),zc4 T B):=by
 rcases hg with⟨hm,hg⟩|⟨hm,rfl,rfl,rfl,rfl⟩
 ·rw[hm]at hf
  obtain⟨cv,ckk⟩:=hck hm
  cases hg with
  |kind hno=>exact ye2 c hf hno
  |no v5 hq ho hat=>
   obtain⟨ok,hk⟩:=znv cv hq ho
   exact ye3 c h hf v5 hq ho (zo2 ckk.1) (zqo ok (by omega)) hat
  |key v5 hq ho hat ha=>
   obtain⟨ok,hk⟩:=znv cv hq ho
   exact ye1 c h hf v5 hq ho (zo2 ckk.1) (zqo ok (by omega)) hat ha
  |bounds v43 k2 hq ho hs hb=>exact yey c h hf v43 k2 hq ho hs hb
  |item v4 k2 hq ho hs hkn ha=>exact ye0 c h hf v4 k2 hq ho hs hkn ha
  |byte v3 k2 hq ho hs hx hkn hi=>exact yez c h hf v3 k2 hq ho hs hx hkn hi
 ·rw[hm]at hf
  exact yex c hf
theorem yer(c:zdr code)(h:HeapK T){ck:Val->Bool}{v k x:Val}(hf:zi7 code ext T v k x (zhc ck v k x))(hck:zhc ck v k x=true->zcq T v/\zcq T k){t:ByteArray}{d:Int}{ch:Option (Nat×List Val×Int×Bool)}(hp:zt6 T ck v k x t d ch):
  callW code ext 160 [.optr 0 0,zag v,zag k,zag x,avb false] (zcd T none)=some (za2 0 0 t d,zcd T ch):=by
 rcases hp with⟨hm,hp⟩|⟨hm,rfl,rfl,rfl⟩
 ·rw[hm]at hf
  obtain⟨cv,ckk⟩:=hck hm
  have room:∀{q:Nat} {o:Obj},(v.k=4\/v.k=5)->zau T v=some q->T[q]?=some o->0<=o.room/\o.room<=262144:=fun {q o} h45 hq ho=>by
   obtain⟨ok,hk⟩:=znv cv hq ho
   rcases h45 with v4|v5
   ·have:=(zqv (by omega)).1 ok
    exact⟨by omega,this.2.2.2.2.1⟩
   ·have:=(zoc (by omega)).1 ok
    exact⟨by omega,this.2.2.2.2.2.1⟩
  cases hp with
  |kind hno=>exact yfn c hf hno
  |bounds v4 k2 hq ho hb=>exact yfm c h hf v4 k2 hq ho hb
  |set v4 k2 hq ho hkn hi=>exact yfp c h hf v4 k2 hq ho hkn hi
  |push v4 k2 hq ho hkn=>exact yfo c h hf v4 k2 hq ho (room (.inl v4) hq ho).1 (room (.inl v4) hq ho).2 hkn
  |found v5 hq ho hat hj=>
   obtain⟨ok,hk⟩:=znv cv hq ho
   exact z2n c hf v5 (ye8 c h hq ho hj (zo2 ckk.1) (zqo ok (by omega)) hat) (fun q xs r e=>by cases e)
  |key v5 hq ho hat=>
   obtain⟨ok,hk⟩:=znv cv hq ho
   obtain⟨l1,_⟩:=zcg hq
   exact z2n c hf v5 (yfa c h hq ho (room (.inr v5) hq ho).1 (room (.inr v5) hq ho).2 (zo2 ckk.1) (zqo ok (by omega)) hat) (fun q xs r e=>by cases e;exact l1)
 ·rw[hm]at hf
  exact yfl c hf
theorem z0k(hh:zlh T):HeapK T:=⟨zrm hh,by have:=hh.n;omega,fun o ho=>by have:=hh.l o ho;omega⟩
theorem z8g(c:zdr code)(sf:zp1 code){sv:IV}{S:List Obj}(hr:zao tObj sv S)(hh:zlh (S.map zal)){ck:Val->Bool}{v k:Val}(hw:∀x∈[v,k],tVal.wf x)
  (h500:∀y∈[v,k],callW code ext 500 [.imm (tsv S),.agg [.imm (.val (.int .u8 y.k)),zaa y.n]] []=some (avb (ck y),[])) (hck:∀y∈[v,k],ck y=true->zcq (S.map zal) y)
  (hp:znj code ext (tsv S) (S.map zal) ck v k):zxn code ext sv S v k:=by
 obtain⟨kk,n,t,B,X,TD,hg,hB,hX,hl,hA,hc⟩:=hp
 have hTn:=hh.n
 have hlm:(S.map zal).length=S.length:=xam ..
 have hrT:zao tObj (tsv S) (S.map zal):=by
  have:=zrm hh
  rw[hlm]at this
  exact this
 have hrow2:zao tVal (.slice (tVal.row [v,k]) 0 2 (some 2)) [v,k]:=zfj tVal [v,k] hw (by simp) (fun c h=>by cases h;exact xan _)
 have hf:zif code ext (S.map zal) v k (zhb ck v k):=by
  have:=zzx (ext:=ext) c.c152 (sv:=tsv S) hrow2 (by simp) h500
  rw[show tsv S=IV.slice (tObj.row (S.map zal++[zat])) 0 (S.map zal).length (some ((S.map zal).length+1))from by rw[hlm]]at this
  exact this
 have h154:=yeq (ext:=ext) c (z0k hh) hf (fun hm=>by
  have h1:=xai.1 hm v (by simp)
  have h2:=xai.1 hm k (by simp)
  simp only[xaf]at h1 h2
  exact⟨hck v (by simp) h1.2,hck k (by simp) h2.2⟩) hg
 have e0:zc4 (S.map zal) []=zba (tObj.row (S.map zal++[zat])) S.length (S.length+1):=by
  show zba _ (S.map zal).length ((S.map zal).length+1)=_
  rw[hlm]
 rw[e0]at h154
 have hleft:=z06 (ext:=ext) sf.c336 sf.c329 sf.c330 sf.c334 hr
 have hAc:=zt7 hA
 rcases hB with rfl|⟨s,hs,rfl,rfl⟩
 ·have hs355:callW code ext 355 [.imm (.slice (tObj.row (TD.map zae)) 0 TD.length (some TD.length)),.imm (tsv S)] []=some (avb true,[]):=by
   have hAc:zei (S.map zal) (TD.map zae):=by simpa using hAc
   have h1:zao tObj (.slice (tObj.row (TD.map zae)) 0 (TD.map zae).length (some TD.length)) (TD.map zae):=zfj tObj _ hAc.wf (by rw[hAc.len,hlm];omega) (fun c hc=>by cases hc;rw[xam];exact xan _)
   rw[xam]at h1
   exact zwm (ext:=ext) sf.c355 sf.c352 sf.c351 sf.c357 h1 hrT hAc.len (fun i a b ha hb=>(hAc.like i b a hb ha).symm)
  rw[e0]at h154
  exact⟨X,TD,kk,n,_,_,t,_,_,hX,hc,h154,zrd (ext:=ext) sf.c490 sf.c492 hs355 hleft (by simp[zx1,z4e])⟩
 ·have hs355:callW code ext 355 [.imm (.slice (tObj.row (TD.map zae)) 0 TD.length (some TD.length)),.imm (.slice (tObj.row (S.map zal++[zb7 s])) 0 (S.length+1) (some (S.length+1)))] []=some (avb true,[]):=by
   have hAc:zei (S.map zal++[zb7 s]) (TD.map zae):=hAc
   have h1:zao tObj (.slice (tObj.row (TD.map zae)) 0 (TD.map zae).length (some TD.length)) (TD.map zae):=zfj tObj _ hAc.wf (by rw[hAc.len,xao,hlm];simp;omega) (fun c hc=>by cases hc;rw[xam];exact xan _)
   rw[xam]at h1
   have h2:zao tObj (.slice (tObj.row (S.map zal++[zb7 s])) 0 (S.map zal++[zb7 s]).length (some (S.length+1))) (S.map zal++[zb7 s]):=zfj tObj _ (fun o ho=>by
    rcases xak.1 ho with ho|ho
    ·exact hh.wf o ho
    ·rw[xbc.1 ho];exact z4a hs) (by rw[xao,hlm];simp;omega) (fun c hc=>by cases hc;rw[xao,hlm];exact xan _)
   have e2:(S.map zal++[zb7 s]).length=S.length+1:=by rw[xao,hlm];rfl
   rw[e2]at h2
   exact zwm (ext:=ext) sf.c355 sf.c352 sf.c351 sf.c357 h1 h2 hAc.len (fun i a b ha hb=>(hAc.like i b a hb ha).symm)
  have e3:zc4 (S.map zal) [s]=zba (tObj.row (S.map zal++[zb7 s])) (S.length+1) (S.length+1):=by
   show zba _ ((S.map zal).length+1) ((S.map zal).length+1)=_
   rw[hlm]
  rw[e3]at h154
  exact⟨X,TD,kk,n,_,_,.empty,_,_,hX,hc,h154,zrd (ext:=ext) sf.c490 sf.c492 hs355 hleft (by
   rw[if_pos rfl]
   exact z5u hs)⟩
theorem yfj{T:List Obj}{q:Nat}{o:Obj}(ho:T[q]?=some o)(room:Int)(l:Sl tVal):(zbi (tObj.row (T++[zat])) q room).set (q*5+2) l.iv=tObj.row (T.set q { o with room:=room,l:=l }++[zat]):=by
 have hq:=(xaa.1 ho).1
 have h1:(T++[zat])[q]?=some o:=by rw[xac hq];exact ho
 rw[zwg _ q o room h1]
 have h2:((T++[zat]).set q { o with room:=room })[q]?=some { o with room:=room }:=xbl (by rw[xao];omega)
 rw[zq8 _ q _ l h2,List.set_set,xc0 _ _ hq]
theorem ydw(c:zdr code)(sf:zp1 code){sv:IV}{S:List Obj}(hr:zao tObj sv S)(hh:zlh (S.map zal)){ck:Val->Bool}{v k x:Val}(hw:∀y∈[v,k,x],tVal.wf y)
  (h500:∀y∈[v,k,x],callW code ext 500 [.imm (tsv S),.agg [.imm (.val (.int .u8 y.k)),zaa y.n]] []=some (avb (ck y),[])) (hck:∀y∈[v,k,x],ck y=true->zcq (S.map zal) y)
  (hp:zj8 code ext (tsv S) (S.map zal) ck v k x):zxr code ext sv S v k x:=by
 obtain⟨t,d,ch,X,TD,hp,hd0,hX,hl,hst,hc⟩:=hp
 have hTn:=hh.n
 have hlm:(S.map zal).length=S.length:=xam ..
 have hrT:zao tObj (tsv S) (S.map zal):=by
  have:=zrm hh
  rw[hlm]at this
  exact this
 have hrow3:zao tVal (.slice (tVal.row [v,k,x]) 0 3 (some 3)) [v,k,x]:=zfj tVal [v,k,x] hw (by simp) (fun c h=>by cases h;exact xan _)
 have hf:zi7 code ext (S.map zal) v k x (zhc ck v k x):=by
  have:=zzx (ext:=ext) c.c152 (sv:=tsv S) hrow3 (by simp) h500
  rw[show tsv S=IV.slice (tObj.row (S.map zal++[zat])) 0 (S.map zal).length (some ((S.map zal).length+1))from by rw[hlm]]at this
  exact this
 have h160:=yer (ext:=ext) c (z0k hh) hf (fun hm=>by
  have h1:=xai.1 hm v (by simp)
  have h2:=xai.1 hm k (by simp)
  simp only[xaf]at h1 h2
  exact⟨hck v (by simp) h1.2,hck k (by simp) h2.2⟩) hp
 have e0:zcd (S.map zal) none=zba (tObj.row (S.map zal++[zat])) S.length (S.length+1):=by
  show zba _ (S.map zal).length ((S.map zal).length+1)=_
  rw[hlm]
 rw[e0]at h160
 rw[hlm]at hl
 have hleft:=z06 (ext:=ext) sf.c336 sf.c329 sf.c330 sf.c334 hr
 have hwd:d=if t=.empty then d else 0:=by
  split
  ·rfl
  ·rename_i h;exact hd0 h
 rw[hlm,<-hl]at hc
 have same:∀{T2:List Obj} {hv:IV},zei T2 TD->T2.length=S.length->zao tObj hv T2->callW code ext 355 [.imm (.slice (tObj.row (TD.map zae)) 0 TD.length (some TD.length)),.imm hv] []=some (avb true,[]):=by
  intro T2 hv hA hl2 h2
  have hAc:=zt7 hA
  have h1:zao tObj (.slice (tObj.row (TD.map zae)) 0 (TD.map zae).length (some TD.length)) (TD.map zae):=zfj tObj _ hAc.wf (by rw[hAc.len];omega) (fun c hc=>by cases hc;rw[xam];exact xan _)
  rw[xam]at h1
  exact zwm (ext:=ext) sf.c355 sf.c352 sf.c351 sf.c357 h1 h2 hAc.len (fun i a b ha hb=>(hAc.like i b a hb ha).symm)
 have lens:∀{T2:List Obj},zei T2 TD->(∀o∈T2,o.l.xs.length<=60000)->∀o∈TD,o.l.xs.length<=1000000:=by
  intro T2 hA h2 o ho
  obtain⟨i,hi⟩:=xa3 ho
  rcases z5a hA i with⟨_,h3⟩|⟨a,b,h3,h4,h5⟩
  ·rw[h3]at hi;cases hi
  ·rw[h4]at hi;cases hi
   rw[<-h5.2.2.1]
   have:=h2 a (xag h3)
   omega
 have hl5:∀o∈S.map zal,o.l.xs.length<=60000:=fun o ho=>by have:=hh.l o ho;omega
 match ch,hst with
 |none,hst=>
  have hst:zei (S.map zal) TD:=hst
  rw[e0]at h160
  exact⟨X,TD,d,d,t,_,_,hX,by omega,lens hst hl5,hc,h160,xan _,rfl,rfl,zu5,zrd (ext:=ext) sf.c490 sf.c492 (same hst hlm hrT) hleft hwd⟩
 |some (q,xs,room,g),⟨o,l,ho,hiv,hxs,hwf,hg,hx6,hA⟩=>
  have hq:=(xaa.1 ho).1
  have hrc:=yfj ho room l
  rw[hiv]at hrc
  have hl2:((S.map zal).set q { o with room:=room,l:=l }).length=S.length:=by rw[xaw,hlm]
  have hrd:zao tObj (.slice (tObj.row ((S.map zal).set q { o with room:=room,l:=l }++[zat])) 0 S.length (some (S.length+1))) ((S.map zal).set q { o with room:=room,l:=l }):=by
   have:zao tObj (.slice (zrl ((S.map zal).set q { o with room:=room,l:=l })) 0 ((S.map zal).set q { o with room:=room,l:=l }).length (some (((S.map zal).set q { o with room:=room,l:=l }).length+1))) ((S.map zal).set q { o with room:=room,l:=l }):=⟨fun z hz=>by
    rcases xb7 hz with hz|rfl
    ·exact hh.wf z hz
    ·exact hwf,by rw[hl2];omega,.inr ⟨_,0,_,rfl,fun c hc=>by cases hc;exact Nat.le_succ _,zy3 _⟩⟩
   rw[hl2]at this
   exact this
  have hlen:∀z∈(S.map zal).set q { o with room:=room,l:=l },z.l.xs.length<=60000:=fun z hz=>by
   rcases xb7 hz with hz|rfl
   ·exact hl5 z hz
   ·show l.xs.length<=60000
    rw[hxs];exact hx6
  have hsm:=zrd (ext:=ext) sf.c490 sf.c492 (k:=0) (n:=0) (same hA hl2 hrd) hleft hwd
  cases g with
  |false=>
   have hroom:=hg rfl
   have hsame:=zkx (R:=tObj.row (S.map zal++[zat])) (q:=q) (room:=o.room) (zai (zdc (t:=tObj) (xs:=S.map zal++[zat]) (by rw[xac hq];exact ho)) 3 (by decide))
   rw[hroom,hsame,<-hroom]at hrc
   have e1:zcd (S.map zal) (some (q,xs,room,false))=zba (tObj.row ((S.map zal).set q { o with room:=room,l:=l }++[zat])) S.length (S.length+1):=by
    show zba _ (S.map zal).length ((S.map zal).length+1)=_
    rw[hrc,hlm]
   rw[e1]at h160
   exact⟨X,TD,d,d,t,_,_,hX,by omega,lens hA hlen,hc,h160,xan _,rfl,rfl,zu5,hsm⟩
  |true=>
   have hfz:=z79 (R:=zbi (tObj.row (S.map zal++[zat])) q room) (W:=tVal.row xs) (N:=S.length) (c:=S.length+1) (p:=q*5+2) (n:=xs.length) (by
    unfold zbi
    rw[xaw]
    have:=zbg tObj (S.map zal++[zat])
    rw[this,xao]
    simp only[tObj,xat,xa4]
    omega)
   rw[hrc]at hfz
   have e1:zcd (S.map zal) (some (q,xs,room,true))=[.rich [.osl 1 0 5 S.length (some (S.length+1))],.rich (zak (zbi (tObj.row (S.map zal++[zat])) q room) (q*5+2) (.osl 2 0 2 xs.length none)),.rich ((tVal.row xs).map .imm)]:=by
    show[AObj.rich [.osl 1 0 5 (S.map zal).length (some ((S.map zal).length+1))],_,_]=_
    rw[hlm]
   rw[e1]at h160
   exact⟨X,TD,d,d,t,_,_,hX,by omega,lens hA hlen,hc,h160,by simp,rfl,rfl,hfz,hsm⟩
end
section
variable {code:Nat->Option zab} {ext:zac}
theorem z33{sA:AV}{t:TP}{T:List Obj}(hT:zbb code ext sA t T)(h':code 656=some zbo)(hb:T.length<=1048576)(v:Val)(hv:(zct .i64).wf v.n):
  callW code ext 656 [sA,.agg [.imm (.val (.int .u8 v.k)),zaa v.n]] []=some (avb (zbz T v),[]):=by
 rw[zad code ext h']
 have hl:=hT.lead v hv
 by_cases k0:v.k=0
 ·simp -implicitDefEqProofs [zbo,zbz,k0]
 by_cases k1:v.k=1
 ·by_cases n0:v.n=0
  ·simp -implicitDefEqProofs [zbo,zbz,k1,n0]
  ·simp -implicitDefEqProofs [zbo,zbz,k1,n0]
 by_cases k2:v.k=2
 ·simp -implicitDefEqProofs [zbo,zbz,k2]
 cases hq:zau T v with
 |none=>
  rw[hq,zdh]at hl
  try simp only[TP.at]at hl
  simp -implicitDefEqProofs [zbo,hT.refs,hT.ren,zbz,k0,k1,k2,hq,hl]
 |some q=>
  rw[hq,zdh]at hl
  try simp only[TP.at]at hl
  simp -implicitDefEqProofs [zbo,hT.refs,hT.ren,zbz,k0,k1,k2,hq,hl]
def zbd(sA:AV)(t:TP)(k:Nat):Mem:=[.rich [sA],.rich [t.at k]]
theorem z5z{sA:AV}{t:TP}{T:List Obj}(hT:zbb code ext sA t T)(h':code 656=some zbo)(h2:code 653=some zbt)(hb:T.length<=1048576)(k:Nat)(o:Obj)(ho:T[k]?=some o)(v:Val)(hv:(zct .i64).wf v.n):
  callW code ext 653 [.agg [.imm (.val (.int .u8 v.k)),zaa v.n],.optr 0 0,.optr 1 0] (zbd sA t k)=some (avb (zez T o v),zbd sA t k):=by
 rw[zad code ext h2]
 have hval:=z33 (ext:=ext) hT h' hb v hv
 have g0:t.row[t.off+k*5]?=some (.val (.int .u8 o.k)):=zai (hT.obj k o ho) 0 (by omega)
 cases hvv:zbz T v with
 |false=>
  rw[hvv]at hval
  simp -implicitDefEqProofs [zbt,zbd,hT.refs,hT.ren,TP.at,  hval,zez,hvv]
 |true=>
  rw[hvv]at hval
  by_cases c7:v.k=7
  ·have hval7:=hval
   rw[c7]at hval7
   have hvv7:=hvv
   by_cases c6:o.k=6
   ·simp -implicitDefEqProofs [zbt,zbd,hT.refs,hT.ren,TP.at,  hval7,zez,hvv,g0,c7,c6]
   ·simp -implicitDefEqProofs [zbt,zbd,hT.refs,hT.ren,TP.at,  hval7,zez,hvv,g0,c7,c6]
  ·by_cases c6:o.k=6
   ·simp -implicitDefEqProofs [zbt,zbd,hT.refs,hT.ren,TP.at,  hval,zez,hvv,g0,c7,c6]
   ·simp -implicitDefEqProofs [zbt,zbd,hT.refs,hT.ren,TP.at,  hval,zez,hvv,g0,c7,c6]
theorem zc1{sA:AV}{t:TP}{T:List Obj}(hT:zbb code ext sA t T)(h':code 656=some zbo)(h2:code 653=some zbt)(h3:code 759=some zbp)(h4:code 749=some zbr)(hb:T.length<=1048576)(k:Nat)(o:Obj)(ho:T[k]?=some o){lv:IV}{l:List Val}(hl:zao tVal lv l):
  callW code ext 749 [.imm lv,.clo 653 [.optr 0 0,.optr 1 0]] (zbd sA t k)=some (avb (l.any (zez T o)),zbd sA t k):=by
 have hlen:=zaz hl
 have hbl:=hl.2.1
 have loop:∃e s',den code ext (.loop [0,1,7,8] zi4) ⟨2,[(0,.imm lv),(1,.clo 653 [.optr 0 0,.optr 1 0]),(7,zaa l.length),(8,zaa 0)],zbd sA t k⟩=some (e,s')/\e≠ .normal/\
   ((e=.exit 0/\l.any (zez T o)=false/\s'=⟨2,[(0,.imm lv),(1,.clo 653 [.optr 0 0,.optr 1 0]),(7,zaa l.length),(8,zaa l.length),(9,avb false)],zbd sA t k⟩)\/(e=.ret/\l.any (zez T o)=true/\∃i:Nat,s'=⟨2,[(4,zaa (i:Nat))],zbd sA t k⟩)):=by
  refine zb1 (fun n s=>∃(i:Nat),i+n=l.length/\(l.take i).any (zez T o)=false/\s=⟨2,[(0,.imm lv),(1,.clo 653 [.optr 0 0,.optr 1 0]),(7,zaa l.length),(8,zaa (i:Nat))],zbd sA t k⟩) _ ?_ l.length _ ⟨0,by simp,by simp,rfl⟩
  rintro n _ ⟨i,hi,hall,rfl⟩
  by_cases hlt:i<l.length
  ·obtain⟨row,off,cap,rfl,hc,hcut,hget⟩:=zb6 hl (xab hlt)
   have e1:IntKind.wrap .i64 ((i:Int)+1)=(i:Int)+1:=zap (by omega) (by omega)
   have htk:l.take (i+1)=l.take i++[l[i]]:=by rw[xbk,xab hlt];rfl
   have hmem:=xa7 hlt
   have hw:=(hl.1 _ hmem).2
   generalize l[i]=v at hget htk hmem hw
   simp only[tVal]at hget
   have hs:=z5z (ext:=ext) hT h' h2 hb k o ho v hw
   simp only[zbd,TP.at]at hs
   cases hbv:zez T o v with
   |true=>
    rw[hbv]at hs
    refine⟨.ret,⟨2,[(4,zaa (i:Nat))],zbd sA t k⟩,?_,.inr ⟨by simp,.inr ⟨rfl,xcb.2 ⟨v,hmem,hbv⟩,i,rfl⟩⟩⟩
    simp -implicitDefEqProofs [zi4,zbd,hT.refs,hT.ren,TP.at,  hlt,hget,hs]
   |false=>
    rw[hbv]at hs
    refine⟨.normal,⟨2,[(0,.imm (.slice row off l.length cap)),(1,.clo 653 [.optr 0 0,.optr 1 0]),(7,zaa l.length),(8,zaa ((i:Int)+1))],zbd sA t k⟩,?_,.inl ⟨rfl,n-1,by omega,i+1,by omega,by rw[htk,List.any_append,hall];simp[hbv],rfl⟩⟩
    simp -implicitDefEqProofs [zi4,zbd,hT.refs,hT.ren,TP.at,  hlt,hget,hs,e1]
  ·have:i=l.length:=by omega
   subst this
   rw[xb0]at hall
   refine⟨.exit 0,_,?_,.inr ⟨by simp,.inl ⟨rfl,hall,rfl⟩⟩⟩
   simp -implicitDefEqProofs [zi4,zbd,TP.at]
 have hidx:∃r:Int,callW code ext 759 [.imm lv,.clo 653 [.optr 0 0,.optr 1 0]] (zbd sA t k)=some (zaa r,zbd sA t k)/\((0<=r)↔l.any (zez T o)=true):=by
  obtain⟨e,s',g1,_,⟨rfl,ha,rfl⟩|⟨rfl,ha,i,rfl⟩⟩:=loop
  ·refine⟨-1,?_,by rw[ha];simp⟩
   rw[zad code ext h3]
   simp only[zbd,TP.at]at g1 ⊢
   simp -implicitDefEqProofs [zbp,hlen,g1]
  ·refine⟨i,?_,by rw[ha];simp⟩
   rw[zad code ext h3]
   simp only[zbd,TP.at]at g1 ⊢
   simp -implicitDefEqProofs [zbp,hlen,g1]
 obtain⟨r,hr,hri⟩:=hidx
 rw[zad code ext h4]
 have hdec:decide (0<=r)=l.any (zez T o):=by
  cases ha:l.any (zez T o)with
  |true=>simpa using hri.2 ha
  |false=>simp only[decide_eq_false_iff_not];intro hc;rw[hri.1 hc]at ha;cases ha
 simp only[zbd,TP.at]at hr ⊢
 simp -implicitDefEqProofs [zbr,hT.refs,hT.ren,hr,hdec]
end
section
variable {code:Nat->Option zab} {ext:zac}
def zff(acc:List (Int×Int×ByteArray)):Mem:=[.map (zb5 acc)]
theorem z87{sA:AV}{t:TP}{T:List Obj}(hT:zbb code ext sA t T)(hb:T.length<=1048576){row:List IV}{off:Nat}{cap:Option Nat}{l:List Val}(hl:zao tVal (.slice row off l.length cap) l)(i:Nat)(v:Val)(hv:l[i]?=some v)(acc:List (Int×Int×ByteArray)):
  ∃s',den code ext zid ⟨0,[(0,sA),(1,.imm (.slice row off l.length cap)),(5,.omap 0),(6,zaa (i:Nat))],zff acc⟩=some (.normal,s')/\
   s'.tidy [0,1,5,6]=⟨0,[(0,sA),(1,.imm (.slice row off l.length cap)),(5,.omap 0),(6,zaa ((i:Int)+2))],zff (zd8 acc (zdn T v))⟩:=by
 have hlt:=(xaa.1 hv).1
 obtain⟨row',off',cap',he,hc,hcut,hget⟩:=zb6 hl hv
 cases he
 simp only[tVal]at hget
 have g0:row[off+i*2]?=some (.val (.int .u8 v.k)):=zai hget 0 (by omega)
 have hbl:=hl.2.1
 have hw:=(hl.1 v (xag hv)).2
 have e1:IntKind.wrap .i64 ((i:Int)+2)=(i:Int)+2:=zap (by omega) (by omega)
 have hld:=hT.lead v hw
 have hkey:∀x:Int×Int×ByteArray,(zc0 (znz 64 53) [.imm (.val (.int .u8 x.1)),zaa x.2.1,.imm (.val (.string x.2.2))] [.imm (.val (.int .u8 x.1)),zaa x.2.1,.imm (.val (.string x.2.2))]).isSome=true:=z82
 by_cases k3:v.k=3
 ·rw[k3]at hget g0 hld
  cases hq:zau T v with
  |none=>
   have hn:zdn T v=(3,v.n,.empty):=by simp[zdn,k3,hq]
   rw[hq,zdh]at hld
   try simp only[TP.at]at hld
   rw[hn]
   have hk1:=hkey (3,v.n,.empty)
   rcases zqc (3,v.n,.empty) acc 0 with⟨hm,hf⟩|⟨hm,j,hf,hj⟩
   ·have ha:zb5 (zd8 acc (3,v.n,.empty))=zb5 (acc++[(3,v.n,.empty)]):=by rw[zd8,if_neg hm]
    have hsn:=zvr acc (3,v.n,.empty)
    simp only[zff]
    rw[ha]
    clear ha hm
    simp only[zdl]at hf hk1 hsn ⊢
    simp -implicitDefEqProofs [zid,hT.refs,hT.ren,hget,g0,hld,e1,hlt,hf,hk1,hsn]
   ·have ha:zb5 (zd8 acc (3,v.n,.empty))=zb5 acc:=by rw[zd8,if_pos hm]
    have hset:=zvq _ _ _ hj
    simp only[zff]
    rw[ha]
    clear ha hm
    simp only[zdl,xau]at hf hk1 hset ⊢
    simp -implicitDefEqProofs [zid,hT.refs,hT.ren,hget,g0,hld,e1,hlt,hf,hk1,hset]
  |some p=>
   have hn:zdn T v=(3,0,sAt T p):=by simp[zdn,k3,hq]
   rw[hq,zdh]at hld
   try simp only[TP.at]at hld
   obtain⟨hpl,_,_,_,o,ho,_⟩:=zcg hq
   have hso:sAt T p=o.s:=by rw[sAt,ho]
   have g1:t.row[t.off+p*5+1]?=some (.val (.string o.s)):=by
    have hcg:=hT.obj p o ho
    exact zai hcg 1 (by omega)
   rw[hso]at hn
   rw[hn]
   have hk1:=hkey (3,0,o.s)
   rcases zqc (3,0,o.s) acc 0 with⟨hm,hf⟩|⟨hm,j,hf,hj⟩
   ·have ha:zb5 (zd8 acc (3,0,o.s))=zb5 (acc++[(3,0,o.s)]):=by rw[zd8,if_neg hm]
    have hsn:=zvr acc (3,0,o.s)
    simp only[zff]
    rw[ha]
    clear ha hm
    simp only[zdl]at hf hk1 hsn ⊢
    simp -implicitDefEqProofs [zid,hT.refs,hT.ren,hget,g0,g1,hld,e1,hlt,hf,hk1,hsn]
   ·have ha:zb5 (zd8 acc (3,0,o.s))=zb5 acc:=by rw[zd8,if_pos hm]
    have hset:=zvq _ _ _ hj
    simp only[zff]
    rw[ha]
    clear ha hm
    simp only[zdl,xau]at hf hk1 hset ⊢
    simp -implicitDefEqProofs [zid,hT.refs,hT.ren,hget,g0,g1,hld,e1,hlt,hf,hk1,hset]
 ·have hn:zdn T v=(v.k,v.n,.empty):=by simp[zdn,k3]
  rw[hn]
  have hk1:=hkey (v.k,v.n,.empty)
  rcases zqc (v.k,v.n,.empty) acc 0 with⟨hm,hf⟩|⟨hm,j,hf,hj⟩
  ·have ha:zb5 (zd8 acc (v.k,v.n,.empty))=zb5 (acc++[(v.k,v.n,.empty)]):=by rw[zd8,if_neg hm]
   have hsn:=zvr acc (v.k,v.n,.empty)
   simp only[zff]
   rw[ha]
   clear ha hm
   simp only[zdl]at hf hk1 hsn ⊢
   simp -implicitDefEqProofs [zid,hT.refs,hT.ren,hget,g0,k3,hld,e1,hlt,hf,hk1,hsn]
  ·have ha:zb5 (zd8 acc (v.k,v.n,.empty))=zb5 acc:=by rw[zd8,if_pos hm]
   have hset:=zvq _ _ _ hj
   simp only[zff]
   rw[ha]
   clear ha hm
   simp only[zdl,xau]at hf hk1 hset ⊢
   simp -implicitDefEqProofs [zid,hT.refs,hT.ren,hget,g0,k3,hld,e1,hlt,hf,hk1,hset]
theorem z86{sA:AV}{t:TP}{T:List Obj}(hT:zbb code ext sA t T)(h':code 650=some zb2)(hb:T.length<=1048576){lv:IV}{l:List Val}(hl:zao tVal lv l)(hev:l.length%2=0):
  callW code ext 650 [sA,.imm lv] []=some (avb (decide ((zc6 T l l.length).length=l.length / 2)),[]):=by
 have hlen:=zaz hl
 have hbl:=hl.2.1
 have loop:∃e s',den code ext (.loop [0,1,5,6] zid) ⟨0,[(0,sA),(1,.imm lv),(5,.omap 0),(6,zaa 0)],zff []⟩=some (e,s')/\e≠ .normal/\
   (e=.exit 0/\s'=⟨0,[(0,sA),(1,.imm lv),(5,.omap 0),(6,zaa l.length),(13,avb false)],zff (zc6 T l l.length)⟩):=by
  refine zb1 (fun n s=>∃(i:Nat),i+n=l.length/\i%2=0/\s.tidy [0,1,5,6]=⟨0,[(0,sA),(1,.imm lv),(5,.omap 0),(6,zaa (i:Nat))],zff (zc6 T l i)⟩) _ ?_ l.length _ ⟨0,by simp,rfl,by simp -implicitDefEqProofs [zff,hT.refs,hT.ren,zc6,zb5]⟩
  rintro n s ⟨i,hi,hi2,hs⟩
  rw[hs]
  by_cases hlt:i<l.length
  ·obtain⟨row,off,cap,rfl,hc,hcut,hget⟩:=zb6 hl (xab hlt)
   obtain⟨s',g1,g2⟩:=z87 (ext:=ext) hT hb hl i l[i] (xab hlt) (zc6 T l i)
   refine⟨.normal,s',g1,.inl ⟨rfl,n-2,by omega,i+2,by omega,by omega,?_⟩⟩
   rw[g2,zvs T l i l[i] hi2 (xab hlt)]
   rfl
  ·have:i=l.length:=by omega
   subst this
   refine⟨.exit 0,⟨0,[(0,sA),(1,.imm lv),(5,.omap 0),(6,zaa l.length),(13,avb false)],zff (zc6 T l l.length)⟩,?_,.inr ⟨by simp,rfl,rfl⟩⟩
   simp -implicitDefEqProofs [zid,zff,hlen]
 obtain⟨e,s',g1,_,rfl,rfl⟩:=loop
 rw[zad code ext h']
 have hnl:=yct (zc6 T l l.length)
 have e2:IntKind.wrap .i64 ((l.length:Int) / 2)=(l.length:Int) / 2:=zap (by omega) (by omega)
 have hn0:zb5 []=[]:=rfl
 simp only[zff,hn0]at g1
 simp -implicitDefEqProofs [zb2,hlen,g1,hnl,e2]
 omega
end
set_option maxHeartbeats 1000000
section
variable {code:Nat->Option zab} {ext:zac}
theorem z95 {sA:AV} {t:TP} {T:List Obj} (hT:zbb code ext sA t T) (h':code 656=some zbo) (h2:code 653=some zbt) (h3:code 759=some zbp) (h4:code 749=some zbr) (h5:code 650=some zb2) (h6:code 652=some zam) (hb:T.length<=1048576) (k:Nat) (o:Obj) (ho:T[k]?=some o) (k3:o.k=3) (cS:¬o.s=.empty):∃b:Bool,callW code ext 652 [sA,t.at k] []=some (avb b,[])/\(b=true↔zan T o):=by
 rw[zad code ext h6]
 have hlen:=zaz o.l.ok
 have hok:zan T o↔(o.s.size<=4096/\o.l.xs=[]/\o.room=0/\o.fn=0):=by
  unfold zan
  rw[if_pos k3]
 rw[hok]
 clear hok
 have g0:t.row[t.off+k*5]?=some (.val (.int .u8 o.k)):=zai (hT.obj k o ho) 0 (by omega)
 have g1:t.row[t.off+k*5+1]?=some (.val (.string o.s)):=zai (hT.obj k o ho) 1 (by omega)
 have g2:t.row[t.off+k*5+2]?=some (o.l.iv):=zai (hT.obj k o ho) 2 (by omega)
 have g3:t.row[t.off+k*5+3]?=some (.val (.int .i64 o.room)):=zai (hT.obj k o ho) 3 (by omega)
 have g4:t.row[t.off+k*5+4]?=some (.val (.int .i64 o.fn)):=zai (hT.obj k o ho) 4 (by omega)
 have hba:=zc1 (ext:=ext) hT h' h2 h3 h4 hb k o ho o.l.ok
 rw[zc2]at hba
 rw[show decide (o.k=6)=false by simp;omega]at hba
 simp only[zbd,TP.at]at hba
 have cSt:(o.s=.empty)=False:=eq_false cS
 by_cases hh:zas T o.l.xs false=true
 case neg=>
  have hhf:zas T o.l.xs false=false:=by simpa using hh
  rw[hhf]at hba
  refine⟨false,by simp -implicitDefEqProofs [zam,hT.refs,hT.ren,TP.at,hT.box,-AV.cells,zaw,g1,g2,hlen,hba,cSt],?_⟩
  refine⟨fun c=>(by cases c),?_⟩
  rintro⟨_,c,_⟩
  rw[c]at hhf
  cases hhf
 rw[hh]at hba
 by_cases cBn:o.s.size<=4096
 case neg=>
  have cBt:((o.s.size:Int)<=4096)=False:=eq_false (by omega)
  exact⟨false,by simp -implicitDefEqProofs [zam,hT.refs,hT.ren,TP.at,hT.box,-AV.cells,zaw,k3,g0,g1,g2,hlen,hba,cSt,cBt],by simp[cBn]⟩
 have cBt:((o.s.size:Int)<=4096)=True:=eq_true (by omega)
 by_cases cNn:o.l.xs=[]
 case neg=>
  have cN0t:(o.l.xs=[])=False:=eq_false cNn
  exact⟨false,by simp -implicitDefEqProofs [zam,hT.refs,hT.ren,TP.at,hT.box,-AV.cells,zaw,k3,g0,g1,g2,hlen,hba,cSt,cBt,cN0t],by simp[cBn,cNn]⟩
 have cN0t:(o.l.xs=[])=True:=eq_true cNn
 by_cases cZ:o.room=0
 case neg=>
  have cZt:(o.room=0)=False:=eq_false cZ
  exact⟨false,by simp -implicitDefEqProofs [zam,hT.refs,hT.ren,TP.at,hT.box,-AV.cells,zaw,k3,g0,g1,g2,g3,hlen,hba,cSt,cBt,cN0t,cZt],by simp[cBn,cNn,cZ]⟩
 have cZt:(o.room=0)=True:=eq_true cZ
 by_cases cF:o.fn=0
 case neg=>
  have cFt:(o.fn=0)=False:=eq_false cF
  exact⟨false,by simp -implicitDefEqProofs [zam,hT.refs,hT.ren,TP.at,hT.box,-AV.cells,zaw,k3,g0,g1,g2,g3,g4,hlen,hba,cSt,cBt,cN0t,cZt,cFt],by simp[cBn,cNn,cZ,cF]⟩
 have cFt:(o.fn=0)=True:=eq_true cF
 exact⟨true,by simp -implicitDefEqProofs [zam,hT.refs,hT.ren,TP.at,hT.box,-AV.cells,zaw,k3,g0,g1,g2,g3,g4,hlen,hba,cSt,cBt,cN0t,cZt,cFt],by simp[cBn,cNn,cZ,cF]⟩
theorem z96 {sA:AV} {t:TP} {T:List Obj} (hT:zbb code ext sA t T) (h':code 656=some zbo) (h2:code 653=some zbt) (h3:code 759=some zbp) (h4:code 749=some zbr) (h5:code 650=some zb2) (h6:code 652=some zam) (hb:T.length<=1048576) (k:Nat) (o:Obj) (ho:T[k]?=some o) (k3:o.k=3) (cS:o.s=.empty) (cF:¬o.fn=0):∃b:Bool,callW code ext 652 [sA,t.at k] []=some (avb b,[])/\(b=true↔zan T o):=by
 rw[zad code ext h6]
 have hlen:=zaz o.l.ok
 have hok:zan T o↔(o.s.size<=4096/\o.l.xs=[]/\o.room=0/\o.fn=0):=by
  unfold zan
  rw[if_pos k3]
 rw[hok]
 clear hok
 have g0:t.row[t.off+k*5]?=some (.val (.int .u8 o.k)):=zai (hT.obj k o ho) 0 (by omega)
 have g1:t.row[t.off+k*5+1]?=some (.val (.string o.s)):=zai (hT.obj k o ho) 1 (by omega)
 have g2:t.row[t.off+k*5+2]?=some (o.l.iv):=zai (hT.obj k o ho) 2 (by omega)
 have g3:t.row[t.off+k*5+3]?=some (.val (.int .i64 o.room)):=zai (hT.obj k o ho) 3 (by omega)
 have g4:t.row[t.off+k*5+4]?=some (.val (.int .i64 o.fn)):=zai (hT.obj k o ho) 4 (by omega)
 have hba:=zc1 (ext:=ext) hT h' h2 h3 h4 hb k o ho o.l.ok
 rw[zc2]at hba
 rw[show decide (o.k=6)=false by simp;omega]at hba
 simp only[zbd,TP.at]at hba
 have cSt:(o.s=.empty)=True:=eq_true cS
 have cFt:(o.fn=0)=False:=eq_false cF
 by_cases hh:zas T o.l.xs false=true
 case neg=>
  have hhf:zas T o.l.xs false=false:=by simpa using hh
  rw[hhf]at hba
  refine⟨false,by simp -implicitDefEqProofs [zam,hT.refs,hT.ren,TP.at,hT.box,-AV.cells,zaw,g1,g2,g4,hlen,hba,cSt,cFt],?_⟩
  refine⟨fun c=>(by cases c),?_⟩
  rintro⟨_,c,_⟩
  rw[c]at hhf
  cases hhf
 rw[hh]at hba
 have cB:o.s.size<=4096:=by rw[cS];decide
 have cBt:((o.s.size:Int)<=4096)=True:=eq_true (by omega)
 by_cases cNn:o.l.xs=[]
 case neg=>
  have cN0t:(o.l.xs=[])=False:=eq_false cNn
  exact⟨false,by simp -implicitDefEqProofs [zam,hT.refs,hT.ren,TP.at,hT.box,-AV.cells,zaw,k3,g0,g1,g2,g4,hlen,hba,cSt,cFt,cBt,cN0t],by simp[cS,cF,cNn]⟩
 have cN0t:(o.l.xs=[])=True:=eq_true cNn
 by_cases cZ:o.room=0
 case neg=>
  have cZt:(o.room=0)=False:=eq_false cZ
  exact⟨false,by simp -implicitDefEqProofs [zam,hT.refs,hT.ren,TP.at,hT.box,-AV.cells,zaw,k3,g0,g1,g2,g3,g4,hlen,hba,cSt,cFt,cBt,cN0t,cZt],by simp[cS,cF,cNn,cZ]⟩
 have cZt:(o.room=0)=True:=eq_true cZ
 exact⟨false,by simp -implicitDefEqProofs [zam,hT.refs,hT.ren,TP.at,hT.box,-AV.cells,zaw,k3,g0,g1,g2,g3,g4,hlen,hba,cSt,cFt,cBt,cN0t,cZt],by simp[cS,cF,cNn,cZ]⟩
theorem z97 {sA:AV} {t:TP} {T:List Obj} (hT:zbb code ext sA t T) (h':code 656=some zbo) (h2:code 653=some zbt) (h3:code 759=some zbp) (h4:code 749=some zbr) (h5:code 650=some zb2) (h6:code 652=some zam) (hb:T.length<=1048576) (k:Nat) (o:Obj) (ho:T[k]?=some o) (k3:o.k=3) (cS:o.s=.empty) (cF:o.fn=0) (cR:¬(o.l.xs.length:Int)<=o.room):∃b:Bool,callW code ext 652 [sA,t.at k] []=some (avb b,[])/\(b=true↔zan T o):=by
 rw[zad code ext h6]
 have hlen:=zaz o.l.ok
 have hok:zan T o↔(o.s.size<=4096/\o.l.xs=[]/\o.room=0/\o.fn=0):=by
  unfold zan
  rw[if_pos k3]
 rw[hok]
 clear hok
 have g0:t.row[t.off+k*5]?=some (.val (.int .u8 o.k)):=zai (hT.obj k o ho) 0 (by omega)
 have g1:t.row[t.off+k*5+1]?=some (.val (.string o.s)):=zai (hT.obj k o ho) 1 (by omega)
 have g2:t.row[t.off+k*5+2]?=some (o.l.iv):=zai (hT.obj k o ho) 2 (by omega)
 have g3:t.row[t.off+k*5+3]?=some (.val (.int .i64 o.room)):=zai (hT.obj k o ho) 3 (by omega)
 have g4:t.row[t.off+k*5+4]?=some (.val (.int .i64 o.fn)):=zai (hT.obj k o ho) 4 (by omega)
 have hba:=zc1 (ext:=ext) hT h' h2 h3 h4 hb k o ho o.l.ok
 rw[zc2]at hba
 rw[show decide (o.k=6)=false by simp;omega]at hba
 simp only[zbd,TP.at]at hba
 have cSt:(o.s=.empty)=True:=eq_true cS
 have cFt:(o.fn=0)=True:=eq_true cF
 have cRt:((o.l.xs.length:Int)<=o.room)=False:=eq_false cR
 by_cases hh:zas T o.l.xs false=true
 case neg=>
  have hhf:zas T o.l.xs false=false:=by simpa using hh
  rw[hhf]at hba
  refine⟨false,by simp -implicitDefEqProofs [zam,hT.refs,hT.ren,TP.at,hT.box,-AV.cells,zaw,g1,g2,g3,g4,hlen,hba,cSt,cFt,cRt],?_⟩
  refine⟨fun c=>(by cases c),?_⟩
  rintro⟨_,c,_⟩
  rw[c]at hhf
  cases hhf
 rw[hh]at hba
 have cB:o.s.size<=4096:=by rw[cS];decide
 have cBt:((o.s.size:Int)<=4096)=True:=eq_true (by omega)
 by_cases cNn:o.l.xs=[]
 case neg=>
  have cN0t:(o.l.xs=[])=False:=eq_false cNn
  exact⟨false,by simp -implicitDefEqProofs [zam,hT.refs,hT.ren,TP.at,hT.box,-AV.cells,zaw,k3,g0,g1,g2,g3,g4,hlen,hba,cSt,cFt,cRt,cBt,cN0t],by simp[cS,cF,cNn]⟩
 have cN0t:(o.l.xs=[])=True:=eq_true cNn
 by_cases cZ:o.room=0
 case neg=>
  have cZt:(o.room=0)=False:=eq_false cZ
  exact⟨false,by simp -implicitDefEqProofs [zam,hT.refs,hT.ren,TP.at,hT.box,-AV.cells,zaw,k3,g0,g1,g2,g3,g4,hlen,hba,cSt,cFt,cRt,cBt,cN0t,cZt],by simp[cS,cF,cNn,cZ]⟩
 have cZt:(o.room=0)=True:=eq_true cZ
 exact⟨true,by simp -implicitDefEqProofs [zam,hT.refs,hT.ren,TP.at,hT.box,-AV.cells,zaw,k3,g0,g1,g2,g3,g4,hlen,hba,cSt,cFt,cRt,cBt,cN0t,cZt],by simp[cS,cF,cNn,cZ]⟩
theorem z98 {sA:AV} {t:TP} {T:List Obj} (hT:zbb code ext sA t T) (h':code 656=some zbo) (h2:code 653=some zbt) (h3:code 759=some zbp) (h4:code 749=some zbr) (h5:code 650=some zb2) (h6:code 652=some zam) (hb:T.length<=1048576) (k:Nat) (o:Obj) (ho:T[k]?=some o) (k3:o.k=3) (cS:o.s=.empty) (cF:o.fn=0) (cR:(o.l.xs.length:Int)<=o.room) (cQ:¬o.room<=262144):∃b:Bool,callW code ext 652 [sA,t.at k] []=some (avb b,[])/\(b=true↔zan T o):=by
 rw[zad code ext h6]
 have hlen:=zaz o.l.ok
 have hok:zan T o↔(o.s.size<=4096/\o.l.xs=[]/\o.room=0/\o.fn=0):=by
  unfold zan
  rw[if_pos k3]
 rw[hok]
 clear hok
 have g0:t.row[t.off+k*5]?=some (.val (.int .u8 o.k)):=zai (hT.obj k o ho) 0 (by omega)
 have g1:t.row[t.off+k*5+1]?=some (.val (.string o.s)):=zai (hT.obj k o ho) 1 (by omega)
 have g2:t.row[t.off+k*5+2]?=some (o.l.iv):=zai (hT.obj k o ho) 2 (by omega)
 have g3:t.row[t.off+k*5+3]?=some (.val (.int .i64 o.room)):=zai (hT.obj k o ho) 3 (by omega)
 have g4:t.row[t.off+k*5+4]?=some (.val (.int .i64 o.fn)):=zai (hT.obj k o ho) 4 (by omega)
 have hba:=zc1 (ext:=ext) hT h' h2 h3 h4 hb k o ho o.l.ok
 rw[zc2]at hba
 rw[show decide (o.k=6)=false by simp;omega]at hba
 simp only[zbd,TP.at]at hba
 have cSt:(o.s=.empty)=True:=eq_true cS
 have cFt:(o.fn=0)=True:=eq_true cF
 have cRt:((o.l.xs.length:Int)<=o.room)=True:=eq_true cR
 have cQt:(o.room<=262144)=False:=eq_false cQ
 by_cases hh:zas T o.l.xs false=true
 case neg=>
  have hhf:zas T o.l.xs false=false:=by simpa using hh
  rw[hhf]at hba
  refine⟨false,by simp -implicitDefEqProofs [zam,hT.refs,hT.ren,TP.at,hT.box,-AV.cells,zaw,g1,g2,g3,g4,hlen,hba,cSt,cFt,cRt,cQt],?_⟩
  refine⟨fun c=>(by cases c),?_⟩
  rintro⟨_,c,_⟩
  rw[c]at hhf
  cases hhf
 rw[hh]at hba
 have cB:o.s.size<=4096:=by rw[cS];decide
 have cBt:((o.s.size:Int)<=4096)=True:=eq_true (by omega)
 by_cases cNn:o.l.xs=[]
 case neg=>
  have cN0t:(o.l.xs=[])=False:=eq_false cNn
  exact⟨false,by simp -implicitDefEqProofs [zam,hT.refs,hT.ren,TP.at,hT.box,-AV.cells,zaw,k3,g0,g1,g2,g3,g4,hlen,hba,cSt,cFt,cRt,cQt,cBt,cN0t],by simp[cS,cF,cNn]⟩
 have cN0t:(o.l.xs=[])=True:=eq_true cNn
 by_cases cZ:o.room=0
 case neg=>
  have cZt:(o.room=0)=False:=eq_false cZ
  exact⟨false,by simp -implicitDefEqProofs [zam,hT.refs,hT.ren,TP.at,hT.box,-AV.cells,zaw,k3,g0,g1,g2,g3,g4,hlen,hba,cSt,cFt,cRt,cQt,cBt,cN0t,cZt],by simp[cS,cF,cNn,cZ]⟩
 have cZt:(o.room=0)=True:=eq_true cZ
 exact⟨true,by simp -implicitDefEqProofs [zam,hT.refs,hT.ren,TP.at,hT.box,-AV.cells,zaw,k3,g0,g1,g2,g3,g4,hlen,hba,cSt,cFt,cRt,cQt,cBt,cN0t,cZt],by simp[cS,cF,cNn,cZ]⟩
theorem z99 {sA:AV} {t:TP} {T:List Obj} (hT:zbb code ext sA t T) (h':code 656=some zbo) (h2:code 653=some zbt) (h3:code 759=some zbp) (h4:code 749=some zbr) (h5:code 650=some zb2) (h6:code 652=some zam) (hb:T.length<=1048576) (k:Nat) (o:Obj) (ho:T[k]?=some o) (k3:o.k=3) (cS:o.s=.empty) (cF:o.fn=0) (cR:(o.l.xs.length:Int)<=o.room) (cQ:o.room<=262144):∃b:Bool,callW code ext 652 [sA,t.at k] []=some (avb b,[])/\(b=true↔zan T o):=by
 rw[zad code ext h6]
 have hlen:=zaz o.l.ok
 have hok:zan T o↔(o.s.size<=4096/\o.l.xs=[]/\o.room=0/\o.fn=0):=by
  unfold zan
  rw[if_pos k3]
 rw[hok]
 clear hok
 have g0:t.row[t.off+k*5]?=some (.val (.int .u8 o.k)):=zai (hT.obj k o ho) 0 (by omega)
 have g1:t.row[t.off+k*5+1]?=some (.val (.string o.s)):=zai (hT.obj k o ho) 1 (by omega)
 have g2:t.row[t.off+k*5+2]?=some (o.l.iv):=zai (hT.obj k o ho) 2 (by omega)
 have g3:t.row[t.off+k*5+3]?=some (.val (.int .i64 o.room)):=zai (hT.obj k o ho) 3 (by omega)
 have g4:t.row[t.off+k*5+4]?=some (.val (.int .i64 o.fn)):=zai (hT.obj k o ho) 4 (by omega)
 have hba:=zc1 (ext:=ext) hT h' h2 h3 h4 hb k o ho o.l.ok
 rw[zc2]at hba
 rw[show decide (o.k=6)=false by simp;omega]at hba
 simp only[zbd,TP.at]at hba
 have cSt:(o.s=.empty)=True:=eq_true cS
 have cFt:(o.fn=0)=True:=eq_true cF
 have cRt:((o.l.xs.length:Int)<=o.room)=True:=eq_true cR
 have cQt:(o.room<=262144)=True:=eq_true cQ
 by_cases hh:zas T o.l.xs false=true
 case neg=>
  have hhf:zas T o.l.xs false=false:=by simpa using hh
  rw[hhf]at hba
  refine⟨false,by simp -implicitDefEqProofs [zam,hT.refs,hT.ren,TP.at,hT.box,-AV.cells,zaw,g1,g2,g3,g4,hlen,hba,cSt,cFt,cRt,cQt],?_⟩
  refine⟨fun c=>(by cases c),?_⟩
  rintro⟨_,c,_⟩
  rw[c]at hhf
  cases hhf
 rw[hh]at hba
 have cB:o.s.size<=4096:=by rw[cS];decide
 have cBt:((o.s.size:Int)<=4096)=True:=eq_true (by omega)
 by_cases cNn:o.l.xs=[]
 case neg=>
  have cN0t:(o.l.xs=[])=False:=eq_false cNn
  exact⟨false,by simp -implicitDefEqProofs [zam,hT.refs,hT.ren,TP.at,hT.box,-AV.cells,zaw,k3,g0,g1,g2,g3,g4,hlen,hba,cSt,cFt,cRt,cQt,cBt,cN0t],by simp[cS,cF,cNn]⟩
 have cN0t:(o.l.xs=[])=True:=eq_true cNn
 by_cases cZ:o.room=0
 case neg=>
  have cZt:(o.room=0)=False:=eq_false cZ
  exact⟨false,by simp -implicitDefEqProofs [zam,hT.refs,hT.ren,TP.at,hT.box,-AV.cells,zaw,k3,g0,g1,g2,g3,g4,hlen,hba,cSt,cFt,cRt,cQt,cBt,cN0t,cZt],by simp[cS,cF,cNn,cZ]⟩
 have cZt:(o.room=0)=True:=eq_true cZ
 exact⟨true,by simp -implicitDefEqProofs [zam,hT.refs,hT.ren,TP.at,hT.box,-AV.cells,zaw,k3,g0,g1,g2,g3,g4,hlen,hba,cSt,cFt,cRt,cQt,cBt,cN0t,cZt],by simp[cS,cF,cNn,cZ]⟩
theorem z94{sA:AV}{t:TP}{T:List Obj}(hT:zbb code ext sA t T)(h':code 656=some zbo)(h2:code 653=some zbt)(h3:code 759=some zbp)(h4:code 749=some zbr)(h5:code 650=some zb2)(h6:code 652=some zam)(hb:T.length<=1048576)(k:Nat)(o:Obj)(ho:T[k]?=some o)(k3:o.k=3):∃b:Bool,callW code ext 652 [sA,t.at k] []=some (avb b,[])/\(b=true↔zan T o):=by
 by_cases cS:o.s=.empty
 case neg=>exact z95 hT h' h2 h3 h4 h5 h6 hb k o ho k3 cS
 by_cases cF:o.fn=0
 case neg=>exact z96 hT h' h2 h3 h4 h5 h6 hb k o ho k3 cS cF
 by_cases cR:(o.l.xs.length:Int)<=o.room
 case neg=>exact z97 hT h' h2 h3 h4 h5 h6 hb k o ho k3 cS cF cR
 by_cases cQ:o.room<=262144
 case neg=>exact z98 hT h' h2 h3 h4 h5 h6 hb k o ho k3 cS cF cR cQ
 exact z99 hT h' h2 h3 h4 h5 h6 hb k o ho k3 cS cF cR cQ
end
set_option maxHeartbeats 1000000
section
variable {code:Nat->Option zab} {ext:zac}
theorem yab {sA:AV} {t:TP} {T:List Obj} (hT:zbb code ext sA t T) (h':code 656=some zbo) (h2:code 653=some zbt) (h3:code 759=some zbp) (h4:code 749=some zbr) (h5:code 650=some zb2) (h6:code 652=some zam) (hb:T.length<=1048576) (k:Nat) (o:Obj) (ho:T[k]?=some o) (k4:o.k=4) (cS:¬o.s=.empty):∃b:Bool,callW code ext 652 [sA,t.at k] []=some (avb b,[])/\(b=true↔zan T o):=by
 rw[zad code ext h6]
 have hlen:=zaz o.l.ok
 have hok:zan T o↔(o.s=.empty/\o.fn=0/\(o.l.xs.length:Int)<=65536/\(o.l.xs.length:Int)<=o.room/\o.room<=262144/\zas T o.l.xs false=true):=by
  unfold zan
  rw[if_neg (by omega),if_pos k4]
 rw[hok]
 clear hok
 have g0:t.row[t.off+k*5]?=some (.val (.int .u8 o.k)):=zai (hT.obj k o ho) 0 (by omega)
 have g1:t.row[t.off+k*5+1]?=some (.val (.string o.s)):=zai (hT.obj k o ho) 1 (by omega)
 have g2:t.row[t.off+k*5+2]?=some (o.l.iv):=zai (hT.obj k o ho) 2 (by omega)
 have g3:t.row[t.off+k*5+3]?=some (.val (.int .i64 o.room)):=zai (hT.obj k o ho) 3 (by omega)
 have g4:t.row[t.off+k*5+4]?=some (.val (.int .i64 o.fn)):=zai (hT.obj k o ho) 4 (by omega)
 have hba:=zc1 (ext:=ext) hT h' h2 h3 h4 hb k o ho o.l.ok
 rw[zc2]at hba
 rw[show decide (o.k=6)=false by simp;omega]at hba
 simp only[zbd,TP.at]at hba
 have cSt:(o.s=.empty)=False:=eq_false cS
 by_cases hh:zas T o.l.xs false=true
 case neg=>
  have hhf:zas T o.l.xs false=false:=by simpa using hh
  rw[hhf]at hba
  exact⟨false,by simp -implicitDefEqProofs [zam,hT.refs,hT.ren,TP.at,hT.box,-AV.cells,zaw,g1,g2,hlen,hba,cSt],by simp[hhf]⟩
 rw[hh]at hba
 exact⟨false,by simp -implicitDefEqProofs [zam,hT.refs,hT.ren,TP.at,hT.box,-AV.cells,zaw,k4,g0,g1,g2,hlen,hba,cSt],by simp[cS,hh]⟩
theorem yac {sA:AV} {t:TP} {T:List Obj} (hT:zbb code ext sA t T) (h':code 656=some zbo) (h2:code 653=some zbt) (h3:code 759=some zbp) (h4:code 749=some zbr) (h5:code 650=some zb2) (h6:code 652=some zam) (hb:T.length<=1048576) (k:Nat) (o:Obj) (ho:T[k]?=some o) (k4:o.k=4) (cS:o.s=.empty) (cF:¬o.fn=0):∃b:Bool,callW code ext 652 [sA,t.at k] []=some (avb b,[])/\(b=true↔zan T o):=by
 rw[zad code ext h6]
 have hlen:=zaz o.l.ok
 have hok:zan T o↔(o.s=.empty/\o.fn=0/\(o.l.xs.length:Int)<=65536/\(o.l.xs.length:Int)<=o.room/\o.room<=262144/\zas T o.l.xs false=true):=by
  unfold zan
  rw[if_neg (by omega),if_pos k4]
 rw[hok]
 clear hok
 have g0:t.row[t.off+k*5]?=some (.val (.int .u8 o.k)):=zai (hT.obj k o ho) 0 (by omega)
 have g1:t.row[t.off+k*5+1]?=some (.val (.string o.s)):=zai (hT.obj k o ho) 1 (by omega)
 have g2:t.row[t.off+k*5+2]?=some (o.l.iv):=zai (hT.obj k o ho) 2 (by omega)
 have g3:t.row[t.off+k*5+3]?=some (.val (.int .i64 o.room)):=zai (hT.obj k o ho) 3 (by omega)
 have g4:t.row[t.off+k*5+4]?=some (.val (.int .i64 o.fn)):=zai (hT.obj k o ho) 4 (by omega)
 have hba:=zc1 (ext:=ext) hT h' h2 h3 h4 hb k o ho o.l.ok
 rw[zc2]at hba
 rw[show decide (o.k=6)=false by simp;omega]at hba
 simp only[zbd,TP.at]at hba
 have cSt:(o.s=.empty)=True:=eq_true cS
 have cFt:(o.fn=0)=False:=eq_false cF
 by_cases hh:zas T o.l.xs false=true
 case neg=>
  have hhf:zas T o.l.xs false=false:=by simpa using hh
  rw[hhf]at hba
  exact⟨false,by simp -implicitDefEqProofs [zam,hT.refs,hT.ren,TP.at,hT.box,-AV.cells,zaw,g1,g2,g4,hlen,hba,cSt,cFt],by simp[hhf]⟩
 rw[hh]at hba
 exact⟨false,by simp -implicitDefEqProofs [zam,hT.refs,hT.ren,TP.at,hT.box,-AV.cells,zaw,k4,g0,g1,g2,g4,hlen,hba,cSt,cFt],by simp[cS,cF,hh]⟩
theorem yad {sA:AV} {t:TP} {T:List Obj} (hT:zbb code ext sA t T) (h':code 656=some zbo) (h2:code 653=some zbt) (h3:code 759=some zbp) (h4:code 749=some zbr) (h5:code 650=some zb2) (h6:code 652=some zam) (hb:T.length<=1048576) (k:Nat) (o:Obj) (ho:T[k]?=some o) (k4:o.k=4) (cS:o.s=.empty) (cF:o.fn=0) (cR:¬(o.l.xs.length:Int)<=o.room):∃b:Bool,callW code ext 652 [sA,t.at k] []=some (avb b,[])/\(b=true↔zan T o):=by
 rw[zad code ext h6]
 have hlen:=zaz o.l.ok
 have hok:zan T o↔(o.s=.empty/\o.fn=0/\(o.l.xs.length:Int)<=65536/\(o.l.xs.length:Int)<=o.room/\o.room<=262144/\zas T o.l.xs false=true):=by
  unfold zan
  rw[if_neg (by omega),if_pos k4]
 rw[hok]
 clear hok
 have g0:t.row[t.off+k*5]?=some (.val (.int .u8 o.k)):=zai (hT.obj k o ho) 0 (by omega)
 have g1:t.row[t.off+k*5+1]?=some (.val (.string o.s)):=zai (hT.obj k o ho) 1 (by omega)
 have g2:t.row[t.off+k*5+2]?=some (o.l.iv):=zai (hT.obj k o ho) 2 (by omega)
 have g3:t.row[t.off+k*5+3]?=some (.val (.int .i64 o.room)):=zai (hT.obj k o ho) 3 (by omega)
 have g4:t.row[t.off+k*5+4]?=some (.val (.int .i64 o.fn)):=zai (hT.obj k o ho) 4 (by omega)
 have hba:=zc1 (ext:=ext) hT h' h2 h3 h4 hb k o ho o.l.ok
 rw[zc2]at hba
 rw[show decide (o.k=6)=false by simp;omega]at hba
 simp only[zbd,TP.at]at hba
 have cSt:(o.s=.empty)=True:=eq_true cS
 have cFt:(o.fn=0)=True:=eq_true cF
 have cRt:((o.l.xs.length:Int)<=o.room)=False:=eq_false cR
 by_cases hh:zas T o.l.xs false=true
 case neg=>
  have hhf:zas T o.l.xs false=false:=by simpa using hh
  rw[hhf]at hba
  exact⟨false,by simp -implicitDefEqProofs [zam,hT.refs,hT.ren,TP.at,hT.box,-AV.cells,zaw,g1,g2,g3,g4,hlen,hba,cSt,cFt,cRt],by simp[hhf]⟩
 rw[hh]at hba
 exact⟨false,by simp -implicitDefEqProofs [zam,hT.refs,hT.ren,TP.at,hT.box,-AV.cells,zaw,k4,g0,g1,g2,g3,g4,hlen,hba,cSt,cFt,cRt],by simp[cS,cF,cR,hh]⟩
theorem yae {sA:AV} {t:TP} {T:List Obj} (hT:zbb code ext sA t T) (h':code 656=some zbo) (h2:code 653=some zbt) (h3:code 759=some zbp) (h4:code 749=some zbr) (h5:code 650=some zb2) (h6:code 652=some zam) (hb:T.length<=1048576) (k:Nat) (o:Obj) (ho:T[k]?=some o) (k4:o.k=4) (cS:o.s=.empty) (cF:o.fn=0) (cR:(o.l.xs.length:Int)<=o.room) (cQ:¬o.room<=262144):∃b:Bool,callW code ext 652 [sA,t.at k] []=some (avb b,[])/\(b=true↔zan T o):=by
 rw[zad code ext h6]
 have hlen:=zaz o.l.ok
 have hok:zan T o↔(o.s=.empty/\o.fn=0/\(o.l.xs.length:Int)<=65536/\(o.l.xs.length:Int)<=o.room/\o.room<=262144/\zas T o.l.xs false=true):=by
  unfold zan
  rw[if_neg (by omega),if_pos k4]
 rw[hok]
 clear hok
 have g0:t.row[t.off+k*5]?=some (.val (.int .u8 o.k)):=zai (hT.obj k o ho) 0 (by omega)
 have g1:t.row[t.off+k*5+1]?=some (.val (.string o.s)):=zai (hT.obj k o ho) 1 (by omega)
 have g2:t.row[t.off+k*5+2]?=some (o.l.iv):=zai (hT.obj k o ho) 2 (by omega)
 have g3:t.row[t.off+k*5+3]?=some (.val (.int .i64 o.room)):=zai (hT.obj k o ho) 3 (by omega)
 have g4:t.row[t.off+k*5+4]?=some (.val (.int .i64 o.fn)):=zai (hT.obj k o ho) 4 (by omega)
 have hba:=zc1 (ext:=ext) hT h' h2 h3 h4 hb k o ho o.l.ok
 rw[zc2]at hba
 rw[show decide (o.k=6)=false by simp;omega]at hba
 simp only[zbd,TP.at]at hba
 have cSt:(o.s=.empty)=True:=eq_true cS
 have cFt:(o.fn=0)=True:=eq_true cF
 have cRt:((o.l.xs.length:Int)<=o.room)=True:=eq_true cR
 have cQt:(o.room<=262144)=False:=eq_false cQ
 by_cases hh:zas T o.l.xs false=true
 case neg=>
  have hhf:zas T o.l.xs false=false:=by simpa using hh
  rw[hhf]at hba
  exact⟨false,by simp -implicitDefEqProofs [zam,hT.refs,hT.ren,TP.at,hT.box,-AV.cells,zaw,g1,g2,g3,g4,hlen,hba,cSt,cFt,cRt,cQt],by simp[hhf]⟩
 rw[hh]at hba
 exact⟨false,by simp -implicitDefEqProofs [zam,hT.refs,hT.ren,TP.at,hT.box,-AV.cells,zaw,k4,g0,g1,g2,g3,g4,hlen,hba,cSt,cFt,cRt,cQt],by simp[cS,cF,cR,cQ,hh]⟩
theorem yaf {sA:AV} {t:TP} {T:List Obj} (hT:zbb code ext sA t T) (h':code 656=some zbo) (h2:code 653=some zbt) (h3:code 759=some zbp) (h4:code 749=some zbr) (h5:code 650=some zb2) (h6:code 652=some zam) (hb:T.length<=1048576) (k:Nat) (o:Obj) (ho:T[k]?=some o) (k4:o.k=4) (cS:o.s=.empty) (cF:o.fn=0) (cR:(o.l.xs.length:Int)<=o.room) (cQ:o.room<=262144):∃b:Bool,callW code ext 652 [sA,t.at k] []=some (avb b,[])/\(b=true↔zan T o):=by
 rw[zad code ext h6]
 have hlen:=zaz o.l.ok
 have hok:zan T o↔(o.s=.empty/\o.fn=0/\(o.l.xs.length:Int)<=65536/\(o.l.xs.length:Int)<=o.room/\o.room<=262144/\zas T o.l.xs false=true):=by
  unfold zan
  rw[if_neg (by omega),if_pos k4]
 rw[hok]
 clear hok
 have g0:t.row[t.off+k*5]?=some (.val (.int .u8 o.k)):=zai (hT.obj k o ho) 0 (by omega)
 have g1:t.row[t.off+k*5+1]?=some (.val (.string o.s)):=zai (hT.obj k o ho) 1 (by omega)
 have g2:t.row[t.off+k*5+2]?=some (o.l.iv):=zai (hT.obj k o ho) 2 (by omega)
 have g3:t.row[t.off+k*5+3]?=some (.val (.int .i64 o.room)):=zai (hT.obj k o ho) 3 (by omega)
 have g4:t.row[t.off+k*5+4]?=some (.val (.int .i64 o.fn)):=zai (hT.obj k o ho) 4 (by omega)
 have hba:=zc1 (ext:=ext) hT h' h2 h3 h4 hb k o ho o.l.ok
 rw[zc2]at hba
 rw[show decide (o.k=6)=false by simp;omega]at hba
 simp only[zbd,TP.at]at hba
 have cSt:(o.s=.empty)=True:=eq_true cS
 have cFt:(o.fn=0)=True:=eq_true cF
 have cRt:((o.l.xs.length:Int)<=o.room)=True:=eq_true cR
 have cQt:(o.room<=262144)=True:=eq_true cQ
 by_cases hh:zas T o.l.xs false=true
 case neg=>
  have hhf:zas T o.l.xs false=false:=by simpa using hh
  rw[hhf]at hba
  exact⟨false,by simp -implicitDefEqProofs [zam,hT.refs,hT.ren,TP.at,hT.box,-AV.cells,zaw,g1,g2,g3,g4,hlen,hba,cSt,cFt,cRt,cQt],by simp[hhf]⟩
 rw[hh]at hba
 by_cases cN4:(o.l.xs.length:Int)<=65536
 case neg=>
  have cN4t:((o.l.xs.length:Int)<=65536)=False:=eq_false cN4
  exact⟨false,by simp -implicitDefEqProofs [zam,hT.refs,hT.ren,TP.at,hT.box,-AV.cells,zaw,k4,g0,g1,g2,g3,g4,hlen,hba,cSt,cFt,cRt,cQt,cN4t],by simp[cS,cF,cR,cQ,cN4]⟩
 have cN4t:((o.l.xs.length:Int)<=65536)=True:=eq_true cN4
 exact⟨true,by simp -implicitDefEqProofs [zam,hT.refs,hT.ren,TP.at,hT.box,-AV.cells,zaw,k4,g0,g1,g2,g3,g4,hlen,hba,cSt,cFt,cRt,cQt,cN4t],by simp[cS,cF,cR,cQ,cN4,hh]⟩
theorem yaa{sA:AV}{t:TP}{T:List Obj}(hT:zbb code ext sA t T)(h':code 656=some zbo)(h2:code 653=some zbt)(h3:code 759=some zbp)(h4:code 749=some zbr)(h5:code 650=some zb2)(h6:code 652=some zam)(hb:T.length<=1048576)(k:Nat)(o:Obj)(ho:T[k]?=some o)(k4:o.k=4):∃b:Bool,callW code ext 652 [sA,t.at k] []=some (avb b,[])/\(b=true↔zan T o):=by
 by_cases cS:o.s=.empty
 case neg=>exact yab hT h' h2 h3 h4 h5 h6 hb k o ho k4 cS
 by_cases cF:o.fn=0
 case neg=>exact yac hT h' h2 h3 h4 h5 h6 hb k o ho k4 cS cF
 by_cases cR:(o.l.xs.length:Int)<=o.room
 case neg=>exact yad hT h' h2 h3 h4 h5 h6 hb k o ho k4 cS cF cR
 by_cases cQ:o.room<=262144
 case neg=>exact yae hT h' h2 h3 h4 h5 h6 hb k o ho k4 cS cF cR cQ
 exact yaf hT h' h2 h3 h4 h5 h6 hb k o ho k4 cS cF cR cQ
end
set_option maxHeartbeats 1000000
section
variable {code:Nat->Option zab} {ext:zac}
theorem yah {sA:AV} {t:TP} {T:List Obj} (hT:zbb code ext sA t T) (h':code 656=some zbo) (h2:code 653=some zbt) (h3:code 759=some zbp) (h4:code 749=some zbr) (h5:code 650=some zb2) (h6:code 652=some zam) (hb:T.length<=1048576) (k:Nat) (o:Obj) (ho:T[k]?=some o) (k5:o.k=5) (cS:¬o.s=.empty):∃b:Bool,callW code ext 652 [sA,t.at k] []=some (avb b,[])/\(b=true↔zan T o):=by
 rw[zad code ext h6]
 have hlen:=zaz o.l.ok
 have hok:zan T o↔(o.s=.empty/\o.fn=0/\(o.l.xs.length:Int).tmod 2=0/\(o.l.xs.length:Int)<=131072/\(o.l.xs.length:Int)<=o.room/\o.room<=262144/\zas T o.l.xs false=true/\zfr T o.l.xs):=by
  unfold zan
  rw[if_neg (by omega),if_neg (by omega),if_pos k5]
 rw[hok]
 clear hok
 have g0:t.row[t.off+k*5]?=some (.val (.int .u8 o.k)):=zai (hT.obj k o ho) 0 (by omega)
 have g1:t.row[t.off+k*5+1]?=some (.val (.string o.s)):=zai (hT.obj k o ho) 1 (by omega)
 have g2:t.row[t.off+k*5+2]?=some (o.l.iv):=zai (hT.obj k o ho) 2 (by omega)
 have g3:t.row[t.off+k*5+3]?=some (.val (.int .i64 o.room)):=zai (hT.obj k o ho) 3 (by omega)
 have g4:t.row[t.off+k*5+4]?=some (.val (.int .i64 o.fn)):=zai (hT.obj k o ho) 4 (by omega)
 have hba:=zc1 (ext:=ext) hT h' h2 h3 h4 hb k o ho o.l.ok
 rw[zc2]at hba
 rw[show decide (o.k=6)=false by simp;omega]at hba
 simp only[zbd,TP.at]at hba
 have cSt:(o.s=.empty)=False:=eq_false cS
 by_cases hh:zas T o.l.xs false=true
 case neg=>
  have hhf:zas T o.l.xs false=false:=by simpa using hh
  rw[hhf]at hba
  exact⟨false,by simp -implicitDefEqProofs [zam,hT.refs,hT.ren,TP.at,hT.box,-AV.cells,zaw,g1,g2,hlen,hba,cSt],by simp[hhf]⟩
 rw[hh]at hba
 exact⟨false,by simp -implicitDefEqProofs [zam,hT.refs,hT.ren,TP.at,hT.box,-AV.cells,zaw,k5,g0,g1,g2,hlen,hba,cSt],by simp[cS,hh]⟩
theorem yai {sA:AV} {t:TP} {T:List Obj} (hT:zbb code ext sA t T) (h':code 656=some zbo) (h2:code 653=some zbt) (h3:code 759=some zbp) (h4:code 749=some zbr) (h5:code 650=some zb2) (h6:code 652=some zam) (hb:T.length<=1048576) (k:Nat) (o:Obj) (ho:T[k]?=some o) (k5:o.k=5) (cS:o.s=.empty) (cF:¬o.fn=0):∃b:Bool,callW code ext 652 [sA,t.at k] []=some (avb b,[])/\(b=true↔zan T o):=by
 rw[zad code ext h6]
 have hlen:=zaz o.l.ok
 have hok:zan T o↔(o.s=.empty/\o.fn=0/\(o.l.xs.length:Int).tmod 2=0/\(o.l.xs.length:Int)<=131072/\(o.l.xs.length:Int)<=o.room/\o.room<=262144/\zas T o.l.xs false=true/\zfr T o.l.xs):=by
  unfold zan
  rw[if_neg (by omega),if_neg (by omega),if_pos k5]
 rw[hok]
 clear hok
 have g0:t.row[t.off+k*5]?=some (.val (.int .u8 o.k)):=zai (hT.obj k o ho) 0 (by omega)
 have g1:t.row[t.off+k*5+1]?=some (.val (.string o.s)):=zai (hT.obj k o ho) 1 (by omega)
 have g2:t.row[t.off+k*5+2]?=some (o.l.iv):=zai (hT.obj k o ho) 2 (by omega)
 have g3:t.row[t.off+k*5+3]?=some (.val (.int .i64 o.room)):=zai (hT.obj k o ho) 3 (by omega)
 have g4:t.row[t.off+k*5+4]?=some (.val (.int .i64 o.fn)):=zai (hT.obj k o ho) 4 (by omega)
 have hba:=zc1 (ext:=ext) hT h' h2 h3 h4 hb k o ho o.l.ok
 rw[zc2]at hba
 rw[show decide (o.k=6)=false by simp;omega]at hba
 simp only[zbd,TP.at]at hba
 have cSt:(o.s=.empty)=True:=eq_true cS
 have cFt:(o.fn=0)=False:=eq_false cF
 by_cases hh:zas T o.l.xs false=true
 case neg=>
  have hhf:zas T o.l.xs false=false:=by simpa using hh
  rw[hhf]at hba
  exact⟨false,by simp -implicitDefEqProofs [zam,hT.refs,hT.ren,TP.at,hT.box,-AV.cells,zaw,g1,g2,g4,hlen,hba,cSt,cFt],by simp[hhf]⟩
 rw[hh]at hba
 exact⟨false,by simp -implicitDefEqProofs [zam,hT.refs,hT.ren,TP.at,hT.box,-AV.cells,zaw,k5,g0,g1,g2,g4,hlen,hba,cSt,cFt],by simp[cS,cF,hh]⟩
theorem yaj {sA:AV} {t:TP} {T:List Obj} (hT:zbb code ext sA t T) (h':code 656=some zbo) (h2:code 653=some zbt) (h3:code 759=some zbp) (h4:code 749=some zbr) (h5:code 650=some zb2) (h6:code 652=some zam) (hb:T.length<=1048576) (k:Nat) (o:Obj) (ho:T[k]?=some o) (k5:o.k=5) (cS:o.s=.empty) (cF:o.fn=0) (cR:¬(o.l.xs.length:Int)<=o.room):∃b:Bool,callW code ext 652 [sA,t.at k] []=some (avb b,[])/\(b=true↔zan T o):=by
 rw[zad code ext h6]
 have hlen:=zaz o.l.ok
 have hok:zan T o↔(o.s=.empty/\o.fn=0/\(o.l.xs.length:Int).tmod 2=0/\(o.l.xs.length:Int)<=131072/\(o.l.xs.length:Int)<=o.room/\o.room<=262144/\zas T o.l.xs false=true/\zfr T o.l.xs):=by
  unfold zan
  rw[if_neg (by omega),if_neg (by omega),if_pos k5]
 rw[hok]
 clear hok
 have g0:t.row[t.off+k*5]?=some (.val (.int .u8 o.k)):=zai (hT.obj k o ho) 0 (by omega)
 have g1:t.row[t.off+k*5+1]?=some (.val (.string o.s)):=zai (hT.obj k o ho) 1 (by omega)
 have g2:t.row[t.off+k*5+2]?=some (o.l.iv):=zai (hT.obj k o ho) 2 (by omega)
 have g3:t.row[t.off+k*5+3]?=some (.val (.int .i64 o.room)):=zai (hT.obj k o ho) 3 (by omega)
 have g4:t.row[t.off+k*5+4]?=some (.val (.int .i64 o.fn)):=zai (hT.obj k o ho) 4 (by omega)
 have hba:=zc1 (ext:=ext) hT h' h2 h3 h4 hb k o ho o.l.ok
 rw[zc2]at hba
 rw[show decide (o.k=6)=false by simp;omega]at hba
 simp only[zbd,TP.at]at hba
 have cSt:(o.s=.empty)=True:=eq_true cS
 have cFt:(o.fn=0)=True:=eq_true cF
 have cRt:((o.l.xs.length:Int)<=o.room)=False:=eq_false cR
 by_cases hh:zas T o.l.xs false=true
 case neg=>
  have hhf:zas T o.l.xs false=false:=by simpa using hh
  rw[hhf]at hba
  exact⟨false,by simp -implicitDefEqProofs [zam,hT.refs,hT.ren,TP.at,hT.box,-AV.cells,zaw,g1,g2,g3,g4,hlen,hba,cSt,cFt,cRt],by simp[hhf]⟩
 rw[hh]at hba
 exact⟨false,by simp -implicitDefEqProofs [zam,hT.refs,hT.ren,TP.at,hT.box,-AV.cells,zaw,k5,g0,g1,g2,g3,g4,hlen,hba,cSt,cFt,cRt],by simp[cS,cF,cR,hh]⟩
theorem yak {sA:AV} {t:TP} {T:List Obj} (hT:zbb code ext sA t T) (h':code 656=some zbo) (h2:code 653=some zbt) (h3:code 759=some zbp) (h4:code 749=some zbr) (h5:code 650=some zb2) (h6:code 652=some zam) (hb:T.length<=1048576) (k:Nat) (o:Obj) (ho:T[k]?=some o) (k5:o.k=5) (cS:o.s=.empty) (cF:o.fn=0) (cR:(o.l.xs.length:Int)<=o.room) (cQ:¬o.room<=262144):∃b:Bool,callW code ext 652 [sA,t.at k] []=some (avb b,[])/\(b=true↔zan T o):=by
 rw[zad code ext h6]
 have hlen:=zaz o.l.ok
 have hok:zan T o↔(o.s=.empty/\o.fn=0/\(o.l.xs.length:Int).tmod 2=0/\(o.l.xs.length:Int)<=131072/\(o.l.xs.length:Int)<=o.room/\o.room<=262144/\zas T o.l.xs false=true/\zfr T o.l.xs):=by
  unfold zan
  rw[if_neg (by omega),if_neg (by omega),if_pos k5]
 rw[hok]
 clear hok
 have g0:t.row[t.off+k*5]?=some (.val (.int .u8 o.k)):=zai (hT.obj k o ho) 0 (by omega)
 have g1:t.row[t.off+k*5+1]?=some (.val (.string o.s)):=zai (hT.obj k o ho) 1 (by omega)
 have g2:t.row[t.off+k*5+2]?=some (o.l.iv):=zai (hT.obj k o ho) 2 (by omega)
 have g3:t.row[t.off+k*5+3]?=some (.val (.int .i64 o.room)):=zai (hT.obj k o ho) 3 (by omega)
 have g4:t.row[t.off+k*5+4]?=some (.val (.int .i64 o.fn)):=zai (hT.obj k o ho) 4 (by omega)
 have hba:=zc1 (ext:=ext) hT h' h2 h3 h4 hb k o ho o.l.ok
 rw[zc2]at hba
 rw[show decide (o.k=6)=false by simp;omega]at hba
 simp only[zbd,TP.at]at hba
 have cSt:(o.s=.empty)=True:=eq_true cS
 have cFt:(o.fn=0)=True:=eq_true cF
 have cRt:((o.l.xs.length:Int)<=o.room)=True:=eq_true cR
 have cQt:(o.room<=262144)=False:=eq_false cQ
 by_cases hh:zas T o.l.xs false=true
 case neg=>
  have hhf:zas T o.l.xs false=false:=by simpa using hh
  rw[hhf]at hba
  exact⟨false,by simp -implicitDefEqProofs [zam,hT.refs,hT.ren,TP.at,hT.box,-AV.cells,zaw,g1,g2,g3,g4,hlen,hba,cSt,cFt,cRt,cQt],by simp[hhf]⟩
 rw[hh]at hba
 exact⟨false,by simp -implicitDefEqProofs [zam,hT.refs,hT.ren,TP.at,hT.box,-AV.cells,zaw,k5,g0,g1,g2,g3,g4,hlen,hba,cSt,cFt,cRt,cQt],by simp[cS,cF,cR,cQ,hh]⟩
theorem yal {sA:AV} {t:TP} {T:List Obj} (hT:zbb code ext sA t T) (h':code 656=some zbo) (h2:code 653=some zbt) (h3:code 759=some zbp) (h4:code 749=some zbr) (h5:code 650=some zb2) (h6:code 652=some zam) (hb:T.length<=1048576) (k:Nat) (o:Obj) (ho:T[k]?=some o) (k5:o.k=5) (cS:o.s=.empty) (cF:o.fn=0) (cR:(o.l.xs.length:Int)<=o.room) (cQ:o.room<=262144):∃b:Bool,callW code ext 652 [sA,t.at k] []=some (avb b,[])/\(b=true↔zan T o):=by
 rw[zad code ext h6]
 have hlen:=zaz o.l.ok
 have hok:zan T o↔(o.s=.empty/\o.fn=0/\(o.l.xs.length:Int).tmod 2=0/\(o.l.xs.length:Int)<=131072/\(o.l.xs.length:Int)<=o.room/\o.room<=262144/\zas T o.l.xs false=true/\zfr T o.l.xs):=by
  unfold zan
  rw[if_neg (by omega),if_neg (by omega),if_pos k5]
 rw[hok]
 clear hok
 have g0:t.row[t.off+k*5]?=some (.val (.int .u8 o.k)):=zai (hT.obj k o ho) 0 (by omega)
 have g1:t.row[t.off+k*5+1]?=some (.val (.string o.s)):=zai (hT.obj k o ho) 1 (by omega)
 have g2:t.row[t.off+k*5+2]?=some (o.l.iv):=zai (hT.obj k o ho) 2 (by omega)
 have g3:t.row[t.off+k*5+3]?=some (.val (.int .i64 o.room)):=zai (hT.obj k o ho) 3 (by omega)
 have g4:t.row[t.off+k*5+4]?=some (.val (.int .i64 o.fn)):=zai (hT.obj k o ho) 4 (by omega)
 have hba:=zc1 (ext:=ext) hT h' h2 h3 h4 hb k o ho o.l.ok
 rw[zc2]at hba
 rw[show decide (o.k=6)=false by simp;omega]at hba
 simp only[zbd,TP.at]at hba
 have cSt:(o.s=.empty)=True:=eq_true cS
 have cFt:(o.fn=0)=True:=eq_true cF
 have cRt:((o.l.xs.length:Int)<=o.room)=True:=eq_true cR
 have cQt:(o.room<=262144)=True:=eq_true cQ
 by_cases hh:zas T o.l.xs false=true
 case neg=>
  have hhf:zas T o.l.xs false=false:=by simpa using hh
  rw[hhf]at hba
  exact⟨false,by simp -implicitDefEqProofs [zam,hT.refs,hT.ren,TP.at,hT.box,-AV.cells,zaw,g1,g2,g3,g4,hlen,hba,cSt,cFt,cRt,cQt],by simp[hhf]⟩
 rw[hh]at hba
 by_cases cE:(o.l.xs.length:Int).tmod 2=0
 case neg=>
  have cEt:((o.l.xs.length:Int).tmod 2=0)=False:=eq_false cE
  first
  |(exfalso;omega)
  |exact⟨false,by simp -implicitDefEqProofs [zam,hT.refs,hT.ren,TP.at,hT.box,-AV.cells,zaw,k5,g0,g1,g2,g3,g4,hlen,hba,cSt,cFt,cRt,cQt,cEt],by simp[cS,cF,cR,cQ,cE]⟩
 have cEt:((o.l.xs.length:Int).tmod 2=0)=True:=eq_true cE
 by_cases cN5:(o.l.xs.length:Int)<=131072
 case neg=>
  have cN5t:((o.l.xs.length:Int)<=131072)=False:=eq_false cN5
  first
  |(exfalso;omega)
  |exact⟨false,by simp -implicitDefEqProofs [zam,hT.refs,hT.ren,TP.at,hT.box,-AV.cells,zaw,k5,g0,g1,g2,g3,g4,hlen,hba,cSt,cFt,cRt,cQt,cEt,cN5t],by simp[cS,cF,cR,cQ,cE,cN5]⟩
 have cN5t:((o.l.xs.length:Int)<=131072)=True:=eq_true cN5
 have hev:o.l.xs.length%2=0:=by
  have h9:=cE
  rw[Int.tmod_eq_emod_of_nonneg (by omega)]at h9
  omega
 have hkv:∀v∈o.l.xs,zbz T v=true:=by
  intro v hv
  have h1:=xai.1 hh v hv
  simp only[xaf]at h1
  exact h1.1
 have hkk:=z86 (ext:=ext) hT h5 hb o.l.ok hev
 have hki:=z88 T o.l.xs hev hkv
 have hkb:(decide ((zc6 T o.l.xs o.l.xs.length).length=o.l.xs.length / 2)=true)↔zfr T o.l.xs:=by rw[decide_eq_true_eq,hki]
 generalize decide ((zc6 T o.l.xs o.l.xs.length).length=o.l.xs.length / 2)=bk at hkk hkb
 refine⟨bk,?_,by rw[hkb];simp[cS,cF,cR,cQ,cE,cN5,hh]⟩
 simp -implicitDefEqProofs [zam,hT.refs,hT.ren,TP.at,hT.box,-AV.cells,zaw,k5,g0,g1,g2,g3,g4,hlen,hba,cSt,cFt,cRt,cQt,cEt,cN5t,hkk]
theorem yag{sA:AV}{t:TP}{T:List Obj}(hT:zbb code ext sA t T)(h':code 656=some zbo)(h2:code 653=some zbt)(h3:code 759=some zbp)(h4:code 749=some zbr)(h5:code 650=some zb2)(h6:code 652=some zam)(hb:T.length<=1048576)(k:Nat)(o:Obj)(ho:T[k]?=some o)(k5:o.k=5):∃b:Bool,callW code ext 652 [sA,t.at k] []=some (avb b,[])/\(b=true↔zan T o):=by
 by_cases cS:o.s=.empty
 case neg=>exact yah hT h' h2 h3 h4 h5 h6 hb k o ho k5 cS
 by_cases cF:o.fn=0
 case neg=>exact yai hT h' h2 h3 h4 h5 h6 hb k o ho k5 cS cF
 by_cases cR:(o.l.xs.length:Int)<=o.room
 case neg=>exact yaj hT h' h2 h3 h4 h5 h6 hb k o ho k5 cS cF cR
 by_cases cQ:o.room<=262144
 case neg=>exact yak hT h' h2 h3 h4 h5 h6 hb k o ho k5 cS cF cR cQ
 exact yal hT h' h2 h3 h4 h5 h6 hb k o ho k5 cS cF cR cQ
end
set_option maxHeartbeats 1000000
section
variable {code:Nat->Option zab} {ext:zac}
theorem yan {sA:AV} {t:TP} {T:List Obj} (hT:zbb code ext sA t T) (h':code 656=some zbo) (h2:code 653=some zbt) (h3:code 759=some zbp) (h4:code 749=some zbr) (h5:code 650=some zb2) (h6:code 652=some zam) (hb:T.length<=1048576) (k:Nat) (o:Obj) (ho:T[k]?=some o) (k6:o.k=6) (cS:¬o.s=.empty):∃b:Bool,callW code ext 652 [sA,t.at k] []=some (avb b,[])/\(b=true↔zan T o):=by
 rw[zad code ext h6]
 have hlen:=zaz o.l.ok
 have hok:zan T o↔(o.s=.empty/\o.room=0/\0<=o.fn/\o.fn<256/\zas T o.l.xs true=true):=by
  unfold zan
  rw[if_neg (by omega),if_neg (by omega),if_neg (by omega),if_pos k6]
 rw[hok]
 clear hok
 have g0:t.row[t.off+k*5]?=some (.val (.int .u8 o.k)):=zai (hT.obj k o ho) 0 (by omega)
 have g1:t.row[t.off+k*5+1]?=some (.val (.string o.s)):=zai (hT.obj k o ho) 1 (by omega)
 have g2:t.row[t.off+k*5+2]?=some (o.l.iv):=zai (hT.obj k o ho) 2 (by omega)
 have g3:t.row[t.off+k*5+3]?=some (.val (.int .i64 o.room)):=zai (hT.obj k o ho) 3 (by omega)
 have g4:t.row[t.off+k*5+4]?=some (.val (.int .i64 o.fn)):=zai (hT.obj k o ho) 4 (by omega)
 have hba:=zc1 (ext:=ext) hT h' h2 h3 h4 hb k o ho o.l.ok
 rw[zc2]at hba
 rw[show decide (o.k=6)=true by simp[k6]]at hba
 simp only[zbd,TP.at]at hba
 have cSt:(o.s=.empty)=False:=eq_false cS
 by_cases hh:zas T o.l.xs true=true
 case neg=>
  have hhf:zas T o.l.xs true=false:=by simpa using hh
  rw[hhf]at hba
  exact⟨false,by simp -implicitDefEqProofs [zam,hT.refs,hT.ren,TP.at,hT.box,-AV.cells,zaw,g1,g2,hlen,hba,cSt],by simp[hhf]⟩
 rw[hh]at hba
 exact⟨false,by simp -implicitDefEqProofs [zam,hT.refs,hT.ren,TP.at,hT.box,-AV.cells,zaw,k6,g0,g1,g2,hlen,hba,cSt],by simp[cS,hh]⟩
theorem yao {sA:AV} {t:TP} {T:List Obj} (hT:zbb code ext sA t T) (h':code 656=some zbo) (h2:code 653=some zbt) (h3:code 759=some zbp) (h4:code 749=some zbr) (h5:code 650=some zb2) (h6:code 652=some zam) (hb:T.length<=1048576) (k:Nat) (o:Obj) (ho:T[k]?=some o) (k6:o.k=6) (cS:o.s=.empty) (cF:¬o.fn=0):∃b:Bool,callW code ext 652 [sA,t.at k] []=some (avb b,[])/\(b=true↔zan T o):=by
 rw[zad code ext h6]
 have hlen:=zaz o.l.ok
 have hok:zan T o↔(o.s=.empty/\o.room=0/\0<=o.fn/\o.fn<256/\zas T o.l.xs true=true):=by
  unfold zan
  rw[if_neg (by omega),if_neg (by omega),if_neg (by omega),if_pos k6]
 rw[hok]
 clear hok
 have g0:t.row[t.off+k*5]?=some (.val (.int .u8 o.k)):=zai (hT.obj k o ho) 0 (by omega)
 have g1:t.row[t.off+k*5+1]?=some (.val (.string o.s)):=zai (hT.obj k o ho) 1 (by omega)
 have g2:t.row[t.off+k*5+2]?=some (o.l.iv):=zai (hT.obj k o ho) 2 (by omega)
 have g3:t.row[t.off+k*5+3]?=some (.val (.int .i64 o.room)):=zai (hT.obj k o ho) 3 (by omega)
 have g4:t.row[t.off+k*5+4]?=some (.val (.int .i64 o.fn)):=zai (hT.obj k o ho) 4 (by omega)
 have hba:=zc1 (ext:=ext) hT h' h2 h3 h4 hb k o ho o.l.ok
 rw[zc2]at hba
 rw[show decide (o.k=6)=true by simp[k6]]at hba
 simp only[zbd,TP.at]at hba
 have cSt:(o.s=.empty)=True:=eq_true cS
 have cFt:(o.fn=0)=False:=eq_false cF
 by_cases hh:zas T o.l.xs true=true
 case neg=>
  have hhf:zas T o.l.xs true=false:=by simpa using hh
  rw[hhf]at hba
  exact⟨false,by simp -implicitDefEqProofs [zam,hT.refs,hT.ren,TP.at,hT.box,-AV.cells,zaw,g1,g2,g4,hlen,hba,cSt,cFt],by simp[hhf]⟩
 rw[hh]at hba
 by_cases cZ:o.room=0
 case neg=>
  have cZt:(o.room=0)=False:=eq_false cZ
  first
  |(exfalso;omega)
  |exact⟨false,by simp -implicitDefEqProofs [zam,hT.refs,hT.ren,TP.at,hT.box,-AV.cells,zaw,k6,g0,g1,g2,g3,g4,hlen,hba,cSt,cFt,cZt],by simp[cS,cZ]⟩
 have cZt:(o.room=0)=True:=eq_true cZ
 by_cases cG:0<=o.fn
 case neg=>
  have cGt:(0<=o.fn)=False:=eq_false cG
  first
  |(exfalso;omega)
  |exact⟨false,by simp -implicitDefEqProofs [zam,hT.refs,hT.ren,TP.at,hT.box,-AV.cells,zaw,k6,g0,g1,g2,g3,g4,hlen,hba,cSt,cFt,cZt,cGt],by simp[cS,cZ,cG]⟩
 have cGt:(0<=o.fn)=True:=eq_true cG
 by_cases cH:o.fn<256
 case neg=>
  have cHt:(o.fn<256)=False:=eq_false cH
  first
  |(exfalso;omega)
  |exact⟨false,by simp -implicitDefEqProofs [zam,hT.refs,hT.ren,TP.at,hT.box,-AV.cells,zaw,k6,g0,g1,g2,g3,g4,hlen,hba,cSt,cFt,cZt,cGt,cHt],by simp[cS,cZ,cG,cH]⟩
 have cHt:(o.fn<256)=True:=eq_true cH
 exact⟨true,by simp -implicitDefEqProofs [zam,hT.refs,hT.ren,TP.at,hT.box,-AV.cells,zaw,k6,g0,g1,g2,g3,g4,hlen,hba,cSt,cFt,cZt,cGt,cHt],by simp[cS,cZ,cG,cH,hh]⟩
theorem yap {sA:AV} {t:TP} {T:List Obj} (hT:zbb code ext sA t T) (h':code 656=some zbo) (h2:code 653=some zbt) (h3:code 759=some zbp) (h4:code 749=some zbr) (h5:code 650=some zb2) (h6:code 652=some zam) (hb:T.length<=1048576) (k:Nat) (o:Obj) (ho:T[k]?=some o) (k6:o.k=6) (cS:o.s=.empty) (cF:o.fn=0) (cR:¬(o.l.xs.length:Int)<=o.room):∃b:Bool,callW code ext 652 [sA,t.at k] []=some (avb b,[])/\(b=true↔zan T o):=by
 rw[zad code ext h6]
 have hlen:=zaz o.l.ok
 have hok:zan T o↔(o.s=.empty/\o.room=0/\0<=o.fn/\o.fn<256/\zas T o.l.xs true=true):=by
  unfold zan
  rw[if_neg (by omega),if_neg (by omega),if_neg (by omega),if_pos k6]
 rw[hok]
 clear hok
 have g0:t.row[t.off+k*5]?=some (.val (.int .u8 o.k)):=zai (hT.obj k o ho) 0 (by omega)
 have g1:t.row[t.off+k*5+1]?=some (.val (.string o.s)):=zai (hT.obj k o ho) 1 (by omega)
 have g2:t.row[t.off+k*5+2]?=some (o.l.iv):=zai (hT.obj k o ho) 2 (by omega)
 have g3:t.row[t.off+k*5+3]?=some (.val (.int .i64 o.room)):=zai (hT.obj k o ho) 3 (by omega)
 have g4:t.row[t.off+k*5+4]?=some (.val (.int .i64 o.fn)):=zai (hT.obj k o ho) 4 (by omega)
 have hba:=zc1 (ext:=ext) hT h' h2 h3 h4 hb k o ho o.l.ok
 rw[zc2]at hba
 rw[show decide (o.k=6)=true by simp[k6]]at hba
 simp only[zbd,TP.at]at hba
 have cSt:(o.s=.empty)=True:=eq_true cS
 have cFt:(o.fn=0)=True:=eq_true cF
 have cRt:((o.l.xs.length:Int)<=o.room)=False:=eq_false cR
 by_cases hh:zas T o.l.xs true=true
 case neg=>
  have hhf:zas T o.l.xs true=false:=by simpa using hh
  rw[hhf]at hba
  exact⟨false,by simp -implicitDefEqProofs [zam,hT.refs,hT.ren,TP.at,hT.box,-AV.cells,zaw,g1,g2,g3,g4,hlen,hba,cSt,cFt,cRt],by simp[hhf]⟩
 rw[hh]at hba
 by_cases cZ:o.room=0
 case neg=>
  have cZt:(o.room=0)=False:=eq_false cZ
  first
  |(exfalso;omega)
  |exact⟨false,by simp -implicitDefEqProofs [zam,hT.refs,hT.ren,TP.at,hT.box,-AV.cells,zaw,k6,g0,g1,g2,g3,g4,hlen,hba,cSt,cFt,cRt,cZt],by simp[cS,cF,cZ]⟩
 have cZt:(o.room=0)=True:=eq_true cZ
 by_cases cG:0<=o.fn
 case neg=>
  have cGt:(0<=o.fn)=False:=eq_false cG
  first
  |(exfalso;omega)
  |exact⟨false,by simp -implicitDefEqProofs [zam,hT.refs,hT.ren,TP.at,hT.box,-AV.cells,zke,zkf,zlv,zja,zii,zaw,k6,g0,g1,g2,g3,g4,hlen,hba,cSt,cFt,cRt,cZt,cGt],by simp[cS,cF,cR,cZ,cG]⟩
 have cGt:(0<=o.fn)=True:=eq_true cG
 by_cases cH:o.fn<256
 case neg=>
  have cHt:(o.fn<256)=False:=eq_false cH
  first
  |(exfalso;omega)
  |exact⟨false,by simp -implicitDefEqProofs [zam,hT.refs,hT.ren,TP.at,hT.box,-AV.cells,zke,zkf,zlv,zja,zii,zaw,k6,g0,g1,g2,g3,g4,hlen,hba,cSt,cFt,cRt,cZt,cGt,cHt],by simp[cS,cF,cR,cZ,cG,cH]⟩
 have cHt:(o.fn<256)=True:=eq_true cH
 exact⟨true,by simp -implicitDefEqProofs [zam,hT.refs,hT.ren,TP.at,hT.box,-AV.cells,zaw,k6,g0,g1,g2,g3,g4,hlen,hba,cSt,cFt,cRt,cZt,cGt,cHt],by simp[cS,cF,cZ,hh]⟩
theorem yaq {sA:AV} {t:TP} {T:List Obj} (hT:zbb code ext sA t T) (h':code 656=some zbo) (h2:code 653=some zbt) (h3:code 759=some zbp) (h4:code 749=some zbr) (h5:code 650=some zb2) (h6:code 652=some zam) (hb:T.length<=1048576) (k:Nat) (o:Obj) (ho:T[k]?=some o) (k6:o.k=6) (cS:o.s=.empty) (cF:o.fn=0) (cR:(o.l.xs.length:Int)<=o.room) (cQ:¬o.room<=262144):∃b:Bool,callW code ext 652 [sA,t.at k] []=some (avb b,[])/\(b=true↔zan T o):=by
 rw[zad code ext h6]
 have hlen:=zaz o.l.ok
 have hok:zan T o↔(o.s=.empty/\o.room=0/\0<=o.fn/\o.fn<256/\zas T o.l.xs true=true):=by
  unfold zan
  rw[if_neg (by omega),if_neg (by omega),if_neg (by omega),if_pos k6]
 rw[hok]
 clear hok
 have g0:t.row[t.off+k*5]?=some (.val (.int .u8 o.k)):=zai (hT.obj k o ho) 0 (by omega)
 have g1:t.row[t.off+k*5+1]?=some (.val (.string o.s)):=zai (hT.obj k o ho) 1 (by omega)
 have g2:t.row[t.off+k*5+2]?=some (o.l.iv):=zai (hT.obj k o ho) 2 (by omega)
 have g3:t.row[t.off+k*5+3]?=some (.val (.int .i64 o.room)):=zai (hT.obj k o ho) 3 (by omega)
 have g4:t.row[t.off+k*5+4]?=some (.val (.int .i64 o.fn)):=zai (hT.obj k o ho) 4 (by omega)
 have hba:=zc1 (ext:=ext) hT h' h2 h3 h4 hb k o ho o.l.ok
 rw[zc2]at hba
 rw[show decide (o.k=6)=true by simp[k6]]at hba
 simp only[zbd,TP.at]at hba
 have cSt:(o.s=.empty)=True:=eq_true cS
 have cFt:(o.fn=0)=True:=eq_true cF
 have cRt:((o.l.xs.length:Int)<=o.room)=True:=eq_true cR
 have cQt:(o.room<=262144)=False:=eq_false cQ
 by_cases hh:zas T o.l.xs true=true
 case neg=>
  have hhf:zas T o.l.xs true=false:=by simpa using hh
  rw[hhf]at hba
  exact⟨false,by simp -implicitDefEqProofs [zam,hT.refs,hT.ren,TP.at,hT.box,-AV.cells,zaw,g1,g2,g3,g4,hlen,hba,cSt,cFt,cRt,cQt],by simp[hhf]⟩
 rw[hh]at hba
 by_cases cZ:o.room=0
 case neg=>
  have cZt:(o.room=0)=False:=eq_false cZ
  first
  |(exfalso;omega)
  |exact⟨false,by simp -implicitDefEqProofs [zam,hT.refs,hT.ren,TP.at,hT.box,-AV.cells,zaw,k6,g0,g1,g2,g3,g4,hlen,hba,cSt,cFt,cRt,cQt,cZt],by simp[cS,cF,cZ]⟩
 have cZt:(o.room=0)=True:=eq_true cZ
 by_cases cG:0<=o.fn
 case neg=>
  have cGt:(0<=o.fn)=False:=eq_false cG
  first
  |(exfalso;omega)
  |exact⟨false,by simp -implicitDefEqProofs [zam,hT.refs,hT.ren,TP.at,hT.box,-AV.cells,zke,zkf,zlv,zja,zii,zaw,k6,g0,g1,g2,g3,g4,hlen,hba,cSt,cFt,cRt,cQt,cZt,cGt],by simp[cS,cF,cR,cQ,cZ,cG]⟩
 have cGt:(0<=o.fn)=True:=eq_true cG
 by_cases cH:o.fn<256
 case neg=>
  have cHt:(o.fn<256)=False:=eq_false cH
  first
  |(exfalso;omega)
  |exact⟨false,by simp -implicitDefEqProofs [zam,hT.refs,hT.ren,TP.at,hT.box,-AV.cells,zke,zkf,zlv,zja,zii,zaw,k6,g0,g1,g2,g3,g4,hlen,hba,cSt,cFt,cRt,cQt,cZt,cGt,cHt],by simp[cS,cF,cR,cQ,cZ,cG,cH]⟩
 have cHt:(o.fn<256)=True:=eq_true cH
 exact⟨true,by simp -implicitDefEqProofs [zam,hT.refs,hT.ren,TP.at,hT.box,-AV.cells,zaw,k6,g0,g1,g2,g3,g4,hlen,hba,cSt,cFt,cRt,cQt,cZt,cGt,cHt],by simp[cS,cF,cZ,hh]⟩
theorem yar {sA:AV} {t:TP} {T:List Obj} (hT:zbb code ext sA t T) (h':code 656=some zbo) (h2:code 653=some zbt) (h3:code 759=some zbp) (h4:code 749=some zbr) (h5:code 650=some zb2) (h6:code 652=some zam) (hb:T.length<=1048576) (k:Nat) (o:Obj) (ho:T[k]?=some o) (k6:o.k=6) (cS:o.s=.empty) (cF:o.fn=0) (cR:(o.l.xs.length:Int)<=o.room) (cQ:o.room<=262144):∃b:Bool,callW code ext 652 [sA,t.at k] []=some (avb b,[])/\(b=true↔zan T o):=by
 rw[zad code ext h6]
 have hlen:=zaz o.l.ok
 have hok:zan T o↔(o.s=.empty/\o.room=0/\0<=o.fn/\o.fn<256/\zas T o.l.xs true=true):=by
  unfold zan
  rw[if_neg (by omega),if_neg (by omega),if_neg (by omega),if_pos k6]
 rw[hok]
 clear hok
 have g0:t.row[t.off+k*5]?=some (.val (.int .u8 o.k)):=zai (hT.obj k o ho) 0 (by omega)
 have g1:t.row[t.off+k*5+1]?=some (.val (.string o.s)):=zai (hT.obj k o ho) 1 (by omega)
 have g2:t.row[t.off+k*5+2]?=some (o.l.iv):=zai (hT.obj k o ho) 2 (by omega)
 have g3:t.row[t.off+k*5+3]?=some (.val (.int .i64 o.room)):=zai (hT.obj k o ho) 3 (by omega)
 have g4:t.row[t.off+k*5+4]?=some (.val (.int .i64 o.fn)):=zai (hT.obj k o ho) 4 (by omega)
 have hba:=zc1 (ext:=ext) hT h' h2 h3 h4 hb k o ho o.l.ok
 rw[zc2]at hba
 rw[show decide (o.k=6)=true by simp[k6]]at hba
 simp only[zbd,TP.at]at hba
 have cSt:(o.s=.empty)=True:=eq_true cS
 have cFt:(o.fn=0)=True:=eq_true cF
 have cRt:((o.l.xs.length:Int)<=o.room)=True:=eq_true cR
 have cQt:(o.room<=262144)=True:=eq_true cQ
 by_cases hh:zas T o.l.xs true=true
 case neg=>
  have hhf:zas T o.l.xs true=false:=by simpa using hh
  rw[hhf]at hba
  exact⟨false,by simp -implicitDefEqProofs [zam,hT.refs,hT.ren,TP.at,hT.box,-AV.cells,zaw,g1,g2,g3,g4,hlen,hba,cSt,cFt,cRt,cQt],by simp[hhf]⟩
 rw[hh]at hba
 by_cases cZ:o.room=0
 case neg=>
  have cZt:(o.room=0)=False:=eq_false cZ
  first
  |(exfalso;omega)
  |exact⟨false,by simp -implicitDefEqProofs [zam,hT.refs,hT.ren,TP.at,hT.box,-AV.cells,zaw,k6,g0,g1,g2,g3,g4,hlen,hba,cSt,cFt,cRt,cQt,cZt],by simp[cS,cF,cZ]⟩
 have cZt:(o.room=0)=True:=eq_true cZ
 by_cases cG:0<=o.fn
 case neg=>
  have cGt:(0<=o.fn)=False:=eq_false cG
  first
  |(exfalso;omega)
  |exact⟨false,by simp -implicitDefEqProofs [zam,hT.refs,hT.ren,TP.at,hT.box,-AV.cells,zke,zkf,zlv,zja,zii,zaw,k6,g0,g1,g2,g3,g4,hlen,hba,cSt,cFt,cRt,cQt,cZt,cGt],by simp[cS,cF,cR,cQ,cZ,cG]⟩
 have cGt:(0<=o.fn)=True:=eq_true cG
 by_cases cH:o.fn<256
 case neg=>
  have cHt:(o.fn<256)=False:=eq_false cH
  first
  |(exfalso;omega)
  |exact⟨false,by simp -implicitDefEqProofs [zam,hT.refs,hT.ren,TP.at,hT.box,-AV.cells,zke,zkf,zlv,zja,zii,zaw,k6,g0,g1,g2,g3,g4,hlen,hba,cSt,cFt,cRt,cQt,cZt,cGt,cHt],by simp[cS,cF,cR,cQ,cZ,cG,cH]⟩
 have cHt:(o.fn<256)=True:=eq_true cH
 exact⟨true,by simp -implicitDefEqProofs [zam,hT.refs,hT.ren,TP.at,hT.box,-AV.cells,zaw,k6,g0,g1,g2,g3,g4,hlen,hba,cSt,cFt,cRt,cQt,cZt,cGt,cHt],by simp[cS,cF,cZ,hh]⟩
theorem yam{sA:AV}{t:TP}{T:List Obj}(hT:zbb code ext sA t T)(h':code 656=some zbo)(h2:code 653=some zbt)(h3:code 759=some zbp)(h4:code 749=some zbr)(h5:code 650=some zb2)(h6:code 652=some zam)(hb:T.length<=1048576)(k:Nat)(o:Obj)(ho:T[k]?=some o)(k6:o.k=6):∃b:Bool,callW code ext 652 [sA,t.at k] []=some (avb b,[])/\(b=true↔zan T o):=by
 by_cases cS:o.s=.empty
 case neg=>exact yan hT h' h2 h3 h4 h5 h6 hb k o ho k6 cS
 by_cases cF:o.fn=0
 case neg=>exact yao hT h' h2 h3 h4 h5 h6 hb k o ho k6 cS cF
 by_cases cR:(o.l.xs.length:Int)<=o.room
 case neg=>exact yap hT h' h2 h3 h4 h5 h6 hb k o ho k6 cS cF cR
 by_cases cQ:o.room<=262144
 case neg=>exact yaq hT h' h2 h3 h4 h5 h6 hb k o ho k6 cS cF cR cQ
 exact yar hT h' h2 h3 h4 h5 h6 hb k o ho k6 cS cF cR cQ
end
end Go.EX

