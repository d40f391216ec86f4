import Derived.Test.YtjdfihnmpmckjaaGreatDoorK10
import Derived.Test.YtjdfihnmpmckjaaGreatDoorK9
set_option linter.unusedVariables false
set_option linter.unusedSimpArgs false
namespace Go.EX
def zeq(T:List Obj)(v:Val):ByteArray:=match zjo T v with
 |some o=>o.s
 |none=>.empty
def zdw(T:List Obj)(a b:Val):Bool:=
  if a.k≠b.k then false else if a.k=3 then decide (zeq T a=zeq T b)else decide (a.k=0)||decide (a.n=b.n)
def zbw(T:List Obj)(v:Val):Prop:=v.k=3->∃k,zau T v=some k
def AtV(T:List Obj)(xs:List Val)(k:Val)(r:Int):Prop:=
 (r= -1/\∀(j:Nat) a,xs[2*j]?=some a->zdw T a k=false)\/∃(j:Nat) (a:Val),r=(2*j:Nat)/\xs[2*j]?=some a/\zdw T a k=true/\∀(i:Nat) b,i<j->xs[2*i]?=some b->zdw T b k=false
theorem z9i{v:Val}{k:Nat}(h:zau [] v=some k):False:=by
 have:=(zcg h).1
 simp at this
section
variable {code:Nat->Option zab} {ext:zac}
theorem zky{T:List Obj}{q:Nat}{o:Obj}(h:T[q]?=some o):(tObj.row T)[q*5+1]?=some (.val (.string o.s)):=by
 have:=zai (zdc (t:=tObj) h) 1 (by decide)
 simpa [tObj]using this
theorem ycw(c:PlainFns code){nl:Bool}{T:List Obj}(hnl:nl=true->T=[])(hn:T.length<=100000000){a b:Val}(ha:zbw T a)(hb:zbw T b):
  callW code ext 216 [.optr 0 0,.agg [.imm (.val (.int .u8 a.k)),zaa a.n],.agg [.imm (.val (.int .u8 b.k)),zaa b.n]] (sM nl T)=some (avb (zdw T a b),sM nl T):=by
 unfold zdw
 by_cases hk:a.k=b.k
 ·rw[if_neg (by simpa using hk)]
  by_cases h3:a.k=3
  ·rw[if_pos h3]
   obtain⟨q,hq⟩:=ha h3
   obtain⟨p,hp⟩:=hb (by omega)
   cases nl with
   |true=>
    have:=hnl rfl
    subst this
    exact absurd hq (fun h=>z9i h)
   |false=>
    obtain⟨q1,q2,_,_,o,q3,q4⟩:=zcg hq
    obtain⟨p1,p2,_,_,u,p3,p4⟩:=zcg hp
    have t1:zeq T a=o.s:=by unfold zeq zjo;rw[hq];simp[q3]
    have t2:zeq T b=u.s:=by unfold zeq zjo;rw[hp];simp[p3]
    rw[t1,t2]
    have f1:=zhu (ext:=ext) c.c213 a.k a.n q2 q1 (by omega)
    have f2:=zhu (ext:=ext) c.c213 b.k b.n p2 p1 (by omega)
    have g1:=zky q3
    have g2:=zky p3
    have hb3:b.k=3:=by omega
    rw[zad code ext c.c216]
    unfold sM at *
    simp only[xar,if_false]at f1 f2 ⊢
    rw[h3]at f1
    rw[hb3]at f2
    generalize tObj.row T=R at *
    generalize T.length=N at *
    simp -implicitDefEqProofs [zfo,h3,hb3,f1,f2,g1,g2,zax]
  ·rw[if_neg h3]
   rw[zad code ext c.c216]
   unfold sM
   generalize tObj.row T=R at *
   have h3':¬b.k=3:=by omega
   rw[hk]at h3 ⊢
   by_cases h0:b.k=0
   ·cases nl<;>simp -implicitDefEqProofs [zfo,h0]
   ·cases nl<;>simp -implicitDefEqProofs [zfo,h3',h0]
 ·rw[if_pos hk]
  rw[zad code ext c.c216]
  unfold sM
  generalize tObj.row T=R at *
  cases nl<;>simp -implicitDefEqProofs [zfo,hk]
abbrev zd2(nl:Bool)(T:List Obj)(k:Val):Mem:=if nl=true then[.rich [zaf,zaa 1152921504606846976,zaa 0],.rich [.imm (.val (.int .u8 k.k)),zaa k.n]]else[.rich [.osl 1 0 5 T.length (some T.length),zaa 1152921504606846976,zaa 0],.flat (tObj.row T) false,.rich [.imm (.val (.int .u8 k.k)),zaa k.n]]
abbrev zey(nl:Bool)(iv:IV)(i:Nat):Env:=[(0,.optr 0 0),(1,.imm iv),(5,.optr (if nl=true then 1 else 2) 0),(7,zaa i)]
theorem ya1(c:PlainFns code){nl:Bool}{T:List Obj}(hnl:nl=true->T=[])(hn:T.length<=100000000){iv:IV}{xs:List Val}(hr:zao tVal iv xs)(hl:xs.length<=1000000){k:Val}(hk:zbw T k)(hx:∀(j:Nat) a,xs[2*j]?=some a->zbw T a):
  ∀(m:Nat) (st:St),(∃j,m+2*j=xs.length+2/\(∀(i:Nat) b,i<j->xs[2*i]?=some b->zdw T b k=false)/\st.tidy [0,1,5,7]=⟨if nl=true then 1 else 2,zey nl iv (2*j),zd2 nl T k⟩)->
   ∃x s',den code ext (.loop [0,1,5,7] zgw) st=some (x,s')/\x≠ .normal/\∃r,AtV T xs k r/\((x=.exit 0/\r= -1/\∃env,s'=⟨if nl=true then 1 else 2,env,zd2 nl T k⟩)\/(x=.ret/\s'=⟨if nl=true then 1 else 2,[(6,zaa r)],zd2 nl T k⟩)):=by
 have elen:=zaz hr
 refine zb1 _ _ ?_
 rintro m st ⟨j,hm,hno,hst⟩
 rw[hst]
 by_cases hlt:2*j<xs.length
 ·obtain⟨a,ha⟩:∃a,xs[2*j]?=some a:=⟨_,xab hlt⟩
  obtain⟨row,off,cap,rfl,_,_,hcut⟩:=zb6 hr ha
  have hcut':cut row (off+(2*j)*2) 2=some [.val (.int .u8 a.k),.val (.int .i64 a.n)]:=hcut
  have f1:=ycw (ext:=ext) c hnl hn (hx j a ha) hk
  obtain⟨i,hi⟩:∃i,i=2*j:=⟨_,rfl⟩
  obtain⟨i2,hi2⟩:∃i2,i2=2*j+2:=⟨_,rfl⟩
  rw[<-hi]at hcut' hlt ⊢
  have e1:(i:Int)<xs.length:=by omega
  have e2:IntKind.wrap .i64 ((i:Int)+2)=(i2:Int):=by rw[zap (by omega) (by omega)];omega
  cases hs:zdw T a k with
  |true=>
   rw[hs]at f1
   refine⟨.ret,⟨if nl=true then 1 else 2,[(6,zaa i)],zd2 nl T k⟩,?_,.inr ⟨by simp,(i:Int),.inr ⟨j,a,by omega,ha,hs,hno⟩,.inr ⟨rfl,rfl⟩⟩⟩
   unfold sM at f1
   cases nl
   ·simp only[zd2,zey,xar,if_false]at f1 ⊢
    generalize tObj.row T=R at *
    generalize T.length=N at *
    generalize xs.length=n at *
    simp -implicitDefEqProofs [zgw,f1,hcut',e1,zcv]
   ·simp only[zd2,zey,if_true]at f1 ⊢
    generalize tObj.row T=R at *
    generalize T.length=N at *
    generalize xs.length=n at *
    simp -implicitDefEqProofs [zgw,f1,hcut',e1,zcv]
  |false=>
   rw[hs]at f1
   refine⟨.normal,⟨if nl=true then 1 else 2,zey nl (.slice row off xs.length cap) i2,zd2 nl T k⟩,?_,.inl ⟨rfl,m-2,by omega,j+1,by omega,?_,?_⟩⟩
   ·unfold sM at f1
    cases nl
    ·simp only[zd2,zey,xar,if_false]at f1 ⊢
     generalize tObj.row T=R at *
     generalize T.length=N at *
     generalize xs.length=n at *
     simp -implicitDefEqProofs [zgw,f1,hcut',e1,e2,zcv]
    ·simp only[zd2,zey,if_true]at f1 ⊢
     generalize tObj.row T=R at *
     generalize T.length=N at *
     generalize xs.length=n at *
     simp -implicitDefEqProofs [zgw,f1,hcut',e1,e2,zcv]
   ·intro q b hq hb
    by_cases hqj:q=j
    ·subst hqj
     rw[ha]at hb
     cases hb
     exact hs
    ·exact hno q b (by omega) hb
   ·have hjj:2*(j+1)=i2:=by omega
    rw[hjj]
    cases nl
    ·simp only[zd2,zey,xar,if_false]
     generalize tObj.row T=R at *
     generalize T.length=N at *
     generalize xs.length=n at *
     simp -implicitDefEqProofs []
    ·simp only[zd2,zey,if_true]
     generalize tObj.row T=R at *
     generalize T.length=N at *
     generalize xs.length=n at *
     simp -implicitDefEqProofs []
 ·refine⟨.exit 0,⟨if nl=true then 1 else 2,zey nl iv (2*j)++[(11,avb false)],zd2 nl T k⟩,?_,.inr ⟨by simp,-1,.inl ⟨rfl,fun q b hb=>?_⟩,.inl ⟨rfl,rfl,_,rfl⟩⟩⟩
  ·obtain⟨i,hi⟩:∃i,i=2*j:=⟨_,rfl⟩
   rw[<-hi]at hlt ⊢
   have e1:¬(i:Int)<xs.length:=by omega
   cases nl
   ·simp only[zd2,zey,xar,if_false]
    generalize tObj.row T=R at *
    generalize T.length=N at *
    generalize xs.length=n at *
    simp -implicitDefEqProofs [zgw,elen,e1]
   ·simp only[zd2,zey,if_true]
    generalize tObj.row T=R at *
    generalize T.length=N at *
    generalize xs.length=n at *
    simp -implicitDefEqProofs [zgw,elen,e1]
  ·have:=(xaa.1 hb).1
   exact hno q b (by omega) hb
theorem ya2(c:PlainFns code){nl:Bool}{T:List Obj}(hnl:nl=true->T=[])(hn:T.length<=100000000){iv:IV}{xs:List Val}(hr:zao tVal iv xs)(hl:xs.length<=1000000){k:Val}(hk:zbw T k)(hx:∀(j:Nat) a,xs[2*j]?=some a->zbw T a):
  ∃r,AtV T xs k r/\callW code ext 209 [.optr 0 0,.imm iv,.agg [.imm (.val (.int .u8 k.k)),zaa k.n]] (sM nl T)=some (zaa r,sM nl T):=by
 obtain⟨x,s',h1,_,r,hr1,hq⟩:=ya1 (code:=code) (ext:=ext) c hnl hn hr hl hk hx (xs.length+2) ⟨if nl=true then 1 else 2,zey nl iv 0,zd2 nl T k⟩ ⟨0,by omega,fun i b hi=>absurd hi (xcn i),by
  cases nl
  ·simp only[zd2,zey,xar,if_false]
   generalize tObj.row T=R at *
   generalize T.length=N at *
   simp -implicitDefEqProofs []
  ·simp only[zd2,zey,if_true]
   generalize tObj.row T=R at *
   generalize T.length=N at *
   simp -implicitDefEqProofs []⟩
 refine⟨r,hr1,?_⟩
 rw[zad code ext c.c209]
 unfold sM
 cases nl
 ·simp only[zd2,zey,xar,if_false,Int.natCast_zero]at *
  generalize tObj.row T=R at *
  generalize T.length=N at *
  rcases hq with⟨rfl,rfl,env,rfl⟩|⟨rfl,rfl⟩
  ·simp -implicitDefEqProofs [zhj,h1]
  ·simp -implicitDefEqProofs [zhj,h1]
 ·simp only[zd2,zey,if_true,Int.natCast_zero]at *
  generalize tObj.row T=R at *
  generalize T.length=N at *
  rcases hq with⟨rfl,rfl,env,rfl⟩|⟨rfl,rfl⟩
  ·simp -implicitDefEqProofs [zhj,h1]
  ·simp -implicitDefEqProofs [zhj,h1]
end
section
variable {code:Nat->Option zab} {ext:zac}
theorem zfv(h:code 581=some zi1)(v k:Val):
  callW code ext 581 [.agg [.imm (.val (.int .u8 v.k)),zaa v.n],.agg [.imm (.val (.int .u8 k.k)),zaa k.n]] []=some (avb (decide (v.k=5)||((decide (v.k=4)||decide (v.k=3))&&decide (k.k=2))),[]):=by
 rw[zad code ext h]
 by_cases h5:v.k=5
 ·simp -implicitDefEqProofs [zi1,h5]
 ·by_cases h4:v.k=4
  ·simp -implicitDefEqProofs [zi1,h4]
  ·by_cases h3:v.k=3
   ·simp -implicitDefEqProofs [zi1,h3]
   ·simp -implicitDefEqProofs [zi1,h5,h4,h3]
theorem ya7(c:PlainFns code)(nl:Bool)(T:List Obj){v k:Val}(hk:¬(v.k=5\/((v.k=4\/v.k=3)/\k.k=2))):
  callW code ext 211 [.optr 0 0,.agg [.imm (.val (.int .u8 v.k)),zaa v.n],.agg [.imm (.val (.int .u8 k.k)),zaa k.n]] (sM nl T)=some (zbk 0 0 zdm,sM nl T):=by
 have f1:=zfv (ext:=ext) c.c581 v k
 have hf:(decide (v.k=5)||((decide (v.k=4)||decide (v.k=3))&&decide (k.k=2)))=false:=by
  cases h:(decide (v.k=5)||((decide (v.k=4)||decide (v.k=3))&&decide (k.k=2)))with
  |false=>rfl
  |true=>exact absurd (by simpa using h) hk
 rw[hf]at f1
 rw[zad code ext c.c211]
 unfold sM
 generalize tObj.row T=R
 cases nl<;>simp -implicitDefEqProofs [zgx,f1]
theorem zh4{T:List Obj}{q:Nat}{o:Obj}(h:T[q]?=some o):(tObj.row T)[q*5+2]?=some o.l.iv:=by
 have:=zai (zdc (t:=tObj) h) 2 (by decide)
 simpa [tObj]using this
end
def sL(nl:Bool)(T:List Obj)(W:List IV)(u:Int):Mem:=if nl=true then[.rich [zaf,zaa 1152921504606846976,zaa u],.flat W false]else[.rich [.osl 2 0 5 T.length (some T.length),zaa 1152921504606846976,zaa u],.flat W false,.flat (tObj.row T) false]
section
variable {code:Nat->Option zab} {ext:zac}
end
section
variable {code:Nat->Option zab} {ext:zac}
def zws(xs:List Val)(cap:Option Nat)(hw:∀x∈xs,tVal.wf x)(hl:xs.length<=140737488355328)(hc:∀c,cap=some c->xs.length<=c):Sl tVal:=⟨.slice (tVal.row xs) 0 xs.length cap,xs,zfj _ _ hw hl hc⟩
end
def sKM(nl:Bool)(T:List Obj)(L:List IV)(o:Obj)(w:Int):Mem:=
 if nl=true then[.rich [.osl 2 0 5 1 none,zaa 1152921504606846976,zaa w],.flat L false,.flat (tObj.row (T++[o])) false]
 else[.rich [.osl 3 0 5 (T.length+1) none,zaa 1152921504606846976,zaa w],.flat L false,.flat (tObj.row T) false,.flat (tObj.row (T++[o])) false]
section
variable {code:Nat->Option zab} {ext:zac}
theorem zkd(h:code 580=some zhm){lv:IV}{xs:List Val}(hr:zao tVal lv xs)(hl:xs.length<=100000000):
  ∃m,callW code ext 580 [.imm lv] []=some (avb (xs.any fun v=>decide (v.k=7)),m):=by
 have elen:=zaz hr
 have loop:∃e s',den code ext (.loop [5,6,7] znb) ⟨0,[(5,.imm lv),(6,zaa xs.length),(7,zaa 0)],[]⟩=some (e,s')/\e≠ .normal/\((e=.exit 0/\(xs.any fun v=>decide (v.k=7))=false/\∃env m,s'=⟨0,env,m⟩)\/(e=.ret/\(xs.any fun v=>decide (v.k=7))=true/\∃m,s'=⟨0,[(2,avb true)],m⟩)):=by
  refine zb1 (fun n s=>∃i,n+i=xs.length/\(∀(j:Nat) v,j<i->xs[j]?=some v->v.k≠7)/\s.tidy [5,6,7]=⟨0,[(5,.imm lv),(6,zaa xs.length),(7,zaa i)],[]⟩) _ ?_ xs.length _ ⟨0,by omega,fun j v hj=>absurd hj (xcn j),by simp -implicitDefEqProofs []⟩
  rintro n s ⟨i,hi,hno,hst⟩
  rw[hst]
  by_cases hlt:i<xs.length
  ·obtain⟨v,hv⟩:∃v,xs[i]?=some v:=⟨_,xab hlt⟩
   obtain⟨row,off,cap,rfl,_,_,hcut⟩:=zb6 hr hv
   have hcut':cut row (off+i*2) 2=some [.val (.int .u8 v.k),.val (.int .i64 v.n)]:=hcut
   obtain⟨i1,hi1⟩:∃i1,i1=i+1:=⟨_,rfl⟩
   have e1:(i:Int)<xs.length:=by omega
   have e3:IntKind.wrap .i64 ((i:Int)+1)=(i1:Int):=by rw[zap (by omega) (by omega)];omega
   by_cases h7:v.k=7
   ·have ha:(xs.any fun v=>decide (v.k=7))=true:=xcb.2 ⟨v,xag hv,by simpa using h7⟩
    refine⟨.ret,⟨0,[(2,avb true)],[.rich [.imm (.val (.int .u8 v.k)),zaa v.n]]⟩,?_,.inr ⟨by simp,.inr ⟨rfl,ha,_,rfl⟩⟩⟩
    rw[h7]at hcut' ⊢
    generalize xs.length=n at *
    simp -implicitDefEqProofs [znb,hcut',e1]
   ·have key:∃s',den code ext znb ⟨0,[(5,.imm (.slice row off xs.length cap)),(6,zaa xs.length),(7,zaa i)],[]⟩=some (.normal,s')/\s'.tidy [5,6,7]=⟨0,[(5,.imm (.slice row off xs.length cap)),(6,zaa xs.length),(7,zaa i1)],[]⟩:=by
     refine z3f ?_
     generalize xs.length=n at *
     simp -implicitDefEqProofs [znb,hcut',e1,e3,h7]
    obtain⟨s',g1,g2⟩:=key
    refine⟨.normal,s',g1,.inl ⟨rfl,n-1,by omega,i1,by omega,fun j u hj hu=>?_,g2⟩⟩
    by_cases hji:j=i
    ·subst hji;rw[hv]at hu;cases hu;exact h7
    ·exact hno j u (by omega) hu
  ·have hie:i=xs.length:=by omega
   subst hie
   have ha:(xs.any fun v=>decide (v.k=7))=false:=by
    rw[List.any_eq_false]
    intro v hv
    obtain⟨j,hj⟩:=xa3 hv
    have:=(xaa.1 hj).1
    simpa using hno j v this hj
   refine⟨.exit 0,⟨0,[(5,.imm lv),(6,zaa xs.length),(7,zaa xs.length),(8,avb false)],[]⟩,?_,.inr ⟨by simp,.inl ⟨rfl,ha,_,_,rfl⟩⟩⟩
   generalize xs.length=n at *
   simp -implicitDefEqProofs [znb]
 refine zfw ?_
 obtain⟨e,s',h1,_,hq⟩:=loop
 rw[zad code ext h]
 rcases hq with⟨rfl,ha,env,m,rfl⟩|⟨rfl,ha,m,rfl⟩
 ·rw[ha]
  generalize xs.length=n at *
  simp -implicitDefEqProofs [zhm,elen,h1]
  split<;>rfl
 ·rw[ha]
  generalize xs.length=n at *
  simp -implicitDefEqProofs [zhm,elen,h1]
  split<;>rfl
theorem zy7(c:PlainFns code)(nl:Bool)(T:List Obj)(op n:Int)(h1:op≠1)(h26:op≠26){xs:List Val}(hl:xs.length<=1000)(hw:∀x∈xs,tVal.wf x)(h7:(xs.any fun v=>decide (v.k=7))=true):
  callW code ext 206 [.optr 0 0,.agg [.imm (.val (.int .u8 op)),zaa n,.osl 1 0 2 xs.length (some xs.length),zaf]] (sL nl T (tVal.row xs) 0)=some (zbk 0 0 zdm,sL nl T (tVal.row xs) 0):=by
 obtain⟨m,f1⟩:=zkd (ext:=ext) c.c580 (lv:=.slice (tVal.row xs) 0 xs.length (some xs.length)) (zfj _ _ hw (by omega) (fun c h=>by cases h;exact xan _)) (by omega)
 rw[h7]at f1
 rw[zad code ext c.c206]
 unfold sL
 generalize tVal.row xs=L at *
 generalize tObj.row T=R at *
 generalize xs.length=k at *
 cases nl<;>simp -implicitDefEqProofs [zeg,f1,h1,h26]
theorem z7c(c:PlainFns code)(nl:Bool)(T:List Obj){a b:Val}(hw:∀x∈[a,b],tVal.wf x)(h7:([a,b].any fun v=>decide (v.k=7))=false)(k n:Int)(t:ByteArray):
  (callW code ext 210 [.optr 0 0,.imm (.val (.int .u8 1)),.agg [.imm (.val (.int .u8 a.k)),zaa a.n],.agg [.imm (.val (.int .u8 b.k)),zaa b.n]] (sM nl T)=some (zbk k n t,sM nl T)->
   callW code ext 206 [.optr 0 0,.agg [.imm (.val (.int .u8 14)),zaa 1,.osl 1 0 2 2 (some 2),zaf]] (sL nl T (tVal.row [a,b]) 0)=some (zbk k n t,sL nl T (tVal.row [a,b]) 0))/\
  (callW code ext 211 [.optr 0 0,.agg [.imm (.val (.int .u8 a.k)),zaa a.n],.agg [.imm (.val (.int .u8 b.k)),zaa b.n]] (sM nl T)=some (zbk k n t,sM nl T)->
   callW code ext 206 [.optr 0 0,.agg [.imm (.val (.int .u8 24)),zaa 0,.osl 1 0 2 2 (some 2),zaf]] (sL nl T (tVal.row [a,b]) 0)=some (zbk k n t,sL nl T (tVal.row [a,b]) 0)):=by
 obtain⟨m,f1⟩:=zkd (ext:=ext) c.c580 (lv:=.slice (tVal.row [a,b]) 0 2 (some 2)) (zfj _ _ hw (by simp) (fun c h=>by cases h;exact xan _)) (by simp)
 have hrow:tVal.row [a,b]=[.val (.int .u8 a.k),.val (.int .i64 a.n),.val (.int .u8 b.k),.val (.int .i64 b.n)]:=rfl
 have w1:IntKind.wrap .u8 (1:Int)=1:=rfl
 rw[h7]at f1
 rw[hrow]at f1 ⊢
 constructor
 all_goals
  intro f2
  rw[zad code ext c.c206]
  unfold sL sM at *
  generalize tObj.row T=R at *
  cases nl
  ·simp only[xar,if_false]at f2 ⊢
   simp -implicitDefEqProofs [zeg,f1,f2,w1]
  ·simp only[if_true]at f2 ⊢
   simp -implicitDefEqProofs [zeg,f1,f2,w1]
theorem z7d(c:PlainFns code)(nl:Bool)(T:List Obj){a b:Val}(hw:∀x∈[a,b],tVal.wf x)(h7:([a,b].any fun v=>decide (v.k=7))=false)(k n:Int)(t:ByteArray)(o:Obj)(w:Int):
  (callW code ext 210 [.optr 0 0,.imm (.val (.int .u8 1)),.agg [.imm (.val (.int .u8 a.k)),zaa a.n],.agg [.imm (.val (.int .u8 b.k)),zaa b.n]] (sM nl T)=some (zbk k n t,sK nl T o w)->
   callW code ext 206 [.optr 0 0,.agg [.imm (.val (.int .u8 14)),zaa 1,.osl 1 0 2 2 (some 2),zaf]] (sL nl T (tVal.row [a,b]) 0)=some (zbk k n t,sKM nl T (tVal.row [a,b]) o w))/\
  (callW code ext 211 [.optr 0 0,.agg [.imm (.val (.int .u8 a.k)),zaa a.n],.agg [.imm (.val (.int .u8 b.k)),zaa b.n]] (sM nl T)=some (zbk k n t,sK nl T o w)->
   callW code ext 206 [.optr 0 0,.agg [.imm (.val (.int .u8 24)),zaa 0,.osl 1 0 2 2 (some 2),zaf]] (sL nl T (tVal.row [a,b]) 0)=some (zbk k n t,sKM nl T (tVal.row [a,b]) o w)):=by
 obtain⟨m,f1⟩:=zkd (ext:=ext) c.c580 (lv:=.slice (tVal.row [a,b]) 0 2 (some 2)) (zfj _ _ hw (by simp) (fun c h=>by cases h;exact xan _)) (by simp)
 have hrow:tVal.row [a,b]=[.val (.int .u8 a.k),.val (.int .i64 a.n),.val (.int .u8 b.k),.val (.int .i64 b.n)]:=rfl
 have w1:IntKind.wrap .u8 (1:Int)=1:=rfl
 rw[h7]at f1
 rw[hrow]at f1 ⊢
 constructor
 all_goals
  intro f2
  rw[zad code ext c.c206]
  unfold sL sM sK sKM at *
  generalize tObj.row (T++[o])=R2 at *
  generalize tObj.row T=R at *
  cases nl
  ·simp only[xar,if_false]at f2 ⊢
   simp -implicitDefEqProofs [zeg,f1,f2,w1]
  ·simp only[if_true]at f2 ⊢
   simp -implicitDefEqProofs [zeg,f1,f2,w1]
end
structure DoCode (code:Nat->Option zab) (idx:Nat):Prop extends PlainFns code,TwinCode code idx where
 c640:code 640=some z4h
 c641:code 641=some znc
 c642:code 642=some zlb
 c639:code 639=some zi2
 c749:code 749=some zbr
 c759:code 759=some zbp
def zt3(code:Nat->Option zab)(ext:zac)(sv:IV)(vs:List Val):Prop:=∀v∈vs,callW code ext 646 [.imm sv,.agg [.imm (.val (.int .u8 v.k)),zaa v.n]] []=some (avb true,[])
section
variable {code:Nat->Option zab} {ext:zac}
end
theorem zuk{T:List Obj}(hT:∀o∈T,o.l.xs.length<=1000000):∀o∈T.map zae,o.l.xs.length<=1000000:=by
 intro o ho
 obtain⟨q,hq,rfl⟩:=xa9.1 ho
 have:(zae q).l.xs=q.l.xs:=by
  unfold zae zea
  dsimp only
  split<;>rfl
 rw[this]
 exact hT q hq
theorem zwq(T:List Obj):(zby T).all IV.plain=true:=by
 rw[xai]
 intro x hx
 unfold zby at hx
 rw[xa9]at hx
 obtain⟨o,_,rfl⟩:=hx
 rfl
structure StoreN (nl:Bool) (sv:IV) (S:List Obj) (idx:Nat):Prop where
 rd:zao tObj sv S
 nil:nl=true->sv=.val (.slice none 0 0)/\S=[]
 some:nl=false->zbs sv=false
 lt:S.length+1<idx
 l:∀o∈S,o.l.xs.length<=1000000
 len:S.length<=10000000
section
variable {code:Nat->Option zab} {ext:zac}
theorem StoreN.none{nl:Bool}{sv:IV}{S:List Obj}{idx:Nat}(h:StoreN nl sv S idx):S[idx]?=none:=xaq (by have:=h.lt;omega)
theorem ygr{T:List Obj}{idx:Nat}(h:T[idx]?=none)(b:Bool)(R:List IV):zdy T idx b R=[.flat R false]:=by
 unfold zdy;rw[h]
end
def x640Q:zab:=
 ⟨[.cell 8 (some 5)],(.seq (.region [1,2,3,4,8] [o0 4 (.box 1 (.t 0)),
 o0 8 (.alloc [(.slice none 0 0),(.int .u8 0),(.int .i64 0),(.string .empty),(.int .i64 0)])]) (.seq (.region [1,2,3,4,8,9] [o4 13 4,
 o0 14 (.call .own 643 [.t 13]),o3 9 14]) (.seq (.seq (.region [1,2,3,8,9,17] [o3 15 3,
 o0 16 (.mkClo 641 [.t 4]),
 o0 17 (.call .peek 749 [(.t 15),(.t 16)])]) (.cond (.t 17) (.seq (.region [8] [o3 18 9,
 o0 19 (.build [(.slice none 0 0),(.int .u8 0),(.int .i64 0),(.string .empty),(.int .i64 0)] [(0,1,(.t 18)),(3,1,(.c (.string ⟨#[107,105,110,100]⟩)))]),
 o2 (.store 5 (.t 8) (.t 19))]) .ret) .skip)) (.seq (.region [1,2,3,8,9,10] [o3 20 9,
 o0 21 (.build [(.slice none 0 0),(.int .i64 0),(.int .i64 0)] [(0,1,(.t 20)),(1,1,(.c (.int .i64 1152921504606846976)))]),
 o0 22 (.box 3 (.t 21)),o3 10 22]) (.seq (.region [1,2,3,8,10,11] [o3 23 9,
 o0 24 (.call .own 642 [.t 23]),o3 11 24]) (.seq (.region [8,10,11,12] [o3 25 10,o3 26 1,o3 27 2,o3 28 3,
 o0 29 (.build [(.int .u8 0),(.int .i64 0),(.slice none 0 0),(.slice none 0 0)] [(0,1,(.t 26)),(1,1,(.t 27)),(2,1,(.t 28))]),
 o0 30 (.call .share 206 [(.t 25),(.t 29)]),
 o0 12 (.alloc [(.int .u8 0),(.int .i64 0),(.string .empty),(.bool false)]),
 o2 (.store 4 (.t 12) (.t 30))]) (.seq (.region [8] [o3 31 10,o7 32 31,o5 33 0 32,o4 34 33,
 o0 35 (.call .look 643 [.t 34]),o5 36 0 12,o6 37 2 36,o5 38 2 12,o4 39 38,o3 40 10,o7 41 40,o5 42 0 41,o4 43 42,o3 44 11,
 o0 45 (.call .view 639 [(.t 43),(.t 44)]),
 o0 46 (.build [(.slice none 0 0),(.int .u8 0),(.int .i64 0),(.string .empty),(.int .i64 0)] [(0,1,(.t 35)),(1,2,(.t 37)),(3,1,(.t 39)),(4,1,(.t 45))]),
 o2 (.store 5 (.t 8) (.t 46))]) .ret)))))))⟩
structure DoQ (code:Nat->Option zab):Prop extends PlainFns code where
 c640:code 640=some x640Q
 c641:code 641=some znc
 c642:code 642=some zlb
 c639:code 639=some zi2
 c749:code 749=some zbr
 c759:code 759=some zbp
section
variable {code:Nat->Option zab} {ext:zac}
structure zlp (code:Nat->Option zab) (ext:zac):Prop where
 nil:callW code ext 643 [zaf] []=some (zaf,[])
 imm:∀{sv:IV} {S:List Obj},zao tObj sv S->zbs sv=false->(∀o∈S,o.l.xs.length<=1000000)->S.length<=10000000->callW code ext 643 [.imm sv] []=some (.osl 0 0 5 S.length (some S.length),[.flat (tObj.row (S.map zae)) false])
 obj:∀{T:List Obj} (cap:Option Nat),(∀o∈T,o.l.xs.length<=1000000)->T.length<=100000000->∃X,XM 1 T X/\callW code ext 643 [.osl 0 0 5 T.length cap] [.flat (tObj.row T) false]=some (.osl 1 0 5 T.length (some T.length),.flat (tObj.row T) false::X)
theorem z1n{m:Mem}{rid:Nat}{R:List IV}{b:Bool}(h:m[rid]?=some (.flat R b)):order 0 [rid] m=[rid]:=by
 have hl:rid<m.length:=(xaa.1 h).1
 unfold order
 simp only[List.take_zero,Mem.refs,xay,List.range_zero]
 rw[show(1000000000000:Nat)=999999999998+1+1 from rfl,reach]
 simp only[xb4,if_false,hl,if_true,h,xa2,AObj.refs,xay,xbg]
 rw[reach]
theorem z1a(k:zlp code ext){T:List Obj}(cap:Option Nat)(hT:∀o∈T,o.l.xs.length<=1000000)(hn:T.length<=100000000):
  ∃Xf:Nat->Mem,(∀n,XM n T (Xf n))/\∀(s:St) (rid:Nat),s.mem[rid]?=some (.flat (tObj.row T) false)->
   zax (callW code ext) s 643 [.osl rid 0 5 T.length cap]=some (.osl s.mem.length 0 5 T.length (some T.length),{ s with mem:=s.mem++Xf s.mem.length }):=by
 obtain⟨X,hX,h⟩:=k.obj (T:=T) cap hT hn
 refine⟨fun n=>X.map (AObj.ren fun i=>some (n+(i-1))),fun n=>zng hX fun i hi=>by simp,fun s rid hrid=>?_⟩
 have hrl:rid<s.mem.length:=(xaa.1 hrid).1
 have ho:=z1n hrid
 have hro:AV.refs.refsL [.osl rid 0 5 T.length cap]=[rid]:=rfl
 have hpk:s.mem.pickAll [rid]=[.flat (tObj.row T) false]:=by simp[Mem.pickAll,hrid,AObj.ren]
 have hrn:AV.ren.renL (place [rid]) [.osl rid 0 5 T.length cap]=[.osl 0 0 5 T.length cap]:=by simp[AV.ren.renL,AV.ren,place]
 have hl1:0<X.length:=by obtain⟨ob,rfl,_⟩:=hX;simp
 have hmap:∀n,X.map (AObj.ren fun i=>if i<1 then[rid][i]? else some (n+(i-1)))=X.map (AObj.ren fun i=>some (n+(i-1))):=fun n=>by
  refine xbo fun o ho=>zir o fun id hid=>?_
  have:=znf hX o ho id hid
  rw[if_neg (by omega)]
 have hall:(((AV.osl 1 0 5 T.length (some T.length)).refs.all fun j=>decide (j<(AObj.flat (tObj.row T) false::X).length))&&(AObj.flat (tObj.row T) false::X).all fun o=>o.refs.all fun j=>decide (j<(AObj.flat (tObj.row T) false::X).length))=true:=by
  rw[xaf]
  refine⟨by simp[AV.refs,hl1],?_⟩
  rw[xcl,xaf]
  refine⟨by simp[AObj.refs],?_⟩
  rw[xai]
  intro o ho
  rw[xai]
  intro r hr
  have:=znf hX o ho r hr
  simp;omega
 unfold zax
 rw[hro,ho]
 dsimp only
 rw[hpk,hrn,h]
 simp only[xat,xa4,xau]at hmap hall ⊢
 rw[if_pos]
 ·simp only[List.drop_succ_cons,List.drop_zero,hmap]
  simp[AV.ren]
 ·refine⟨by simp,?_⟩
  rw[xaf]
  refine⟨by simp[hrid,AObj.isFix,AObj.moved,AObj.refs],hall⟩
theorem zjj{P:Mem}{b q N:Nat}{T:List Obj}{X:Mem}(hX:XM b T X)(hP:P.length=b)(hb:1<=b)(hT:T.length<=10000000){L:List IV}(h0:P[0]?=some (.flat L false)){k n:Int}{t:ByteArray}{w:Int}
  (hq:P[q]?=some (.rich [.osl b 0 5 N (some N),.imm (.val (.int .u8 k)),zaa n,zaq t,zaa w])):
  ∃X',XM 1 T X'/\ziq ⟨1,[(8,.optr q 0)],P++X⟩ x640Q=some (.agg [.osl 1 0 5 N (some N),.imm (.val (.int .u8 k)),zaa n,zaq t,zaa w],.flat L false::X'):=by
 have htk:P.take 1=[.flat L false]:=by
  cases P with
  |nil=>simp at h0
  |cons a r=>simp at h0;simp[h0]
 have ho:=z4l hX hP hb (by rw[htk];rfl) hT
 obtain⟨X',hp,hX'⟩:=z4m hX hP hb (by rw[htk];intro o ho;simp at ho;subst ho;rfl)
 have hpl:=zv5 (n:=X.length) (i:=0) hb (by rw[zj5 hX];omega)
 refine⟨X',hX',?_⟩
 have hql:q<P.length:=(xaa.1 hq).1
 have hq2:(P++X)[q]?=some (.rich [.osl b 0 5 N (some N),.imm (.val (.int .u8 k)),zaa n,zaq t,zaa w]):=by rw[xac hql];exact hq
 have hlen:¬(P++X).length=1:=by rw[xao,hP,zj5 hX];omega
 have hld:loadAt (P++X) (some 5) (.optr q 0)=some (.agg [.osl b 0 5 N (some N),.imm (.val (.int .u8 k)),zaa n,zaq t,zaa w]):=by simp[loadAt,hq2,zd4]
 unfold ziq
 simp only[x640Q,XRes.outs,XRes.asIs,xba,List.mapM_nil,zhf,Env.get,if_true,hld,xct,xcf,xbi,xal,zib,hlen,if_false,xar]
 simp only[AV.refs,AV.refs.refsL,xay,xbg,xby,ho,hp,htk]
 simp only[AV.ren,AV.ren.renL]
 rw[xbf]at hpl
 rw[hpl]
def zg2(code:Nat->Option zab)(ext:zac)(sv:IV)(xs:List Val)(r:Bool):Prop:=
 callW code ext 749 [.osl 0 0 2 xs.length (some xs.length),.clo 641 [.optr 1 0]] [.flat (tVal.row xs) false,.rich [.imm sv]]=some (avb r,[.flat (tVal.row xs) false,.rich [.imm sv]])
theorem zuo(c:DoQ code)(k:zlp code ext){sv:IV}{S:List Obj}(hr:zao tObj sv S)(hz:zbs sv=false)(hS:∀o∈S,o.l.xs.length<=1000000)(hn:S.length<=10000000){xs:List Val}(hl:xs.length<=1000)(ha:zg2 code ext sv xs false)(op n0 kk n:Int)(t:ByteArray)
  (hd:callW code ext 206 [.optr 0 0,.agg [.imm (.val (.int .u8 op)),zaa n0,.osl 1 0 2 xs.length (some xs.length),zaf]] (sL false (S.map zae) (tVal.row xs) 0)=some (zbk kk n t,sL false (S.map zae) (tVal.row xs) 0)):
  ∃X,XM 1 (S.map zae) X/\callW code ext 640 [.imm sv,.imm (.val (.int .u8 op)),zaa n0,.osl 0 0 2 xs.length (some xs.length)] [.flat (tVal.row xs) false]=
   some (.agg [.osl 1 0 5 S.length (some S.length),.imm (.val (.int .u8 kk)),zaa n,zaq t,zaa 0],.flat (tVal.row xs) false::X):=by
 unfold zg2 at ha
 have h1:=k.imm hr hz hS hn
 have hml:(S.map zae).length=S.length:=xam ..
 obtain⟨Xf,hX,h2⟩:=z1a k (T:=S.map zae) (some S.length) (zuk hS) (by rw[hml];omega)
 have h3:=zwr (ext:=ext) (T:=S.map zae) c.c642 c.c578 (some S.length) (zg6 tObj _) (by rw[hml];omega)
 have h4:=zx0 (ext:=ext) (T:=S.map zae) (B:=[]) c.c639 c.c578 (some S.length) (by rw[xay];exact zg6 tObj _) (by rw[xay,hml];omega)
 rw[xay,show ze9 []=0 from rfl]at h4
 unfold zfz zfy at h3
 unfold zer at h4
 rw[hml]at h2 h3 h4
 have hW:=zwq (S.map zae)
 rw[zad code ext c.c640]
 unfold sL at hd
 rw[hml]at hd
 simp only[xar,if_false]at hd ⊢
 have hTl:(S.map zae).length<=10000000:=by rw[hml];exact hn
 generalize zby (S.map zae)=W at *
 generalize tObj.row (S.map zae)=R1 at *
 generalize S.map zae=T at *
 generalize tVal.row xs=L at *
 generalize xs.length=m at *
 by_cases h0:S.length=0
 ·rw[if_pos h0,if_pos h0]at h3
  rw[if_pos h0]at h4
  generalize S.length=N at *
  have hb:∃P b q,XM b T (Xf b)/\P.length=b/\1<=b/\P[0]?=some (.flat L false)/\P[q]?=some (.rich [.osl b 0 5 N (some N),.imm (.val (.int .u8 kk)),zaa n,zaq t,zaa 0])/\
    den code ext x640Q.body ⟨1,enter 0 [.imm sv,.imm (.val (.int .u8 op)),zaa n0,.osl 0 0 2 m (some m)],[.flat L false]⟩=some (.ret,⟨1,[(8,.optr q 0)],P++Xf b⟩):=by
   refine⟨[.flat L false,.rich [.imm sv],.rich [.osl 6 0 5 N (some N),.imm (.val (.int .u8 kk)),zaa n,zaq t,zaa 0],.flat R1 false,.rich [.osl 3 0 5 N (some N),zaa 1152921504606846976,zaa 0],.rich [.imm (.val (.int .u8 kk)),zaa n,zaq t,avb false]],6,2,hX 6,rfl,by decide,rfl,rfl,?_⟩
   simp -implicitDefEqProofs [-IV.plain,x640Q,-zax,h1,h2,h3,h4,ha,hd]
  obtain⟨P,b,q,g1,g2,g3,g4,g5,g6⟩:=hb
  obtain⟨X',g7,g8⟩:=zjj g1 g2 g3 hTl g4 g5
  refine⟨X',g7,?_⟩
  simp only[xat,xa4,xau]
  rw[g6]
  exact g8
 ·rw[if_neg h0,if_neg h0]at h3
  rw[if_neg h0]at h4
  generalize S.length=N at *
  have hb:∃P b q,XM b T (Xf b)/\P.length=b/\1<=b/\P[0]?=some (.flat L false)/\P[q]?=some (.rich [.osl b 0 5 N (some N),.imm (.val (.int .u8 kk)),zaa n,zaq t,zaa 0])/\
    den code ext x640Q.body ⟨1,enter 0 [.imm sv,.imm (.val (.int .u8 op)),zaa n0,.osl 0 0 2 m (some m)],[.flat L false]⟩=some (.ret,⟨1,[(8,.optr q 0)],P++Xf b⟩):=by
   refine⟨[.flat L false,.rich [.imm sv],.rich [.osl 7 0 5 N (some N),.imm (.val (.int .u8 kk)),zaa n,zaq t,zaa 0],.flat R1 false,.rich [.osl 3 0 5 N (some N),zaa 1152921504606846976,zaa 0],.flat W false,.rich [.imm (.val (.int .u8 kk)),zaa n,zaq t,avb false]],7,2,hX 7,rfl,by decide,rfl,rfl,?_⟩
   simp -implicitDefEqProofs [-IV.plain,x640Q,-zax,h1,h2,h3,h4,ha,hd,hW]
  obtain⟨P,b,q,g1,g2,g3,g4,g5,g6⟩:=hb
  obtain⟨X',g7,g8⟩:=zjj g1 g2 g3 hTl g4 g5
  refine⟨X',g7,?_⟩
  simp only[xat,xa4,xau]
  rw[g6]
  exact g8
end
section
variable {code:Nat->Option zab} {ext:zac}
theorem zy6(c:DoQ code){sv:IV}{S:List Obj}{X:Mem}(hX:XM 0 S X)(hn:S.length<=10000000)(h1:callW code ext 643 [.imm sv] []=some (.osl 0 0 5 S.length (some S.length),X)){xs:List Val}(ha:zg2 code ext sv xs true)(op n0:Int):
  ∃X',XM 1 S X'/\callW code ext 640 [.imm sv,.imm (.val (.int .u8 op)),zaa n0,.osl 0 0 2 xs.length (some xs.length)] [.flat (tVal.row xs) false]=
   some (.agg [.osl 1 0 5 S.length (some S.length),.imm (.val (.int .u8 0)),zaa 0,zaq ⟨#[107,105,110,100]⟩,zaa 0],.flat (tVal.row xs) false::X'):=by
 unfold zg2 at ha
 rw[zad code ext c.c640]
 generalize tVal.row xs=L at *
 generalize xs.length=m at *
 have hX3:XM 3 S (X.map (AObj.ren fun i=>some (3+i))):=zng hX fun i hi=>by simp only[xau]
 have hb:den code ext x640Q.body ⟨1,enter 0 [.imm sv,.imm (.val (.int .u8 op)),zaa n0,.osl 0 0 2 m (some m)],[.flat L false]⟩=some (.ret,⟨1,[(8,.optr 2 0)],[.flat L false,.rich [.imm sv],.rich [.osl 3 0 5 S.length (some S.length),.imm (.val (.int .u8 0)),zaa 0,zaq ⟨#[107,105,110,100]⟩,zaa 0]]++X.map (AObj.ren fun i=>some (3+i))⟩):=by
  generalize S.length=N at *
  simp -implicitDefEqProofs [-IV.plain,x640Q,h1,ha]
 obtain⟨X',g7,g8⟩:=zjj (q:=2) (P:=[.flat L false,.rich [.imm sv],.rich [.osl 3 0 5 S.length (some S.length),.imm (.val (.int .u8 0)),zaa 0,zaq ⟨#[107,105,110,100]⟩,zaa 0]]) hX3 rfl (by decide) hn rfl rfl
 refine⟨X',g7,?_⟩
 simp only[xat,xa4,xau]
 rw[hb]
 exact g8
theorem z7b(c:DoQ code)(k:zlp code ext){sv:IV}{S:List Obj}(hr:zao tObj sv S)(hz:zbs sv=false)(hS:∀o∈S,o.l.xs.length<=1000000)(hn:S.length<=1000000){xs:List Val}(hl:xs.length<=1000)(ha:zg2 code ext sv xs false)(op n0 kk n:Int)(t:ByteArray){o:Obj}(hol:o.l.xs=[])(w:Int)
  (hd:callW code ext 206 [.optr 0 0,.agg [.imm (.val (.int .u8 op)),zaa n0,.osl 1 0 2 xs.length (some xs.length),zaf]] (sL false (S.map zae) (tVal.row xs) 0)=some (zbk kk n t,sKM false (S.map zae) (tVal.row xs) o w)):
  ∃X,XM 1 (S.map zae++[o]) X/\callW code ext 640 [.imm sv,.imm (.val (.int .u8 op)),zaa n0,.osl 0 0 2 xs.length (some xs.length)] [.flat (tVal.row xs) false]=
   some (.agg [.osl 1 0 5 (S.length+1) (some (S.length+1)),.imm (.val (.int .u8 kk)),zaa n,zaq t,zaa (ze9 [o])],.flat (tVal.row xs) false::X):=by
 unfold zg2 at ha
 have h1:=k.imm hr hz hS (by omega)
 have hml:(S.map zae).length=S.length:=xam ..
 have hml1:(S.map zae++[o]).length=S.length+1:=by rw[xao,hml];rfl
 have hTl:∀q∈S.map zae++[o],q.l.xs.length<=1000000:=by
  intro q hq
  rcases xak.1 hq with hq|hq
  ·exact zuk hS q hq
  ·rw[xbc.1 hq,hol];simp
 obtain⟨Xf,hX,h2⟩:=z1a k (T:=S.map zae++[o]) none hTl (by rw[hml1];omega)
 have h3:=zwr (ext:=ext) (T:=S.map zae) c.c642 c.c578 (some S.length) (zg6 tObj _) (by rw[hml];omega)
 have h4:=zx0 (ext:=ext) (T:=S.map zae) (B:=[o]) c.c639 c.c578 none (zg6 tObj _) (by rw[hml1];omega)
 unfold zfz zfy at h3
 unfold zer at h4
 rw[hml1]at h2 h4
 rw[hml]at h3 h4
 have hW:=zwq (S.map zae)
 rw[zad code ext c.c640]
 unfold sL sKM at hd
 rw[hml]at hd
 simp only[xar,if_false]at hd ⊢
 have hTn:(S.map zae++[o]).length<=10000000:=by rw[hml1];omega
 generalize zby (S.map zae)=W at *
 generalize tObj.row (S.map zae++[o])=R2 at *
 generalize tObj.row (S.map zae)=R1 at *
 generalize S.map zae++[o]=T at *
 generalize tVal.row xs=L at *
 generalize xs.length=m at *
 generalize ze9 [o]=ask at *
 by_cases h0:S.length=0
 ·rw[if_pos h0,if_pos h0]at h3
  rw[if_pos h0]at h4
  generalize S.length=N at *
  have hb:den code ext x640Q.body ⟨1,enter 0 [.imm sv,.imm (.val (.int .u8 op)),zaa n0,.osl 0 0 2 m (some m)],[.flat L false]⟩=some (.ret,⟨1,[(8,.optr 2 0)],[.flat L false,.rich [.imm sv],.rich [.osl 7 0 5 (N+1) (some (N+1)),.imm (.val (.int .u8 kk)),zaa n,zaq t,zaa ask],.flat R1 false,.rich [.osl 5 0 5 (N+1) none,zaa 1152921504606846976,zaa w],.flat R2 false,.rich [.imm (.val (.int .u8 kk)),zaa n,zaq t,avb false]]++Xf 7⟩):=by
   simp -implicitDefEqProofs [-IV.plain,x640Q,-zax,h1,h2,h3,h4,ha,hd]
  obtain⟨X',g7,g8⟩:=zjj (q:=2) (P:=[.flat L false,.rich [.imm sv],.rich [.osl 7 0 5 (N+1) (some (N+1)),.imm (.val (.int .u8 kk)),zaa n,zaq t,zaa ask],.flat R1 false,.rich [.osl 5 0 5 (N+1) none,zaa 1152921504606846976,zaa w],.flat R2 false,.rich [.imm (.val (.int .u8 kk)),zaa n,zaq t,avb false]]) (hX 7) rfl (by decide) hTn rfl rfl
  refine⟨X',g7,?_⟩
  simp only[xat,xa4,xau]
  rw[hb]
  exact g8
 ·rw[if_neg h0,if_neg h0]at h3
  rw[if_neg h0]at h4
  generalize S.length=N at *
  have hb:den code ext x640Q.body ⟨1,enter 0 [.imm sv,.imm (.val (.int .u8 op)),zaa n0,.osl 0 0 2 m (some m)],[.flat L false]⟩=some (.ret,⟨1,[(8,.optr 2 0)],[.flat L false,.rich [.imm sv],.rich [.osl 8 0 5 (N+1) (some (N+1)),.imm (.val (.int .u8 kk)),zaa n,zaq t,zaa ask],.flat R1 false,.rich [.osl 6 0 5 (N+1) none,zaa 1152921504606846976,zaa w],.flat W false,.flat R2 false,.rich [.imm (.val (.int .u8 kk)),zaa n,zaq t,avb false]]++Xf 8⟩):=by
   simp -implicitDefEqProofs [-IV.plain,x640Q,-zax,h1,h2,h3,h4,ha,hd,hW]
  obtain⟨X',g7,g8⟩:=zjj (q:=2) (P:=[.flat L false,.rich [.imm sv],.rich [.osl 8 0 5 (N+1) (some (N+1)),.imm (.val (.int .u8 kk)),zaa n,zaq t,zaa ask],.flat R1 false,.rich [.osl 6 0 5 (N+1) none,zaa 1152921504606846976,zaa w],.flat W false,.flat R2 false,.rich [.imm (.val (.int .u8 kk)),zaa n,zaq t,avb false]]) (hX 8) rfl (by decide) hTn rfl rfl
  refine⟨X',g7,?_⟩
  simp only[xat,xa4,xau]
  rw[hb]
  exact g8
end
section
variable {code:Nat->Option zab} {ext:zac}
theorem z09{N:Nat}{T:List Obj}{X:Mem}(hX:XM 1 T X){sv:IV}{op n0 kk n w:Int}{t:ByteArray}{L:List IV}{m:Nat}{cap:Option Nat}
  (h:callW code ext 640 [.imm sv,.imm (.val (.int .u8 op)),zaa n0,.osl 0 0 2 m cap] [.flat L false]=some (.agg [.osl 1 0 5 N (some N),.imm (.val (.int .u8 kk)),zaa n,zaq t,zaa w],.flat L false::X)):
  ∃Xf:Nat->Mem,(∀n,XM n T (Xf n))/\∀(s:St) (rid:Nat),s.mem[rid]?=some (.flat L false)->
   zax (callW code ext) s 640 [.imm sv,.imm (.val (.int .u8 op)),zaa n0,.osl rid 0 2 m cap]=some (.agg [.osl s.mem.length 0 5 N (some N),.imm (.val (.int .u8 kk)),zaa n,zaq t,zaa w],{ s with mem:=s.mem++Xf s.mem.length }):=by
 refine⟨fun n=>X.map (AObj.ren fun i=>some (n+(i-1))),fun n=>zng hX fun i hi=>by simp,fun s rid hrid=>?_⟩
 have hrl:rid<s.mem.length:=(xaa.1 hrid).1
 have ho:=z1n hrid
 have hro:AV.refs.refsL [.imm sv,.imm (.val (.int .u8 op)),zaa n0,.osl rid 0 2 m cap]=[rid]:=rfl
 have hpk:s.mem.pickAll [rid]=[.flat L false]:=by simp[Mem.pickAll,hrid,AObj.ren]
 have hrn:AV.ren.renL (place [rid]) [.imm sv,.imm (.val (.int .u8 op)),zaa n0,.osl rid 0 2 m cap]=[.imm sv,.imm (.val (.int .u8 op)),zaa n0,.osl 0 0 2 m cap]:=by simp[AV.ren.renL,AV.ren,place]
 have hl1:0<X.length:=by obtain⟨ob,rfl,_⟩:=hX;simp
 have hmap:∀n,X.map (AObj.ren fun i=>if i<1 then[rid][i]? else some (n+(i-1)))=X.map (AObj.ren fun i=>some (n+(i-1))):=fun n=>by
  refine xbo fun o ho=>zir o fun id hid=>?_
  have:=znf hX o ho id hid
  rw[if_neg (by omega)]
 have hall:(((AV.agg [.osl 1 0 5 N (some N),.imm (.val (.int .u8 kk)),zaa n,zaq t,zaa w]).refs.all fun j=>decide (j<(AObj.flat L false::X).length))&&(AObj.flat L false::X).all fun o=>o.refs.all fun j=>decide (j<(AObj.flat L false::X).length))=true:=by
  rw[xaf]
  refine⟨by simp[AV.refs,AV.refs.refsL,hl1],?_⟩
  rw[xcl,xaf]
  refine⟨by simp[AObj.refs],?_⟩
  rw[xai]
  intro o ho
  rw[xai]
  intro r hr
  have:=znf hX o ho r hr
  simp;omega
 unfold zax
 rw[hro,ho]
 dsimp only
 rw[hpk,hrn,h]
 simp only[xat,xa4,xau]at hmap hall ⊢
 rw[if_pos]
 ·simp only[List.drop_succ_cons,List.drop_zero,hmap]
  simp[AV.ren,AV.ren.renL]
 ·refine⟨by simp,?_⟩
  rw[xaf]
  refine⟨by simp[hrid,AObj.isFix,AObj.moved,AObj.refs],hall⟩
theorem yff(a b:Val):tVal.row [a,b]=[.val (.int .u8 a.k),.val (.int .i64 a.n),.val (.int .u8 b.k),.val (.int .i64 b.n)]:=rfl
end
def zbz(S:List Obj)(v:Val):Bool:=if v.k=0 then decide (v.n=0)else if v.k=1 then decide (v.n=0\/v.n=1)else if v.k=2 then true else(zau S v).isSome
section
variable {code:Nat->Option zab} {ext:zac}
theorem z19(h:code 502=some zdf)(h':code 510=some zes){sv:IV}{S:List Obj}(hr:zao tObj sv S)(v:Val):callW code ext 510 [.imm sv,.agg [.imm (.val (.int .u8 v.k)),zaa v.n]] []=some (avb (zbz S v),[]):=by
 rw[zad code ext h']
 have hl:=zma (ext:=ext) h hr v
 by_cases k0:v.k=0
 ·simp -implicitDefEqProofs [zes,zbz,k0]
 by_cases k1:v.k=1
 ·by_cases n0:v.n=0
  ·simp -implicitDefEqProofs [zes,zbz,k1,n0]
  ·simp -implicitDefEqProofs [zes,zbz,k1,n0]
 by_cases k2:v.k=2
 ·simp -implicitDefEqProofs [zes,zbz,k2]
 unfold zji at hl
 cases hq:zau S v with
 |none=>
  rw[hq]at hl
  simp -implicitDefEqProofs [zes,zbz,k0,k1,k2,hq,hl]
 |some q=>
  rw[hq]at hl
  have:(0:Int)<=q:=by omega
  simp -implicitDefEqProofs [zes,zbz,k0,k1,k2,hq,hl,this]
def zas(S:List Obj)(l:List Val)(c:Bool):Bool:=l.all fun v=>zbz S v&&(decide (v.k=7)==c)
theorem zq4(h:code 502=some zdf)(h':code 510=some zes)(h2:code 506=some zgy){sv lv:IV}{S:List Obj}{l:List Val}(hr:zao tObj sv S)(hl:zao tVal lv l)(c:Bool):
  callW code ext 506 [.imm sv,.imm lv,avb c] []=some (avb (zas S l c),[]):=by
 have hlen:=zaz hl
 have hb:=hl.2.1
 have loop:∃e s',den code ext (.loop [0,1,2,7] zm9) ⟨0,[(0,.imm sv),(1,.imm lv),(2,avb c),(7,zaa 0)],[]⟩=some (e,s')/\e≠ .normal/\
   ((e=.exit 0/\zas S l c=true/\s'=⟨0,[(0,.imm sv),(1,.imm lv),(2,avb c),(7,zaa l.length),(11,avb false)],[]⟩)\/(e=.ret/\zas S l c=false/\s'=⟨0,[(6,avb false)],[]⟩)):=by
  refine zb1 (fun n s=>∃(i:Nat),i+n=l.length/\zas S (l.take i) c=true/\s=⟨0,[(0,.imm sv),(1,.imm lv),(2,avb c),(7,zaa (i:Nat))],[]⟩) _ ?_ l.length _ ⟨0,by simp,by simp[zas],rfl⟩
  rintro n _ ⟨i,hi,hall,rfl⟩
  by_cases hlt:i<l.length
  ·obtain⟨row,off,cap,rfl,hc,hcut,hget⟩:=zb6 hl (xab hlt)
   have e1:IntKind.wrap .i64 ((i:Int)+1)=(i:Int)+1:=zap (by omega) (by omega)
   have htk:l.take (i+1)=l.take i++[l[i]]:=by rw[xbk,xab hlt];rfl
   have hmem:=xa7 hlt
   generalize l[i]=v at hget htk hmem
   simp only[tVal]at hget
   have hv:=z19 (ext:=ext) h h' hr v
   have g0:row[off+i*2]?=some (.val (.int .u8 v.k)):=zai hget 0 (by omega)
   by_cases hvv:zbz S v=true
   ·by_cases hcc:decide (v.k=7)=c
    ·have g:(zbz S v&&(decide (v.k=7)==c))=true:=by rw[hvv,hcc];simp
     refine⟨.normal,⟨0,[(0,.imm sv),(1,.imm (.slice row off l.length cap)),(2,avb c),(7,zaa ((i:Int)+1))],[]⟩,?_,.inl ⟨rfl,n-1,by omega,i+1,by omega,?_,rfl⟩⟩
     ·simp -implicitDefEqProofs [zm9,hlt,hget,g0,hv,hvv,hcc,e1]
     ·rw[htk];unfold zas at hall ⊢;rw[xc2,hall];simp[g]
    ·have g:(zbz S v&&(decide (v.k=7)==c))=false:=by rw[beq_eq_false_iff_ne.2 hcc];simp
     have hcb:(decide (v.k=7)==c)=false:=beq_eq_false_iff_ne.2 hcc
     refine⟨.ret,⟨0,[(6,avb false)],[]⟩,?_,.inr ⟨by simp,.inr ⟨rfl,?_,rfl⟩⟩⟩
     ·simp -implicitDefEqProofs [zm9,hlt,hget,g0,hv,hvv,hcb]
     ·unfold zas;rw[List.all_eq_false];exact⟨v,hmem,by rw[g];simp⟩
   ·have hvf:zbz S v=false:=by simpa using hvv
    refine⟨.ret,⟨0,[(6,avb false)],[]⟩,?_,.inr ⟨by simp,.inr ⟨rfl,?_,rfl⟩⟩⟩
    ·simp -implicitDefEqProofs [zm9,hlt,hget,hv,hvf]
    ·unfold zas;rw[List.all_eq_false];exact⟨v,hmem,by simp[hvf]⟩
  ·have:i=l.length:=by omega
   subst this
   rw[xb0]at hall
   refine⟨.exit 0,_,?_,.inr ⟨by simp,.inl ⟨rfl,hall,rfl⟩⟩⟩
   simp -implicitDefEqProofs [zm9,hlen]
 obtain⟨e,s',l1,_,⟨rfl,hh,rfl⟩|⟨rfl,hh,rfl⟩⟩:=loop
 ·rw[zad code ext h2,hh]
  simp -implicitDefEqProofs [zgy,l1]
 ·rw[zad code ext h2,hh]
  simp -implicitDefEqProofs [zgy,l1]
end
def sAt(S:List Obj)(i:Nat):ByteArray:=match S[i]? with
 |some o=>o.s
 |none=>.empty
def zep(S:List Obj)(a b:Val):Bool:=
  if a.k≠b.k then false else if a.k=0 then true else if a.n=b.n then true else if a.k=3 then
    match zau S a,zau S b with
    |some i,some j=>decide (sAt S i=sAt S j)
    |_,_=>false
  else false
def zfr(S:List Obj)(l:List Val):Prop:=∀(i k:Nat) (a b:Val),i%2=0->k%2=0->k<i->l[i]?=some a->l[k]?=some b->zep S a b=false
section
variable {code:Nat->Option zab} {ext:zac}
theorem yf8(h:code 502=some zdf)(h':code 503=some zdz){sv:IV}{S:List Obj}(hr:zao tObj sv S)(a b:Val)(c3:a.k=3)(c3':b.k=3)(cn:¬a.n=b.n):
  callW code ext 503 [.imm sv,.agg [.imm (.val (.int .u8 3)),zaa a.n],.agg [.imm (.val (.int .u8 3)),zaa b.n]] []=some (avb (zep S a b),[]):=by
 rw[zad code ext h']
 have ha:=zma (ext:=ext) h hr a
 have hb:=zma (ext:=ext) h hr b
 unfold zji at ha hb
 rw[c3]at ha
 rw[c3']at hb
 have hso:zep S a b=match zau S a,zau S b with
  |some i,some j=>decide (sAt S i=sAt S j)
  |_,_=>false:=by
  unfold zep
  rw[if_neg (by rw[c3,c3'];simp),if_neg (by omega),if_neg cn,if_pos c3]
 rw[hso]
 clear hso
 cases hqa:zau S a with
 |none=>
  rw[hqa]at ha
  cases hqb:zau S b with
  |none=>rw[hqb]at hb;simp -implicitDefEqProofs [zdz,cn,ha,hb]
  |some j=>rw[hqb]at hb;simp -implicitDefEqProofs [zdz,cn,ha,hb]
 |some i=>
  rw[hqa]at ha
  have hi0:(0:Int)<=i:=by omega
  cases hqb:zau S b with
  |none=>rw[hqb]at hb;simp -implicitDefEqProofs [zdz,cn,ha,hb,hi0]
  |some j=>
   rw[hqb]at hb
   have hj0:(0:Int)<=j:=by omega
   obtain⟨hil,_,_,_,o,ho,_⟩:=zcg hqa
   obtain⟨hjl,_,_,_,p,hp,_⟩:=zcg hqb
   obtain⟨row,off,cap,rfl,hc,hcut,hget⟩:=zb6 hr ho
   obtain⟨row',off',cap',he,_,_,hget'⟩:=zb6 hr hp
   cases he
   simp only[tObj]at hget hget'
   have g1:row[off+i*5+1]?=some (.val (.string o.s)):=zai hget 1 (by omega)
   have g1':row[off+j*5+1]?=some (.val (.string p.s)):=zai hget' 1 (by omega)
   have hsi:sAt S i=o.s:=by unfold sAt;rw[ho]
   have hsj:sAt S j=p.s:=by unfold sAt;rw[hp]
   simp -implicitDefEqProofs [zdz,cn,ha,hb,hi0,hj0,hil,hjl,g1,g1',hsi,hsj]
theorem yf7(h:code 502=some zdf)(h':code 503=some zdz){sv:IV}{S:List Obj}(hr:zao tObj sv S)(a b:Val):
  callW code ext 503 [.imm sv,.agg [.imm (.val (.int .u8 a.k)),zaa a.n],.agg [.imm (.val (.int .u8 b.k)),zaa b.n]] []=some (avb (zep S a b),[]):=by
 by_cases c1:a.k=b.k
 case neg=>
  rw[zad code ext h']
  simp -implicitDefEqProofs [zdz,zep,c1]
 by_cases c0:a.k=0
 ·have c0':b.k=0:=by omega
  rw[zad code ext h']
  simp -implicitDefEqProofs [zdz,zep,c0,c0']
 have c0b:¬b.k=0:=by omega
 by_cases cn:a.n=b.n
 ·rw[zad code ext h']
  simp -implicitDefEqProofs [zdz,zep,c1,cn,c0b]
 by_cases c3:a.k=3
 ·rw[c3,show b.k=3 by omega]
  exact yf8 h h' hr a b c3 (by omega) cn
 ·have c3':¬b.k=3:=by omega
  have ha:=zma (ext:=ext) h hr a
  have hb:=zma (ext:=ext) h hr b
  have hso:zep S a b=false:=by
   unfold zep
   rw[if_neg (by simp[c1]),if_neg c0,if_neg cn,if_neg c3]
  rw[hso,zad code ext h']
  rw[c1]at ha ⊢
  simp -implicitDefEqProofs [zdz,c0b,cn,c3',ha,hb]
theorem yej(h:code 502=some zdf)(h':code 503=some zdz)(h2:code 507=some zgz){sv lv:IV}{S:List Obj}{l:List Val}(hr:zao tObj sv S)(hl:zao tVal lv l):
  ∃b:Bool,callW code ext 507 [.imm sv,.imm lv] []=some (avb b,[])/\(b=true↔zfr S l):=by
 have hlen:=zaz hl
 have hb:=hl.2.1
 have inner:∀i:Nat,i<l.length->i%2=0->∃e s',den code ext (.loop [0,1,5,6] zpo) ⟨0,[(0,.imm sv),(1,.imm lv),(5,zaa (i:Nat)),(6,zaa 0)],[]⟩=some (e,s')/\e≠ .normal/\
   ((e=.exit 2/\(∀k b,k%2=0->k<i->l[k]?=some b->zep S (l[i]?.getD zt1) b=false)/\∃q:Nat,s'=⟨0,[(0,.imm sv),(1,.imm lv),(5,zaa (i:Nat)),(6,zaa (q:Nat)),(15,avb false)],[]⟩)\/
    (e=.ret/\(∃k b,k%2=0/\k<i/\l[k]?=some b/\zep S (l[i]?.getD zt1) b=true)/\s'=⟨0,[(4,avb false)],[]⟩)):=by
  intro i hi hie
  refine zb1 (fun n s=>∃(k:Nat),k%2=0/\n+k=l.length+2/\k<l.length+2/\(∀q b,q%2=0->q<k->l[q]?=some b->zep S (l[i]?.getD zt1) b=false\/i<=q)/\s=⟨0,[(0,.imm sv),(1,.imm lv),(5,zaa (i:Nat)),(6,zaa (k:Nat))],[]⟩) _ ?_ (l.length+2) _ ⟨0,rfl,by omega,by omega,fun q b _ h=>by omega,rfl⟩
  rintro n _ ⟨k,hke,hn,hkl,hall,rfl⟩
  by_cases hlt:k<i
  ·have hlk:k<l.length:=by omega
   obtain⟨row,off,cap,rfl,hc,hcut,hget⟩:=zb6 hl (xab hlk)
   obtain⟨row',off',cap',he,_,_,hget'⟩:=zb6 hl (xab hi)
   cases he
   have e1:IntKind.wrap .i64 ((k:Int)+2)=(k:Int)+2:=zap (by omega) (by omega)
   have hlt':(k:Int)<i:=by omega
   have hki:=xab hi
   have hkk:=xab hlk
   rw[hki]at hall ⊢
   simp only[xa2]at hall ⊢
   have hs:=yf7 (ext:=ext) h h' hr l[i] l[k]
   generalize l[i]=a at *
   generalize hbk:l[k]=b at *
   simp only[tVal]at hget hget'
   cases hsm:zep S a b with
   |true=>
    rw[hsm]at hs
    refine⟨.ret,⟨0,[(4,avb false)],[]⟩,?_,.inr ⟨by simp,.inr ⟨rfl,⟨k,b,hke,hlt,hkk,hsm⟩,rfl⟩⟩⟩
    simp -implicitDefEqProofs [zpo,hlt,hi,hlk,hget,hget',hs]
   |false=>
    rw[hsm]at hs
    refine⟨.normal,⟨0,[(0,.imm sv),(1,.imm (.slice row off l.length cap)),(5,zaa (i:Nat)),(6,zaa ((k:Int)+2))],[]⟩,?_,.inl ⟨rfl,n-2,by omega,k+2,by omega,by omega,by omega,fun q c hq hqk hc=>?_,rfl⟩⟩
    ·simp -implicitDefEqProofs [zpo,hlt,hi,hlk,hget,hget',hs,e1]
    ·by_cases hqk':q<k
     ·exact hall q c hq hqk' hc
     ·have:q=k:=by omega
      subst this
      rw[hkk]at hc;cases hc
      exact .inl hsm
  ·refine⟨.exit 2,⟨0,[(0,.imm sv),(1,.imm lv),(5,zaa (i:Nat)),(6,zaa (k:Nat)),(15,avb false)],[]⟩,?_,.inr ⟨by simp,.inl ⟨rfl,fun q b hq hqi hb=>?_,k,rfl⟩⟩⟩
   ·have:¬((k:Int)<i):=by omega
    simp -implicitDefEqProofs [zpo,this]
   ·rcases hall q b hq (by omega) hb with h|h
    ·exact h
    ·omega
 have outer:∃e s',den code ext (.loop [0,1,5] zpp) ⟨0,[(0,.imm sv),(1,.imm lv),(5,zaa 0)],[]⟩=some (e,s')/\e≠ .normal/\
   ((e=.exit 0/\zfr S l/\s'.k=0/\s'.mem=[])\/(e=.ret/\¬zfr S l/\s'=⟨0,[(4,avb false)],[]⟩)):=by
  refine zb1 (fun n s=>∃(i:Nat),i%2=0/\n+i=l.length+2/\i<l.length+2/\(∀(j k:Nat) (a b:Val),j%2=0->k%2=0->k<j->j<i->l[j]?=some a->l[k]?=some b->zep S a b=false)/\s=⟨0,[(0,.imm sv),(1,.imm lv),(5,zaa (i:Nat))],[]⟩) _ ?_ (l.length+2) _ ⟨0,rfl,by omega,by omega,fun j k a b _ _ _ h=>by omega,rfl⟩
  rintro n _ ⟨i,hie,hn,hil,hall,rfl⟩
  by_cases hlt:i<l.length
  ·have e1:IntKind.wrap .i64 ((i:Int)+2)=(i:Int)+2:=zap (by omega) (by omega)
   have hki:=xab hlt
   obtain⟨e,s',g1,_,⟨rfl,hin,q,rfl⟩|⟨rfl,⟨k,b,hke,hk,hkb,hsm⟩,rfl⟩⟩:=inner i hlt hie
   ·rw[hki]at hin
    refine⟨.normal,⟨0,[(0,.imm sv),(1,.imm lv),(5,zaa ((i:Int)+2))],[]⟩,?_,.inl ⟨rfl,n-2,by omega,i+2,by omega,by omega,by omega,fun j k a b hj hk hkj hji ha hb=>?_,rfl⟩⟩
    ·simp -implicitDefEqProofs [zpp,hlen,hlt,g1,e1]
    ·by_cases hji':j<i
     ·exact hall j k a b hj hk hkj hji' ha hb
     ·have:j=i:=by omega
      subst this
      rw[hki]at ha;cases ha
      exact hin k b hk hkj hb
   ·rw[hki]at hsm
    refine⟨.ret,⟨0,[(4,avb false)],[]⟩,?_,.inr ⟨by simp,.inr ⟨rfl,fun hk'=>?_,rfl⟩⟩⟩
    ·simp -implicitDefEqProofs [zpp,hlen,hlt,g1]
    ·have:=hk' i k _ b hie hke hk hki hkb
     simp only[xa2]at hsm
     rw[this]at hsm;cases hsm
  ·refine⟨.exit 0,⟨0,[(0,.imm sv),(1,.imm lv),(5,zaa (i:Nat)),(10,avb false)],[]⟩,?_,.inr ⟨by simp,.inl ⟨rfl,fun j k a b hj hk hkj ha hb=>?_,rfl,rfl⟩⟩⟩
   ·have:¬((i:Int)<l.length):=by omega
    simp -implicitDefEqProofs [zpp,hlen,this]
   ·exact hall j k a b hj hk hkj (by have:=(xaa.1 ha).1;omega) ha hb
 obtain⟨e,s',g1,_,⟨rfl,hk,h3,h4⟩|⟨rfl,hk,rfl⟩⟩:=outer
 ·refine⟨true,?_,by simp[hk]⟩
  rw[zad code ext h2]
  simp -implicitDefEqProofs [zgz,g1,h3,h4]
 ·refine⟨false,?_,by simp[hk]⟩
  rw[zad code ext h2]
  simp -implicitDefEqProofs [zgz,g1]
end
def zan(S:List Obj)(o:Obj):Prop:=
 if o.k=3 then o.s.size<=4096/\o.l.xs=[]/\o.room=0/\o.fn=0
 else if o.k=4 then o.s=.empty/\o.fn=0/\(o.l.xs.length:Int)<=65536/\(o.l.xs.length:Int)<=o.room/\o.room<=262144/\zas S o.l.xs false=true
 else if o.k=5 then o.s=.empty/\o.fn=0/\(o.l.xs.length:Int).tmod 2=0/\(o.l.xs.length:Int)<=131072/\(o.l.xs.length:Int)<=o.room/\o.room<=262144/\zas S o.l.xs false=true/\zfr S o.l.xs
 else if o.k=6 then o.s=.empty/\o.room=0/\0<=o.fn/\o.fn<256/\zas S o.l.xs true=true
 else o.s=.empty/\o.room=0/\o.fn=0/\(o.l.xs.length:Int)=1/\zas S o.l.xs false=true
abbrev zmf(o:Obj):AV:=.agg [.imm (.val (.int .u8 o.k)),.imm (.val (.string o.s)),.imm o.l.iv,zaa o.room,zaa o.fn]
section
variable {code:Nat->Option zab} {ext:zac}
theorem yek(h:code 502=some zdf)(h':code 510=some zes)(h2:code 506=some zgy)(h3:code 503=some zdz)(h4:code 507=some zgz)(h5:code 508=some zbv){sv:IV}{S:List Obj}(hr:zao tObj sv S)(o:Obj)(k3:o.k=3):∃b:Bool,callW code ext 508 [.imm sv,zmf o] []=some (avb b,[])/\(b=true↔zan S o):=by
 rw[zad code ext h5]
 have hlen:=zaz o.l.ok
 have hok:zan S o↔(o.s.size<=4096/\o.l.xs=[]/\o.room=0/\o.fn=0):=by
  unfold zan
  rw[if_pos k3]
 rw[hok]
 clear hok
 by_cases c1:(o.s.size:Int)<=4096
 case neg=>exact⟨false,by simp -implicitDefEqProofs [zbv,k3,hlen,c1],by simp[show ¬o.s.size<=4096 by omega]⟩
 by_cases c2:o.l.xs=[]
 case neg=>exact⟨false,by simp -implicitDefEqProofs [zbv,k3,hlen,c1,c2],by simp[c2]⟩
 by_cases c3:o.room=0
 case neg=>exact⟨false,by simp -implicitDefEqProofs [zbv,k3,hlen,c1,c2,c3],by simp[c2,c3]⟩
 by_cases c4:o.fn=0
 case neg=>exact⟨false,by simp -implicitDefEqProofs [zbv,k3,hlen,c1,c2,c3,c4],by simp[c2,c3,c4]⟩
 exact⟨true,by simp -implicitDefEqProofs [zbv,k3,hlen,c1,c2,c3,c4],by simp[c2,c3,c4,show o.s.size<=4096 by omega]⟩
theorem yel(h:code 502=some zdf)(h':code 510=some zes)(h2:code 506=some zgy)(h3:code 503=some zdz)(h4:code 507=some zgz)(h5:code 508=some zbv){sv:IV}{S:List Obj}(hr:zao tObj sv S)(o:Obj)(k4:o.k=4):∃b:Bool,callW code ext 508 [.imm sv,zmf o] []=some (avb b,[])/\(b=true↔zan S o):=by
 rw[zad code ext h5]
 have hlen:=zaz o.l.ok
 have hok:zan S o↔(o.s=.empty/\o.fn=0/\(o.l.xs.length:Int)<=65536/\(o.l.xs.length:Int)<=o.room/\o.room<=262144/\zas S o.l.xs false=true):=by
  unfold zan
  rw[if_neg (by omega),if_pos k4]
 rw[hok]
 clear hok
 have hh:=zq4 (ext:=ext) h h' h2 hr o.l.ok false
 by_cases c1:o.s=.empty
 case neg=>exact⟨false,by simp -implicitDefEqProofs [zbv,k4,hlen,c1],by simp[c1]⟩
 by_cases c2:o.fn=0
 case neg=>exact⟨false,by simp -implicitDefEqProofs [zbv,k4,hlen,c1,c2],by simp[c1,c2]⟩
 by_cases c3:(o.l.xs.length:Int)<=65536
 case neg=>exact⟨false,by simp -implicitDefEqProofs [zbv,k4,hlen,c1,c2,c3],by simp[c1,c2,c3]⟩
 by_cases c4:(o.l.xs.length:Int)<=o.room
 case neg=>exact⟨false,by simp -implicitDefEqProofs [zbv,k4,hlen,c1,c2,c3,c4],by simp[c1,c2,c3,c4]⟩
 by_cases c5:o.room<=262144
 case neg=>exact⟨false,by simp -implicitDefEqProofs [zbv,k4,hlen,c1,c2,c3,c4,c5],by simp[c1,c2,c3,c4,c5]⟩
 by_cases c6:zas S o.l.xs false=true
 case neg=>
  have c6f:zas S o.l.xs false=false:=by simpa using c6
  exact⟨false,by simp -implicitDefEqProofs [zbv,k4,hlen,hh,c1,c2,c3,c4,c5,c6f],by simp[c1,c2,c3,c4,c5,c6f]⟩
 exact⟨true,by simp -implicitDefEqProofs [zbv,k4,hlen,hh,c1,c2,c3,c4,c5,c6],by simp[c1,c2,c3,c4,c5,c6]⟩
set_option maxHeartbeats 1000000 in
theorem yem (h:code 502=some zdf) (h':code 510=some zes) (h2:code 506=some zgy) (h3:code 503=some zdz) (h4:code 507=some zgz) (h5:code 508=some zbv) {sv:IV} {S:List Obj} (hr:zao tObj sv S) (o:Obj) (k5:o.k=5):∃b:Bool,callW code ext 508 [.imm sv,zmf o] []=some (avb b,[])/\(b=true↔zan S o):=by
 rw[zad code ext h5]
 have hlen:=zaz o.l.ok
 have hok:zan S o↔(o.s=.empty/\o.fn=0/\(o.l.xs.length:Int).tmod 2=0/\(o.l.xs.length:Int)<=131072/\(o.l.xs.length:Int)<=o.room/\o.room<=262144/\zas S o.l.xs false=true/\zfr S o.l.xs):=by
  unfold zan
  rw[if_neg (by omega),if_neg (by omega),if_pos k5]
 rw[hok]
 clear hok
 have hh:=zq4 (ext:=ext) h h' h2 hr o.l.ok false
 obtain⟨bk,hkk,hkb⟩:=yej (ext:=ext) h h3 h4 hr o.l.ok
 by_cases c1:o.s=.empty
 case neg=>exact⟨false,by simp -implicitDefEqProofs [zbv,k5,hlen,c1],by simp[c1]⟩
 by_cases c2:o.fn=0
 case neg=>exact⟨false,by simp -implicitDefEqProofs [zbv,k5,hlen,c1,c2],by simp[c1,c2]⟩
 by_cases c3:(o.l.xs.length:Int).tmod 2=0
 case neg=>exact⟨false,by simp -implicitDefEqProofs [zbv,k5,hlen,c1,c2,c3],by simp[c1,c2,c3]⟩
 by_cases c4:(o.l.xs.length:Int)<=131072
 case neg=>exact⟨false,by simp -implicitDefEqProofs [zbv,k5,hlen,c1,c2,c3,c4],by simp[c1,c2,c3,c4]⟩
 by_cases c5:(o.l.xs.length:Int)<=o.room
 case neg=>exact⟨false,by simp -implicitDefEqProofs [zbv,k5,hlen,c1,c2,c3,c4,c5],by simp[c1,c2,c3,c4,c5]⟩
 by_cases c6:o.room<=262144
 case neg=>exact⟨false,by simp -implicitDefEqProofs [zbv,k5,hlen,c1,c2,c3,c4,c5,c6],by simp[c1,c2,c3,c4,c5,c6]⟩
 by_cases c7:zas S o.l.xs false=true
 case neg=>
  have c7f:zas S o.l.xs false=false:=by simpa using c7
  exact⟨false,by simp -implicitDefEqProofs [zbv,k5,hlen,hh,c1,c2,c3,c4,c5,c6,c7f],by simp[c1,c2,c3,c4,c5,c6,c7f]⟩
 refine⟨bk,?_,by rw[hkb];simp[c1,c2,c3,c4,c5,c6,c7]⟩
 simp -implicitDefEqProofs [zbv,k5,hlen,hh,hkk,c1,c2,c3,c4,c5,c6,c7]
theorem yen(h:code 502=some zdf)(h':code 510=some zes)(h2:code 506=some zgy)(h3:code 503=some zdz)(h4:code 507=some zgz)(h5:code 508=some zbv){sv:IV}{S:List Obj}(hr:zao tObj sv S)(o:Obj)(k6:o.k=6):∃b:Bool,callW code ext 508 [.imm sv,zmf o] []=some (avb b,[])/\(b=true↔zan S o):=by
 rw[zad code ext h5]
 have hlen:=zaz o.l.ok
 have hok:zan S o↔(o.s=.empty/\o.room=0/\0<=o.fn/\o.fn<256/\zas S o.l.xs true=true):=by
  unfold zan
  rw[if_neg (by omega),if_neg (by omega),if_neg (by omega),if_pos k6]
 rw[hok]
 clear hok
 have hh:=zq4 (ext:=ext) h h' h2 hr o.l.ok true
 by_cases c1:o.s=.empty
 case neg=>exact⟨false,by simp -implicitDefEqProofs [zbv,k6,hlen,c1],by simp[c1]⟩
 by_cases c2:o.room=0
 case neg=>exact⟨false,by simp -implicitDefEqProofs [zbv,k6,hlen,c1,c2],by simp[c1,c2]⟩
 by_cases c3:0<=o.fn
 case neg=>exact⟨false,by simp -implicitDefEqProofs [zbv,k6,hlen,c1,c2,c3],by simp[c1,c2,c3]⟩
 by_cases c4:o.fn<256
 case neg=>exact⟨false,by simp -implicitDefEqProofs [zbv,k6,hlen,c1,c2,c3,c4],by simp[c1,c2,c3,c4]⟩
 by_cases c5:zas S o.l.xs true=true
 case neg=>
  have c5f:zas S o.l.xs true=false:=by simpa using c5
  exact⟨false,by simp -implicitDefEqProofs [zbv,k6,hlen,hh,c1,c2,c3,c4,c5f],by simp[c1,c2,c3,c4,c5f]⟩
 exact⟨true,by simp -implicitDefEqProofs [zbv,k6,hlen,hh,c1,c2,c3,c4,c5],by simp[c1,c2,c3,c4,c5]⟩
theorem yeo(h:code 502=some zdf)(h':code 510=some zes)(h2:code 506=some zgy)(h3:code 503=some zdz)(h4:code 507=some zgz)(h5:code 508=some zbv){sv:IV}{S:List Obj}(hr:zao tObj sv S)(o:Obj)(k3:¬o.k=3)(k4:¬o.k=4)(k5:¬o.k=5)(k6:¬o.k=6):∃b:Bool,callW code ext 508 [.imm sv,zmf o] []=some (avb b,[])/\(b=true↔zan S o):=by
 rw[zad code ext h5]
 have hlen:=zaz o.l.ok
 have hok:zan S o↔(o.s=.empty/\o.room=0/\o.fn=0/\(o.l.xs.length:Int)=1/\zas S o.l.xs false=true):=by
  unfold zan
  rw[if_neg k3,if_neg k4,if_neg k5,if_neg k6]
 rw[hok]
 clear hok
 have hh:=zq4 (ext:=ext) h h' h2 hr o.l.ok false
 by_cases c1:o.s=.empty
 case neg=>exact⟨false,by simp -implicitDefEqProofs [zbv,k3,k4,k5,k6,hlen,c1],by simp[c1]⟩
 by_cases c2:o.room=0
 case neg=>exact⟨false,by simp -implicitDefEqProofs [zbv,k3,k4,k5,k6,hlen,c1,c2],by simp[c1,c2]⟩
 by_cases c3:o.fn=0
 case neg=>exact⟨false,by simp -implicitDefEqProofs [zbv,k3,k4,k5,k6,hlen,c1,c2,c3],by simp[c1,c2,c3]⟩
 by_cases c4:(o.l.xs.length:Int)=1
 case neg=>exact⟨false,by simp -implicitDefEqProofs [zbv,k3,k4,k5,k6,hlen,c1,c2,c3,c4],by simp[c1,c2,c3,c4]⟩
 by_cases c5:zas S o.l.xs false=true
 case neg=>
  have c5f:zas S o.l.xs false=false:=by simpa using c5
  exact⟨false,by simp -implicitDefEqProofs [zbv,k3,k4,k5,k6,hlen,hh,c1,c2,c3,c4,c5f],by simp[c1,c2,c3,c4,c5f]⟩
 exact⟨true,by simp -implicitDefEqProofs [zbv,k3,k4,k5,k6,hlen,hh,c1,c2,c3,c4,c5],by simp[c1,c2,c3,c4,c5]⟩
theorem yep(h:code 502=some zdf)(h':code 510=some zes)(h2:code 506=some zgy)(h3:code 503=some zdz)(h4:code 507=some zgz)(h5:code 508=some zbv){sv:IV}{S:List Obj}(hr:zao tObj sv S)(o:Obj):∃b:Bool,callW code ext 508 [.imm sv,zmf o] []=some (avb b,[])/\(b=true↔zan S o):=by
 by_cases k3:o.k=3
 ·exact yek h h' h2 h3 h4 h5 hr o k3
 by_cases k4:o.k=4
 ·exact yel h h' h2 h3 h4 h5 hr o k4
 by_cases k5:o.k=5
 ·exact yem h h' h2 h3 h4 h5 hr o k5
 by_cases k6:o.k=6
 ·exact yen h h' h2 h3 h4 h5 hr o k6
 exact yeo h h' h2 h3 h4 h5 hr o k3 k4 k5 k6
end
def zcq(S:List Obj)(v:Val):Prop:=zbz S v=true/\∀(k:Nat) (o:Obj),Reach S [v] k->S[k]?=some o->zan S o
section
variable {code:Nat->Option zab} {ext:zac}
theorem yei(h:code 502=some zdf)(h':code 510=some zes)(h2:code 506=some zgy)(h3:code 503=some zdz)(h4:code 507=some zgz)(h5:code 508=some zbv)(h6:code 509=some zna)(h7:code 500=some zm7)
  {sv:IV} {S:List Obj} (hr:zao tObj sv S) (v:Val) (hw:tVal.wf v) (hM:1+unm (List.replicate S.length false) S<=100000000) (hS:S.length<=1048576):
  ∃b:Bool,callW code ext 500 [.imm sv,.agg [.imm (.val (.int .u8 v.k)),zaa v.n]] []=some (avb b,[])/\(b=true↔zcq S v):=by
 have hv:=z19 (ext:=ext) h h' hr v
 rw[zad code ext h7]
 cases hvv:zbz S v with
 |false=>
  rw[hvv]at hv
  exact⟨false,by simp -implicitDefEqProofs [zm7,hv],by simp[zcq,hvv]⟩
 |true=>
  rw[hvv]at hv
  have hq:zao tVal (.slice [.val (.int .u8 v.k),.val (.int .i64 v.n)] 0 1 (some 1)) [v]:=zfj tVal [v] (cap:=some 1) (by simpa using hw) (by simp) (by simp)
  obtain⟨F,hI,hre⟩:=yef (ext:=ext) h h6 hr hq (by simpa using hM) hS
  have hFl:=hI.len
  have hpl:(tBool.row F).all IV.plain=true:=by simp[Ty.row,tBool,List.all_flatMap,IV.plain]
  have loop:∀s0:St,s0.tidy [0,5,6]=⟨0,[(0,.imm sv),(5,.osl 0 0 1 S.length (some S.length)),(6,zaa 0)],[.flat (tBool.row F) false]⟩->∃e s',den code ext (.loop [0,5,6] zm8) s0=some (e,s')/\e≠ .normal/\
    ((e=.exit 0/\(∀(k:Nat) (o:Obj),F[k]?=some true->S[k]?=some o->zan S o)/\s'=⟨0,[(0,.imm sv),(5,.osl 0 0 1 S.length (some S.length)),(6,zaa S.length),(18,avb false)],[.flat (tBool.row F) false]⟩)\/(e=.ret/\(¬∀(k:Nat) (o:Obj),F[k]?=some true->S[k]?=some o->zan S o)/\s'=⟨0,[(4,avb false)],[.flat (tBool.row F) false]⟩)):=by
   intro s0 hst0
   refine zb1 (fun n s=>∃(i:Nat),i+n=S.length/\(∀(k:Nat) (o:Obj),k<i->F[k]?=some true->S[k]?=some o->zan S o)/\s.tidy [0,5,6]=⟨0,[(0,.imm sv),(5,.osl 0 0 1 S.length (some S.length)),(6,zaa (i:Nat))],[.flat (tBool.row F) false]⟩) _ ?_ S.length _ ⟨0,by simp,fun k o h=>by omega,hst0⟩
   clear hst0 s0
   rintro n s ⟨i,hi,hall,hst⟩
   rw[hst]
   by_cases hlt:i<S.length
   ·have hif:i<F.length:=by omega
    obtain⟨row,off,cap,hsv,hc,hcut,hget⟩:=zb6 hr (xab hlt)
    have hqf:(tBool.row F)[i]?=some (.val (.bool F[i])):=by
     have:=zy1 (zdc (t:=tBool) (xab hif))
     rwa [show tBool.sz=1 from rfl,Nat.mul_one]at this
    have e1:IntKind.wrap .i64 ((i:Int)+1)=(i:Int)+1:=zap (by omega) (by omega)
    have hFi:=xab hif
    have hSi:=xab hlt
    obtain⟨b,hob,hbo⟩:=yep (ext:=ext) h h' h2 h3 h4 h5 hr S[i]
    generalize S[i]=o at hget hSi hob hbo
    simp only[tObj]at hget
    have next:(F[i]=true->zan S o)->∀(k:Nat) (o:Obj),k<i+1->F[k]?=some true->S[k]?=some o->zan S o:=by
     intro hn k p hk hFk hSk
     by_cases hki:k<i
     ·exact hall k p hki hFk hSk
     ·have:k=i:=by omega
      subst this
      rw[hSi]at hSk;cases hSk
      exact hn (by rw[hFi]at hFk;simpa using hFk)
    cases hb:F[i]with
    |false=>
     rw[hb]at hqf
     refine⟨.normal,⟨0,[(0,.imm sv),(5,.osl 0 0 1 S.length (some S.length)),(6,zaa ((i:Int)+1))],[.flat (tBool.row F) false]⟩,?_,.inl ⟨rfl,n-1,by omega,i+1,by omega,next (by rw[hb];simp),by simp -implicitDefEqProofs⟩⟩
     subst hsv
     simp -implicitDefEqProofs [zm8,hqf,hlt,e1]
    |true=>
     rw[hb]at hqf hFi
     cases hbb:b with
     |true=>
      rw[hbb]at hob hbo
      refine⟨.normal,⟨0,[(0,.imm sv),(5,.osl 0 0 1 S.length (some S.length)),(6,zaa ((i:Int)+1))],[.flat (tBool.row F) false]⟩,?_,.inl ⟨rfl,n-1,by omega,i+1,by omega,next (fun _=>hbo.1 rfl),by simp -implicitDefEqProofs⟩⟩
      subst hsv
      simp -implicitDefEqProofs [zm8,hqf,e1,hlt,hget,hob]
     |false=>
      rw[hbb]at hob hbo
      refine⟨.ret,⟨0,[(4,avb false)],[.flat (tBool.row F) false]⟩,?_,.inr ⟨by simp,.inr ⟨rfl,fun hc=>?_,rfl⟩⟩⟩
      ·subst hsv
       simp -implicitDefEqProofs [zm8,hqf,hlt,hget,hob]
      ·have:=hbo.2 (hc i o hFi hSi)
       cases this
   ·have:i=S.length:=by omega
    subst this
    refine⟨.exit 0,_,?_,.inr ⟨by simp,.inl ⟨rfl,fun k o hF hSo=>hall k o (xaa.1 hSo).1 hF hSo,rfl⟩⟩⟩
    simp -implicitDefEqProofs [zm8]
  obtain⟨e,s',l1,_,⟨rfl,hall,rfl⟩|⟨rfl,hall,rfl⟩⟩:=loop ⟨0,[(0,.imm sv),(5,.osl 2 0 1 S.length (some S.length)),(6,zaa 0)],[.rich [.imm (.val (.int .u8 v.k)),zaa v.n],.flat [.val (.int .u8 v.k),.val (.int .i64 v.n)] false,.flat (tBool.row F) false]⟩ (by simp -implicitDefEqProofs)
  ·refine⟨true,?_,?_⟩
   ·simp -implicitDefEqProofs [zm7,hv,hre,hpl,l1]
   ·simp only[zcq,hvv,true_and,true_iff]
    exact fun k o hk ho=>hall k o ((hI.done k).2 hk) ho
  ·refine⟨false,?_,?_⟩
   ·simp -implicitDefEqProofs [zm7,hv,hre,hpl,l1]
   ·simp only[xar,zcq,hvv,true_and,false_iff]
    exact fun hc=>hall fun k o hF ho=>hc k o ((hI.done k).1 hF) ho
end
section
variable {code:Nat->Option zab} {ext:zac}
def za2(k n:Int)(t:ByteArray)(w:Int):AV:=.agg [.imm (.val (.int .u8 k)),zaa n,zaq t,zaa w]
theorem zmw(h:code 562=some zpq)(t:ByteArray):∃m,callW code ext 562 [zaq t] []=some (za2 0 0 t 0,m):=by
 refine zfw ?_
 rw[zad code ext h]
 simp -implicitDefEqProofs [zpq,za2]
end
section
variable {code:Nat->Option zab} {ext:zac}
theorem z8o(h:code 641=some znc)(sv:IV)(v:Val){b:Bool}(hc:callW code ext 646 [.imm sv,.agg [.imm (.val (.int .u8 v.k)),zaa v.n]] []=some (avb b,[])):
  callW code ext 641 [.agg [.imm (.val (.int .u8 v.k)),zaa v.n],.optr 0 0] [.rich [.imm sv]]=some (avb (!b),[.rich [.imm sv]]):=by
 rw[zad code ext h]
 simp -implicitDefEqProofs [znc,hc]
theorem zp5(c:DoQ code)(sv:IV)(vs:List Val)(ck:Val->Bool)(hl:vs.length<=1000)(h:∀v∈vs,callW code ext 646 [.imm sv,.agg [.imm (.val (.int .u8 v.k)),zaa v.n]] []=some (avb (ck v),[])):
  zg2 code ext sv vs (vs.any fun v=> !ck v):=by
 have loop:∃e s',den code ext (.loop [0,1,7,8] zi4) ⟨2,[(0,.osl 0 0 2 vs.length (some vs.length)),(1,.clo 641 [.optr 1 0]),(7,zaa vs.length),(8,zaa 0)],[.flat (tVal.row vs) false,.rich [.imm sv]]⟩=some (e,s')/\e≠ .normal/\
   ((e=.exit 0/\(vs.any fun v=> !ck v)=false/\s'=⟨2,[(0,.osl 0 0 2 vs.length (some vs.length)),(1,.clo 641 [.optr 1 0]),(7,zaa vs.length),(8,zaa vs.length),(9,avb false)],[.flat (tVal.row vs) false,.rich [.imm sv]]⟩)\/
    (e=.ret/\(vs.any fun v=> !ck v)=true/\∃i:Nat,i<vs.length/\s'=⟨2,[(4,zaa (i:Nat))],[.flat (tVal.row vs) false,.rich [.imm sv]]⟩)):=by
  refine zb1 (fun n s=>∃(i:Nat),i+n=vs.length/\(∀v∈vs.take i,ck v=true)/\s=⟨2,[(0,.osl 0 0 2 vs.length (some vs.length)),(1,.clo 641 [.optr 1 0]),(7,zaa vs.length),(8,zaa (i:Nat))],[.flat (tVal.row vs) false,.rich [.imm sv]]⟩) _ ?_ vs.length _ ⟨0,by simp,by simp,rfl⟩
  rintro n _ ⟨i,hi,hok,rfl⟩
  by_cases hlt:i<vs.length
  ·have e1:IntKind.wrap .i64 ((i:Int)+1)=(i:Int)+1:=zap (by omega) (by omega)
   have hx:=xab hlt
   have hget:=zdc (t:=tVal) hx
   have hs:=z8o (ext:=ext) c.c641 sv _ (h _ (xa7 hlt))
   have hmem:=xa7 hlt
   have htk:vs.take (i+1)=vs.take i++[vs[i]]:=by rw[xbk,hx];rfl
   simp only[tVal]at hget
   generalize vs[i]=v at *
   have hget':cut (tVal.row vs) (i*2) 2=some [.val (.int .u8 v.k),.val (.int .i64 v.n)]:=hget
   cases hck:ck v with
   |true=>
    refine⟨.normal,⟨2,[(0,.osl 0 0 2 vs.length (some vs.length)),(1,.clo 641 [.optr 1 0]),(7,zaa vs.length),(8,zaa ((i:Int)+1))],[.flat (tVal.row vs) false,.rich [.imm sv]]⟩,?_,.inl ⟨rfl,n-1,by omega,i+1,by omega,?_,rfl⟩⟩
    ·rw[hck]at hs
     clear hget h hok htk
     generalize tVal.row vs=R at *
     generalize vs.length=n at *
     simp only[Bool.not_true]at hs
     simp -implicitDefEqProofs [zi4,hlt,hget',hs,e1]
    ·intro u hu
     rw[htk]at hu
     rcases xak.1 hu with hu|hu
     ·exact hok u hu
     ·rw[xbc.1 hu];exact hck
   |false=>
    refine⟨.ret,⟨2,[(4,zaa (i:Nat))],[.flat (tVal.row vs) false,.rich [.imm sv]]⟩,?_,.inr ⟨by simp,.inr ⟨rfl,xcb.2 ⟨v,hmem,by simp[hck]⟩,i,hlt,rfl⟩⟩⟩
    rw[hck]at hs
    clear hget h hok htk
    generalize tVal.row vs=R at *
    generalize vs.length=n at *
    simp only[Bool.not_false]at hs
    simp -implicitDefEqProofs [zi4,hlt,hget',hs]
  ·have:i=vs.length:=by omega
   subst this
   refine⟨.exit 0,_,?_,.inr ⟨by simp,.inl ⟨rfl,?_,rfl⟩⟩⟩
   ·clear hok
    generalize tVal.row vs=R at *
    generalize vs.length=n at *
    simp -implicitDefEqProofs [zi4]
   ·rw[List.any_eq_false]
    intro v hv
    rw[xb0]at hok
    simp[hok v hv]
 obtain⟨e,s',g1,_,hq⟩:=loop
 unfold zg2
 rcases hq with⟨rfl,hr,rfl⟩|⟨rfl,hr,i,hi,rfl⟩
 ·rw[hr]
  have h759:callW code ext 759 [.osl 0 0 2 vs.length (some vs.length),.clo 641 [.optr 1 0]] [.flat (tVal.row vs) false,.rich [.imm sv]]=some (zaa (-1),[.flat (tVal.row vs) false,.rich [.imm sv]]):=by
   rw[zad code ext c.c759]
   clear h hr
   generalize tVal.row vs=R at *
   generalize vs.length=n at *
   simp -implicitDefEqProofs [zbp,g1]
  rw[zad code ext c.c749]
  clear h g1 hr
  generalize tVal.row vs=R at *
  generalize vs.length=n at *
  simp -implicitDefEqProofs [zbr,h759]
 ·rw[hr]
  have h759:callW code ext 759 [.osl 0 0 2 vs.length (some vs.length),.clo 641 [.optr 1 0]] [.flat (tVal.row vs) false,.rich [.imm sv]]=some (zaa (i:Nat),[.flat (tVal.row vs) false,.rich [.imm sv]]):=by
   rw[zad code ext c.c759]
   clear h hr hi
   generalize tVal.row vs=R at *
   generalize vs.length=n at *
   simp -implicitDefEqProofs [zbp,g1]
  have h0:(0:Int)<=i:=by omega
  rw[zad code ext c.c749]
  clear h g1 hr hi
  generalize tVal.row vs=R at *
  generalize vs.length=n at *
  simp -implicitDefEqProofs [zbr,h759,h0]
theorem zzx(h:code 152=some zpa){sv lv:IV}{vs:List Val}(hr:zao tVal lv vs)(hl:vs.length<=1000){ck:Val->Bool}(h5:∀v∈vs,callW code ext 500 [.imm sv,.agg [.imm (.val (.int .u8 v.k)),zaa v.n]] []=some (avb (ck v),[])):
  ∃m,callW code ext 152 [.imm (.ptr [sv] 0),.imm lv] []=some (avb (vs.all fun v=>decide (v.k≠7)&&ck v),m):=by
 have elen:=zaz hr
 have loop:∃e s',den code ext (.loop [0,1,5] zk3) ⟨0,[(0,.imm (.ptr [sv] 0)),(1,.imm lv),(5,zaa 0)],[]⟩=some (e,s')/\e≠ .normal/\
   (((vs.all fun v=>decide (v.k≠7)&&ck v)=true/\e=.exit 0/\∃x y z,s'=⟨0,[(0,x),(1,y),(5,z),(9,avb false)],[]⟩)\/((vs.all fun v=>decide (v.k≠7)&&ck v)=false/\e=.ret/\s'=⟨0,[(4,avb false)],[]⟩)):=by
  refine zb1 (fun n s=>∃i:Nat,i+n=vs.length/\(∀v∈vs.take i,(decide (v.k≠7)&&ck v)=true)/\s=⟨0,[(0,.imm (.ptr [sv] 0)),(1,.imm lv),(5,zaa (i:Nat))],[]⟩) _ ?_ vs.length _ ⟨0,by simp,by simp,rfl⟩
  rintro n _ ⟨i,hi,hok,rfl⟩
  by_cases hlt:i<vs.length
  ·have e1:IntKind.wrap .i64 ((i:Int)+1)=(i:Int)+1:=zap (by omega) (by omega)
   obtain⟨v,hv⟩:∃v,vs[i]?=some v:=⟨_,xab hlt⟩
   have hmem:=xag hv
   have htk:vs.take (i+1)=vs.take i++[v]:=by rw[xbk,hv];rfl
   obtain⟨row,off,cap,rfl,_,_,hcut⟩:=zb6 hr hv
   have hs:=h5 v hmem
   have hcut':cut row (off+i*2) 2=some [.val (.int .u8 v.k),.val (.int .i64 v.n)]:=hcut
   have hg:row[off+i*2]?=some (.val (.int .u8 v.k)):=by simpa using zai hcut' 0 (by decide)
   cases hx:(decide (v.k≠7)&&ck v)with
   |true=>
    refine⟨.normal,⟨0,[(0,.imm (.ptr [sv] 0)),(1,.imm (.slice row off vs.length cap)),(5,zaa ((i:Int)+1))],[]⟩,?_,.inl ⟨rfl,n-1,by omega,i+1,by omega,?_,rfl⟩⟩
    ·rw[xaf,decide_eq_true_eq]at hx
     rw[hx.2]at hs
     have k7:=hx.1
     clear h5 hok htk
     generalize vs.length=n at *
     simp -implicitDefEqProofs [zk3,k7,hs,hcut',hg,hlt,e1]
    ·intro u hu
     rw[htk]at hu
     rcases xak.1 hu with hu|hu
     ·exact hok u hu
     ·rw[xbc.1 hu];exact hx
   |false=>
    refine⟨.ret,⟨0,[(4,avb false)],[]⟩,?_,.inr ⟨by simp,.inr ⟨List.all_eq_false.2 ⟨v,hmem,by rw[hx];decide⟩,rfl,rfl⟩⟩⟩
    clear h5 hok htk
    by_cases k7:v.k=7
    ·generalize vs.length=n at *
     simp -implicitDefEqProofs [zk3,k7,hg,hlt]
    ·have hc:ck v=false:=by simpa [k7]using hx
     rw[hc]at hs
     generalize vs.length=n at *
     simp -implicitDefEqProofs [zk3,k7,hs,hcut',hg,hlt]
  ·have:i=vs.length:=by omega
   subst this
   refine⟨.exit 0,⟨0,[(0,.imm (.ptr [sv] 0)),(1,.imm lv),(5,zaa vs.length),(9,avb false)],[]⟩,?_,.inr ⟨by simp,.inl ⟨?_,rfl,_,_,_,rfl⟩⟩⟩
   ·clear hok h5
    generalize vs.length=n at *
    simp -implicitDefEqProofs [zk3,elen]
   ·rw[xai]
    intro v hv
    rw[xb0]at hok
    exact hok v hv
 refine zfw ?_
 rw[zad code ext h]
 unfold zpa
 generalize zk3=L at *
 obtain⟨e,s',l1,_,⟨hb,rfl,x,y,z,rfl⟩|⟨hb,rfl,rfl⟩⟩:=loop
 ·rw[hb]
  simp -implicitDefEqProofs [l1]
 ·rw[hb]
  simp -implicitDefEqProofs [l1]
end
section
variable {code:Nat->Option zab} {ext:zac}
theorem z2f(h:code 166=some zhi){sv:IV}{S:List Obj}(hr:zao tObj sv S){v:Val}{k:Nat}{o:Obj}(hk:(k:Int)=v.n-1)(ho:S[k]?=some o):
  ∃m,callW code ext 166 [.imm (.ptr [sv] 0),.agg [.imm (.val (.int .u8 v.k)),zaa v.n]] []=some (.agg [.imm (.val (.int .u8 o.k)),zaq o.s,.imm o.l.iv,zaa o.room,zaa o.fn],m):=by
 obtain⟨row,off,cap,rfl,hc,hcut,hget⟩:=zb6 hr ho
 simp only[tObj]at hget
 have hks:=(xaa.1 ho).1
 have hb:=hr.2.1
 have e1:IntKind.wrap .i64 (v.n-1)=(k:Nat):=by rw[<-hk];exact zap (by omega) (by omega)
 have h2:(k:Int)<S.length:=by omega
 refine zfw ?_
 rw[zad code ext h]
 simp -implicitDefEqProofs [zhi,e1,h2,hget]
theorem z8r(h:code 488=some zw8){iv:IV}{S:List Obj}(ht:callW code ext 377 [.imm iv] []=some (.osl 0 0 5 S.length (some (S.length+1)),[.flat (tObj.row (S.map zal++[zat])) false])):
  callW code ext 488 [.imm iv] []=some (.optr 0 0,[.rich [.osl 1 0 5 S.length (some (S.length+1))],.flat (tObj.row (S.map zal++[zat])) false]):=by
 rw[zad code ext h]
 generalize tObj.row (S.map zal++[zat])=R at *
 have hown:(R.all IV.plain=true)\/¬(R.all IV.plain=true):=by cases R.all IV.plain<;>simp
 simp -implicitDefEqProofs [zw8,ht]
end
section
variable {code:Nat->Option zab} {ext:zac}
theorem yf6(h:code 357=some zj1){iv jv:IV}{xs:List Val}(hr:zao tVal iv xs)(hs:zao tVal jv xs):callW code ext 357 [.imm iv,.imm jv] []=some (avb true,[]):=by
 have hl:=zaz hr
 have hl2:=zaz hs
 have hb:=hr.2.1
 have loop:∃e s',den code ext (.loop [0,1,5] zpj) ⟨0,[(0,.imm iv),(1,.imm jv),(5,zaa 0)],[]⟩=some (e,s')/\e≠ .normal/\(e=.exit 0/\s'=⟨0,[(0,.imm iv),(1,.imm jv),(5,zaa xs.length),(14,avb false)],[]⟩):=by
  refine zb1 (fun n s=>∃i,i+n=xs.length/\s=⟨0,[(0,.imm iv),(1,.imm jv),(5,zaa (i:Nat))],[]⟩) _ ?_ xs.length _ ⟨0,by simp,rfl⟩
  rintro n _ ⟨i,hi,rfl⟩
  by_cases hlt:i<xs.length
  ·have hx:=xab hlt
   obtain⟨r1,o1,c1,rfl,_,_,g1⟩:=zb6 hr hx
   obtain⟨r2,o2,c2,rfl,_,_,g2⟩:=zb6 hs hx
   generalize xs[i]=v at g1 g2
   simp only[tVal]at g1 g2
   have e1:IntKind.wrap .i64 ((i:Int)+1)=(i:Int)+1:=zap (by omega) (by omega)
   have hlt':(i:Int)<xs.length:=by omega
   refine⟨.normal,⟨0,[(0,.imm (.slice r1 o1 xs.length c1)),(1,.imm (.slice r2 o2 xs.length c2)),(5,zaa ((i:Int)+1))],[]⟩,?_,.inl ⟨rfl,n-1,by omega,i+1,by omega,rfl⟩⟩
   simp -implicitDefEqProofs [zpj,hlt',g1,g2,e1]
  ·have:i=xs.length:=by omega
   subst this
   refine⟨.exit 0,⟨0,[(0,.imm iv),(1,.imm jv),(5,zaa xs.length),(14,avb false)],[]⟩,?_,.inr ⟨by simp,rfl,rfl⟩⟩
   simp -implicitDefEqProofs [zpj,hl]
 obtain⟨e,s',l1,_,rfl,rfl⟩:=loop
 rw[zad code ext h]
 unfold zj1
 generalize zpj=L at *
 simp -implicitDefEqProofs [hl,hl2,l1]
def LikeObj(a b:Obj):Prop:=a.k=b.k/\a.s=b.s/\a.l.xs=b.l.xs/\a.room=b.room/\a.fn=b.fn
theorem yf2(h:code 351=some zk5)(h1:code 357=some zj1){a b:Obj}(hab:LikeObj a b):
  ∃m,callW code ext 351 [.agg [.imm (.val (.int .u8 a.k)),.imm (.val (.string a.s)),.imm a.l.iv,zaa a.room,zaa a.fn],.agg [.imm (.val (.int .u8 b.k)),.imm (.val (.string b.s)),.imm b.l.iv,zaa b.room,zaa b.fn]] []=some (avb true,m):=by
 obtain⟨e1,e2,e3,e4,e5⟩:=hab
 have hb:=b.l.ok
 rw[<-e3]at hb
 have hv:=yf6 (ext:=ext) h1 a.l.ok hb
 refine zfw ?_
 rw[zad code ext h,<-e1,<-e2,<-e4,<-e5]
 simp -implicitDefEqProofs [zk5,hv]
theorem yf3(h:code 352=some zm4)(h1:code 351=some zk5)(h2:code 357=some zj1){iv jv:IV}{A B:List Obj}(hr:zao tObj iv A)(hs:zao tObj jv B)(hl:A.length=B.length)(hab:∀(i:Nat) (a b:Obj),A[i]?=some a->B[i]?=some b->LikeObj a b):callW code ext 352 [.imm iv,.imm jv] []=some (avb true,[]):=by
 have hlA:=zaz hr
 have hlB:=zaz hs
 rw[<-hl]at hlB
 have hb:=hr.2.1
 have loop:∃e s',den code ext (.loop [0,1,5] zph) ⟨0,[(0,.imm iv),(1,.imm jv),(5,zaa 0)],[]⟩=some (e,s')/\e≠ .normal/\(e=.exit 0/\s'=⟨0,[(0,.imm iv),(1,.imm jv),(5,zaa A.length),(14,avb false)],[]⟩):=by
  refine zb1 (fun n s=>∃i,i+n=A.length/\s=⟨0,[(0,.imm iv),(1,.imm jv),(5,zaa (i:Nat))],[]⟩) _ ?_ A.length _ ⟨0,by simp,rfl⟩
  rintro n _ ⟨i,hi,rfl⟩
  by_cases hlt:i<A.length
  ·have hx:=xab hlt
   have hy:=xab (l:=B) (i:=i) (by omega)
   obtain⟨r1,o1,c1,rfl,_,_,g1⟩:=zb6 hr hx
   obtain⟨r2,o2,c2,rfl,_,_,g2⟩:=zb6 hs hy
   obtain⟨m,hso⟩:=yf2 (ext:=ext) h1 h2 (hab i _ _ hx hy)
   generalize A[i]=a at *
   generalize B[i]'(by omega)=b at *
   simp only[tObj]at g1 g2
   rw[<-hl]
   have e1:IntKind.wrap .i64 ((i:Int)+1)=(i:Int)+1:=zap (by omega) (by omega)
   have hlt':(i:Int)<A.length:=by omega
   refine⟨.normal,⟨0,[(0,.imm (.slice r1 o1 A.length c1)),(1,.imm (.slice r2 o2 A.length c2)),(5,zaa ((i:Int)+1))],[]⟩,?_,.inl ⟨rfl,n-1,by omega,i+1,by omega,rfl⟩⟩
   simp -implicitDefEqProofs [zph,hlt',g1,g2,e1,hso]
  ·have:i=A.length:=by omega
   subst this
   refine⟨.exit 0,⟨0,[(0,.imm iv),(1,.imm jv),(5,zaa A.length),(14,avb false)],[]⟩,?_,.inr ⟨by simp,rfl,rfl⟩⟩
   simp -implicitDefEqProofs [zph,hlA]
 obtain⟨e,s',l1,_,rfl,rfl⟩:=loop
 rw[zad code ext h]
 unfold zm4
 generalize zph=L at *
 simp -implicitDefEqProofs [hlA,hlB,l1]
theorem zwm(h0:code 355=some zpi)(h:code 352=some zm4)(h1:code 351=some zk5)(h2:code 357=some zj1){iv jv:IV}{A B:List Obj}(hr:zao tObj iv A)(hs:zao tObj jv B)(hl:A.length=B.length)(hab:∀(i:Nat) (a b:Obj),A[i]?=some a->B[i]?=some b->LikeObj a b):callW code ext 355 [.imm iv,.imm jv] []=some (avb true,[]):=by
 have hv:=yf3 (ext:=ext) h h1 h2 hr hs hl hab
 rw[zad code ext h0]
 simp -implicitDefEqProofs [zpi,hv]
end
section
variable {code:Nat->Option zab} {ext:zac}
def zez(T:List Obj)(o:Obj)(v:Val):Bool:= !zbz T v||(decide (v.k=7) != decide (o.k=6))
theorem zc2(T:List Obj)(o:Obj)(l:List Val):l.any (zez T o)= !zas T l (decide (o.k=6)):=by
 unfold zas
 induction l with
 |nil=>rfl
 |cons v l ih=>
  rw[List.any_cons,xcl,ih,Bool.not_and]
  congr 1
  unfold zez
  cases zbz T v<;>cases decide (v.k=7)<;>cases decide (o.k=6)<;>rfl
end
end Go.EX

namespace Go.EX
def zdn(T:List Obj)(v:Val):Int×Int×ByteArray:=
 if v.k=3 then match zau T v with
  |some i=>(3,0,sAt T i)
  |none=>(v.k,v.n,.empty)
 else(v.k,v.n,.empty)
def zdl(x:Int×Int×ByteArray):AV:=.agg [.imm (.val (.int .u8 x.1)),zaa x.2.1,.imm (.val (.string x.2.2))]
def zb5(acc:List (Int×Int×ByteArray)):List (AV×AV):=acc.map fun x=>(zdl x,avb true)
open Classical in
noncomputable def zd8 (acc:List (Int×Int×ByteArray)) (x:Int×Int×ByteArray):List (Int×Int×ByteArray):=if x∈acc then acc else acc++[x]
@[simp] theorem yko(acc:List (Int×Int×ByteArray)):AV.refs.refsL (List.map (fun x=>x.1) (zb5 acc))=[]:=by
 unfold zb5
 induction acc with
 |nil=>rfl
 |cons x r ih=>
  have hk:(zdl x).refs=[]:=rfl
  simp only[xa1,AV.refs.refsL,ih,hk,xay]
@[simp] theorem ykp(acc:List (Int×Int×ByteArray)):AV.refs.refsL (List.map (fun x=>x.2) (zb5 acc))=[]:=by
 unfold zb5
 induction acc with
 |nil=>rfl
 |cons x r ih=>simp only[xa1,AV.refs.refsL,ih,AV.refs];rfl
@[simp] theorem ykk(f:Nat->Option Nat)(acc:List (Int×Int×ByteArray)):List.map (fun p=>(AV.ren f p.1,AV.ren f p.2)) (zb5 acc)=zb5 acc:=by
 simp[zb5,zdl,AV.ren,AV.ren.renL]
theorem z82(x:Int×Int×ByteArray):zg8 57 (zdl x)=true:=by
 have e:zg8 57 (zdl x)=(zc0 [0,0,2] [.imm (.val (.int .u8 x.1)),zaa x.2.1,.imm (.val (.string x.2.2))] [.imm (.val (.int .u8 x.1)),zaa x.2.1,.imm (.val (.string x.2.2))]).isSome:=rfl
 rw[e];simp[zc0]
theorem z6a(a b:ByteArray):(a==b)=decide (a=b):=by rw[Go.beq_toListBytes,bytes_beq]
theorem z83(m:Mem)(x y:Int×Int×ByteArray):zem m 57 (zdl x) (zdl y)=some (decide (x=y)):=by
 obtain⟨a,b,c⟩:=x
 obtain⟨a',b',c'⟩:=y
 have e:zem m 57 (zdl (a,b,c)) (zdl (a',b',c'))=zc0 [0,0,2] [.imm (.val (.int .u8 a)),zaa b,.imm (.val (.string c))] [.imm (.val (.int .u8 a')),zaa b',.imm (.val (.string c'))]:=rfl
 rw[e]
 simp only[zc0,if_true,xal,xb9,xae,z6a]
 by_cases h1:a=a'<;>by_cases h2:b=b'<;>by_cases h3:c=c'<;>simp[h1,h2,h3]
theorem zqc(x:Int×Int×ByteArray):∀(acc:List (Int×Int×ByteArray)) (i:Nat),
  (x ∉ acc/\∀m,zcn m 57 (zdl x) (zb5 acc) i=some none)\/(x∈acc/\∃j,(∀m,zcn m 57 (zdl x) (zb5 acc) i=some (some (i+j)))/\acc[j]?=some x)
 |[],i=>.inl ⟨by simp,fun _=>rfl⟩
 |y::r,i=>by
  have hk:=fun m=>z83 m x y
  by_cases h:x=y
  ·subst h
   refine .inr ⟨by simp,0,fun m=>?_,rfl⟩
   simp only[zb5,xa1,zcn,hk,decide_true,xbf]
  ·have hf:∀m,zcn m 57 (zdl x) (zb5 (y::r)) i=zcn m 57 (zdl x) (zb5 r) (i+1):=fun m=>by simp only[zb5,xa1,zcn,hk,h,decide_false]
   rcases zqc x r (i+1)with⟨h1,h2⟩|⟨h1,j,h2,h3⟩
   ·exact .inl ⟨by simp[h,h1],fun m=>by rw[hf,h2]⟩
   ·refine .inr ⟨by simp[h1],j+1,fun m=>?_,h3⟩
    rw[hf,h2];congr 2;omega
theorem zvq(acc:List (Int×Int×ByteArray))(j:Nat)(x:Int×Int×ByteArray)(h:acc[j]?=some x):(zb5 acc).set j (zdl x,avb true)=zb5 acc:=by
 refine xbh fun i=>?_
 rw[List.getElem?_set]
 split
 ·rename_i hij;subst hij
  split
  ·simp[zb5,h]
  ·rename_i hl
   rw[xaq (by omega)]
 ·rfl
theorem zvr(acc:List (Int×Int×ByteArray))(x:Int×Int×ByteArray):zb5 acc++[(zdl x,avb true)]=zb5 (acc++[x]):=by simp[zb5]
section
variable {code:Nat->Option zab} {ext:zac}
noncomputable def zc6(T:List Obj)(l:List Val):Nat->List (Int×Int×ByteArray)
 |0=>[]
 |i+1=>if i%2=0 then(match l[i]? with|some v=>zd8 (zc6 T l i) (zdn T v)|none=>zc6 T l i)else zc6 T l i
theorem zvs(T:List Obj)(l:List Val)(i:Nat)(v:Val)(hi:i%2=0)(hv:l[i]?=some v):zc6 T l (i+2)=zd8 (zc6 T l i) (zdn T v):=by
 rw[zc6,if_neg (by omega),zc6,if_pos hi,hv]
end
end Go.EX


namespace Go.EX
theorem yct(acc:List (Int×Int×ByteArray)):(zb5 acc).length=acc.length:=by simp[zb5]
section
variable {code:Nat->Option zab} {ext:zac}
end
end Go.EX

namespace Go.EX
theorem z1d(T:List Obj)(v:Val):(zdn T v).1=v.k:=by
 unfold zdn
 split
 ·split
  ·simp_all
  ·rfl
 ·rfl
theorem z1e(T:List Obj)(a b:Val)(ha:zbz T a=true)(hb:zbz T b=true):zdn T a=zdn T b↔zep T a b=true:=by
 unfold zdn zep
 by_cases hk:a.k=b.k
 ·rw[if_neg (show ¬(a.k≠b.k)from fun c=>c hk)]
  by_cases h0:a.k=0
  ·have hb0:b.k=0:=by omega
   unfold zbz at ha hb
   rw[if_pos h0]at ha
   rw[if_pos hb0]at hb
   simp at ha hb
   simp[h0,hb0,ha,hb]
  ·rw[if_neg h0]
   by_cases h3:a.k=3
   ·have hb3:b.k=3:=by omega
    rw[if_pos h3,if_pos hb3,if_pos h3]
    have ga:(zau T a).isSome=true:=by
     unfold zbz at ha
     rw[if_neg (by omega),if_neg (by omega),if_neg (by omega)]at ha;exact ha
    have gb:(zau T b).isSome=true:=by
     unfold zbz at hb
     rw[if_neg (by omega),if_neg (by omega),if_neg (by omega)]at hb;exact hb
    obtain⟨i,hi⟩:=xbd.1 ga
    obtain⟨j,hj⟩:=xbd.1 gb
    rw[hi,hj]
    by_cases hn:a.n=b.n
    ·rw[if_pos hn]
     have hij:i=j:=by
      have h1:=(zcg hi).2.1
      have h2:=(zcg hj).2.1
      omega
     subst hij;simp
    ·rw[if_neg hn];simp
   ·have hb3:¬b.k=3:=by omega
    rw[if_neg h3,if_neg hb3,if_neg h3]
    by_cases hn:a.n=b.n
    ·simp[hn,hk]
    ·simp[hn]
 ·rw[if_pos hk]
  refine⟨fun h=>?_,fun h=>by cases h⟩
  have h1:=z1d T a
  have h2:=z1d T b
  unfold zdn at h1 h2
  rw[h,h2]at h1
  exact absurd h1.symm hk
theorem z1g(T:List Obj)(l:List Val):∀(j:Nat),2*j<=l.length->∀x,x∈zc6 T l (2*j)↔ ∃p v,p<j/\l[2*p]?=some v/\zdn T v=x
 |0,_,x=>by
  refine⟨fun h=>by simp[zc6]at h,?_⟩
  rintro⟨p,v,h,_⟩;omega
 |j+1,hj,x=>by
  have hlt:2*j<l.length:=by omega
  have ih:=z1g T l j (by omega) x
  have hg:=xab hlt
  have e:=zvs T l (2*j) l[2*j] (by omega) hg
  have e':2*(j+1)=2*j+2:=by omega
  rw[e',e]
  have hadd:x∈zd8 (zc6 T l (2*j)) (zdn T l[2*j])↔x∈zc6 T l (2*j)\/zdn T l[2*j]=x:=by
   unfold zd8
   split
   ·rename_i hm
    refine⟨.inl,?_⟩
    rintro(h|h)
    ·exact h
    ·rw[<-h];exact hm
   ·simp[eq_comm]
  rw[hadd,ih]
  constructor
  ·rintro(⟨p,v,h1,h2,h3⟩|h)
   ·exact⟨p,v,by omega,h2,h3⟩
   ·exact⟨j,_,by omega,hg,h⟩
  ·rintro⟨p,v,h1,h2,h3⟩
   by_cases hp:p=j
   ·subst hp;rw[hg]at h2;cases h2;exact .inr h3
   ·exact .inl ⟨p,v,by omega,h2,h3⟩
theorem z1f(T:List Obj)(l:List Val):∀(j:Nat),2*j<=l.length->(zc6 T l (2*j)).length<=j/\
  ((zc6 T l (2*j)).length=j↔ ∀(p q:Nat) (a b:Val),q<p->p<j->l[2*p]?=some a->l[2*q]?=some b->zdn T a≠zdn T b)
 |0,_=>by
  refine⟨by simp[zc6],fun _ p q a b h1 h2=>by omega,fun _=>by simp[zc6]⟩
 |j+1,hj=>by
  have hlt:2*j<l.length:=by omega
  obtain⟨ih1,ih2⟩:=z1f T l j (by omega)
  have hm:=z1g T l j (by omega) (zdn T l[2*j])
  have hg:=xab hlt
  have e:=zvs T l (2*j) l[2*j] (by omega) hg
  have e':2*(j+1)=2*j+2:=by omega
  rw[e',e]
  unfold zd8
  split
  ·rename_i hx
   refine⟨by omega,fun h=>by omega,fun h=>?_⟩
   obtain⟨p,v,h1,h2,h3⟩:=hm.1 hx
   exact absurd h3.symm (h j p _ v h1 (by omega) hg h2)
  ·rename_i hx
   refine⟨by simp;omega,?_⟩
   rw[xao,List.length_singleton]
   constructor
   ·intro h p q a b h1 h2 h3 h4
    by_cases hp:p=j
    ·subst hp
     rw[hg]at h3;cases h3
     intro hc
     exact hx (hm.2 ⟨q,b,h1,h4,hc.symm⟩)
    ·exact ih2.1 (by omega) p q a b h1 (by omega) h3 h4
   ·intro h
    have:=ih2.2 fun p q a b h1 h2 h3 h4=>h p q a b h1 (by omega) h3 h4
    omega
theorem z88(T:List Obj)(l:List Val)(hev:l.length%2=0)(hv:∀v∈l,zbz T v=true):(zc6 T l l.length).length=l.length / 2↔zfr T l:=by
 have hl:l.length=2*(l.length / 2):=by omega
 have h:=(z1f T l (l.length / 2) (by omega)).2
 rw[<-hl]at h
 rw[h]
 unfold zfr
 constructor
 ·intro h i k a b hi hk hlt h1 h2
  have ha:=hv a (xag h1)
  have hb:=hv b (xag h2)
  have hil:=(xaa.1 h1).1
  have:=h (i / 2) (k / 2) a b (by omega) (by omega) (by rw[show 2*(i / 2)=i by omega];exact h1) (by rw[show 2*(k / 2)=k by omega];exact h2)
  rw[Ne,z1e T a b ha hb]at this
  simpa using this
 ·intro h p q a b h1 h2 h3 h4
  have ha:=hv a (xag h3)
  have hb:=hv b (xag h4)
  rw[Ne,z1e T a b ha hb,h (2*p) (2*q) a b (by omega) (by omega) (by omega) h3 h4]
  simp
section
variable {code:Nat->Option zab} {ext:zac}
theorem zy3(T:List Obj):cut (zrl T) 0 (T.length*5)=some (tObj.row T):=by
 unfold zrl
 have hr:tObj.row (T++[zat])=tObj.row T++tObj.row [zat]:=by unfold Ty.row;simp
 have hl:(tObj.row T).length=T.length*5:=zbg tObj T
 rw[hr]
 refine zun ?_ hl
 rw[List.drop_zero,<-hl,List.take_left]
end
section
variable {code:Nat->Option zab} {ext:zac}
theorem yfy(h:code 492=some zk8)(k n:Int)(t:ByteArray)(w:Int):∃m,callW code ext 492 [za2 k n t w] []=some (zaa (if t=.empty then w else 0),m):=by
 refine zfw ?_
 rw[zad code ext h]
 unfold za2
 by_cases ht:t=.empty
 ·simp -implicitDefEqProofs [zk8,ht]
 ·simp -implicitDefEqProofs [zk8,ht]
end
section
variable {code:Nat->Option zab} {ext:zac}
theorem yfr(h:code 559=some zgk)(o:Obj)(h0:0<=o.room):
  ∃m,callW code ext 559 [.agg [.imm (.val (.int .u8 o.k)),.imm (.val (.string o.s)),.imm o.l.iv,zaa o.room,zaa o.fn]] []=some (zaa (zbf o),m):=by
 refine zfw ?_
 rw[zad code ext h]
 have hlen:=zaz o.l.ok
 unfold zbf
 by_cases k3:o.k=3
 ·simp -implicitDefEqProofs [zgk,k3]
 by_cases k6:o.k=6
 ·simp -implicitDefEqProofs [zgk,k6,hlen]
 by_cases k4:o.k=4
 ·by_cases hr:o.room=0
  ·simp -implicitDefEqProofs [zgk,k4,hr]
  ·have hp:0<o.room:=by omega
   simp -implicitDefEqProofs [zgk,k4,hr,hp]
 by_cases k5:o.k=5
 ·by_cases hr:o.room=0
  ·simp -implicitDefEqProofs [zgk,k5,hr]
  ·have hp:0<o.room:=by omega
   simp -implicitDefEqProofs [zgk,k5,hr,hp]
 ·simp -implicitDefEqProofs [zgk,k3,k4,k5,k6]
end
section
variable {code:Nat->Option zab} {ext:zac}
def zb7(t:ByteArray):Obj:=⟨3,t,⟨.val (.slice none 0 0),[],⟨by simp,by simp,.inl ⟨rfl,rfl⟩⟩⟩,0,0⟩
def zba(R:List IV)(n c:Nat):Mem:=[.rich [.osl 1 0 5 n (some c)],.flat R false]
theorem yfb(h:code 165=some zm0)(h1:code 559=some zgk){T:List Obj}(hn:T.length<=100000000)(t:ByteArray):
  callW code ext 165 [.optr 0 0,.agg [.imm (.val (.int .u8 3)),zaq t,zaf,zaa 0,zaa 0],avb false] (zba (tObj.row (T++[zat])) T.length (T.length+1))=
   some (za2 3 ((T.length+1:Nat):Int) .empty (zbf (zb7 t)),zba (tObj.row (T++[zb7 t])) (T.length+1) (T.length+1)):=by
 obtain⟨m,hs⟩:=yfr (ext:=ext) h1 (zb7 t) (Int.le_refl 0)
 have hset:=zwo (t:=tObj) (xs:=T++[zat]) (by decide) (i:=T.length) (by simp) (zb7 t)
 have hst:(T++[zat]).set T.length (zb7 t)=T++[zb7 t]:=by simp
 rw[hst]at hset
 have henc:tObj.enc (zb7 t)=[.val (.int .u8 3),.val (.string t),.val (.slice none 0 0),.val (.int .i64 0),.val (.int .i64 0)]:=rfl
 have hz:tObj.sz=5:=rfl
 rw[henc,hz]at hset
 have hfit:(T.length+1)*5<=(tObj.row (T++[zat])).length:=by rw[zbg,hz];simp
 generalize zbf (zb7 t)=w at *
 simp only[zb7]at hs
 rw[zad code ext h]
 unfold zba za2
 generalize tObj.row (T++[zb7 t])=R2 at *
 generalize tObj.row (T++[zat])=R at *
 simp -implicitDefEqProofs [zm0,hs,za0,za1,elems,hset,hfit]
end
section
variable {code:Nat->Option zab} {ext:zac}
theorem yfs(h0:code 163=some zpb)(h:code 165=some zm0)(h1:code 559=some zgk){T:List Obj}(hn:T.length<=100000000)(t:ByteArray)(ht:t.size<=4096):
  callW code ext 163 [.optr 0 0,zaq t,avb false] (zba (tObj.row (T++[zat])) T.length (T.length+1))=
   some (za2 3 ((T.length+1:Nat):Int) .empty (zbf (zb7 t)),zba (tObj.row (T++[zb7 t])) (T.length+1) (T.length+1)):=by
 have hm:=yfb (ext:=ext) h h1 hn t
 generalize zbf (zb7 t)=w at *
 have ht':¬(4096:Int)<t.size:=by omega
 rw[zad code ext h0]
 unfold zba za2 at *
 generalize tObj.row (T++[zb7 t])=R2 at *
 generalize tObj.row (T++[zat])=R at *
 generalize ((T.length+1:Nat):Int)=N at *
 simp -implicitDefEqProofs [zpb,hm,ht']
end
section
variable {code:Nat->Option zab} {ext:zac}
theorem yfq(h:code 161=some zic)(h1:code 166=some zhi){sv:IV}{S:List Obj}(hr:zao tObj sv S){a b:Val}(ha:zbw S a)(hb:zbw S b):
  ∃m,callW code ext 161 [.imm (.ptr [sv] 0),.agg [.imm (.val (.int .u8 a.k)),zaa a.n],.agg [.imm (.val (.int .u8 b.k)),zaa b.n]] []=some (avb (zdw S a b),m):=by
 refine zfw ?_
 unfold zdw
 by_cases hk:a.k=b.k
 ·rw[if_neg (by simpa using hk)]
  by_cases h3:a.k=3
  ·rw[if_pos h3]
   obtain⟨q,hq⟩:=ha h3
   obtain⟨p,hp⟩:=hb (by omega)
   obtain⟨q1,q2,_,_,o,q3,q4⟩:=zcg hq
   obtain⟨p1,p2,_,_,u,p3,p4⟩:=zcg hp
   have t1:zeq S a=o.s:=by unfold zeq zjo;rw[hq];simp[q3]
   have t2:zeq S b=u.s:=by unfold zeq zjo;rw[hp];simp[p3]
   rw[t1,t2]
   obtain⟨m1,f1⟩:=z2f (ext:=ext) h1 hr q2 q3
   obtain⟨m2,f2⟩:=z2f (ext:=ext) h1 hr p2 p3
   have hb3:b.k=3:=by omega
   rw[h3]at f1 ⊢
   rw[hb3]at f2 ⊢
   rw[zad code ext h]
   simp -implicitDefEqProofs [zic,f1,f2]
  ·rw[if_neg h3,zad code ext h,<-hk]
   by_cases h0:a.k=0
   ·simp -implicitDefEqProofs [zic,h0]
   ·simp -implicitDefEqProofs [zic,h0,h3]
 ·rw[if_pos hk,zad code ext h]
  simp -implicitDefEqProofs [zic,hk]
end
def zhb(ck:Val->Bool)(a b:Val):Bool:=[a,b].all fun v=>decide (v.k≠7)&&ck v
def zc4(T:List Obj):List ByteArray->Mem
 |[]=>zba (tObj.row (T++[zat])) T.length (T.length+1)
 |t::_=>zba (tObj.row (T++[zb7 t])) (T.length+1) (T.length+1)
def z4e:List ByteArray->Int
 |[]=>0
 |t::_=>zbf (zb7 t)
def TextAt(T:List Obj)(v:Val):Prop:=v.k=3->∃p o,zau T v=some p/\T[p]?=some o/\o.s.size<=4096
theorem TextAt.ok{T:List Obj}{v:Val}(h:TextAt T v):zbw T v:=fun h3=>by
 obtain⟨p,_,hp,_⟩:=h h3
 exact⟨p,hp⟩
def yhr:zab:=
 ⟨[.cell 10 (some 4)],(.seq (.region [0,1,4,7,8,10] [o0 7 (.box 2 (.t 2)),
 o0 8 (.box 2 (.t 3)),
 o0 10 (.alloc [(.int .u8 0),(.int .i64 0),(.string .empty),(.int .i64 0)])]) (.seq (.seq (.region [0,1,4,7,8,10,18] [o3 13 0,o6 14 2 7,o6 15 2 8,
 o0 16 (.buildSlice 2 [(.int .u8 0),(.int .i64 0)] 2 [(0,2,(.t 14)),(2,2,(.t 15))]),
 o0 17 (.call .view 152 [(.t 13),(.t 16)]),
 o0 18 (.un .not (.t 17))]) (.cond (.t 18) (.seq (.region [10] [o0 19 (.call .view 562 [(.c (.string ⟨#[107,105,110,100]⟩))]),
 o2 (.store 4 (.t 10) (.t 19))]) .ret) .skip)) (.seq (.seq (.region [0,1,4,7,8,10,25] [o3 20 1,
 o0 21 (.bin .eql (.t 20) (.c (.int .u8 8))),o3 22 21,
 o1 23 22 false (.mv (.t 1)),
 o1 24 22 false (.bin .eql (.t 23) (.c (.int .u8 9))),
 o0 25 (.pick (.t 22) (.c (.bool true)) (.t 24))]) (.cond (.t 25) (.seq (.region [10] [o3 26 0,o6 27 2 7,o6 28 2 8,
 o0 29 (.call .view 161 [(.t 26),(.t 27),(.t 28)]),o3 30 1,
 o0 31 (.bin .eql (.t 30) (.c (.int .u8 8))),
 o0 32 (.binB .eql (.t 29) (.t 31)),
 o0 33 (.call .view 557 [.t 32]),
 o0 34 (.build [(.int .u8 0),(.int .i64 0),(.string .empty),(.int .i64 0)] [(0,2,(.t 33))]),
 o2 (.store 4 (.t 10) (.t 34))]) .ret) .skip)) (.seq (.seq (.region [0,1,4,7,8,10,42] [o5 35 0 7,o4 36 35,
 o0 37 (.bin .eql (.t 36) (.c (.int .u8 2))),o3 38 37,
 o1 39 38 true (.fieldA 0 (.t 8)),
 o1 40 38 true (.load none (.t 39)),
 o1 41 38 true (.bin .eql (.t 40) (.c (.int .u8 2))),
 o0 42 (.pick (.t 38) (.t 41) (.c (.bool false)))]) (.cond (.t 42) (.seq (.region [10] [o3 43 1,o5 44 1 7,o4 45 44,o5 46 1 8,o4 47 46,
 o0 48 (.call .view 561 [(.t 43),(.t 45),(.t 47)]),
 o2 (.store 4 (.t 10) (.t 48))]) .ret) .skip)) (.seq (.seq (.region [0,1,4,7,8,10,56] [o5 49 0 7,o4 50 49,
 o0 51 (.bin .neq (.t 50) (.c (.int .u8 3))),o3 52 51,
 o1 53 52 false (.fieldA 0 (.t 8)),
 o1 54 52 false (.load none (.t 53)),
 o1 55 52 false (.bin .neq (.t 54) (.c (.int .u8 3))),
 o0 56 (.pick (.t 52) (.c (.bool true)) (.t 55))]) (.cond (.t 56) (.seq (.region [10] [o0 57 (.call .view 562 [(.c (.string ⟨#[107,105,110,100]⟩))]),
 o2 (.store 4 (.t 10) (.t 57))]) .ret) .skip)) (.seq (.region [0,1,4,8,10,11] [o3 58 0,o6 59 2 7,
 o0 60 (.call .look 166 [(.t 58),(.t 59)]),
 o0 61 (.field 1 none (.t 60)),o3 11 61]) (.seq (.region [0,1,4,10,11,12] [o3 62 0,o6 63 2 8,
 o0 64 (.call .look 166 [(.t 62),(.t 63)]),
 o0 65 (.field 1 none (.t 64)),o3 12 65]) (.seq (.seq (.region [0,4,10,11,12,66] [o3 66 1]) (.block 0 (.seq (.region [0,4,10,11,12,66,67] [o0 68 (.bin .eql (.t 66) (.c (.int .u8 1))),o3 67 68]) (.cond (.t 67) (.seq (.region [10] [o3 69 0,o3 70 11,o3 71 12,
 o0 72 (.bin .add (.t 70) (.t 71)),o3 73 4,
 o0 74 (.call .share 163 [(.t 69),(.t 72),(.t 73)]),
 o2 (.store 4 (.t 10) (.t 74))]) .ret) (.seq (.region [10,11,12,66,75] [o0 76 (.bin .eql (.t 66) (.c (.int .u8 6))),o3 75 76]) (.cond (.t 75) (.seq (.region [10] [o3 77 11,o3 78 12,
 o0 79 (.bin .lss (.t 77) (.t 78)),
 o0 80 (.call .view 557 [.t 79]),
 o0 81 (.build [(.int .u8 0),(.int .i64 0),(.string .empty),(.int .i64 0)] [(0,2,(.t 80))]),
 o2 (.store 4 (.t 10) (.t 81))]) .ret) (.seq (.region [10,11,12,82] [o0 83 (.bin .eql (.t 66) (.c (.int .u8 7))),o3 82 83]) (.cond (.t 82) (.seq (.region [10] [o3 84 11,o3 85 12,
 o0 86 (.bin .leq (.t 84) (.t 85)),
 o0 87 (.call .view 557 [.t 86]),
 o0 88 (.build [(.int .u8 0),(.int .i64 0),(.string .empty),(.int .i64 0)] [(0,2,(.t 87))]),
 o2 (.store 4 (.t 10) (.t 88))]) .ret) .skip)))))))) (.seq (.region [10] [o0 89 (.call .view 562 [(.c (.string ⟨#[107,105,110,100]⟩))]),
 o2 (.store 4 (.t 10) (.t 89))]) .ret)))))))))⟩
section
variable {code:Nat->Option zab} {ext:zac}
theorem yfd(h:code 166=some zhi){R:List IV}{N c q:Nat}{S:List Obj}(hR:∀i o,S[i]?=some o->cut R (i*5) 5=some (tObj.enc o))(hN:S.length=N)(hb:N<=100000000){v:Val}{o:Obj}(hk:(q:Int)=v.n-1)(ho:S[q]?=some o):
  callW code ext 166 [.optr 0 0,.agg [.imm (.val (.int .u8 v.k)),zaa v.n]] (zba R N c)=some (.agg [.imm (.val (.int .u8 o.k)),zaq o.s,.imm o.l.iv,zaa o.room,zaa o.fn],zba R N c):=by
 have hget:=hR q o ho
 simp only[tObj]at hget
 have hks:=(xaa.1 ho).1
 have e1:IntKind.wrap .i64 (v.n-1)=(q:Nat):=by rw[<-hk];exact zap (by omega) (by omega)
 have h2:(q:Int)<N:=by omega
 have h3:q<N:=by omega
 rw[zad code ext h]
 unfold zba
 simp -implicitDefEqProofs [zhi,e1,h2,hget]
end
theorem z0r:∀(R:List IV) (p:Nat) (a b c d:Nat) (e:Option Nat),p<R.length->zdu (zak R p (.osl a b c d e))=none
 |[],p,a,b,c,d,e,h=>absurd h (xcn _)
 |x::r,0,a,b,c,d,e,h=>rfl
 |x::r,p+1,a,b,c,d,e,h=>by
  have ih:=z0r r p a b c d e (by simpa using h)
  unfold zak at ih ⊢
  rw[xa1,xce]
  show(zdu _).map _=none
  rw[ih]
  rfl
theorem zjv(R:List IV)(p:Nat)(v w:AV):setAll (zak R p v) p [w]=zak R p w:=ye4 R p v w
section
variable {code:Nat->Option zab} {ext:zac}
theorem z6n(h:code 743=some zfp){T:List Obj}(h0:T.length≠0)(hn:T.length<=100000000)(cap:Option Nat)(p:Nat)(hp:p<T.length*5)(n:Nat)(cp:Option Nat)(W:List IV):
  callW code ext 743 [.osl 0 0 5 T.length cap] [.rich (zak (tObj.row T) p (.osl 1 0 2 n cp)),.flat W false]=
   some (.osl 2 0 5 T.length none,[.rich (zak (tObj.row T) p (.osl 1 0 2 n cp)),.flat W false,.rich (zak (tObj.row T) p (.osl 1 0 2 n cp))]):=by
 have hrl:(tObj.row T).length=T.length*5:=zbg tObj T
 have p1:=zc7
 have hrf:=zch (R:=tObj.row T) (p:=p) (v:=.osl 1 0 2 n cp) (by omega)
 have hrl2:=zh2 (tObj.row T) p (.osl 1 0 2 n cp)
 have hno:=z0r (tObj.row T) p 1 0 2 n cp (by omega)
 rw[hrl]at hrl2
 have hcut:=zda _ hrl2
 generalize tObj.row T=R0 at *
 have h2:T.length*64<=140737488355328:=by omega
 generalize T.length=N at *
 rw[zad code ext h]
 simp -implicitDefEqProofs [zfp,za0,za1,zb4,elems,zbq,h0,h2,hrf,p1,hcut,hno]
end
theorem zon(f:Nat->Option Nat):∀(R:List IV),AV.ren.renL f (R.map AV.imm)=R.map AV.imm
 |[]=>rfl
 |x::r=>by
  rw[xa1]
  show AV.ren f (.imm x)::AV.ren.renL f (r.map AV.imm)=_
  rw[zon f r]
  rfl
section
variable {code:Nat->Option zab} {ext:zac}
end
theorem zz2(m:Mem)(k:Nat):∀R:List IV,(R.map AV.imm).mapM (za5 m k)=some R
 |[]=>rfl
 |x::r=>by
  rw[xa1,xba,zn3,zz2 m k r]
  rfl
theorem zz7(m:Mem)(k:Nat){id n:Nat}{cap:Option Nat}{W:List IV}(hm:m[id]?=some (.flat W false)):∀(R:List IV) (p:Nat),R[p]?=some (.slice W 0 n cap)->(zak R p (.osl id 0 2 n cap)).mapM (za5 m (k+1))=some R
 |[],p,h=>by simp at h
 |x::r,0,h=>by
  simp only[xbw,xae]at h
  subst h
  unfold zak
  rw[xa1,List.set_cons_zero,xba,zz2]
  simp only[za5,hm]
  rfl
 |x::r,p+1,h=>by
  have ih:=zz7 m k hm r p (by simpa using h)
  unfold zak at ih ⊢
  rw[xa1,xce,xba,zn3,ih]
  rfl
theorem zz8(m:Mem){id n:Nat}{cap:Option Nat}{W R:List IV}{p:Nat}(h:R[p]?=some (.slice W 0 n cap))(hm:m[id]?=some (.flat W false)):(zak R p (.osl id 0 2 n cap)).mapM (za5 m 19)=some R:=zz7 m 18 hm R p h
section
variable {code:Nat->Option zab} {ext:zac}
end
abbrev yde(x:IV)(k n:Int)(t:ByteArray)(w:Int):AV:=.agg [.imm x,.imm (.val (.int .u8 k)),zaa n,zaq t,zaa w]
section
variable {code:Nat->Option zab} {ext:zac}
end
def rM(T:List Obj)(q:Nat)(W:List IV)(n:Nat)(cap:Option Nat):Mem:=[.rich [.osl 1 0 5 T.length (some T.length),zaa 1152921504606846976,zaa 0],.rich (zak (tObj.row T) (q*5+2) (.osl 2 0 2 n cap)),.flat W false]
def rA(T:List Obj)(q:Nat)(W:List IV)(n:Nat)(cap:Option Nat):Mem:=[.rich [.osl 2 0 5 T.length (some T.length),zaa 1152921504606846976,zaa 0],.flat W false,.rich (zak (tObj.row T) (q*5+2) (.osl 1 0 2 n cap))]
section
variable {code:Nat->Option zab} {ext:zac}
theorem zme(h:code 213=some zhk){T:List Obj}{q:Nat}(hq:q<T.length)(W:List IV)(n:Nat)(cap:Option Nat){p:Nat}(k z:Int)(hp:(p:Int)=z-1)(hN:p<T.length)(hb:T.length<=1000000000):
  callW code ext 213 [.optr 0 0,.agg [.imm (.val (.int .u8 k)),zaa z]] (rM T q W n cap)=some (.optr 1 (p*5),rM T q W n cap):=by
 have e1:IntKind.wrap .i64 (z-1)=(p:Nat):=by rw[<-hp];exact zap (by omega) (by omega)
 have h2:(p:Int)<T.length:=by omega
 have p1:=zc7
 have hrl:(tObj.row T).length=T.length*5:=zbg tObj T
 have hrf:∀v:AV,AV.refs.refsL (zak (tObj.row T) (q*5+2) v)=v.refs:=fun v=>zch (by omega)
 rw[zad code ext h]
 unfold rM
 generalize tObj.row T=R at *
 generalize T.length=N at *
 simp -implicitDefEqProofs [zhk,e1,h2,hrf,p1]
theorem ycv(c216:code 216=some zfo)(c213:code 213=some zhk){T:List Obj}(hn:T.length<=100000000){q:Nat}(hq:q<T.length)(W:List IV)(n:Nat)(cap:Option Nat){a b:Val}(ha:zbw T a)(hb:zbw T b):
  callW code ext 216 [.optr 0 0,.agg [.imm (.val (.int .u8 a.k)),zaa a.n],.agg [.imm (.val (.int .u8 b.k)),zaa b.n]] (rM T q W n cap)=some (avb (zdw T a b),rM T q W n cap):=by
 have p1:=zc7
 have hrl:(tObj.row T).length=T.length*5:=zbg tObj T
 have hrf:∀v:AV,AV.refs.refsL (zak (tObj.row T) (q*5+2) v)=v.refs:=fun v=>zch (by omega)
 unfold zdw
 by_cases hk:a.k=b.k
 ·rw[if_neg (by simpa using hk)]
  by_cases h3:a.k=3
  ·rw[if_pos h3]
   obtain⟨p,hp⟩:=ha h3
   obtain⟨r,hr⟩:=hb (by omega)
   obtain⟨q1,q2,_,_,o,q3,q4⟩:=zcg hp
   obtain⟨p1',p2,_,_,u,p3,p4⟩:=zcg hr
   have t1:zeq T a=o.s:=by unfold zeq zjo;rw[hp];simp[q3]
   have t2:zeq T b=u.s:=by unfold zeq zjo;rw[hr];simp[p3]
   rw[t1,t2]
   have f1:=zme (ext:=ext) c213 hq W n cap a.k a.n q2 q1 (by omega)
   have f2:=zme (ext:=ext) c213 hq W n cap b.k b.n p2 p1' (by omega)
   have g1:∀v,(zak (tObj.row T) (q*5+2) v)[p*5+1]?=some (.imm (.val (.string o.s))):=fun v=>zkw (zky q3) (by omega)
   have g2:∀v,(zak (tObj.row T) (q*5+2) v)[r*5+1]?=some (.imm (.val (.string u.s))):=fun v=>zkw (zky p3) (by omega)
   have hb3:b.k=3:=by omega
   rw[zad code ext c216]
   unfold rM at *
   rw[h3]at f1
   rw[hb3]at f2
   generalize tObj.row T=R at *
   generalize T.length=N at *
   simp -implicitDefEqProofs [zfo,h3,hb3,f1,f2,g1,g2,zax,hrf,p1]
  ·rw[if_neg h3]
   rw[zad code ext c216]
   unfold rM
   generalize tObj.row T=R at *
   have h3':¬b.k=3:=by omega
   rw[hk]at h3 ⊢
   by_cases h0:b.k=0
   ·simp -implicitDefEqProofs [zfo,h0,hrf,p1]
   ·simp -implicitDefEqProofs [zfo,h3',h0,hrf,p1]
 ·rw[if_pos hk]
  rw[zad code ext c216]
  unfold rM
  generalize tObj.row T=R at *
  simp -implicitDefEqProofs [zfo,hk,hrf,p1]
abbrev zga(T:List Obj)(q:Nat)(W:List IV)(n:Nat)(cap:Option Nat)(k:Val):Mem:=rA T q W n cap++[.rich [.imm (.val (.int .u8 k.k)),zaa k.n]]
theorem yea(c216:code 216=some zfo)(c213:code 213=some zhk){T:List Obj}(hn:T.length<=100000000){q:Nat}(hq:q<T.length){xs:List Val}(cap:Option Nat)(hl:xs.length<=1000000){k:Val}(hk:zbw T k)(hx:∀(j:Nat) a,xs[2*j]?=some a->zbw T a):
  ∀(m:Nat) (st:St),(∃j,m+2*j=xs.length+2/\(∀(i:Nat) b,i<j->xs[2*i]?=some b->zdw T b k=false)/\st.tidy [0,1,5,7]=⟨3,[(0,.optr 0 0),(1,.osl 1 0 2 xs.length cap),(5,.optr 3 0),(7,zaa (2*j:Nat))],zga T q (tVal.row xs) xs.length cap k⟩)->
   ∃x s',den code ext (.loop [0,1,5,7] zgw) st=some (x,s')/\x≠ .normal/\∃r,AtV T xs k r/\((x=.exit 0/\r= -1/\∃env,s'=⟨3,env,zga T q (tVal.row xs) xs.length cap k⟩)\/(x=.ret/\s'=⟨3,[(6,zaa r)],zga T q (tVal.row xs) xs.length cap k⟩)):=by
 have p1:=zc7
 have hrl:(tObj.row T).length=T.length*5:=zbg tObj T
 have hrf:∀v:AV,AV.refs.refsL (zak (tObj.row T) (q*5+2) v)=v.refs:=fun v=>zch (by omega)
 refine zb1 _ _ ?_
 rintro m st ⟨j,hm,hno,hst⟩
 rw[hst]
 by_cases hlt:2*j<xs.length
 ·obtain⟨a,ha⟩:∃a,xs[2*j]?=some a:=⟨_,xab hlt⟩
  have hcut:=zdc (t:=tVal) ha
  have hcut':cut (tVal.row xs) ((2*j)*2) 2=some [.val (.int .u8 a.k),.val (.int .i64 a.n)]:=hcut
  have f1:=ycv (ext:=ext) c216 c213 hn hq (tVal.row xs) xs.length cap (hx j a ha) hk
  obtain⟨i,hi⟩:∃i,i=2*j:=⟨_,rfl⟩
  obtain⟨i2,hi2⟩:∃i2,i2=2*j+2:=⟨_,rfl⟩
  rw[<-hi]at hcut' hlt ⊢
  have e1:(i:Int)<xs.length:=by omega
  have e2:IntKind.wrap .i64 ((i:Int)+2)=(i2:Int):=by rw[zap (by omega) (by omega)];omega
  cases hs:zdw T a k with
  |true=>
   rw[hs]at f1
   refine⟨.ret,⟨3,[(6,zaa i)],zga T q (tVal.row xs) xs.length cap k⟩,?_,.inr ⟨by simp,(i:Int),.inr ⟨j,a,by omega,ha,hs,hno⟩,.inr ⟨rfl,rfl⟩⟩⟩
   unfold rM at f1
   simp only[zga,rA]at f1 ⊢
   clear hcut
   generalize tVal.row xs=W at *
   generalize tObj.row T=R at *
   generalize T.length=N at *
   generalize xs.length=n at *
   simp -implicitDefEqProofs [zgw,f1,hcut',e1,zcv,hrf,p1]
  |false=>
   rw[hs]at f1
   refine⟨.normal,⟨3,[(0,.optr 0 0),(1,.osl 1 0 2 xs.length cap),(5,.optr 3 0),(7,zaa i2)],zga T q (tVal.row xs) xs.length cap k⟩,?_,.inl ⟨rfl,m-2,by omega,j+1,by omega,?_,?_⟩⟩
   ·unfold rM at f1
    simp only[zga,rA]at f1 ⊢
    clear hcut
    generalize tVal.row xs=W at *
    generalize tObj.row T=R at *
    generalize T.length=N at *
    generalize xs.length=n at *
    simp -implicitDefEqProofs [zgw,f1,hcut',e1,e2,zcv,hrf,p1]
   ·intro y b hy hb
    by_cases hyj:y=j
    ·subst hyj
     rw[ha]at hb
     cases hb
     exact hs
    ·exact hno y b (by omega) hb
   ·have hjj:2*(j+1)=i2:=by omega
    rw[hjj]
    simp only[zga,rA]
    clear hcut hcut' f1
    generalize tVal.row xs=W at *
    generalize tObj.row T=R at *
    generalize T.length=N at *
    generalize xs.length=n at *
    simp -implicitDefEqProofs [hrf,p1]
 ·refine⟨.exit 0,⟨3,[(0,.optr 0 0),(1,.osl 1 0 2 xs.length cap),(5,.optr 3 0),(7,zaa (2*j:Nat)),(11,avb false)],zga T q (tVal.row xs) xs.length cap k⟩,?_,.inr ⟨by simp,-1,.inl ⟨rfl,fun y b hb=>?_⟩,.inl ⟨rfl,rfl,_,rfl⟩⟩⟩
  ·obtain⟨i,hi⟩:∃i,i=2*j:=⟨_,rfl⟩
   rw[<-hi]at hlt ⊢
   have e1:¬(i:Int)<xs.length:=by omega
   simp only[zga,rA]
   generalize tVal.row xs=W at *
   generalize tObj.row T=R at *
   generalize T.length=N at *
   generalize xs.length=n at *
   simp -implicitDefEqProofs [zgw,e1]
  ·have:=(xaa.1 hb).1
   exact hno y b (by omega) hb
theorem yeb(c209:code 209=some zhj)(c216:code 216=some zfo)(c213:code 213=some zhk){T:List Obj}(hn:T.length<=100000000){q:Nat}(hq:q<T.length){xs:List Val}(cap:Option Nat)(hl:xs.length<=1000000){k:Val}(hk:zbw T k)(hx:∀(j:Nat) a,xs[2*j]?=some a->zbw T a):
  ∃r,AtV T xs k r/\callW code ext 209 [.optr 0 0,.osl 1 0 2 xs.length cap,.agg [.imm (.val (.int .u8 k.k)),zaa k.n]] (rA T q (tVal.row xs) xs.length cap)=some (zaa r,rA T q (tVal.row xs) xs.length cap):=by
 have p1:=zc7
 have hrl:(tObj.row T).length=T.length*5:=zbg tObj T
 have hrf:∀v:AV,AV.refs.refsL (zak (tObj.row T) (q*5+2) v)=v.refs:=fun v=>zch (by omega)
 obtain⟨x,s',h1,_,r,hr1,hq⟩:=yea (code:=code) (ext:=ext) c216 c213 hn hq cap hl hk hx (xs.length+2) ⟨3,[(0,.optr 0 0),(1,.osl 1 0 2 xs.length cap),(5,.optr 3 0),(7,zaa 0)],zga T q (tVal.row xs) xs.length cap k⟩ ⟨0,by omega,fun i b hi=>absurd hi (xcn i),by
  simp only[zga,rA]
  generalize tVal.row xs=W at *
  generalize tObj.row T=R at *
  generalize T.length=N at *
  generalize xs.length=n at *
  simp -implicitDefEqProofs [hrf,p1]⟩
 refine⟨r,hr1,?_⟩
 rw[zad code ext c209]
 simp only[zga,rA,xby,xbg]at h1 hq ⊢
 generalize tVal.row xs=W at *
 generalize tObj.row T=R at *
 generalize T.length=N at *
 generalize xs.length=n at *
 rcases hq with⟨rfl,rfl,env,rfl⟩|⟨rfl,rfl⟩
 ·simp -implicitDefEqProofs [zhj,h1,hrf,p1]
 ·simp -implicitDefEqProofs [zhj,h1,hrf,p1]
end
end Go.EX

