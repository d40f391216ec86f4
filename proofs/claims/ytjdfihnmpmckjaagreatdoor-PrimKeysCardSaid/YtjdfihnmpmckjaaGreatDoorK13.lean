import Derived.Test.YtjdfihnmpmckjaaGreatDoorK12
import Derived.Test.YtjdfihnmpmckjaaGreatDoorK10
import Derived.Lib.ItoaLen
import Derived.Test.YtjdfihnmpmckjaaGreatDoorK7
import Derived.Test.YtjdfihnmpmckjaaGreatDoorK9
import Derived.Test.YtjdfihnmpmckjaaGreatDoorK11
import Derived.Test.YtjdfihnmpmckjaaGreatDoorK4
import Derived.Test.YtjdfihnmpmckjaaGreatDoorK8
set_option linter.unusedVariables false
set_option linter.unusedSimpArgs false
namespace Go.EX
structure zei (T B:List Obj):Prop where
 len:B.length=T.length
 like:∀(i:Nat) (a b:Obj),T[i]?=some a->B[i]?=some b->LikeObj a b
 wf:∀o∈B,tObj.wf o
theorem z6p(o:Obj):LikeObj o (zae o):=by
 refine⟨rfl,rfl,?_,rfl,rfl⟩
 unfold zae zea
 dsimp only
 split<;>rfl
theorem LikeObj.trans{a b c:Obj}(h:LikeObj a b)(g:LikeObj b c):LikeObj a c:=
 ⟨h.1.trans g.1,h.2.1.trans g.2.1,h.2.2.1.trans g.2.2.1,h.2.2.2.1.trans g.2.2.2.1,h.2.2.2.2.trans g.2.2.2.2⟩
theorem zt8{T:List Obj}(hw:∀o∈T,tObj.wf o):zei T T:=
 ⟨rfl,fun i a b ha hb=>by rw[ha]at hb;cases hb;exact⟨rfl,rfl,rfl,rfl,rfl⟩,hw⟩
theorem zt7{T B:List Obj}(h:zei T B):zei T (B.map zae):=by
 refine⟨by rw[xam];exact h.len,fun i a b ha hb=>?_,fun o ho=>?_⟩
 ·rw[xap,xad]at hb
  obtain⟨p,hp,rfl⟩:=hb
  exact(h.like i a p ha hp).trans (z6p p)
 ·obtain⟨p,hp,rfl⟩:=xa9.1 ho
  exact h.wf p hp
theorem z5c{T B:List Obj}(h:zei T B){x:Obj}(hx:tObj.wf x):zei (T++[x]) (B++[x]):=by
 refine⟨by simp[h.len],fun i a b ha hb=>?_,fun o ho=>?_⟩
 ·by_cases hi:i<T.length
  ·rw[xac hi]at ha
   rw[xac (by rw[h.len];exact hi)]at hb
   exact h.like i a b ha hb
  ·rw[xah (by omega)]at ha
   rw[xah (by rw[h.len];omega),h.len]at hb
   rw[ha]at hb
   cases hb
   exact⟨rfl,rfl,rfl,rfl,rfl⟩
 ·rcases xak.1 ho with ho|ho
  ·exact h.wf o ho
  ·rw[xbc.1 ho];exact hx
theorem z5a{T B:List Obj}(h:zei T B)(i:Nat):(T[i]?=none/\B[i]?=none)\/∃a b,T[i]?=some a/\B[i]?=some b/\LikeObj a b:=by
 by_cases hi:i<T.length
 ·have h1:=xab hi
  have h2:=xab (l:=B) (i:=i) (by rw[h.len];exact hi)
  exact .inr ⟨_,_,h1,h2,h.like i _ _ h1 h2⟩
 ·exact .inl ⟨xaq (by omega),xaq (by rw[h.len];omega)⟩
theorem z31:∀(S:List Obj),(unm (List.replicate S.length false) S:Int)=zgh S+S.length
 |[]=>by simp[unm,zgh]
 |o::S=>by
  have:=z31 S
  simp only[xat,List.replicate_succ,unm,zgh]
  omega
theorem z3d:∀(S:List Obj) (n:Int),(∀o∈S,tObj.wf o)->0<=n->zdp n S<=50000->n+zgh S<=50000/\n+S.length<=50000/\∀o∈S,zef o<=50000
 |[],n,_,h0,hz=>⟨by unfold zdp at hz;simpa [zgh]using hz,by unfold zdp at hz;simpa using hz,fun o ho=>by cases ho⟩
 |o::r,n,hw,h0,hz=>by
  unfold zdp at hz
  have hb:=zvv o (hw o (xbe ..))
  have hr:=fun x hx=>hw x (xa5 o hx)
  split at hz
  ·obtain⟨h1,h2,h3⟩:=z3d r (n+zef o) hr (by omega) hz
   have hlow:=(z3b r (n+zef o) hr (by omega) (by omega)).1
   have ho:zef o<=50000:=by omega
   have hl:(1:Int)+o.l.xs.length<=zef o:=by
    unfold zef at ho ⊢
    split at ho
    ·rename_i h;rw[if_pos h];omega
    ·omega
   refine⟨by rw[zgh];omega,by rw[xat];omega,fun x hx=>?_⟩
   rcases xbt.1 hx with rfl|hx
   ·exact ho
   ·exact h3 x hx
  ·omega
theorem z3c{S:List Obj}(hw:∀o∈S,tObj.wf o)(h:zdp S.length S<=50000):zgh S<=50000/\S.length<=50000/\(∀o∈S,o.s.size<=50000)/\∀o∈S,o.l.xs.length<=50000:=by
 obtain⟨h1,h2,h3⟩:=z3d S S.length hw (by omega) h
 refine⟨by omega,by omega,fun o ho=>?_,fun o ho=>?_⟩<;>
 ·have:=h3 o ho
  unfold zef at this
  split at this<;>omega
section
variable {code:Nat->Option zab} {ext:zac}
def zx1:List ByteArray->Int
 |[]=>0
 |t::_=>ze9 [zdd t]
theorem zyv{S:List Obj}(hw:∀o∈S,tObj.wf o):zei S (S.map zae):=zt7 (zt8 hw)
end
@[simp] theorem yj7(b a:Nat)(row:List IV)(off:Nat):zgr 1 (.tag b a (.ptr row off))=some false:=rfl
@[simp] theorem yj8(b a:Nat)(row:List IV)(off len:Nat)(cap:Option Nat):zgr 0 (.tag b a (.slice row off len cap))=some false:=rfl
@[simp] theorem ykf(b a:Nat)(x:IV):ze2 (.tag b a x)=some false:=rfl
@[simp] theorem ykj(b a:Nat)(row:List IV)(off len:Nat)(cap:Option Nat):lenOf (.tag b a (.slice row off len cap))=some len:=rfl
structure TP where
 b:Nat
 a:Nat
 row:List IV
 off:Nat
def TP.at(t:TP)(k:Nat):AV:=.tag t.b (t.a+k*5) (.ptr t.row (t.off+k*5))
def TP.sl(t:TP)(n:Nat)(cap:Option Nat):AV:=.tag t.b t.a (.slice t.row t.off n cap)
@[simp] theorem yjp(f:Nat->Option Nat)(t:TP)(k:Nat):(t.at k).ren f=t.at k:=rfl
@[simp] theorem zx3(t:TP)(k:Nat):(t.at k).refs=[]:=rfl
def zbe(t:TP)(out:List Nat):List AV:=out.map t.at
def zco(t:TP)(out:List Nat):List (AV×AV):=out.map fun k=>(t.at k,avb true)
@[simp] theorem ykx(f:Nat->Option Nat)(t:TP)(out:List Nat):AV.ren.renL f (zbe t out)=zbe t out:=by
 rw[zfk]
 simp[zbe]
@[simp] theorem yla(f:Nat->Option Nat)(t:TP)(out:List Nat):List.map (fun p=>(AV.ren f p.1,AV.ren f p.2)) (zco t out)=zco t out:=by
 simp[zco,AV.ren]
@[simp] theorem ykr(t:TP)(out:List Nat):AV.refs.refsL (zbe t out)=[]:=by
 unfold zbe
 induction out with
 |nil=>rfl
 |cons x r ih=>simp only[xa1,AV.refs.refsL,ih,zx3];rfl
@[simp] theorem yku(t:TP)(out:List Nat):AV.refs.refsL (List.map (fun x=>x.1) (zco t out))=[]:=by
 unfold zco
 induction out with
 |nil=>rfl
 |cons x r ih=>simp only[xa1,AV.refs.refsL,ih,zx3];rfl
@[simp] theorem ykv(t:TP)(out:List Nat):AV.refs.refsL (List.map (fun x=>x.2) (zco t out))=[]:=by
 unfold zco
 induction out with
 |nil=>rfl
 |cons x r ih=>simp only[xa1,AV.refs.refsL,ih,AV.refs];rfl
theorem z02(m:Mem)(t:TP)(k x:Nat):zem m 3 (t.at k) (t.at x)=some (decide (k=x)):=by
 have h:(t.a+k*5==t.a+x*5)=decide (k=x):=by
  by_cases h:k=x
  ·subst h;simp
  ·simp[h]
   omega
 simp[zem,TP.at,h]
theorem zu4(t:TP)(k:Nat):∀(out:List Nat) (i:Nat),
  (k ∉ out/\∀m:Mem,zcn m 3 (t.at k) (zco t out) i=some none)\/
  (k∈out/\∃j,(∀m:Mem,zcn m 3 (t.at k) (zco t out) i=some (some (i+j)))/\(zco t out)[j]?=some (t.at k,avb true))
 |[],i=>.inl ⟨by simp,fun _=>rfl⟩
 |x::r,i=>by
  by_cases h:k=x
  ·subst h
   exact .inr ⟨by simp,0,fun m=>by simp[zco,zcn,z02],rfl⟩
  ·have hf:∀m:Mem,zcn m 3 (t.at k) (zco t (x::r)) i=zcn m 3 (t.at k) (zco t r) (i+1):=fun m=>by simp[zco,zcn,z02,h]
   rcases zu4 t k r (i+1)with⟨h1,h2⟩|⟨h1,j,h2,h3⟩
   ·exact .inl ⟨by simp[h,h1],fun m=>by rw[hf,h2]⟩
   ·refine .inr ⟨by simp[h1],j+1,fun m=>?_,h3⟩
    rw[hf,h2];congr 2;omega
theorem yf9(t:TP)(k:Nat)(out:List Nat):zco t out++[(t.at k,avb true)]=zco t (out++[k]):=by simp[zco]
theorem yds(t:TP)(k:Nat)(out:List Nat):zbe t out++[t.at k]=zbe t (out++[k]):=by simp[zbe]
theorem z6z(t:TP)(out:List Nat):cut (zbe t out) 0 out.length=some (zbe t out):=zda _ (by simp[zbe])
section
variable {code:Nat->Option zab} {ext:zac}
def zdh(t:TP):Option Nat->AV
 |some k=>t.at k
 |none=>.imm (.val (.pointer none))
structure zbb (code:Nat->Option zab) (ext:zac) (sA:AV) (t:TP) (S:List Obj):Prop where
 refs:sA.refs=[]
 ren:∀f,sA.ren f=sA
 box:AV.cells sA=some [sA]
 lead:∀v:Val,(zct .i64).wf v.n->callW code ext 651 [sA,.agg [.imm (.val (.int .u8 v.k)),zaa v.n]] []=some (zdh t (zau S v),[])
 obj:∀(k:Nat) (o:Obj),S[k]?=some o->cut t.row (t.off+k*5) 5=some [.val (.int .u8 o.k),.val (.string o.s),o.l.iv,.val (.int .i64 o.room),.val (.int .i64 o.fn)]
theorem z9h(h:code 651=some ze6)(t:TP)(S:List Obj)(cap:Option Nat)(hr:zao tObj (.slice t.row t.off S.length cap) S)(v:Val)(hv:(zct .i64).wf v.n):
  callW code ext 651 [t.sl S.length cap,.agg [.imm (.val (.int .u8 v.k)),zaa v.n]] []=some (zdh t (zau S v),[]):=by
 have hb:=hr.2.1
 rw[zad code ext h]
 unfold zau TP.sl
 by_cases c1:v.k<3
 ·simp -implicitDefEqProofs [ze6,c1,zdh]
 by_cases c2:7<v.k
 ·simp -implicitDefEqProofs [ze6,c1,c2,zdh]
 by_cases c3:v.n<1
 ·simp -implicitDefEqProofs [ze6,c1,c2,c3,zdh]
 by_cases c4:(S.length:Int)<v.n
 ·simp -implicitDefEqProofs [ze6,c1,c2,c3,c4,zdh,lenOf]
 obtain⟨vk,vn⟩:=v
 simp only at c1 c2 c3 c4 ⊢
 obtain⟨p,rfl⟩:∃p:Nat,vn=(p:Int)+1:=⟨(vn-1).toNat,by omega⟩
 have hlt:p<S.length:=by omega
 have hi:=xab hlt
 have ep:((p:Int)+1-1).toNat=p:=by omega
 rw[if_neg c1,if_neg c2,if_neg c3,if_neg c4,ep,hi]
 obtain⟨row',off',cap',he,_,_,hget⟩:=zb6 hr hi
 cases he
 generalize S[p]=o at hget
 simp only[tObj]at hget
 have g0:t.row[t.off+p*5]?=some (.val (.int .u8 o.k)):=zai hget 0 (by omega)
 have e1:IntKind.wrap .i64 (p:Int)=p:=zap (by omega) (by omega)
 by_cases c5:o.k=vk
 ·simp -implicitDefEqProofs [ze6,c1,c2,c3,c4,e1,g0,c5,hlt,zdh,lenOf,TP.at]
 ·simp -implicitDefEqProofs [ze6,c1,c2,c3,c4,e1,g0,c5,hlt,zdh,lenOf]
theorem z9g(h:code 651=some ze6)(t:TP){sv:IV}(hr:zao tObj sv [])(v:Val)(hv:(zct .i64).wf v.n):
  callW code ext 651 [.imm sv,.agg [.imm (.val (.int .u8 v.k)),zaa v.n]] []=some (zdh t (zau [] v),[]):=by
 have hlen:lenOf (.imm sv)=some 0:=zaz hr
 have hn:zau [] v=none:=by
  cases hq:zau [] v with
  |none=>rfl
  |some k=>exact absurd (zcg hq).1 (by simp)
 rw[hn,zad code ext h]
 by_cases c1:v.k<3
 ·simp -implicitDefEqProofs [ze6,c1,zdh]
 by_cases c2:7<v.k
 ·simp -implicitDefEqProofs [ze6,c1,c2,zdh]
 by_cases c3:v.n<1
 ·simp -implicitDefEqProofs [ze6,c1,c2,c3,zdh]
 have c4:(0:Int)<v.n:=by omega
 simp -implicitDefEqProofs [ze6,c1,c2,c3,c4,zdh,hlen]
theorem ygl(h:code 651=some ze6)(t:TP)(S:List Obj)(cap:Option Nat)(hr:zao tObj (.slice t.row t.off S.length cap) S):zbb code ext (t.sl S.length cap) t S:=
 ⟨rfl,fun _=>rfl,rfl,fun v hv=>z9h h t S cap hr v hv,fun k o ho=>by
  obtain⟨row',off',cap',he,_,_,hget⟩:=zb6 hr ho
  cases he
  exact hget⟩
theorem ygk(h:code 651=some ze6)(t:TP){sv:IV}(hr:zao tObj sv []):zbb code ext (.imm sv) t []:=
 ⟨rfl,fun _=>rfl,rfl,fun v hv=>z9g h t hr v hv,fun k o ho=>by simp at ho⟩
end
section
variable {code:Nat->Option zab} {ext:zac}
def za9(sA:AV)(t:TP)(out:List Nat)(o:AV):Mem:=[.rich [sA],.rich [.omap 3],.rich [o],.map (zco t out)]
abbrev zds(lv:IV)(n i:Int):Env:=[(1,.optr 0 0),(2,.optr 1 0),(3,.optr 2 0),(8,.imm lv),(9,zaa n),(10,zaa i)]
theorem zxu{sA:AV}{t:TP}{T:List Obj}(hT:zbb code ext sA t T)(row:List IV)(off:Nat)(cap:Option Nat)(l:List Val)(hl:zao tVal (.slice row off l.length cap) l)(out:List Nat)(i:Nat)(v:Val)(hv:l[i]?=some v)
  (hold:zau T v=none\/∃k,zau T v=some k/\k∈out) (k:Nat) (o:AV) (tail:Mem) (hk:(k=4/\((out=[]/\o=zaf/\tail=[])\/(o=.osl 4 0 1 out.length none/\tail=[.rich (zbe t out)])))\/(k=5/\((o=.osl 4 0 1 out.length none/\tail=[.rich (zbe t out)])\/(o=.osl 5 0 1 out.length none/\tail=[.dead,.rich (zbe t out)])))):
  ∃s',den code ext zdi ⟨k,zds (.slice row off l.length cap) l.length i,za9 sA t out o++tail⟩=some (.normal,s')/\s'.tidy [1,2,3,8,9,10]=⟨k,zds (.slice row off l.length cap) l.length ((i:Int)+1),za9 sA t out o++tail⟩:=by
 have hlt:=(xaa.1 hv).1
 obtain⟨row',off',cap',he,hc,hcut,hget⟩:=zb6 hl hv
 cases he
 simp only[tVal]at hget
 have hb2:=hl.2.1
 have hw:=(hl.1 v (xag hv)).2
 have e1:IntKind.wrap .i64 ((i:Int)+1)=(i:Int)+1:=zap (by omega) (by omega)
 have hld:=hT.lead v hw
 have hsr:=hT.refs
 have hsn:=hT.ren
 rcases hold with hn|⟨q,hq,hm⟩
 ·rw[hn,zdh]at hld
  rcases hk with⟨rfl,⟨rfl,rfl,rfl⟩|⟨rfl,rfl⟩⟩|⟨rfl,⟨rfl,rfl⟩|⟨rfl,rfl⟩⟩
  ·refine⟨⟨4,zds (.slice row off l.length cap) l.length ((i:Int)+1),za9 sA t [] zaf++[.rich [.imm (.val (.int .u8 v.k)),zaa v.n]]⟩,?_,?_⟩
   ·simp -implicitDefEqProofs [zdi,za9,hsr,hsn,hlt,hget,hld,e1]
   ·simp -implicitDefEqProofs [za9,hsr,hsn]
  ·refine⟨⟨4,zds (.slice row off l.length cap) l.length ((i:Int)+1),za9 sA t out (.osl 4 0 1 out.length none)++[.rich (zbe t out),.rich [.imm (.val (.int .u8 v.k)),zaa v.n]]⟩,?_,?_⟩
   ·simp -implicitDefEqProofs [zdi,za9,hsr,hsn,hlt,hget,hld,e1]
   ·simp -implicitDefEqProofs [za9,hsr,hsn]
  ·refine⟨⟨5,zds (.slice row off l.length cap) l.length ((i:Int)+1),za9 sA t out (.osl 4 0 1 out.length none)++[.rich (zbe t out),.rich [.imm (.val (.int .u8 v.k)),zaa v.n]]⟩,?_,?_⟩
   ·simp -implicitDefEqProofs [zdi,za9,hsr,hsn,hlt,hget,hld,e1]
   ·simp -implicitDefEqProofs [za9,hsr,hsn]
  ·refine⟨⟨5,zds (.slice row off l.length cap) l.length ((i:Int)+1),za9 sA t out (.osl 5 0 1 out.length none)++[.dead,.rich (zbe t out),.rich [.imm (.val (.int .u8 v.k)),zaa v.n]]⟩,?_,?_⟩
   ·simp -implicitDefEqProofs [zdi,za9,hsr,hsn,hlt,hget,hld,e1]
   ·simp -implicitDefEqProofs [za9,hsr,hsn]
 ·rw[hq,zdh]at hld
  rcases zu4 t q out 0 with⟨h1,_⟩|⟨_,j,hf,hj⟩
  ·exact absurd hm h1
  simp only[xau]at hf
  simp only[TP.at]at hld hf hj
  rcases hk with⟨rfl,⟨rfl,rfl,rfl⟩|⟨rfl,rfl⟩⟩|⟨rfl,⟨rfl,rfl⟩|⟨rfl,rfl⟩⟩
  ·cases hm
  ·refine⟨⟨4,zds (.slice row off l.length cap) l.length ((i:Int)+1),za9 sA t out (.osl 4 0 1 out.length none)++[.rich (zbe t out),.rich [.imm (.val (.int .u8 v.k)),zaa v.n]]⟩,?_,?_⟩
   ·simp -implicitDefEqProofs [zdi,za9,hsr,hsn,hlt,hget,hld,e1,hf,hj]
   ·simp -implicitDefEqProofs [za9,hsr,hsn]
  ·refine⟨⟨5,zds (.slice row off l.length cap) l.length ((i:Int)+1),za9 sA t out (.osl 4 0 1 out.length none)++[.rich (zbe t out),.rich [.imm (.val (.int .u8 v.k)),zaa v.n]]⟩,?_,?_⟩
   ·simp -implicitDefEqProofs [zdi,za9,hsr,hsn,hlt,hget,hld,e1,hf,hj]
   ·simp -implicitDefEqProofs [za9,hsr,hsn]
  ·refine⟨⟨5,zds (.slice row off l.length cap) l.length ((i:Int)+1),za9 sA t out (.osl 5 0 1 out.length none)++[.dead,.rich (zbe t out),.rich [.imm (.val (.int .u8 v.k)),zaa v.n]]⟩,?_,?_⟩
   ·simp -implicitDefEqProofs [zdi,za9,hsr,hsn,hlt,hget,hld,e1,hf,hj]
   ·simp -implicitDefEqProofs [za9,hsr,hsn]
theorem z47{sA:AV}{t:TP}{T:List Obj}(hT:zbb code ext sA t T)(row:List IV)(off:Nat)(cap:Option Nat)(l:List Val)(hl:zao tVal (.slice row off l.length cap) l)(out:List Nat)(hbo:out.length<=1048576)(i:Nat)(v:Val)(hv:l[i]?=some v)
  (q:Nat) (hq:zau T v=some q) (hm:q ∉ out) (k:Nat) (o:AV) (tail:Mem) (hk:(k=4/\((out=[]/\o=zaf/\tail=[])\/(o=.osl 4 0 1 out.length none/\tail=[.rich (zbe t out)])))\/(k=5/\((o=.osl 4 0 1 out.length none/\tail=[.rich (zbe t out)])\/(o=.osl 5 0 1 out.length none/\tail=[.dead,.rich (zbe t out)])))):
  ∃s',den code ext zdi ⟨k,zds (.slice row off l.length cap) l.length i,za9 sA t out o++tail⟩=some (.normal,s')/\
   s'.tidy [1,2,3,8,9,10]=⟨k,zds (.slice row off l.length cap) l.length ((i:Int)+1),za9 sA t (out++[q]) (.osl k 0 1 (out.length+1) none)++(if k=4 then[]else[.dead])++[.rich (zbe t (out++[q]))]⟩:=by
 have hlt:=(xaa.1 hv).1
 obtain⟨row',off',cap',he,hc,hcut,hget⟩:=zb6 hl hv
 cases he
 simp only[tVal]at hget
 have hb2:=hl.2.1
 have hw:=(hl.1 v (xag hv)).2
 have e1:IntKind.wrap .i64 ((i:Int)+1)=(i:Int)+1:=zap (by omega) (by omega)
 have hld:=hT.lead v hw
 have hsr:=hT.refs
 have hsn:=hT.ren
 rw[hq,zdh]at hld
 rcases zu4 t q out 0 with⟨_,hf⟩|⟨h1,_⟩
 case inr=>exact absurd h1 hm
 have hcp:=z6z t out
 have hs1:=yf9 t q out
 have hs2:=yds t q out
 have hbd:(out.length+1)*8<=140737488355328:=by omega
 have h0:zco t []=[]:=rfl
 have h0':[(t.at q,avb true)]=zco t [q]:=rfl
 have h0'':[t.at q]=zbe t [q]:=rfl
 have hf0:∀(m:Mem) (x:AV),zcn m 3 x [] 0=some none:=fun _ _=>rfl
 simp only[TP.at]at hld hf hs1 hs2 h0' h0''
 rcases hk with⟨rfl,⟨rfl,rfl,rfl⟩|⟨rfl,rfl⟩⟩|⟨rfl,⟨rfl,rfl⟩|⟨rfl,rfl⟩⟩
 ·refine⟨⟨4,zds (.slice row off l.length cap) l.length ((i:Int)+1),za9 sA t [q] (.osl 6 0 1 1 none)++[.rich [.imm (.val (.int .u8 v.k)),zaa v.n],.rich [t.at q],.rich [t.at q]]⟩,?_,?_⟩
  ·simp -implicitDefEqProofs [zdi,za9,TP.at,hsr,hsn,hlt,hget,hld,e1,h0,hf0,za0,za1,zb4,elems,zbq,h0']
  ·simp -implicitDefEqProofs [za9,TP.at,hsr,hsn,zbe]
 ·refine⟨⟨4,zds (.slice row off l.length cap) l.length ((i:Int)+1),za9 sA t (out++[q]) (.osl 7 0 1 (out.length+1) none)++[.dead,.rich [.imm (.val (.int .u8 v.k)),zaa v.n],.rich [t.at q],.rich (zbe t (out++[q]))]⟩,?_,?_⟩
  ·simp -implicitDefEqProofs [zdi,za9,TP.at,hsr,hsn,hlt,hget,hld,e1,hf,hs1,hs2,hcp,hbd,za0,za1,zb4,elems,zbq]
  ·simp -implicitDefEqProofs [za9,TP.at,hsr,hsn]
 ·refine⟨⟨5,zds (.slice row off l.length cap) l.length ((i:Int)+1),za9 sA t (out++[q]) (.osl 7 0 1 (out.length+1) none)++[.dead,.rich [.imm (.val (.int .u8 v.k)),zaa v.n],.rich [t.at q],.rich (zbe t (out++[q]))]⟩,?_,?_⟩
  ·simp -implicitDefEqProofs [zdi,za9,TP.at,hsr,hsn,hlt,hget,hld,e1,hf,hs1,hs2,hcp,hbd,za0,za1,zb4,elems,zbq]
  ·simp -implicitDefEqProofs [za9,TP.at,hsr,hsn]
 ·refine⟨⟨5,zds (.slice row off l.length cap) l.length ((i:Int)+1),za9 sA t (out++[q]) (.osl 8 0 1 (out.length+1) none)++[.dead,.dead,.rich [.imm (.val (.int .u8 v.k)),zaa v.n],.rich [t.at q],.rich (zbe t (out++[q]))]⟩,?_,?_⟩
  ·simp -implicitDefEqProofs [zdi,za9,TP.at,hsr,hsn,hlt,hget,hld,e1,hf,hs1,hs2,hcp,hbd,za0,za1,zb4,elems,zbq]
  ·simp -implicitDefEqProofs [za9,TP.at,hsr,hsn]
end
section
variable {code:Nat->Option zab} {ext:zac}
def zni(t:TP)(k:Nat)(out:List Nat)(o:AV)(tail:Mem):Prop:=
 (k=4/\((out=[]/\o=zaf/\tail=[])\/(o=.osl 4 0 1 out.length none/\tail=[.rich (zbe t out)])))\/(k=5/\((o=.osl 4 0 1 out.length none/\tail=[.rich (zbe t out)])\/(o=.osl 5 0 1 out.length none/\tail=[.dead,.rich (zbe t out)])))
theorem z3a(n:Nat)(out:List Nat)(h:out.Nodup)(hl:∀k∈out,k<n):out.length<=n:=by
 have hp:out.Perm ((List.range n).filter fun k=>decide (k∈out)):=(List.perm_ext_iff_of_nodup h (List.nodup_range.filter _)).2 fun k=>by
  rw[List.mem_filter,xa6]
  exact⟨fun hk=>⟨hl k hk,by simpa using hk⟩,fun hk=>by simpa using hk.2⟩
 rw[hp.length_eq]
 exact xci (List.length_filter_le _ _) (by simp)
theorem z45{sA:AV}{t:TP}{T:List Obj}(hT:zbb code ext sA t T)(hb:T.length<=1048576)(lv:IV)(l:List Val)(hl:zao tVal lv l)(k:Nat)(out:List Nat)(o:AV)(tail:Mem)(hsh:zni t k out o tail)(hnd:out.Nodup)(hlt:∀q∈out,q<T.length){s:St}
  (hst:s.tidy [1,2,3,8,9,10]=⟨k,zds lv l.length 0,za9 sA t out o++tail⟩):
  ∃e s',den code ext (.loop [1,2,3,8,9,10] zdi) s=some (e,s')/\e≠ .normal/\
   (e=.exit 0/\∃o' tail',zni t k (zb3 T out l) o' tail'/\(zb3 T out l=out->o'=o/\tail'=tail)/\(zb3 T out l≠out->o'=.osl k 0 1 (zb3 T out l).length none)/\
    s'=⟨k,zds lv l.length l.length++[(11,avb false)],za9 sA t (zb3 T out l) o'++tail'⟩):=by
 refine zb1 (fun n s=>∃(i:Nat) (out1:List Nat) (o1:AV) (tail1:Mem),i+n=l.length/\zb3 T out l=zb3 T out1 (l.drop i)/\zni t k out1 o1 tail1/\out1.Nodup/\(∀q∈out1,q<T.length)/\
  (∃r,out1=out++r/\(r=[]->o1=o/\tail1=tail)/\(r≠[]->o1=.osl k 0 1 out1.length none))/\s.tidy [1,2,3,8,9,10]=⟨k,zds lv l.length i,za9 sA t out1 o1++tail1⟩) _ ?_ l.length _ ⟨0,out,o,tail,by simp,by simp,hsh,hnd,hlt,⟨[],by simp,fun _=>⟨rfl,rfl⟩,fun h=>absurd rfl h⟩,hst⟩
 clear hst hsh hnd hlt s
 rintro n s ⟨i,out1,o1,tail1,hi,ha,hsh,hnd,hlt,⟨r,hr,hr1,hr2⟩,hst⟩
 rw[hst]
 by_cases hil:i<l.length
 ·have hv:=xab hil
  rw[xb2 hil,zb3]at ha
  obtain⟨row,off,cap,rfl,_,_,_⟩:=zb6 hl hv
  generalize l[i]=v at hv ha
  cases hq:zau T v with
  |none=>
   rw[hq]at ha
   obtain⟨s',g1,g2⟩:=zxu (code:=code) (ext:=ext) hT row off cap l hl out1 i v hv (.inl hq) k o1 tail1 hsh
   exact⟨.normal,s',g1,.inl ⟨rfl,n-1,by omega,i+1,out1,o1,tail1,by omega,ha,hsh,hnd,hlt,⟨r,hr,hr1,hr2⟩,by rw[g2];rfl⟩⟩
  |some q=>
   rw[hq]at ha
   by_cases hm:q∈out1
   ·dsimp only at ha
    rw[if_pos hm]at ha
    obtain⟨s',g1,g2⟩:=zxu (code:=code) (ext:=ext) hT row off cap l hl out1 i v hv (.inr ⟨q,hq,hm⟩) k o1 tail1 hsh
    exact⟨.normal,s',g1,.inl ⟨rfl,n-1,by omega,i+1,out1,o1,tail1,by omega,ha,hsh,hnd,hlt,⟨r,hr,hr1,hr2⟩,by rw[g2];rfl⟩⟩
   ·dsimp only at ha
    rw[if_neg hm]at ha
    have hlen:=z3a T.length out1 hnd hlt
    obtain⟨s',g1,g2⟩:=z47 (code:=code) (ext:=ext) hT row off cap l hl out1 (by omega) i v hv q hq hm k o1 tail1 hsh
    refine⟨.normal,s',g1,.inl ⟨rfl,n-1,by omega,i+1,out1++[q],.osl k 0 1 (out1.length+1) none,(if k=4 then[]else[.dead])++[.rich (zbe t (out1++[q]))],by omega,ha,?_,?_,?_,⟨r++[q],by rw[hr];simp,fun h=>by simp at h,fun _=>by simp⟩,by rw[g2,xbj];rfl⟩⟩
    ·rcases hsh with⟨rfl,_⟩|⟨rfl,_⟩
     ·exact .inl ⟨rfl,.inr ⟨by simp,by simp⟩⟩
     ·exact .inr ⟨rfl,.inr ⟨by simp,by simp⟩⟩
    ·rw[xc1]
     exact⟨hnd,by simp,fun a ha' b hb'=>by simp at hb';subst hb';exact fun e=>hm (e▸ha')⟩
    ·intro p hp
     rw[xak,xbc]at hp
     rcases hp with hp|rfl
     ·exact hlt p hp
     ·exact(zcg hq).1
 ·have:i=l.length:=by omega
  subst this
  rw[xco (xan _),zb3]at ha
  refine⟨.exit 0,⟨k,zds lv l.length l.length++[(11,avb false)],za9 sA t (zb3 T out l) o1++tail1⟩,?_,.inr ⟨by simp,rfl,o1,tail1,by rw[ha];exact hsh,fun he=>hr1 ?_,fun he=>?_,rfl⟩⟩
  ·rw[ha]
   simp -implicitDefEqProofs [zdi]
  ·rw[ha,hr]at he
   simpa using he
  ·rw[ha]
   refine hr2 fun e=>he ?_
   rw[ha,hr,e];simp
theorem z48{sA:AV}{t:TP}{T:List Obj}(hT:zbb code ext sA t T)(h':code 655=some zg1)(hb:T.length<=1048576)(lv:IV)(l:List Val)(hl:zao tVal lv l)(k:Nat)(out:List Nat)(o:AV)(tail:Mem)(hsh:zni t k out o tail)(hk:(za9 sA t out o++tail).length=k)(hnd:out.Nodup)(hlt:∀q∈out,q<T.length):
  ∃o' tail',zni t k (zb3 T out l) o' tail'/\(zb3 T out l=out->o'=o/\tail'=tail)/\(zb3 T out l≠out->o'=.osl k 0 1 (zb3 T out l).length none)/\
   callW code ext 655 [.imm lv,.optr 0 0,.optr 1 0,.optr 2 0] (za9 sA t out o++tail)=some (.tup [],za9 sA t (zb3 T out l) o'++tail'):=by
 have hlen:=zaz hl
 have hsr:=hT.refs
 have hsn:=hT.ren
 obtain⟨e,s',h1,_,rfl,o',tail',g1,g2,g3,rfl⟩:=z45 (code:=code) (ext:=ext) hT hb lv l hl k out o tail hsh hnd hlt (s:=⟨k,zds lv l.length 0,za9 sA t out o++tail⟩) (by
  rcases hsh with⟨rfl,⟨rfl,rfl,rfl⟩|⟨rfl,rfl⟩⟩|⟨rfl,⟨rfl,rfl⟩|⟨rfl,rfl⟩⟩<;>simp -implicitDefEqProofs [za9,hsr,hsn])
 refine⟨o',tail',g1,g2,g3,?_⟩
 rw[zad code ext h',hk]
 generalize hM:za9 sA t out o++tail=M at h1 ⊢
 generalize hout:zb3 T out l=out' at *
 clear hsh g2 g3 hk hM
 rcases g1 with⟨rfl,⟨rfl,rfl,rfl⟩|⟨rfl,rfl⟩⟩|⟨rfl,⟨rfl,rfl⟩|⟨rfl,rfl⟩⟩
 ·simp -implicitDefEqProofs [zg1,hlen,h1,za9]
 ·simp -implicitDefEqProofs [zg1,hlen,h1,za9,hsr,hsn]
 ·simp -implicitDefEqProofs [zg1,hlen,h1,za9]
 ·simp -implicitDefEqProofs [zg1,hlen,h1,za9,hsr,hsn]
end
theorem zja(n:Nat):AV.cells (.omap n)=some [.omap n]:=rfl
theorem zkf(i o z l:Nat)(c:Option Nat):AV.cells (.osl i o z l c)=some [.osl i o z l c]:=rfl
theorem zke(x:IV):AV.cells (.imm x)=some [.imm x]:=rfl
section
variable {code:Nat->Option zab} {ext:zac}
end
open Classical
noncomputable def z4d(S:List Obj)(roots:List Val):Nat:=((List.range S.length).map fun k=>if Reach S roots k then yhn S k else 0).sum
end Go.EX


namespace Go.EX
theorem zlv(i o:Nat):AV.cells (.optr i o)=some [.optr i o]:=rfl
theorem zii(l:List AV):AV.cells (.agg l)=some l:=rfl
theorem zaw(b a:Nat)(x:IV):AV.cells (.tag b a x)=some [.tag b a x]:=rfl
open Classical
structure SameO (o u:Obj):Prop where
 k:u.k=o.k
 s:u.s=o.s
 l:u.l.xs=o.l.xs
 room:u.room=o.room
 fn:u.fn=o.fn
theorem SameO.symm{o u:Obj}(h:SameO o u):SameO u o:=⟨h.k.symm,h.s.symm,h.l.symm,h.room.symm,h.fn.symm⟩
theorem SameO.refl(o:Obj):SameO o o:=⟨rfl,rfl,rfl,rfl,rfl⟩
theorem SameO.trans{a b c:Obj}(h:SameO a b)(g:SameO b c):SameO a c:=⟨g.k.trans h.k,g.s.trans h.s,g.l.trans h.l,g.room.trans h.room,g.fn.trans h.fn⟩
theorem z21(o:Obj):SameO o (zae o):=by
 refine⟨rfl,rfl,?_,rfl,rfl⟩
 unfold zae zea
 dsimp only
 split<;>rfl
structure Like (S T:List Obj):Prop where
 len:T.length=S.length
 at_:∀(i:Nat) o u,S[i]?=some o->T[i]?=some u->SameO o u
theorem Like.symm{S T:List Obj}(h:Like S T):Like T S:=⟨h.len.symm,fun i o u ho hu=>(h.at_ i u o hu ho).symm⟩
theorem Like.get{S T:List Obj}(h:Like S T){i:Nat}{o:Obj}(ho:S[i]?=some o):∃u,T[i]?=some u/\SameO o u:=by
 have hl:=(xaa.1 ho).1
 have hlt:i<T.length:=by have:=h.len;omega
 have:T[i]?=some T[i]:=xab hlt
 exact⟨_,this,h.at_ i o _ ho this⟩
theorem zvj{S T:List Obj}(h:Like S T)(v:Val):zau T v=zau S v:=by
 unfold zau
 rw[h.len]
 split
 ·rfl
 ·split
  ·rfl
  ·split
   ·rfl
   ·split
    ·rfl
    ·cases hs:S[(v.n-1).toNat]? with
     |none=>
      have:T[(v.n-1).toNat]?=none:=by
       rw[List.getElem?_eq_none_iff]at hs ⊢
       have:=h.len;omega
      rw[this]
     |some o=>
      obtain⟨u,hu,hs'⟩:=h.get hs
      rw[hu]
      simp only[hs'.k]
theorem zva{S:List Obj}{l:List Val}{c:Bool}(h:zas S l c=true):∀v∈l,zbz S v=true:=by
 intro v hv
 have:=xai.1 h v hv
 simp only[xaf]at this
 exact this.1
end Go.EX


namespace Go.EX
structure FineT (T:List Obj):Prop where
 len:T.length<=60000
 s:∀o∈T,o.s.size<=60000
 l:∀o∈T,o.l.xs.length<=60000
theorem FineT.like{S T:List Obj}(h:FineT S)(hl:Like S T):FineT T:=by
 refine⟨by rw[hl.len];exact h.len,fun u hu=>?_,fun u hu=>?_⟩
 ·obtain⟨i,hi⟩:=xa3 hu
  obtain⟨o,ho,hs⟩:=hl.symm.get hi
  rw[<-hs.s]
  exact h.s o (xag ho)
 ·obtain⟨i,hi⟩:=xa3 hu
  obtain⟨o,ho,hs⟩:=hl.symm.get hi
  rw[<-hs.l]
  exact h.l o (xag ho)
inductive OutN (S:List Obj) (r:List Val):IV->Int->Int->ByteArray->Int->Prop
 |thr {x:IV} {t:ByteArray} {T:List Obj} (hx:zao tObj x T) (hl:Like S T) (ht:t≠ .empty):OutN S r x 0 0 t 0
 |ok {x:IV} {k n:Int} {T:List Obj} {w:Nat} (hx:zao tObj x T) (hf:FineT T) (hv:tVal.wf ⟨k,n⟩) (hc:zcq T ⟨k,n⟩) (hw:z4d T ((⟨k,n⟩:Val)::r)<=z4d S r+w) (hw2:w<=1000000000000):OutN S r x k n .empty w
section
variable {S:List Obj} {r:List Val} {nl:Bool}
end
theorem zmb(S:List Obj):Like S (S.map zae):=by
 refine⟨by simp,fun i o u ho hu=>?_⟩
 rw[xap,ho]at hu
 cases hu
 exact z21 o
theorem zue{S:List Obj}{v:Val}(h:zcq S v)(h3:3<=v.k):∃p o,zau S v=some p/\S[p]?=some o/\o.k=v.k/\zan S o:=by
 have h1:=h.1
 unfold zbz at h1
 rw[if_neg (by omega),if_neg (by omega),if_neg (by omega)]at h1
 obtain⟨p,hp⟩:=xbd.1 h1
 obtain⟨q1,q2,q3,q4,o,ho,hok⟩:=zcg hp
 exact⟨p,o,hp,ho,hok,h.2 p o (.root (List.mem_singleton_self _) hp) ho⟩
theorem zrr{S T:List Obj}(hl:Like S T){v:Val}(h:zbz S v=true):zbw T v:=by
 intro h3
 unfold zbz at h
 rw[if_neg (by omega),if_neg (by omega),if_neg (by omega)]at h
 obtain⟨p,hp⟩:=xbd.1 h
 exact⟨p,by rw[zvj hl];exact hp⟩
structure KeepN (code:Nat->Option zab) (ext:zac) (nl:Bool) (sv:IV) (S:List Obj) (idx:Nat) (r:List Val):Prop where
 st:StoreN nl sv S idx
 fn:FineT S
 len:S.length<=50000
 ck:∀v∈r,zcq S v
 wf:∀v∈r,tVal.wf v
 may:zt3 code ext sv r
section
variable {code:Nat->Option zab} {ext:zac} {nl:Bool} {sv:IV} {S:List Obj} {idx:Nat} {r:List Val}
theorem KeepN.nil(h:KeepN code ext nl sv S idx r):nl=true->S=[]:=fun e=>(h.st.nil e).2
theorem KeepN.sub(h:KeepN code ext nl sv S idx r){l:List Val}(hl:∀v∈l,v∈r):zt3 code ext sv l:=fun v hv=>h.may v (hl v hv)
theorem z0b{p:Nat}{o:Obj}(h:S[p]?=some o):(S.map zae)[p]?=some (zae o):=by rw[xap,h];rfl
theorem zg4(o:Obj):(zae o).l.xs=o.l.xs:=(z21 o).l
end
theorem zqv{T:List Obj}{o:Obj}(h:o.k=4):zan T o↔o.s=.empty/\o.fn=0/\(o.l.xs.length:Int)<=65536/\(o.l.xs.length:Int)<=o.room/\o.room<=262144/\zas T o.l.xs false=true:=by
 unfold zan
 rw[if_neg (by omega),if_pos h]
theorem zoc{T:List Obj}{o:Obj}(h:o.k=5):zan T o↔o.s=.empty/\o.fn=0/\(o.l.xs.length:Int).tmod 2=0/\(o.l.xs.length:Int)<=131072/\(o.l.xs.length:Int)<=o.room/\o.room<=262144/\zas T o.l.xs false=true/\zfr T o.l.xs:=by
 unfold zan
 rw[if_neg (by omega),if_neg (by omega),if_pos h]
section
variable {code:Nat->Option zab} {ext:zac} {nl:Bool} {sv:IV} {S:List Obj} {idx:Nat} {r:List Val}
def yjo(code:Nat->Option zab)(ext:zac)(S:List Obj)(r:List Val)(f:Nat)(args:List AV):Prop:=
 ∃x k n t w,OutN S r x k n t w/\∀s,zb0 (callW code ext) s f args=some (yde x k n t w,s)
end
theorem Like.trans{A B C:List Obj}(h:Like A B)(g:Like B C):Like A C:=⟨g.len.trans h.len,fun i o u ho hu=>by
 obtain⟨w,hw,hs⟩:=h.get ho
 exact hs.trans (g.at_ i w u hw hu)⟩
section
variable {code:Nat->Option zab} {ext:zac} {sv:IV} {S:List Obj} {r:List Val}
structure KeepP (nl:Bool) (sv:IV) (S:List Obj) (r:List Val):Prop where
 rd:zao tObj sv S
 nil:nl=true->sv=.val (.slice none 0 0)/\S=[]
 some:nl=false->zbs sv=false
 fn:FineT S
 len:S.length<=50000
 l:∀o∈S,o.l.xs.length<=50000
 ck:∀v∈r,zcq S v
 wf:∀v∈r,tVal.wf v
theorem KeepP.keep{nl:Bool}(h:KeepP nl sv S r){idx:Nat}(hi:S.length+1<idx)(hm:zt3 code ext sv r):KeepN code ext nl sv S idx r:=
 ⟨⟨h.rd,h.nil,h.some,hi,fun o ho=>xci (h.l o ho) (by decide),xci h.len (by decide)⟩,h.fn,h.len,h.ck,h.wf,hm⟩
end
section
variable {ext:zac} {sv:IV} {S:List Obj}
theorem DoCode.put{code:Nat->Option zab}{i:Nat}(c:DoCode code i)(p:zgn code):z42 code i:=⟨p,c.toTwinCode,c.c578,c.c639,c.c640,c.c641,c.c642,c.c749,c.c759⟩
theorem z2v(T:List Obj)(W:List IV)(N:Nat)(h:T.length=N):sL false T W 0=[.rich [.osl 2 0 5 N (some N),zaa 1152921504606846976,zaa 0],.flat W false,.flat (tObj.row T) false]:=by
 subst h;rfl
theorem zzn{n:Nat}(h:(n:Int).tmod 2=0):n%2=0:=by
 have:((n%2:Nat):Int)=0:=h
 omega
theorem z0e(step:Int)(hs:step=1\/step=2)(n:Nat)(room:Int)(h0:(n:Int)<=room)(h1:room<=262144)(hn:n<=50000):0<=zbm step n room/\zbm step n room<=262144:=by
 unfold zbm
 split
 ·split
  ·rcases hs with rfl|rfl<;>omega
  ·rcases hs with rfl|rfl<;>omega
 ·omega
end
def x630Q:zab:=
 ⟨[.cell 6 (some 5)],(.seq (.region [0,4,5,6] [o0 4 (.box 2 (.t 1)),
 o0 5 (.box 2 (.t 2)),
 o0 6 (.alloc [(.slice none 0 0),(.int .u8 0),(.int .i64 0),(.string .empty),(.int .i64 0)])]) (.seq (.region [6] [o3 7 0,o6 8 2 4,o6 9 2 5,
 o0 10 (.buildSlice 2 [(.int .u8 0),(.int .i64 0)] 2 [(0,2,(.t 8)),(2,2,(.t 9))]),
 o0 11 (.call .look 640 [(.t 7),(.c (.int .u8 24)),(.c (.int .i64 0)),(.t 10)]),
 o2 (.store 5 (.t 6) (.t 11))]) .ret))⟩
def x636Q:zab:=
 ⟨[.cell 8 (some 5)],(.seq (.region [0,5,6,7,8] [o0 5 (.box 2 (.t 1)),
 o0 6 (.box 2 (.t 2)),
 o0 7 (.box 2 (.t 3)),
 o0 8 (.alloc [(.slice none 0 0),(.int .u8 0),(.int .i64 0),(.string .empty),(.int .i64 0)])]) (.seq (.region [8] [o3 9 0,o6 10 2 5,o6 11 2 6,o6 12 2 7,
 o0 13 (.buildSlice 2 [(.int .u8 0),(.int .i64 0)] 3 [(0,2,(.t 10)),(2,2,(.t 11)),(4,2,(.t 12))]),
 o0 14 (.call .look 640 [(.t 9),(.c (.int .u8 25)),(.c (.int .i64 0)),(.t 13)]),
 o2 (.store 5 (.t 8) (.t 14))]) .ret))⟩
section
variable {code:Nat->Option zab} {ext:zac}
theorem z05{xf:zab}{ct:Nat}(hres:xf.res=[.cell ct (some 5)]){P:Mem}{b q N:Nat}{T:List Obj}{X:Mem}(hX:XM b T X)(hP:P.length=b)(hb:1<=b)(hT:T.length<=10000000){k n:Int}{t:ByteArray}{w:Int}
  (hq:P[q]?=some (.rich [.osl b 0 5 N (some N),.imm (.val (.int .u8 k)),zaa n,zaq t,zaa w])):
  ∃X',XM 0 T X'/\ziq ⟨0,[(ct,.optr q 0)],P++X⟩ xf=some (.agg [.osl 0 0 5 N (some N),.imm (.val (.int .u8 k)),zaa n,zaq t,zaa w],X'):=by
 have ho:=z4l (k:=0) hX hP (by omega) rfl hT
 obtain⟨X',hp,hX'⟩:=z4m (k:=0) hX hP (by omega) (by simp)
 have hpl:=zv5 (k:=0) (b:=b) (n:=X.length) (i:=0) (by omega) (by rw[zj5 hX];omega)
 refine⟨X',hX',?_⟩
 have hql:q<P.length:=(xaa.1 hq).1
 have hq2:(P++X)[q]?=some (.rich [.osl b 0 5 N (some N),.imm (.val (.int .u8 k)),zaa n,zaq t,zaa w]):=by rw[xac hql];exact hq
 have hlen:¬(P++X).length=0:=by rw[xao,hP,zj5 hX];omega
 have hld:loadAt (P++X) (some 5) (.optr q 0)=some (.agg [.osl b 0 5 N (some N),.imm (.val (.int .u8 k)),zaa n,zaq t,zaa w]):=by simp[loadAt,hq2,zd4]
 unfold ziq
 simp only[hres,XRes.outs,XRes.asIs,xba,List.mapM_nil,zhf,Env.get,if_true,hld,xct,xcf,xbi,xal,zib,hlen,if_false,xar]
 simp only[AV.refs,AV.refs.refsL,xay,xbg,ho,hp,List.take_zero]
 simp only[AV.ren,AV.ren.renL]
 rw[xbf]at hpl
 rw[hpl]
theorem zqh(h:code 630=some x630Q){N:Nat}{T:List Obj}(hT:T.length<=10000000){sv:IV}{kk n w:Int}{t:ByteArray}{a b:Val}
  (hd:∃X,XM 1 T X/\callW code ext 640 [.imm sv,.imm (.val (.int .u8 24)),zaa 0,.osl 0 0 2 2 (some 2)] [.flat (tVal.row [a,b]) false]=some (.agg [.osl 1 0 5 N (some N),.imm (.val (.int .u8 kk)),zaa n,zaq t,zaa w],.flat (tVal.row [a,b]) false::X)):
  ∃X,XM 0 T X/\callW code ext 630 [.imm sv,zag a,zag b] []=some (.agg [.osl 0 0 5 N (some N),.imm (.val (.int .u8 kk)),zaa n,zaq t,zaa w],X):=by
 obtain⟨X,hX,hd⟩:=hd
 obtain⟨Xf,hXf,hl⟩:=z09 hX hd
 rw[yff]at hl
 unfold zag
 have hb:den code ext x630Q.body ⟨0,enter 0 [.imm sv,.agg [.imm (.val (.int .u8 a.k)),zaa a.n],.agg [.imm (.val (.int .u8 b.k)),zaa b.n]],[]⟩=some (.ret,⟨0,[(6,.optr 2 0)],[.rich [.imm (.val (.int .u8 a.k)),zaa a.n],.rich [.imm (.val (.int .u8 b.k)),zaa b.n],.rich [.osl 4 0 5 N (some N),.imm (.val (.int .u8 kk)),zaa n,zaq t,zaa w],.flat [.val (.int .u8 a.k),.val (.int .i64 a.n),.val (.int .u8 b.k),.val (.int .i64 b.n)] false]++Xf 4⟩):=by
  simp -implicitDefEqProofs [-IV.plain,x630Q,-zax,hl]
 obtain⟨X',g7,g8⟩:=z05 (xf:=x630Q) rfl (q:=2) (P:=[.rich [.imm (.val (.int .u8 a.k)),zaa a.n],.rich [.imm (.val (.int .u8 b.k)),zaa b.n],.rich [.osl 4 0 5 N (some N),.imm (.val (.int .u8 kk)),zaa n,zaq t,zaa w],.flat [.val (.int .u8 a.k),.val (.int .i64 a.n),.val (.int .u8 b.k),.val (.int .i64 b.n)] false]) (hXf 4) rfl (by decide) hT rfl
 refine⟨X',g7,?_⟩
 rw[zad code ext h]
 simp only[xa4]
 rw[hb]
 exact g8
theorem yfg(a b x:Val):tVal.row [a,b,x]=zg9 a b x:=rfl
theorem zv7(h:code 636=some x636Q){N:Nat}{T:List Obj}(hT:T.length<=10000000){sv:IV}{kk n w:Int}{t:ByteArray}{a b x:Val}
  (hd:∃X,XM 1 T X/\callW code ext 640 [.imm sv,.imm (.val (.int .u8 25)),zaa 0,.osl 0 0 2 3 (some 3)] [.flat (tVal.row [a,b,x]) false]=some (.agg [.osl 1 0 5 N (some N),.imm (.val (.int .u8 kk)),zaa n,zaq t,zaa w],.flat (tVal.row [a,b,x]) false::X)):
  ∃X,XM 0 T X/\callW code ext 636 [.imm sv,zag a,zag b,zag x] []=some (.agg [.osl 0 0 5 N (some N),.imm (.val (.int .u8 kk)),zaa n,zaq t,zaa w],X):=by
 obtain⟨X,hX,hd⟩:=hd
 obtain⟨Xf,hXf,hl⟩:=z09 hX hd
 rw[yfg]at hl
 unfold zag
 unfold zg9 at hl
 have hb:den code ext x636Q.body ⟨0,enter 0 [.imm sv,.agg [.imm (.val (.int .u8 a.k)),zaa a.n],.agg [.imm (.val (.int .u8 b.k)),zaa b.n],.agg [.imm (.val (.int .u8 x.k)),zaa x.n]],[]⟩=some (.ret,⟨0,[(8,.optr 3 0)],[.rich [.imm (.val (.int .u8 a.k)),zaa a.n],.rich [.imm (.val (.int .u8 b.k)),zaa b.n],.rich [.imm (.val (.int .u8 x.k)),zaa x.n],.rich [.osl 5 0 5 N (some N),.imm (.val (.int .u8 kk)),zaa n,zaq t,zaa w],.flat (zg9 a b x) false]++Xf 5⟩):=by
  unfold zg9
  simp -implicitDefEqProofs [-IV.plain,x636Q,-zax,hl]
 obtain⟨X',g7,g8⟩:=z05 (xf:=x636Q) rfl (q:=3) (P:=[.rich [.imm (.val (.int .u8 a.k)),zaa a.n],.rich [.imm (.val (.int .u8 b.k)),zaa b.n],.rich [.imm (.val (.int .u8 x.k)),zaa x.n],.rich [.osl 5 0 5 N (some N),.imm (.val (.int .u8 kk)),zaa n,zaq t,zaa w],.flat (zg9 a b x) false]) (hXf 5) rfl (by decide) hT rfl
 refine⟨X',g7,?_⟩
 rw[zad code ext h]
 simp only[xa4]
 rw[hb]
 exact g8
end
theorem zum{β:Type}(l rest:List β):∀(n k:Nat),k<n->cut (zar n l++rest) (k*l.length) l.length=some l
 |0,k,h=>by omega
 |n+1,0,h=>by
  rw[zar,Nat.zero_mul,xbj]
  unfold cut
  simp
 |n+1,k+1,h=>by
  have h1:=zum l rest n k (by omega)
  have e:(k+1)*l.length=l.length+k*l.length:=by rw[Nat.add_mul,xc4,Nat.add_comm]
  unfold cut at *
  rw[zar,xbj,e,List.drop_append,xco (by omega),xbg,xbn]
  exact h1
section
variable {code:Nat->Option zab} {ext:zac}
theorem z9u{sz f isn:Nat}{n:Int}{ms:List IV}(his:∀s,zb0 (callW code ext) s isn [.agg (ms.map .imm),zaa n]=some (avb true,s))(hms:ms.length=sz){K b h len nid:Nat}{i:Int}{M:Mem}{x:AV}{rest:List AV}{nob:AObj}
  (hh:M[h]?=some (.rich [x,.osl nid 0 sz (len+40) none,zaa n])) (hk:KX M sz x len (zar len (ms.map .imm)++rest)) (hno:M[nid]?=some nob) (hnr:za3 (zar (len+40) (ms.map .imm)) nob) (hlen:len<=1000000000) {s:St}
  (hst:s.tidy [1000000,0,3,4,5]=⟨K,[(1000000,.junk),(0,.optr b 0),(3,zaa i),(4,.optr h 0),(5,zaa 0)],M⟩):
  ∃e s',den code ext (.loop [1000000,0,3,4,5] (zn7 sz f isn)) s=some (e,s')/\e≠ .normal/\
   (e=.exit 2/\s'=⟨K,[(0,.optr b 0),(3,zaa i),(4,.optr h 0),(5,zaa (len+40:Nat)),(34,avb false)],M⟩):=by
 have hmi:(ms.map AV.imm).length=sz:=by rw[xam,hms]
 have l0:loadAt M none (.optr h 0)=some x:=by simp only[loadAt,hh];rfl
 have l1:loadAt M none (.optr h 1)=some (.osl nid 0 sz (len+40) none):=by simp only[loadAt,hh];rfl
 have l2:loadAt M none (.optr h 2)=some (zaa n):=by simp only[loadAt,hh];rfl
 have hlx:=zvh hk
 refine zb1 (fun m s=>∃(k:Nat),k+m=len+40/\s.tidy [1000000,0,3,4,5]=⟨K,[(1000000,.junk),(0,.optr b 0),(3,zaa i),(4,.optr h 0),(5,zaa (k:Nat))],M⟩) _ ?_ (len+40) _ ⟨0,by simp,by simpa using hst⟩
 clear hst
 rintro m s ⟨k,hm,hst⟩
 rw[hst]
 by_cases hlt:k<len+40
 ·have hlt':(k:Int)<(len:Int)+40:=by omega
  have e1:IntKind.wrap .i64 ((k:Int)+1)=(k:Int)+1:=zap (by omega) (by omega)
  have hc1:=zum (ms.map AV.imm) [] (len+40) k hlt
  rw[xay,hmi]at hc1
  have lk:=zmp hno hnr hc1
  refine⟨.normal,⟨K,[(0,.optr b 0),(3,zaa i),(4,.optr h 0),(5,zaa ((k:Int)+1))],M⟩,?_,.inl ⟨rfl,m-1,by omega,k+1,by omega,by simp -implicitDefEqProofs []⟩⟩
  by_cases hkl:k<len
  ·have hkl':(k:Int)<len:=by omega
   rcases hk with⟨rid,c,ob,rfl,ho,hr,hc,hlc,hc2⟩|⟨rfl,_⟩
   ·have hc3:=zum (ms.map AV.imm) rest len k hkl
    rw[hmi]at hc3
    have lr:=zmp ho hr hc3
    simp -implicitDefEqProofs [zn7,l0,l1,l2,-loadAt,hlt',lk,his,-zb0,hkl',lr,e1]
   ·omega
  ·have hkl':¬(k:Int)<len:=by omega
   simp -implicitDefEqProofs [zn7,l0,l1,l2,-loadAt,hlt',lk,his,-zb0,hkl',hlx,e1]
 ·have:k=len+40:=by omega
  subst this
  refine⟨.exit 2,⟨K,[(0,.optr b 0),(3,zaa i),(4,.optr h 0),(5,zaa (len+40:Nat)),(34,avb false)],M⟩,?_,.inr ⟨by simp,rfl,rfl⟩⟩
  simp -implicitDefEqProofs [zn7,l1,-loadAt]
theorem z08{g sz f isn:Nat}(hg:code g=some (zde sz f isn)){mi:Int->List IV}{R:Int->Prop}(his:∀s n,R n->zb0 (callW code ext) s isn [.agg ((mi n).map .imm),zaa n]=some (avb true,s))(hms:∀n,(mi n).length=sz)
  {M:Mem} {b:Nat} {vx:AV} {E:List KE} (hB:∃B,M[b]?=some (.rich B)/\B[f]?=some vx) (hh:ze7 M vx (zci E) E.length) (hE:E.length<=1000000000) (hEn:∀e∈E,R e.n)
  (hx:∀e∈E,e.len<=1000000000/\(∃rest,KX M sz e.x e.len (zar e.len ((mi e.n).map .imm)++rest))/\∃nid ob,e.lg=.osl nid 0 sz (e.len+40) none/\M[nid]?=some ob/\za3 (zar (e.len+40) ((mi e.n).map .imm)) ob):
  ∃G,callW code ext g [.optr b 0] M=some (avb true,M++G):=by
 obtain⟨B,hB,hBf⟩:=hB
 have hbl:b<M.length:=(xaa.1 hB).1
 have hloop:∃e s',den code ext (.loop [1000000,0,3] (zn8 sz f isn)) ⟨M.length,[(0,.optr b 0),(3,zaa 0)],M⟩=some (e,s')/\e≠ .normal/\
   (e=.exit 0/\∃G,s'=⟨M.length,[(0,.optr b 0),(3,zaa E.length),(12,avb false)],M++G⟩):=by
  refine zb1 (fun m s=>∃(i:Nat) (Mi:Mem),i+m=E.length/\(∃G,Mi=M++G)/\s.tidy [1000000,0,3]=⟨M.length,[(1000000,.junk),(0,.optr b 0),(3,zaa (i:Nat))],Mi⟩) _ ?_ E.length _ ⟨0,M,by simp,⟨[],by simp⟩,by simp -implicitDefEqProofs []⟩
  rintro m s ⟨i,Mi,hi,hG,hst⟩
  rw[hst]
  have hold:∀id,id<M.length->Mi[id]?=M[id]?:=fun id h=>by
   obtain⟨G,rfl⟩:=hG
   exact xac h
  have hMl:M.length<=Mi.length:=by obtain⟨G,rfl⟩:=hG;simp
  have lb:loadAt Mi none (.optr b f)=some vx:=by simp only[loadAt,hold b hbl,hB];exact hBf
  have hlx:=zu9 hh
  by_cases hlt:i<E.length
  ·have hlt':(i:Int)<E.length:=by omega
   have e1:IntKind.wrap .i64 ((i:Int)+1)=(i:Int)+1:=zap (by omega) (by omega)
   have hgi:=xab hlt
   have hmke:=fun s=>his s _ (hEn _ (xa7 hlt))
   have hcut:=zqa E i _ hgi
   obtain⟨hle,⟨rest,hxi⟩,nid,nob,hlg,hno,hnr⟩:=hx _ (xa7 hlt)
   generalize E[i]=e at hmke hxi hle hcut hlg hno hnr
   obtain⟨x,lg,n,len,cells⟩:=e
   dsimp only at hmke
   simp only[KE.c3]at hcut hxi hle hlg hno hnr
   subst hlg
   rcases hh with⟨_,_,h0⟩|⟨vid,vo,rfl,hvo,hvr,hvc,_⟩
   ·omega
   have hvl:vid<M.length:=(xaa.1 hvo).1
   have lv:=zmp (by rw[hold vid hvl];exact hvo) hvr hcut
   have hst3:storeAt (Mi++[.rich [zaf,zaf,zaa 0]]) (.optr Mi.length 0) [x,.osl nid 0 sz (len+40) none,zaa n]=some (Mi++[.rich [x,.osl nid 0 sz (len+40) none,zaa n]]):=by
    simp[storeAt,setAll]
   have hH:(Mi++[.rich [x,.osl nid 0 sz (len+40) none,zaa n]])[Mi.length]?=some (.rich [x,.osl nid 0 sz (len+40) none,zaa n]):=zfe _ _
   have l0:loadAt (Mi++[.rich [x,.osl nid 0 sz (len+40) none,zaa n]]) none (.optr Mi.length 0)=some x:=by simp only[loadAt,hH];rfl
   have l1:loadAt (Mi++[.rich [x,.osl nid 0 sz (len+40) none,zaa n]]) none (.optr Mi.length 1)=some (.osl nid 0 sz (len+40) none):=by simp only[loadAt,hH];rfl
   have hold2:∀id,id<M.length->(Mi++[.rich [x,.osl nid 0 sz (len+40) none,zaa n]])[id]?=M[id]?:=fun id h=>by rw[xac (by omega)];exact hold id h
   have hlen:=zvh hxi
   have e40:IntKind.wrap .i64 ((len:Int)+40)=(len:Int)+40:=zap (by omega) (by omega)
   obtain⟨e,s',h1,_,rfl,rfl⟩:=z9u (K:=M.length) (b:=b) (i:=(i:Int)) (f:=f) hmke (hms n) hH (zfh hxi fun id hid=>hold2 id (zfg hxi id hid)) (by rw[hold2 nid (xaa.1 hno).1];exact hno) hnr hle
    (s:=⟨M.length,[(0,.optr b 0),(3,zaa (i:Nat)),(4,.optr Mi.length 0),(5,zaa 0)],Mi++[.rich [x,.osl nid 0 sz (len+40) none,zaa n]]⟩) (by simp -implicitDefEqProofs [])
   refine⟨.normal,⟨M.length,[(0,.optr b 0),(3,zaa ((i:Int)+1))],Mi++[.rich [x,.osl nid 0 sz (len+40) none,zaa n]]⟩,?_,.inl ⟨rfl,m-1,by omega,i+1,Mi++[.rich [x,.osl nid 0 sz (len+40) none,zaa n]],by omega,?_,by simp -implicitDefEqProofs []⟩⟩
   ·simp -implicitDefEqProofs [zn8,lb,-loadAt,hlt',lv,hst3,-storeAt,l0,l1,hlen,h1,e1,e40]
   ·obtain⟨G,rfl⟩:=hG
    exact⟨G++[_],by rw[xbj]⟩
  ·have:i=E.length:=by omega
   subst this
   obtain⟨G,rfl⟩:=hG
   refine⟨.exit 0,⟨M.length,[(0,.optr b 0),(3,zaa E.length),(12,avb false)],M++G⟩,?_,.inr ⟨by simp,rfl,G,rfl⟩⟩
   simp -implicitDefEqProofs [zn8,lb,-loadAt,hlx]
 obtain⟨e,s',h1,_,rfl,G,rfl⟩:=hloop
 refine⟨G,?_⟩
 rw[zad code ext hg]
 simp -implicitDefEqProofs [zde,h1]
end
structure zlg (code:Nat->Option zab):Prop where
 c1:code 1=some x1W
 c9:code 9=some x9W
 c10:code 10=some zo8
 c12:code 12=some zo9
 c14:code 14=some zjy
 c62:code 62=some zla
 c64:code 64=some zi3
 c25:code 25=some zsa
 c29:code 29=some zse
 c33:code 33=some zsk
 c34:code 34=some zsl
 c28:code 28=some zsd
 c24:code 24=some zr9
 c18:code 18=some zr3
 c17:code 17=some zr2
 c23:code 23=some zr8
 c22:code 22=some zr7
 c21:code 21=some zr6
 c32:code 32=some zsh
 c35:code 35=some zsm
 c30:code 30=some zsf
 c26:code 26=some zsb
 c20:code 20=some zr5
 c19:code 19=some zr4
 c27:code 27=some zsc
 c16:code 16=some zr1
 c31:code 31=some zsg
 c45:code 45=some zs3
 c49:code 49=some zs8
 c53:code 53=some ztc
 c54:code 54=some ztd
 c48:code 48=some zs7
 c44:code 44=some zs2
 c38:code 38=some zsr
 c37:code 37=some zsq
 c43:code 43=some zs1
 c42:code 42=some zs0
 c41:code 41=some zsx
 c52:code 52=some ztb
 c55:code 55=some zte
 c50:code 50=some zs9
 c46:code 46=some zs4
 c40:code 40=some zsv
 c39:code 39=some zst
 c47:code 47=some zs5
 c36:code 36=some zsn
 c51:code 51=some zta
 c75:code 75=some zpu
 c79:code 79=some zpv
 c83:code 83=some zpw
 c84:code 84=some ztx
 c78:code 78=some ztt
 c74:code 74=some ztp
 c68:code 68=some zti
 c67:code 67=some zth
 c73:code 73=some zto
 c72:code 72=some ztn
 c71:code 71=some ztm
 c82:code 82=some ztw
 c85:code 85=some zty
 c80:code 80=some ztu
 c76:code 76=some ztq
 c70:code 70=some ztl
 c69:code 69=some ztj
 c77:code 77=some ztr
 c66:code 66=some ztg
 c81:code 81=some ztv
section
variable {code:Nat->Option zab} {ext:zac}
set_option maxHeartbeats 4000000 in
set_option maxRecDepth 100000 in
theorem z5i (c:zlg code) {b:Nat} {B:List AV} (hn:∀j,1<=j->j<21->j≠4->j≠5->B[j]?=some zaf) {M M1 M2 M3 M4 M5 M6:Mem} (hbM:M[b]?=some (.rich B)) (hbM1:M1[b]?=some (.rich B)) (hbM2:M2[b]?=some (.rich B)) (hbM3:M3[b]?=some (.rich B)) (hbM4:M4[b]?=some (.rich B)) (hbM5:M5[b]?=some (.rich B)) (hbM6:M6[b]?=some (.rich B))
  (c34:callW code ext 34 [.optr b 0] M=some (.tup [],M1)) (c28:callW code ext 28 [.optr b 0] M1=some (.tup [],M2)) (c54:callW code ext 54 [.optr b 0] M2=some (.tup [],M3)) (c48:callW code ext 48 [.optr b 0] M3=some (.tup [],M4))
  (c84:callW code ext 84 [.optr b 0] M4=some (avb true,M5)) (c78:callW code ext 78 [.optr b 0] M5=some (avb true,M6)):callW code ext 1 [.optr b 0] M=some (avb true,M6):=by
 have c25:=ybi (ext:=ext) c.c25 hbM (hn 1 (by decide) (by decide) (by decide) (by decide))
 have c29:=ybl (ext:=ext) c.c29 hbM (hn 2 (by decide) (by decide) (by decide) (by decide))
 have c33:=ybp (ext:=ext) c.c33 hbM (hn 3 (by decide) (by decide) (by decide) (by decide))
 have c24:=ybh (ext:=ext) c.c24 hbM2 (hn 6 (by decide) (by decide) (by decide) (by decide))
 have c18:=ybb (ext:=ext) c.c18 hbM2 (hn 7 (by decide) (by decide) (by decide) (by decide))
 have c17:=yba (ext:=ext) c.c17 hbM2 (hn 8 (by decide) (by decide) (by decide) (by decide))
 have c23:=ybg (ext:=ext) c.c23 hbM2 (hn 9 (by decide) (by decide) (by decide) (by decide))
 have c22:=ybf (ext:=ext) c.c22 hbM2 (hn 10 (by decide) (by decide) (by decide) (by decide))
 have c21:=ybe (ext:=ext) c.c21 hbM2 (hn 11 (by decide) (by decide) (by decide) (by decide))
 have c32:=ybo (ext:=ext) c.c32 hbM2 (hn 12 (by decide) (by decide) (by decide) (by decide))
 have c35:=ybq (ext:=ext) c.c35 hbM2 (hn 13 (by decide) (by decide) (by decide) (by decide))
 have c30:=ybm (ext:=ext) c.c30 hbM2 (hn 14 (by decide) (by decide) (by decide) (by decide))
 have c26:=ybj (ext:=ext) c.c26 hbM2 (hn 15 (by decide) (by decide) (by decide) (by decide))
 have c20:=ybd (ext:=ext) c.c20 hbM2 (hn 16 (by decide) (by decide) (by decide) (by decide))
 have c19:=ybc (ext:=ext) c.c19 hbM2 (hn 17 (by decide) (by decide) (by decide) (by decide))
 have c27:=ybk (ext:=ext) c.c27 hbM2 (hn 18 (by decide) (by decide) (by decide) (by decide))
 have c16:=ya9 (ext:=ext) c.c16 hbM2 (hn 19 (by decide) (by decide) (by decide) (by decide))
 have c31:=ybn (ext:=ext) c.c31 hbM2 (hn 20 (by decide) (by decide) (by decide) (by decide))
 have c45:=yb0 (ext:=ext) c.c45 hbM2 (hn 1 (by decide) (by decide) (by decide) (by decide))
 have c49:=yb3 (ext:=ext) c.c49 hbM2 (hn 2 (by decide) (by decide) (by decide) (by decide))
 have c53:=yb7 (ext:=ext) c.c53 hbM2 (hn 3 (by decide) (by decide) (by decide) (by decide))
 have c44:=ybz (ext:=ext) c.c44 hbM4 (hn 6 (by decide) (by decide) (by decide) (by decide))
 have c38:=ybt (ext:=ext) c.c38 hbM4 (hn 7 (by decide) (by decide) (by decide) (by decide))
 have c37:=ybs (ext:=ext) c.c37 hbM4 (hn 8 (by decide) (by decide) (by decide) (by decide))
 have c43:=yby (ext:=ext) c.c43 hbM4 (hn 9 (by decide) (by decide) (by decide) (by decide))
 have c42:=ybx (ext:=ext) c.c42 hbM4 (hn 10 (by decide) (by decide) (by decide) (by decide))
 have c41:=ybw (ext:=ext) c.c41 hbM4 (hn 11 (by decide) (by decide) (by decide) (by decide))
 have c52:=yb6 (ext:=ext) c.c52 hbM4 (hn 12 (by decide) (by decide) (by decide) (by decide))
 have c55:=yb8 (ext:=ext) c.c55 hbM4 (hn 13 (by decide) (by decide) (by decide) (by decide))
 have c50:=yb4 (ext:=ext) c.c50 hbM4 (hn 14 (by decide) (by decide) (by decide) (by decide))
 have c46:=yb1 (ext:=ext) c.c46 hbM4 (hn 15 (by decide) (by decide) (by decide) (by decide))
 have c40:=ybv (ext:=ext) c.c40 hbM4 (hn 16 (by decide) (by decide) (by decide) (by decide))
 have c39:=ybu (ext:=ext) c.c39 hbM4 (hn 17 (by decide) (by decide) (by decide) (by decide))
 have c47:=yb2 (ext:=ext) c.c47 hbM4 (hn 18 (by decide) (by decide) (by decide) (by decide))
 have c36:=ybr (ext:=ext) c.c36 hbM4 (hn 19 (by decide) (by decide) (by decide) (by decide))
 have c51:=yb5 (ext:=ext) c.c51 hbM4 (hn 20 (by decide) (by decide) (by decide) (by decide))
 have c75:=yci (ext:=ext) c.c75 hbM4 (hn 1 (by decide) (by decide) (by decide) (by decide))
 have c79:=ycl (ext:=ext) c.c79 hbM4 (hn 2 (by decide) (by decide) (by decide) (by decide))
 have c83:=ycp (ext:=ext) c.c83 hbM4 (hn 3 (by decide) (by decide) (by decide) (by decide))
 have c74:=ych (ext:=ext) c.c74 hbM6 (hn 6 (by decide) (by decide) (by decide) (by decide))
 have c68:=ycb (ext:=ext) c.c68 hbM6 (hn 7 (by decide) (by decide) (by decide) (by decide))
 have c67:=yca (ext:=ext) c.c67 hbM6 (hn 8 (by decide) (by decide) (by decide) (by decide))
 have c73:=ycg (ext:=ext) c.c73 hbM6 (hn 9 (by decide) (by decide) (by decide) (by decide))
 have c72:=ycf (ext:=ext) c.c72 hbM6 (hn 10 (by decide) (by decide) (by decide) (by decide))
 have c71:=yce (ext:=ext) c.c71 hbM6 (hn 11 (by decide) (by decide) (by decide) (by decide))
 have c82:=yco (ext:=ext) c.c82 hbM6 (hn 12 (by decide) (by decide) (by decide) (by decide))
 have c85:=ycq (ext:=ext) c.c85 hbM6 (hn 13 (by decide) (by decide) (by decide) (by decide))
 have c80:=ycm (ext:=ext) c.c80 hbM6 (hn 14 (by decide) (by decide) (by decide) (by decide))
 have c76:=ycj (ext:=ext) c.c76 hbM6 (hn 15 (by decide) (by decide) (by decide) (by decide))
 have c70:=ycd (ext:=ext) c.c70 hbM6 (hn 16 (by decide) (by decide) (by decide) (by decide))
 have c69:=ycc (ext:=ext) c.c69 hbM6 (hn 17 (by decide) (by decide) (by decide) (by decide))
 have c77:=yck (ext:=ext) c.c77 hbM6 (hn 18 (by decide) (by decide) (by decide) (by decide))
 have c66:=yb9 (ext:=ext) c.c66 hbM6 (hn 19 (by decide) (by decide) (by decide) (by decide))
 have c81:=ycn (ext:=ext) c.c81 hbM6 (hn 20 (by decide) (by decide) (by decide) (by decide))
 have hmb:(AObj.rich B).moved=false:=rfl
 rw[zad code ext c.c1]
 simp -implicitDefEqProofs [x1W,hmb,-AObj.moved,hbM,hbM1,hbM2,hbM3,hbM4,hbM5,hbM6,c25,c29,c33,c34,c28,c24,c18,c17,c23,c22,c21,c32,c35,c30,c26,c20,c19,c27,c16,c31,c45,c49,c53,c54,c48,c44,c38,c37,c43,c42,c41,c52,c55,c50,c46,c40,c39,c47,c36,c51,c75,c79,c83,c84,c78,c74,c68,c67,c73,c72,c71,c82,c85,c80,c76,c70,c69,c77,c66,c81]
end
structure KL where
 x:AV
 len:Nat
 cells:List AV
def zf5:Int->List KL->List KE
 |_,[]=>[]
 |n,p::r=>⟨p.x,zaf,n+1,p.len,p.cells⟩::zf5 (n+1) r
def refsL(P:List KL):List Nat:=P.flatMap fun p=>p.x.refs
theorem zus:∀(P:List KL) (n:Int),zci (zf5 n P)=zgq n (P.map (·.x))
 |[],n=>rfl
 |p::r,n=>by
  have h:=zus r (n+1)
  have hr:zci (zf5 n (p::r))=[p.x,zaf,zaa (n+1)]++zci (zf5 (n+1) r):=rfl
  rw[hr,h];rfl
theorem zut:∀(P:List KL) (n:Int),(zf5 n P).length=P.length
 |[],n=>rfl
 |p::r,n=>by simp[zf5,zut r]
theorem zuv:∀(P:List KL) (n:Int),zbx (zf5 n P)=refsL P
 |[],n=>rfl
 |p::r,n=>by
  have h:=zuv r (n+1)
  have hr:zbx (zf5 n (p::r))=p.x.refs++zbx (zf5 (n+1) r):=rfl
  rw[hr,h];rfl
theorem zuu:∀(P:List KL) (n:Int) (e:KE),e∈zf5 n P->(∃p∈P,e.x=p.x/\e.len=p.len/\e.cells=p.cells)/\n<e.n/\e.n<=n+P.length
 |[],n,e,h=>by simp[zf5]at h
 |p::r,n,e,h=>by
  rcases xbt.1 h with rfl|h
  ·exact⟨⟨p,xbe ..,rfl,rfl,rfl⟩,by dsimp only;omega,by simp;omega⟩
  ·obtain⟨⟨q,hq,h1⟩,h2,h3⟩:=zuu r (n+1) e h
   exact⟨⟨q,xa5 _ hq,h1⟩,by omega,by simp;omega⟩
theorem z7h(A B:List KE):zci (A++B)=zci A++zci B:=by simp[zci]
theorem yes(A B:List KE):zbx (A++B)=zbx A++zbx B:=by simp[zbx]
def zll(code:Nat->Option zab)(ext:zac)(sz mk isn:Nat)(mi:Int->List IV):Prop:=
 (∀n,(mi n).length=sz)/\(∀s n,(0<=n/\n<=1000000000)->zb0 (callW code ext) s mk [zaa n]=some (.agg ((mi n).map .imm),s))/\
 (∀s n,(0<=n/\n<=1000000000)->zb0 (callW code ext) s isn [.agg ((mi n).map .imm),zaa n]=some (avb true,s))
section
variable {code:Nat->Option zab} {ext:zac}
theorem zjs{E:List KE}{e:KE}(he:e∈E){id:Nat}(h:id∈e.x.refs):id∈zbx E:=xa8.2 ⟨e,he,h⟩
theorem z5g(c:zlg code){miV miO:Int->List IV}(mV:zll code ext 2 420 400 miV)(mO:zll code ext 5 414 394 miO){M:Mem}{b:Nat}{n:Int}{vx ox:AV}{EV EO:List KE}(k:Bk M b n vx (zci EV) EV.length ox (zci EO) EO.length)
  (hV:EV.length<=1000000000) (hO:EO.length<=1000000000) (nV:∀e∈EV,0<=e.n/\e.n<=1000000000) (nO:∀e∈EO,0<=e.n/\e.n<=1000000000)
  (xV:∀e∈EV,KX M 2 e.x e.len e.cells/\e.len<=1000000000) (xO:∀e∈EO,KX M 5 e.x e.len e.cells/\e.len<=1000000000)
  (dV:(zbx EV).Nodup) (dO:(zbx EO).Nodup) (dd:∀id∈zbx EV,id ∉ zbx EO) (fV:∀id∈zbx EV,id≠b/\id ∉ vx.refs/\id ∉ ox.refs) (fO:∀id∈zbx EO,id≠b/\id ∉ vx.refs/\id ∉ ox.refs):
  ∃M',callW code ext 1 [.optr b 0] M=some (avb true,M')/\M.length<=M'.length:=by
 obtain⟨mV1,mV2,mV3⟩:=mV
 obtain⟨mO1,mO2,mO3⟩:=mO
 obtain⟨B,hB,hBl,hB0,hB4,hB5,hBn⟩:=k.B
 have hbl:b<M.length:=(xaa.1 hB).1
 have ltV:∀id∈zbx EV,id<M.length:=fun id hid=>by
  obtain⟨e,he,hid⟩:=xa8.1 hid
  exact zfg (xV e he).1 id hid
 have ltO:∀id∈zbx EO,id<M.length:=fun id hid=>by
  obtain⟨e,he,hid⟩:=xa8.1 hid
  exact zfg (xO e he).1 id hid
 obtain⟨M1,c34,l1,s1,x1⟩:=zzu (ext:=ext) (c.c34.trans (congrArg some yhw)) (R:=fun n=>0<=n/\n<=1000000000) mV2 mV1 (f:=4) (vx:=vx) (E:=EV) ⟨⟨B,hB,hB4⟩,k.v,fun id h=>⟨(fV id h).1,(fV id h).2.1⟩,dV⟩ hbl hV nV xV (fun id h=>(k.vr id h).1)
 have hB1:M1[b]?=some (.rich B):=by rw[s1 b hbl fun h=>(fV b h).1 rfl];exact hB
 have ox1:∀id∈ox.refs,M1[id]?=M[id]?:=fun id h=>s1 id (k.or id h).1 fun hm=>(fV id hm).2.2 h
 have vx1:∀id∈vx.refs,M1[id]?=M[id]?:=fun id h=>s1 id (k.vr id h).1 fun hm=>(fV id hm).2.1 h
 have xO1:∀e∈EO,KX M1 5 e.x e.len e.cells/\e.len<=1000000000:=fun e he=>⟨zfh (xO e he).1 fun id h=>s1 id (zfg (xO e he).1 id h) fun hm=>dd id hm (zjs he h),(xO e he).2⟩
 obtain⟨M2,c28,l2,s2,x2⟩:=zzu (ext:=ext) (c.c28.trans (congrArg some yhv)) (R:=fun n=>0<=n/\n<=1000000000) mO2 mO1 (f:=5) (vx:=ox) (E:=EO) ⟨⟨B,hB1,hB5⟩,zhs k.o ox1,fun id h=>⟨(fO id h).1,(fO id h).2.2⟩,dO⟩ (by omega) hO nO xO1 (fun id h=>by have:=(k.or id h).1;omega)
 have hB2:M2[b]?=some (.rich B):=by rw[s2 b (by omega) fun h=>(fO b h).1 rfl];exact hB1
 have vx2:∀id∈vx.refs,M2[id]?=M[id]?:=fun id h=>by rw[s2 id (by have:=(k.vr id h).1;omega) fun hm=>(fO id hm).2.1 h];exact vx1 id h
 have ox2:∀id∈ox.refs,M2[id]?=M[id]?:=fun id h=>by rw[s2 id (by have:=(k.or id h).1;omega) fun hm=>(fO id hm).2.2 h];exact ox1 id h
 have xV2:∀e∈EV,(∃rest,KX M2 2 e.x e.len (zar e.len ((miV e.n).map .imm)++rest))/\e.len<=1000000000:=fun e he=>⟨⟨_,zfh (x1 e he) fun id h=>s2 id (by have:=ltV id (zjs he h);omega) fun hm=>dd id (zjs he h) hm⟩,(xV e he).2⟩
 obtain⟨M3,EV3,c54,l3,s3,h3,e3,g3⟩:=z0d (ext:=ext) (c.c54.trans (congrArg some yh3)) (by decide) rfl (R:=fun n=>0<=n/\n<=1000000000) mV2 mV1 (f:=4) (vx:=vx) (E:=EV) ⟨⟨B,hB2,hB4⟩,zhs k.v vx2,fun id h=>⟨(fV id h).1,(fV id h).2.1⟩,dV⟩ (by omega) hV nV xV2 (fun id h=>⟨by have:=(k.vr id h).1;omega,(k.vr id h).2⟩)
 have hB3:M3[b]?=some (.rich B):=by rw[s3 b (by omega) (fun h=>(fV b h).1 rfl) fun h=>(k.vr b h).2 rfl];exact hB2
 have ox3:∀id∈ox.refs,M3[id]?=M[id]?:=fun id h=>by rw[s3 id (by have:=(k.or id h).1;omega) (fun hm=>(fV id hm).2.2 h) fun hm=>k.vo id hm h];exact ox2 id h
 have xO3:∀e∈EO,(∃rest,KX M3 5 e.x e.len (zar e.len ((miO e.n).map .imm)++rest))/\e.len<=1000000000:=fun e he=>⟨⟨_,zfh (x2 e he) fun id h=>s3 id (by have:=ltO id (zjs he h);omega) (fun hm=>dd id hm (zjs he h)) fun hm=>(fO id (zjs he h)).2.1 hm⟩,(xO e he).2⟩
 obtain⟨M4,EO4,c48,l4,s4,h4,e4,g4⟩:=z0d (ext:=ext) (c.c48.trans (congrArg some yh1)) (by decide) rfl (R:=fun n=>0<=n/\n<=1000000000) mO2 mO1 (f:=5) (vx:=ox) (E:=EO) ⟨⟨B,hB3,hB5⟩,zhs k.o ox3,fun id h=>⟨(fO id h).1,(fO id h).2.2⟩,dO⟩ (by omega) hO nO xO3 (fun id h=>⟨by have:=(k.or id h).1;omega,(k.or id h).2⟩)
 have hB4':M4[b]?=some (.rich B):=by rw[s4 b (by omega) (fun h=>(fO b h).1 rfl) fun h=>(k.or b h).2 rfl];exact hB3
 have vx4:∀id∈vx.refs,M4[id]?=M3[id]?:=fun id h=>s4 id (by have:=(k.vr id h).1;omega) (fun hm=>(fO id hm).2.1 h) fun hm=>k.vo id h hm
 have lookV:∀e∈EV3,e.len<=1000000000/\(∃rest,KX M4 2 e.x e.len (zar e.len ((miV e.n).map .imm)++rest))/\∃nid ob,e.lg=.osl nid 0 2 (e.len+40) none/\M4[nid]?=some ob/\za3 (zar (e.len+40) ((miV e.n).map .imm)) ob:=fun e he=>by
  obtain⟨j,hj⟩:=xa3 he
  have hjl:=(xaa.1 hj).1
  have hje:=xab (l:=EV) (i:=j) (by omega)
  obtain⟨e',q1,q2⟩:=g3 j _ hje
  have hm:=xa7 (l:=EV) (n:=j) (by omega)
  generalize EV[j]=u at q2 hm hje
  rw[hj]at q1;cases q1
  obtain⟨p1,p2,p3,⟨rest,p4⟩,nid,ob,p5,p6,p7,p8⟩:=q2
  rw[p1,p2,p3]
  refine⟨(xV u hm).2,⟨rest,zfh p4 fun id h=>s4 id (zfg p4 id h) (fun hq=>dd id (zjs hm h) hq) fun hq=>(fV id (zjs hm h)).2.2 hq⟩,nid,ob,p5,?_,p8⟩
  rw[s4 nid (xaa.1 p7).1 (fun hq=>by have:=ltO nid hq;omega) fun hq=>by have:=(k.or nid hq).1;omega]
  exact p7
 have nV3:∀e∈EV3,0<=e.n/\e.n<=1000000000:=fun e he=>by
  obtain⟨j,hj⟩:=xa3 he
  have hjl:=(xaa.1 hj).1
  obtain⟨e',q1,q2⟩:=g3 j _ (xab (l:=EV) (i:=j) (by omega))
  rw[hj]at q1;cases q1
  rw[q2.2.1]
  exact nV _ (xa7 _)
 have nO4:∀e∈EO4,0<=e.n/\e.n<=1000000000:=fun e he=>by
  obtain⟨j,hj⟩:=xa3 he
  have hjl:=(xaa.1 hj).1
  obtain⟨e',q1,q2⟩:=g4 j _ (xab (l:=EO) (i:=j) (by omega))
  rw[hj]at q1;cases q1
  rw[q2.2.1]
  exact nO _ (xa7 _)
 obtain⟨G5,c84⟩:=z08 (ext:=ext) (c.c84.trans (congrArg some yim)) (R:=fun n=>0<=n/\n<=1000000000) mV3 mV1 (f:=4) (vx:=vx) (E:=EV3) ⟨B,hB4',hB4⟩ (by rw[e3];exact zhs h3 vx4) (by omega) nV3 lookV
 have hold:∀id,id<M4.length->(M4++G5)[id]?=M4[id]?:=fun id h=>xac h
 have lookO:∀e∈EO4,e.len<=1000000000/\(∃rest,KX (M4++G5) 5 e.x e.len (zar e.len ((miO e.n).map .imm)++rest))/\∃nid ob,e.lg=.osl nid 0 5 (e.len+40) none/\(M4++G5)[nid]?=some ob/\za3 (zar (e.len+40) ((miO e.n).map .imm)) ob:=fun e he=>by
  obtain⟨j,hj⟩:=xa3 he
  have hjl:=(xaa.1 hj).1
  have hje:=xab (l:=EO) (i:=j) (by omega)
  obtain⟨e',q1,q2⟩:=g4 j _ hje
  have hm:=xa7 (l:=EO) (n:=j) (by omega)
  generalize EO[j]=u at q2 hm hje
  rw[hj]at q1;cases q1
  obtain⟨p1,p2,p3,⟨rest,p4⟩,nid,ob,p5,p6,p7,p8⟩:=q2
  rw[p1,p2,p3]
  exact⟨(xO u hm).2,⟨rest,zfh p4 fun id h=>hold id (zfg p4 id h)⟩,nid,ob,p5,by rw[hold nid (xaa.1 p7).1];exact p7,p8⟩
 have oxl:∀id∈ox.refs,id<M4.length:=fun id h=>by have:=(k.or id h).1;omega
 obtain⟨G6,c78⟩:=z08 (ext:=ext) (c.c78.trans (congrArg some yij)) (R:=fun n=>0<=n/\n<=1000000000) mO3 mO1 (f:=5) (vx:=ox) (E:=EO4) ⟨B,by rw[hold b (by omega)];exact hB4',hB5⟩ (by rw[e4];exact zhs h4 fun id h=>hold id (oxl id h)) (by omega) nO4 lookO
 refine⟨_,z5i c hBn hB hB1 hB2 hB3 hB4' (by rw[hold b (by omega)];exact hB4') (by rw[xac (by simp;omega),hold b (by omega)];exact hB4') c34 c28 c54 c48 c84 c78,by simp;omega⟩
end
def miV(n:Int):List IV:=[.val (.int .u8 0),.val (.int .i64 (IntKind.wrap .i64 (-1000-n)))]
def miO(n:Int):List IV:=[.val (.int .u8 0),.val (.string (⟨#[35]⟩++dig n)),.val (.slice none 0 0),.val (.int .i64 0),.val (.int .i64 0)]
structure zlj (code:Nat->Option zab) (ext:zac):Prop where
 c786:code 786=some zts
 c709:code 709=some ztk
 n708:code 708=none
 e708:∀a m,ext 708 a m=zil 708 708 a m
structure zlk (code:Nat->Option zab):Prop where
 c420:code 420=some zsy
 c400:code 400=some zsu
 c414:code 414=some zsw
 c394:code 394=some zss
 c422:code 422=some zsz
section
variable {code:Nat->Option zab} {ext:zac}
theorem z93(c:zlk code):zll code ext 2 420 400 miV:=by
 refine⟨fun n=>rfl,fun s n hn=>?_,fun s n hn=>?_⟩
 ·have h:callW code ext 420 [zaa n] []=some (.agg ((miV n).map .imm),[]):=by
   rw[zad code ext c.c420]
   unfold miV
   simp -implicitDefEqProofs [zsy]
  simp only[zb0]
  simp -implicitDefEqProofs [h,miV]
 ·have h:callW code ext 400 [.agg ((miV n).map .imm),zaa n] []=some (avb true,[]):=by
   rw[zad code ext c.c400]
   unfold miV
   simp -implicitDefEqProofs [zsu]
  unfold miV at h ⊢
  simp -implicitDefEqProofs at h
  simp -implicitDefEqProofs [zb0,h]
theorem z8y(c:zlj code ext)(n:Int)(hn:(zct .i64).wf n):callW code ext 786 [zaa n] []=some (zaq (dig n),[]):=by
 obtain⟨h0,h1⟩:=wfI64.1 hn
 have h:callW code ext 708 [zaa n,zaa 10] []=some (zaq (dig n),[]):=by
  rw[zgp code ext c.n708 (by decide),c.e708]
  simp[zil,h0,h1,dig]
 have h2:callW code ext 709 [zaa n] []=some (zaq (dig n),[]):=by
  rw[zad code ext c.c709]
  simp -implicitDefEqProofs [ztk,h]
 rw[zad code ext c.c786]
 simp -implicitDefEqProofs [zts,h2]
theorem z4c(c:zlk code)(t:zlj code ext){n:Int}(hn:0<=n/\n<=1000000000):callW code ext 422 [zaa n] []=some (zaq (⟨#[35]⟩++dig n),[]):=by
 have hw:(zct .i64).wf n:=wfI64.2 ⟨by omega,by omega⟩
 have h1:=z8y (ext:=ext) t n hw
 have hs:=z69 hw
 have hsz:(ByteArray.mk #[35]).size+(dig n).size<=9223372036854775807:=by
  have:(ByteArray.mk #[35]).size=1:=rfl
  omega
 rw[zad code ext c.c422]
 generalize dig n=d at *
 simp -implicitDefEqProofs [zsz,h1,hsz]
theorem z92(c:zlk code)(t:zlj code ext):zll code ext 5 414 394 miO:=by
 refine⟨fun n=>rfl,fun s n hn=>?_,fun s n hn=>?_⟩
 ·have h1:=z4c c t hn
  have h:callW code ext 414 [zaa n] []=some (.agg ((miO n).map .imm),[]):=by
   rw[zad code ext c.c414]
   unfold miO
   generalize (⟨#[35]⟩++dig n:ByteArray)=d at *
   simp -implicitDefEqProofs [zsw,h1]
  unfold miO at h ⊢
  generalize (⟨#[35]⟩++dig n:ByteArray)=d at *
  simp -implicitDefEqProofs [zb0,h]
 ·have h1:=z4c c t hn
  have h:callW code ext 394 [.agg ((miO n).map .imm),zaa n] []=some (avb true,[]):=by
   rw[zad code ext c.c394]
   unfold miO
   generalize (⟨#[35]⟩++dig n:ByteArray)=d at *
   simp -implicitDefEqProofs [zss,h1]
  unfold miO at h ⊢
  generalize (⟨#[35]⟩++dig n:ByteArray)=d at *
  simp -implicitDefEqProofs at h
  simp -implicitDefEqProofs [zb0,h]
structure zp2 (M:Mem) (sid N:Nat) (cp:Nat) (P:List KL):Prop where
 row:∃o L rest,M[sid]?=some o/\za3 (zay L++rest) o/\L.map (·.l)=P.map (·.x)/\L.length=N/\(zay L++rest).length=cp*5/\(∀w∈L,w.l.cells=some [w.l])
 cap:N<=cp/\cp<=N+1
 n:N<=10000000
 kx:∀p∈P,KX M 2 p.x p.len p.cells/\p.len<=1000000000
theorem z57(M:Mem):Bk (M++[.rich [zaa 0,zaf,zaf,zaf,zaf,zaf,zaf,zaf,zaf,zaf,zaf,zaf,zaf,zaf,zaf,zaf,zaf,zaf,zaf,zaf,zaf]]) M.length 0 zaf [] 0 zaf [] 0:=by
 refine⟨⟨_,zfe M _,rfl,rfl,rfl,rfl,fun j h1 h2 _ _=>?_⟩,.inl ⟨rfl,rfl,rfl⟩,.inl ⟨rfl,rfl,rfl⟩,by simp[AV.refs],by simp[AV.refs],by simp[AV.refs]⟩
 obtain⟨i,rfl⟩:∃i,j=i+1:=⟨j-1,by omega⟩
 show(zaa 0::List.replicate 20 zaf)[i+1]?=some zaf
 rw[xbb,List.getElem?_replicate,if_pos (by omega)]
theorem z5j(c:zlg code)(h486:code 486=some zm6)(mV:zll code ext 2 420 400 miV)(mO:zll code ext 5 414 394 miO){M:Mem}{s1 N1 c1 s2 N2 c2:Nat}{P1 P2:List KL}(k1:zp2 M s1 N1 c1 P1)(k2:zp2 M s2 N2 c2 P2)(hnd:(refsL P1++refsL P2).Nodup)(hs:s1≠s2)(hd1:s1 ∉ refsL P1++refsL P2)(hd2:s2 ∉ refsL P1++refsL P2):
  ∃M',callW code ext 486 [.osl s1 0 5 N1 (some c1),.osl s2 0 5 N2 (some c2)] M=some (avb true,M')/\M.length<M'.length:=by
 obtain⟨o1,L1,rest1,r1,r2,r3,r4,r5,r6⟩:=k1.row
 obtain⟨o2,L2,rest2,t1,t2,t3,t4,t5,t6⟩:=k2.row
 have hs1l:s1<M.length:=(xaa.1 r1).1
 have hs2l:s2<M.length:=(xaa.1 t1).1
 have n1:=k1.n
 have n2:=k2.n
 have pl1:P1.length=N1:=by
  have:=congrArg List.length r3
  simp only[xam]at this
  omega
 have pl2:P2.length=N2:=by
  have:=congrArg List.length t3
  simp only[xam]at this
  omega
 have kb:=z57 M
 generalize hBK:AObj.rich [zaa 0,zaf,zaf,zaf,zaf,zaf,zaf,zaf,zaf,zaf,zaf,zaf,zaf,zaf,zaf,zaf,zaf,zaf,zaf,zaf,zaf]=BK at kb
 have hold:∀id,id<M.length->(M++[BK])[id]?=M[id]?:=fun id h=>xac h
 obtain⟨M1,v1,id1,q1,q2,q3,q4,q5,q6⟩:=zx8 (ext:=ext) c.c12 c.c10 c.c62 c.c9 c.c14 c.c64 kb (L:=L1) (by omega) (by omega) (by omega) (by omega) (by omega) r6 (cap:=some c1) (by rw[hold s1 hs1l];exact r1) r2 (by omega) (by simp[AV.refs]) (by simp[AV.refs])
 simp only[xao,xat,xa4,xau,Int.zero_add,xbg]at q2 q3 q4 q5 q6
 have v1r:∀id∈v1.refs,M.length+1<=id:=fun id h=>by
  rcases q5 id h with h|h
  ·simp[AV.refs]at h
  ·exact h
 have old1:∀id,id<M.length->M1[id]?=M[id]?:=fun id h=>by
  rw[q6 id (by omega) (by omega) (by simp[AV.refs]) (by simp[AV.refs])];exact hold id h
 obtain⟨M2,v2,id2,w1,w2,w3,w4,w5,w6⟩:=zx8 (ext:=ext) c.c12 c.c10 c.c62 c.c9 c.c14 c.c64 q2 (L:=L2) (by omega) (by omega) (by omega) (by omega) (by omega) t6 (cap:=some c2) (by rw[old1 s2 hs2l];exact t1) t2 (by omega) (fun h=>by have:=v1r s2 h;omega) (by simp[AV.refs];omega)
 have v2r:∀id∈v2.refs,M.length+1<=id:=fun id h=>by
  rcases w5 id h with h|h
  ·exact v1r id h
  ·omega
 have old2:∀id,id<M.length->M2[id]?=M[id]?:=fun id h=>by
  rw[w6 id (by omega) (by omega) (fun hm=>by have:=v1r id hm;omega) (by simp[AV.refs];omega)];exact old1 id h
 obtain⟨B1,hB1,_⟩:=q2.B
 obtain⟨B2,hB2,_⟩:=w2.B
 generalize hEV:zf5 0 P1++zf5 (L1.length+1:Int) P2=EV
 generalize hEO:[KE.mk (.osl s1 0 5 N1 (some c1)) zaf (L1.length+1) N1 (zay L1++rest1),KE.mk (.osl s2 0 5 N2 (some c2)) zaf (L1.length+1+L2.length+1) N2 (zay L2++rest2)]=EO
 have eV:zci EV=zgq 0 (L1.map (·.l))++zgq (L1.length+1) (L2.map (·.l)):=by rw[<-hEV,z7h,zus,zus,r3,t3]
 have lV:EV.length=L1.length+L2.length:=by rw[<-hEV,xao,zut,zut];omega
 have eO:zci EO=[.osl s1 0 5 N1 (some c1),zaf,zaa (L1.length+1)]++[.osl s2 0 5 N2 (some c2),zaf,zaa (L1.length+1+L2.length+1)]:=by rw[<-hEO];rfl
 have lO:EO.length=2:=by rw[<-hEO];rfl
 have rV:zbx EV=refsL P1++refsL P2:=by rw[<-hEV,yes,zuv,zuv]
 have rO:zbx EO=[s1,s2]:=by rw[<-hEO];rfl
 have mV':∀e∈EV,(∃p,(p∈P1\/p∈P2)/\e.x=p.x/\e.len=p.len/\e.cells=p.cells)/\0<=e.n/\e.n<=1000000000:=fun e he=>by
  rw[<-hEV]at he
  rcases xak.1 he with he|he
  ·obtain⟨⟨p,hp,h⟩,h2,h3⟩:=zuu _ _ _ he
   exact⟨⟨p,.inl hp,h⟩,by omega,by omega⟩
  ·obtain⟨⟨p,hp,h⟩,h2,h3⟩:=zuu _ _ _ he
   exact⟨⟨p,.inr hp,h⟩,by omega,by omega⟩
 have xV:∀e∈EV,KX M 2 e.x e.len e.cells/\e.len<=1000000000:=fun e he=>by
  obtain⟨⟨p,hp,g1,g2,g3⟩,_⟩:=mV' e he
  rw[g1,g2,g3]
  rcases hp with hp|hp
  ·exact k1.kx p hp
  ·exact k2.kx p hp
 have ltV:∀id∈zbx EV,id<M.length:=fun id hid=>by
  obtain⟨e,he,hid⟩:=xa8.1 hid
  exact zfg (xV e he).1 id hid
 have xO:∀e∈EO,KX M 5 e.x e.len e.cells/\e.len<=1000000000:=fun e he=>by
  rw[<-hEO]at he
  simp only[xbt,xb4,or_false]at he
  rcases he with rfl|rfl
  ·exact⟨.inl ⟨s1,c1,o1,rfl,r1,r2,r5,k1.cap.1,k1.cap.2⟩,by dsimp only;omega⟩
  ·exact⟨.inl ⟨s2,c2,o2,rfl,t1,t2,t5,k2.cap.1,k2.cap.2⟩,by dsimp only;omega⟩
 have nO:∀e∈EO,0<=e.n/\e.n<=1000000000:=fun e he=>by
  rw[<-hEO]at he
  simp only[xbt,xb4,or_false]at he
  rcases he with rfl|rfl
  ·exact⟨by dsimp only;omega,by dsimp only;omega⟩
  ·exact⟨by dsimp only;omega,by dsimp only;omega⟩
 have kb2:Bk M2 M.length (L1.length+1+L2.length+1) v2 (zci EV) EV.length (.osl id2 0 3 (1+1) none) (zci EO) EO.length:=by
  rw[eV,lV,eO,lO,<-r4,<-t4]
  exact w2
 have mono:∀{sz:Nat} (e:KE),KX M sz e.x e.len e.cells->KX M2 sz e.x e.len e.cells:=fun e h=>zfh h fun id hid=>old2 id (zfg h id hid)
 obtain⟨M3,c3,l3⟩:=z5g (ext:=ext) c mV mO kb2 (by omega) (by omega) (fun e he=>(mV' e he).2) nO (fun e he=>⟨mono e (xV e he).1,(xV e he).2⟩) (fun e he=>⟨mono e (xO e he).1,(xO e he).2⟩) (by rw[rV];exact hnd) (by rw[rO];simp[hs]) (fun id hid=>by
   rw[rO]
   rw[rV]at hid
   simp only[xbt,xb4,or_false]
   rintro(rfl|rfl)
   ·exact hd1 hid
   ·exact hd2 hid) (fun id hid=>by
   have:=ltV id hid
   exact⟨by omega,fun hm=>by have:=v2r id hm;omega,by simp[AV.refs];omega⟩) (fun id hid=>by
   rw[rO]at hid
   simp only[xbt,xb4,or_false]at hid
   rcases hid with rfl|rfl
   ·exact⟨by omega,fun hm=>by have:=v2r _ hm;omega,by simp[AV.refs];omega⟩
   ·exact⟨by omega,fun hm=>by have:=v2r _ hm;omega,by simp[AV.refs];omega⟩)
 refine⟨M3,?_,by omega⟩
 have hmb:∀B,(AObj.rich B).moved=false:=fun _=>rfl
 have g1:M1[s2]?=some o2:=by rw[old1 s2 hs2l];exact t1
 have gm2:=ziw t2
 rw[<-hBK]at q1
 rw[r4]at q1
 rw[t4]at w1
 rw[zad code ext h486]
 simp -implicitDefEqProofs [zm6,-AObj.moved,q1,hB1,hmb,g1,gm2,w1,hB2,c3]
end
structure zlo (M:Mem) (b:Nat) (S:List Obj):Prop where
 row:∃o,M[b]?=some o/\za3 (zay (twR (b+1) S)++zge) o
 lists:∀(i:Nat) f,S[i]?=some f->M[b+1+i]?=some (zcs f)
structure zi6 (M:Mem) (b:Nat) (T:List Obj):Prop where
 row:∃o,M[b]?=some o/\za3 (zay (clR (b+1) T)) o
 lists:∀(i:Nat) a,(clM T)[i]?=some a->M[b+1+i]?=some a
def twP:Nat->List Obj->List KL
 |_,[]=>[]
 |j,o::r=>⟨.osl j 0 2 o.l.xs.length (some (o.l.xs.length+1)),o.l.xs.length,(tVal.row (o.l.xs++[zdq])).map .imm⟩::twP (j+1) r
def clP:Nat->List Obj->List KL
 |_,[]=>[]
 |j,o::r=>(if zbs o.l.iv=true then⟨zaf,0,[]⟩else⟨.osl j 0 2 o.l.xs.length (some o.l.xs.length),o.l.xs.length,(tVal.row o.l.xs).map .imm⟩)::clP (j+(clL o).length) r
theorem zru:∀(S:List Obj) (j:Nat),refsL (twP j S)=List.range' j S.length
 |[],j=>rfl
 |o::r,j=>by
  have h:=zru r (j+1)
  have hr:refsL (twP j (o::r))=[j]++refsL (twP (j+1) r):=rfl
  rw[hr,h,xat,List.range'_succ];rfl
theorem zp7:∀(T:List Obj) (j:Nat),refsL (clP j T)=List.range' j (clM T).length
 |[],j=>rfl
 |o::r,j=>by
  have h:=zp7 r (j+(clL o).length)
  have hr:refsL (clP j (o::r))=(if zbs o.l.iv=true then(⟨zaf,0,[]⟩:KL)else⟨.osl j 0 2 o.l.xs.length (some o.l.xs.length),o.l.xs.length,(tVal.row o.l.xs).map .imm⟩).x.refs++refsL (clP (j+(clL o).length) r):=rfl
  have hm:clM (o::r)=clL o++clM r:=by simp[clM]
  rw[hr,h,hm,xao,<-List.range'_append_1]
  congr 1
  unfold clL
  split<;>rfl
theorem z3s:∀(S:List Obj) (j:Nat),(twR j S).map (·.l)=(twP j S).map (·.x)
 |[],j=>rfl
 |o::r,j=>by simp only[twR,twP,xa1,z3s r];rfl
theorem zym:∀(T:List Obj) (j:Nat),(clR j T).map (·.l)=(clP j T).map (·.x)
 |[],j=>rfl
 |o::r,j=>by
  simp only[clR,clP,xa1,zym r]
  congr 1
  unfold clO
  split<;>rfl
theorem z3p:∀(S:List Obj) (j:Nat),∀w∈twR j S,w.l.cells=some [w.l]
 |[],j,w,h=>by simp[twR]at h
 |o::r,j,w,h=>by
  rcases xbt.1 h with rfl|h
  ·rfl
  ·exact z3p r _ w h
theorem zyi:∀(T:List Obj) (j:Nat),∀w∈clR j T,w.l.cells=some [w.l]
 |[],j,w,h=>by simp[clR]at h
 |o::r,j,w,h=>by
  rcases xbt.1 h with rfl|h
  ·unfold clO
   dsimp only
   split<;>rfl
  ·exact zyi r _ w h
theorem z3n{M:Mem}:∀(S:List Obj) (j:Nat),(∀o∈S,o.l.xs.length<=1000000)->(∀(i:Nat) f,S[i]?=some f->M[j+i]?=some (zcs f))->∀p∈twP j S,KX M 2 p.x p.len p.cells/\p.len<=1000000000
 |[],j,_,_,p,hp=>by simp[twP]at hp
 |o::r,j,hS,hM,p,hp=>by
  have ho:=hS o (xbe ..)
  rcases xbt.1 hp with rfl|hp
  ·refine⟨.inl ⟨j,_,_,rfl,(by have:=hM 0 o rfl;rw[xbf]at this;exact this),.inr ⟨_,rfl,rfl⟩,?_,by dsimp only;omega,by dsimp only;omega⟩,by dsimp only;omega⟩
   rw[xam,zbg,xao];rfl
  ·exact z3n r (j+1) (fun o ho=>hS o (xa5 _ ho)) (fun i f hf=>by
    have:=hM (i+1) f (by simpa using hf)
    rw[<-this];congr 1;omega) p hp
theorem zyh{M:Mem}:∀(T:List Obj) (j:Nat),(∀o∈T,o.l.xs.length<=1000000)->(∀(i:Nat) a,(clM T)[i]?=some a->M[j+i]?=some a)->∀p∈clP j T,KX M 2 p.x p.len p.cells/\p.len<=1000000000
 |[],j,_,_,p,hp=>by simp[clP]at hp
 |o::r,j,hS,hM,p,hp=>by
  have ho:=hS o (xbe ..)
  have hm:clM (o::r)=clL o++clM r:=by simp[clM]
  rcases xbt.1 hp with rfl|hp
  ·split
   ·exact⟨.inr ⟨rfl,rfl,.inl rfl⟩,by decide⟩
   ·rename_i hz
    have hg:=hM 0 (.flat (tVal.row o.l.xs) false) (by rw[hm];unfold clL;rw[if_neg hz];rfl)
    refine⟨.inl ⟨j,_,_,rfl,by simpa using hg,.inr ⟨_,rfl,rfl⟩,?_,by dsimp only;omega,by dsimp only;omega⟩,by dsimp only;omega⟩
    rw[xam,zbg];rfl
  ·exact zyh r (j+(clL o).length) (fun o ho=>hS o (xa5 _ ho)) (fun i a ha=>by
    have:=hM ((clL o).length+i) a (by rw[hm,xah (by omega),xbn];exact ha)
    rw[<-this];congr 1;omega) p hp
theorem ygx{M:Mem}{b:Nat}{S:List Obj}(h:zlo M b S)(hS:∀o∈S,o.l.xs.length<=1000000)(hn:S.length<=1000000):zp2 M b S.length (S.length+1) (twP (b+1) S):=by
 obtain⟨o,h1,h2⟩:=h.row
 refine⟨⟨o,_,_,h1,h2,z3s S _,zk1 S _,?_,z3p S _⟩,⟨by omega,by omega⟩,by omega,z3n S _ hS h.lists⟩
 rw[xao,zh3,zk1];simp[zge];omega
theorem z68{M:Mem}{b:Nat}{T:List Obj}(h:zi6 M b T)(hS:∀o∈T,o.l.xs.length<=1000000)(hn:T.length<=1000000):zp2 M b T.length T.length (clP (b+1) T):=by
 obtain⟨o,h1,h2⟩:=h.row
 refine⟨⟨o,_,[],h1,by rw[xay];exact h2,zym T _,znw T _,?_,zyi T _⟩,⟨by omega,by omega⟩,by omega,zyh T _ hS h.lists⟩
 rw[xay,zh3,znw]
section
variable {code:Nat->Option zab} {ext:zac}
theorem z5h(c:zlg code)(h486:code 486=some zm6)(m:zlk code)(t:zlj code ext){M:Mem}{b1 b2:Nat}{S T:List Obj}(h1:zlo M b1 S)(h2:zi6 M b2 T)(hS:∀o∈S,o.l.xs.length<=1000000)(hT:∀o∈T,o.l.xs.length<=1000000)(n1:S.length<=1000000)(n2:T.length<=1000000)(hb:b1+S.length<b2):
  ∃M',callW code ext 486 [.osl b1 0 5 S.length (some (S.length+1)),.osl b2 0 5 T.length (some T.length)] M=some (avb true,M')/\M.length<M'.length:=by
 refine z5j c h486 (z93 m) (z92 m t) (ygx h1 hS n1) (z68 h2 hT n2) ?_ (by omega) ?_ ?_
 ·rw[zru,zp7,xc1]
  refine⟨List.nodup_range',List.nodup_range',?_⟩
  intro a ha c hc
  rw[xcq]at ha hc
  omega
 ·rw[zru,zp7,xak,xcq,xcq]
  omega
 ·rw[zru,zp7,xak,xcq,xcq]
  omega
end
theorem zvl{α β:Type}(f:α->Option β):∀(a c:List α) {x y:List β},a.mapM f=some x->c.mapM f=some y->(a++c).mapM f=some (x++y):=by
 intro a c x y h1 h2
 rw[List.mapM_append,h1,h2];rfl
theorem zz9{M:Mem}{b n:Nat}{cap:Option Nat}{o:AObj}{cells:List AV}{R:List IV}(hM:M[b]?=some o)(h:za3 cells o)(hm:cells.mapM (za5 M 19)=some R):frz M (.osl b 0 5 n cap)=some (.imm (.slice R 0 n cap)):=by
 have hv:za5 M 20 (.osl b 0 5 n cap)=some (.slice R 0 n cap):=by
  rcases h with rfl|⟨cs,rfl,rfl⟩
  ·show(match M[b]? with
    |some (.flat cells _)=>some (IV.slice cells 0 n cap)
    |some (.rich cells)=>(cells.mapM (za5 M 19)).map fun row=>.slice row 0 n cap
    |_=>none)=_
   rw[hM]
   dsimp only
   rw[hm];rfl
  ·have:∀l:List IV,(l.map AV.imm).mapM (za5 M 19)=some l:=by
    intro l
    induction l with
    |nil=>rfl
    |cons x l ih=>
     rw[xa1,xba,ih];rfl
   rw[this]at hm
   cases hm
   show(match M[b]? with
    |some (.flat cells _)=>some (IV.slice cells 0 n cap)
    |some (.rich cells)=>(cells.mapM (za5 M 19)).map fun row=>.slice row 0 n cap
    |_=>none)=_
   rw[hM]
 simp only[frz,hv,xal]
theorem zz3 {M : Mem} {j n : Nat} {cap : Option Nat} {cs : List IV} (h : M[j]? = some (.flat cs false)) : za5 M 19 (.osl j 0 2 n cap) = some (.slice cs 0 n cap) := by
  show (match M[j]? with
        | some (.flat cells _) => some (IV.slice cells 0 n cap)
        | some (.rich cells) => (cells.mapM (za5 M 18)).map fun row => .slice row 0 n cap
        | _ => none) = _
  rw [h]
theorem z3q{M:Mem}:∀(S:List Obj) (j:Nat),(∀(i:Nat) f,S[i]?=some f->M[j+i]?=some (zcs f))->(zay (twR j S)).mapM (za5 M 19)=some (tObj.row (S.map zal))
 |[],j,_=>rfl
 |o::r,j,hM=>by
  have h:=z3q r (j+1) fun i f hf=>by
   have:=hM (i+1) f (by simpa using hf)
   rw[<-this];congr 1;omega
  have hr:zay (twR j (o::r))=(zfm j o).cells++zay (twR (j+1) r):=rfl
  have hc:tObj.row ((o::r).map zal)=tObj.enc (zal o)++tObj.row (r.map zal):=rfl
  rw[hr,hc]
  refine zvl _ _ _ ?_ h
  have hl:=zz3 (n:=o.l.xs.length) (cap:=some (o.l.xs.length+1)) (show M[j]?=some (.flat (tVal.row (o.l.xs++[zdq])) false)from(by have:=hM 0 o rfl;rw[xbf]at this;exact this))
  simp only[zfm,RO.cells,xba,List.mapM_nil,hl]
  rfl
theorem zwy{M:Mem}{b:Nat}{S:List Obj}(h:zlo M b S):frz M (.osl b 0 5 S.length (some (S.length+1)))=some (.imm (.slice (tObj.row (S.map zal++[zat])) 0 S.length (some (S.length+1)))):=by
 obtain⟨o,h1,h2⟩:=h.row
 refine zz9 h1 h2 ?_
 have:tObj.row (S.map zal++[zat])=tObj.row (S.map zal)++tObj.enc zat:=by simp[Ty.row]
 rw[this]
 exact zvl _ _ _ (z3q S _ h.lists) rfl
theorem zyj{M:Mem}:∀(T:List Obj) (j:Nat),(∀(i:Nat) a,(clM T)[i]?=some a->M[j+i]?=some a)->(zay (clR j T)).mapM (za5 M 19)=some (tObj.row (T.map zae))
 |[],j,_=>rfl
 |o::r,j,hM=>by
  have hm:clM (o::r)=clL o++clM r:=by simp[clM]
  have h:=zyj r (j+(clL o).length) fun i a ha=>by
   have:=hM ((clL o).length+i) a (by rw[hm,xah (by omega),xbn];exact ha)
   rw[<-this];congr 1;omega
  have hr:zay (clR j (o::r))=(clO j o).cells++zay (clR (j+(clL o).length) r):=rfl
  have hc:tObj.row ((o::r).map zae)=tObj.enc (zae o)++tObj.row (r.map zae):=rfl
  rw[hr,hc]
  refine zvl _ _ _ ?_ h
  by_cases hz:zbs o.l.iv=true
  ·have hv:o.l.iv=.val (.slice none 0 0):=by
    rcases o.l.ok.2.2 with⟨e,_⟩|⟨row,off,cap,e,_⟩
    ·exact e
    ·rw[e]at hz;simp[zbs]at hz
   unfold clO zae zea
   rw[if_pos hz,if_pos hz]
   show(some [IV.val (.int .u8 o.k),.val (.string o.s),.val (.slice none 0 0),.val (.int .i64 o.room),.val (.int .i64 o.fn)]:Option (List IV))=some [IV.val (.int .u8 o.k),.val (.string o.s),o.l.iv,.val (.int .i64 o.room),.val (.int .i64 o.fn)]
   rw[hv]
  ·have hg:=hM 0 (.flat (tVal.row o.l.xs) false) (by rw[hm];unfold clL;rw[if_neg hz];rfl)
   rw[xbf]at hg
   have hl:=zz3 (n:=o.l.xs.length) (cap:=some o.l.xs.length) hg
   unfold clO zae zea
   rw[if_neg hz,if_neg hz]
   simp only[RO.cells,xba,List.mapM_nil,hl]
   rfl
theorem z67{M:Mem}{b:Nat}{T:List Obj}(h:zi6 M b T):frz M (.osl b 0 5 T.length (some T.length))=some (.imm (.slice (tObj.row (T.map zae)) 0 T.length (some T.length))):=by
 obtain⟨o,h1,h2⟩:=h.row
 exact zz9 h1 h2 (zyj T _ h.lists)
def yhy:zab:=
 ⟨[.tmp 6],(.seq (.region [0,1,5] [o0 5 (.box 4 (.t 2)),
 o0 6 (.mv (.c (.bool false)))]) (.seq (.seq (.region [0,1,5,12] [o3 11 0,
 o0 12 (.call .view 487 [.t 11])]) (.cond (.t 12) (.seq (.region [6] [o0 13 (.call .view 489 []),o3 6 13]) .ret) .skip)) (.seq (.region [0,1,5,7] [o3 14 0,
 o0 15 (.call .own 377 [.t 14]),o3 7 15]) (.seq (.region [0,1,5,7,8] [o3 16 7,o3 17 1,
 o0 18 (.idxP 2 2 (.t 5) (.c (.int .i64 0))),o6 19 2 18,
 o0 20 (.idxP 2 2 (.t 5) (.c (.int .i64 1))),o6 21 2 20,
 o0 22 (.call .own 627 [(.t 16),(.t 17),(.t 19),(.t 21)]),
 o0 8 (.alloc [(.slice none 0 0),(.int .u8 0),(.int .i64 0),(.string .empty),(.int .i64 0)]),
 o2 (.store 5 (.t 8) (.t 22))]) (.seq (.region [0,1,5,7,8,9] [o3 23 0,
 o0 24 (.call .own 488 [.t 23]),o3 9 24]) (.seq (.region [0,7,8,9,10] [o3 25 9,o3 26 1,
 o0 27 (.idxP 2 2 (.t 5) (.c (.int .i64 0))),o6 28 2 27,
 o0 29 (.idxP 2 2 (.t 5) (.c (.int .i64 1))),o6 30 2 29,
 o0 31 (.call .share 150 [(.t 25),(.t 26),(.t 28),(.t 30),(.c (.bool false))]),
 o0 10 (.alloc [(.int .u8 0),(.int .i64 0),(.string .empty),(.int .i64 0)]),
 o2 (.store 4 (.t 10) (.t 31))]) (.seq (.region [6] [o6 32 5 8,o3 33 9,o6 34 4 10,o3 35 7,o3 36 0,
 o0 37 (.call .view 490 [(.t 32),(.t 33),(.t 34),(.t 35),(.t 36)]),o3 38 37,
 o1 39 38 true (.mv (.t 7)),
 o1 40 38 true (.fieldA 0 (.t 8)),
 o1 41 38 true (.load none (.t 40)),
 o1 42 38 true (.call .whole 486 [(.t 39),(.t 41)]),
 o0 43 (.pick (.t 38) (.t 42) (.c (.bool false))),o3 44 43,
 o1 45 44 true (.call .view 489 []),
 o0 46 (.pick (.t 44) (.t 45) (.c (.bool false))),o3 6 46]) .ret)))))))⟩
section
variable {code:Nat->Option zab} {ext:zac}
end
theorem z3r{f:Nat->Option Nat}:∀(S:List Obj) (j j':Nat),(∀i,i<S.length->f (j+i)=some (j'+i))->AV.ren.renL f (zay (twR j S))=zay (twR j' S)
 |[],j,j',_=>rfl
 |o::r,j,j',h=>by
  have h1:∀j,zay (twR j (o::r))=(zfm j o).cells++zay (twR (j+1) r):=fun _=>rfl
  have h2:=z3r (f:=f) r (j+1) (j'+1) fun i hi=>by
   have:=h (1+i) (by simp;omega)
   rw[<-Nat.add_assoc,<-Nat.add_assoc]at this
   exact this
  have h0:=h 0 (by simp)
  rw[xbf,xbf]at h0
  rw[h1,h1,zfk,xcu,<-zfk,<-zfk,h2]
  congr 1
  simp only[zfm,RO.cells,AV.ren.renL,AV.ren,h0]
theorem yev(f:Nat->Option Nat)(a b:List AV):AV.ren.renL f (a++b)=AV.ren.renL f a++AV.ren.renL f b:=by
 rw[zfk,zfk,zfk,xcu]
theorem z9s(f:Nat->Option Nat)(S:List Obj):(S.map zcs).map (AObj.ren f)=S.map zcs:=by
 rw[xc3]
 exact xbo fun o _=>rfl
theorem ygb(M:Mem)(x y:AObj):(M++[x]).set M.length y=M++[y]:=by
 rw[xbs _ _ (xan _),Nat.sub_self];rfl
theorem yga(zs vs:List AV)(h:vs.length=zs.length):setAll zs 0 vs=vs:=by
 refine xbh fun j=>?_
 rw[zre _ _ _ _ (by omega)]
 by_cases hj:j<vs.length
 ·rw[if_pos (by omega),Nat.sub_zero]
 ·rw[if_neg (by omega),xaq (by omega),xaq (by omega)]
theorem zwt(M:Mem)(zs vs:List AV)(h:vs.length=zs.length):storeAt (M++[.rich zs]) (.optr M.length 0) vs=some (M++[.rich vs]):=by
 simp only[storeAt,zfe]
 rw[if_pos (by omega),yga _ _ h,ygb]
theorem z8c{M:Mem}{b n:Nat}{cap:Option Nat}{iv:IV}(h:frz M (.osl b 0 5 n cap)=some (.imm iv)):za5 M 20 (.osl b 0 5 n cap)=some iv:=by
 have e:frz M (.osl b 0 5 n cap)=(za5 M 20 (.osl b 0 5 n cap)).map .imm:=rfl
 rw[e]at h
 cases hv:za5 M 20 (.osl b 0 5 n cap)with
 |none=>rw[hv]at h;cases h
 |some x=>rw[hv]at h;cases h;rfl
theorem zwz{M M':Mem}{b:Nat}{S:List Obj}(h:zlo M b S)(hs:∀id,id<M.length->M'[id]?=M[id]?):zlo M' b S:=by
 obtain⟨o,h1,h2⟩:=h.row
 exact⟨⟨o,by rw[hs b (xaa.1 h1).1];exact h1,h2⟩,fun i f hf=>by
  have:=h.lists i f hf
  rw[hs _ (xaa.1 this).1];exact this⟩
theorem zy4{M M':Mem}{b:Nat}{S:List Obj}(h:zi6 M b S)(hs:∀id,id<M.length->M'[id]?=M[id]?):zi6 M' b S:=by
 obtain⟨o,h1,h2⟩:=h.row
 exact⟨⟨o,by rw[hs b (xaa.1 h1).1];exact h1,h2⟩,fun i f hf=>by
  have:=h.lists i f hf
  rw[hs _ (xaa.1 this).1];exact this⟩
theorem ygp(xs:List Val):(tVal.row xs).all IV.plain=true:=by
 rw[xai]
 intro v hv
 obtain⟨x,_,hx⟩:=xa8.1 hv
 simp only[tVal,xbt,xb4,or_false]at hx
 rcases hx with rfl|rfl<;>rfl
theorem zyk:∀(T:List Obj) (j:Nat),∀x∈zay (clR j T),x.own1=true
 |[],j,x,h=>by simp[clR,zay]at h
 |o::r,j,x,h=>by
  have h1:zay (clR j (o::r))=(clO j o).cells++zay (clR (j+(clL o).length) r):=rfl
  rw[h1]at h
  rcases xak.1 h with h|h
  ·simp only[clO,RO.cells,xbt,xb4,or_false]at h
   rcases h with rfl|rfl|rfl|rfl|rfl
   ·rfl
   ·rfl
   ·split<;>rfl
   ·rfl
   ·rfl
  ·exact zyk r _ x h
theorem yin{b:Nat}{T:List Obj}{X:Mem}(h:XM b T X):X.all AObj.own=true:=by
 obtain⟨ob,rfl,hr⟩:=h
 rw[xcl,xaf]
 refine⟨?_,?_⟩
 ·have ho:=zyk T (b+1)
  rcases hr with rfl|⟨cs,rfl,e⟩
  ·exact xai.2 ho
  ·refine xai.2 fun v hv=>?_
   have:=ho (.imm v) (by rw[e];exact xa9.2 ⟨v,hv,rfl⟩)
   cases v<;>first|rfl|cases this
 ·rw[xai]
  intro a ha
  obtain⟨o,_,ha⟩:=xa8.1 ha
  unfold clL at ha
  split at ha
  ·simp at ha
  ·rw[xbc.1 ha];exact ygp _
section
variable {code:Nat->Option zab} {ext:zac}
theorem ydh{sv:IV}{S:List Obj}{o:AObj}(hr:za3 (zay (twR 1 S)++zge) o)(h:callW code ext 377 [.imm sv] []=some (.osl 0 0 5 S.length (some (S.length+1)),o::S.map zcs))(A:Mem):
  ∃M1,(∀e,zcj (callW code ext) ⟨0,e,A⟩ 377 [.imm sv]=some (.osl A.length 0 5 S.length (some (S.length+1)),⟨0,e,M1⟩))/\zlo M1 A.length S/\M1.length=A.length+1+S.length/\∀id,id<A.length->M1[id]?=A[id]?:=by
 refine⟨A++(o::S.map zcs).map (AObj.ren fun i=>some (A.length+i)),fun e=>?_,⟨⟨o.ren fun i=>some (A.length+i),?_,?_⟩,fun i f hf=>?_⟩,by simp;omega,fun id hid=>xac hid⟩
 ·simp only[zcj,xba,List.mapM_nil,frz,za5,xal,xct,xcf,xbi,h]
  simp[AV.isImm,AV.ren]
 ·rw[xah (xan _),Nat.sub_self];rfl
 ·have:=z2h (f:=fun i=>some (A.length+i)) hr
  rw[yev,z3r S 1 (A.length+1) fun i _=>by rw[xb5]]at this
  exact this
 ·rw[xa1,z9s,xah (by omega)]
  have e:A.length+1+i-A.length=i+1:=by omega
  rw[e,xbb,xap,hf];rfl
theorem z1r{sv:IV}{N:Nat}{R:List IV}(h:callW code ext 488 [.imm sv] []=some (.optr 0 0,[.rich [.osl 1 0 5 N (some (N+1))],.flat R false]))(M3:Mem):
  ∀e,zcj (callW code ext) ⟨0,e,M3⟩ 488 [.imm sv]=some (.optr M3.length 0,⟨0,e,M3++[.rich [.osl (M3.length+1) 0 5 N (some (N+1))],.flat R false]⟩):=by
 intro e
 simp only[zcj,xba,List.mapM_nil,frz,za5,xal,xct,xcf,xbi,h]
 simp[AV.isImm,AV.ren,AObj.ren,AV.ren.renL]
end
section
variable {code:Nat->Option zab} {ext:zac}
abbrev tsv(S:List Obj):IV:=.slice (tObj.row (S.map zal++[zat])) 0 S.length (some (S.length+1))
theorem z8b{M:Mem}{q r N c:Nat}{R:List IV}(h0:M[q]?=some (.rich [.osl r 0 5 N (some c)]))(h1:M[r]?=some (.flat R false)):frz M (.optr q 0)=some (.imm (.ptr [.slice R 0 N (some c)] 0)):=by
 have h2:za5 M 19 (.osl r 0 5 N (some c))=some (.slice R 0 N (some c)):=by
  show(match M[r]? with
    |some (.flat cells _)=>some (IV.slice cells 0 N (some c))
    |some (.rich cells)=>(cells.mapM (za5 M 18)).map fun row=>.slice row 0 N (some c)
    |_=>none)=_
  rw[h1]
 have h3:za5 M 20 (.optr q 0)=some (.ptr [.slice R 0 N (some c)] 0):=by
  show(match M[q]? with
    |some (.flat cells _)=>some (IV.ptr cells 0)
    |some (.rich cells)=>(cells.mapM (za5 M 19)).map fun row=>.ptr row 0
    |_=>none)=_
  rw[h0]
  dsimp only
  rw[xba,h2];rfl
 show(za5 M 20 (.optr q 0)).map AV.imm=_
 rw[h3];rfl
end
section
variable {code:Nat->Option zab} {ext:zac}
theorem yg2(h:code 379=some zhl)(h':code 372=some zpl)(iv:IV)(xs:List Obj)(hr:zao tObj iv xs)(hb:∀o∈xs,o.l.xs.length<=1000000){s:St}
  (hst:s.tidy [0,3,4]=⟨0,[(0,.imm iv),(3,.osl 0 0 5 0 (some (xs.length+1))),(4,zaa 0)],[.flat (tObj.part zgm [] (xs.length+1)) false]⟩):
  ∃e s',den code ext (.loop [0,3,4] zso) s=some (e,s')/\e≠ .normal/\
   (e=.exit 0/\s'=⟨0,[(0,.imm iv),(3,.osl 0 0 5 xs.length (some (xs.length+1))),(4,zaa xs.length),(12,avb false)],[.flat (tObj.part zgm (xs.map zal) 1) false]⟩):=by
 refine zb1 (fun n s=>∃i,i+n=xs.length/\s.tidy [0,3,4]=⟨0,[(0,.imm iv),(3,.osl 0 0 5 i (some (xs.length+1))),(4,zaa (i:Nat))],[.flat (tObj.part zgm ((xs.map zal).take i) (n+1)) false]⟩) _ ?_ xs.length _ ⟨0,by simp,by simpa using hst⟩
 clear hst
 rintro n s ⟨i,hi,hst⟩
 rw[hst]
 have hlen:=zaz hr
 have hbl:=hr.2.1
 by_cases hlt:i<xs.length
 ·obtain⟨row,off,cap,rfl,hc,hcut,hget⟩:=zb6 hr (xab hlt)
  have e1:IntKind.wrap .i64 ((i:Int)+1)=(i:Int)+1:=zap (by omega) (by omega)
  obtain⟨m,rfl⟩:∃m,n=m+1:=⟨n-1,by omega⟩
  have hlt':(i:Int)<xs.length:=by omega
  have hob:=hb _ (xa7 hlt)
  have htk:xs.take (i+1)=xs.take i++[xs[i]]:=by rw[xbk,xab hlt];rfl
  have hti:((xs.map zal).take i).length=i:=by rw[xca,xam];omega
  have hset:=zqz tObj (by decide) zgm ((xs.map zal).take i) (m+1) (zal xs[i])
  rw[hti]at hset
  have hset2:(xs.map zal).take i++[zal xs[i]]=(xs.map zal).take (i+1):=by rw[<-List.map_take,<-List.map_take,htk,xcu];rfl
  rw[hset2]at hset
  have hfit:(i+1)*5<=(tObj.part zgm ((xs.map zal).take i) (m+1+1)).length:=by
   rw[zqy,hti];exact xb8 _ (by omega)
  have hto:=yg1 (ext:=ext) h h' xs[i] (by omega)
  generalize xs[i]=o at hget hto hset
  simp only[tObj]at hget
  have henc:tObj.enc (zal o)=[.val (.int .u8 o.k),.val (.string o.s),zfn tVal zdq o.l.xs,.val (.int .i64 o.room),.val (.int .i64 o.fn)]:=rfl
  rw[henc,show tObj.sz=5 from rfl]at hset
  refine⟨.normal,⟨0,[(0,.imm (.slice row off xs.length cap)),(3,.osl 0 0 5 (i+1) (some (xs.length+1))),(4,zaa ((i:Int)+1))],[.flat (tObj.part zgm ((xs.map zal).take (i+1)) (m+1)) false,.flat [.val (.int .u8 o.k),.val (.string o.s),zfn tVal zdq o.l.xs,.val (.int .i64 o.room),.val (.int .i64 o.fn)] false]⟩,?_,.inl ⟨rfl,m,by omega,i+1,by omega,?_⟩⟩
  ·simp -implicitDefEqProofs [zso,hlt',hget,hto,za0,za1,elems,e1,hset,hfit,show i+1<=xs.length+1 by omega]
  ·simp -implicitDefEqProofs
 ·have:i=xs.length:=by omega
  subst this
  refine⟨.exit 0,⟨0,[(0,.imm iv),(3,.osl 0 0 5 xs.length (some (xs.length+1))),(4,zaa xs.length),(12,avb false)],[.flat (tObj.part zgm (xs.map zal) 1) false]⟩,?_,.inr ⟨by simp,rfl,rfl⟩⟩
  have:n=0:=by omega
  subst this
  simp -implicitDefEqProofs [zso,hlen]
  rw[List.take_of_length_le (by simp)]
theorem yg8(h:code 379=some zhl)(h':code 372=some zpl)(h2:code 373=some zw7)(h3:code 377=some zk7){iv:IV}{xs:List Obj}(hr:zao tObj iv xs)(hb:∀o∈xs,o.l.xs.length<=1000000)(hl:xs.length<=1048576):
  callW code ext 377 [.imm iv] []=some (.osl 0 0 5 xs.length (some (xs.length+1)),[.flat (tObj.row (xs.map zal++[zat])) false]):=by
 have hcp:zar (xs.length+1) [IV.val (.int .u8 0),.val (.string .empty),.val (.slice none 0 0),.val (.int .i64 0),.val (.int .i64 0)]=tObj.part zgm [] (xs.length+1):=zul (t:=tObj) (xs.length+1) zgm
 have hlen:=zaz hr
 obtain⟨e,s',h1,_,rfl,rfl⟩:=yg2 (ext:=ext) h h' iv xs hr hb (s:=⟨0,[(0,.imm iv),(3,.osl 0 0 5 0 (some (xs.length+1))),(4,zaa 0)],[.flat (tObj.part zgm [] (xs.length+1)) false]⟩) (by simp -implicitDefEqProofs)
 have e1:IntKind.wrap .i64 ((xs.length:Int)+1)=(xs.length:Int)+1:=zap (by omega) (by omega)
 have e2:(0:Int)<=(xs.length:Int)+1:=by omega
 have e3:(64:Int)*((xs.length:Int)+1)<=281474976710656:=by omega
 have e4:(xs.length:Int)+1<=9223372036854775807:=by omega
 have e6:(xs.length:Int)<=(xs.length:Int)+1:=by omega
 have e5:((xs.length:Int)+1).toNat=xs.length+1:=by omega
 have hset:=zqz tObj (by decide) zgm (xs.map zal) 0 zat
 have hfin:tObj.part zgm (xs.map zal++[zat]) 0=tObj.row (xs.map zal++[zat]):=by unfold Ty.part;simp
 have hfit:(xs.length+1)*5<=(tObj.part zgm (xs.map zal) (0+1)).length:=by rw[zqy,xam];exact xan _
 rw[hfin,xam]at hset
 simp only[xau]at hset hfit
 have henc:tObj.enc zat=[.val (.int .u8 0),.val (.string ⟨#[115,112,97,114,101]⟩),.val (.slice none 0 0),.val (.int .i64 0),.val (.int .i64 0)]:=rfl
 rw[henc,show tObj.sz=5 from rfl]at hset
 have hobjs:callW code ext 373 [.imm iv] []=some (.osl 0 0 5 xs.length (some (xs.length+1)),[.flat (tObj.row (xs.map zal++[zat])) false]):=by
  rw[zad code ext h2]
  simp -implicitDefEqProofs [zw7,hlen,e1,e2,e3,e4,e5,e6,hcp,h1,za0,za1,elems,hset,hfit,zf6]
 rw[zad code ext h3]
 have hown:(tObj.row (xs.map zal++[zat])).all IV.plain=false\/(tObj.row (xs.map zal++[zat])).all IV.plain=true:=by cases (tObj.row (xs.map zal++[zat])).all IV.plain<;>simp
 simp -implicitDefEqProofs [zk7,hobjs]
theorem zx7(h:code 487=some zs6)(h1:code 380=some zj2)(h2:code 338=some zj0)(h3:code 339=some zm3)(h4:code 361=some zpk){iv:IV}{S:List Obj}(hr:zao tObj iv S):
  ∃m,callW code ext 487 [.imm iv] []=some (avb (decide (50000<zdp S.length S)),m):=by
 have hs:=ygj (ext:=ext) h1 h2 h3 h4 hr
 refine zfw ?_
 rw[zad code ext h]
 simp -implicitDefEqProofs [zs6,hs]
theorem zrd(h:code 490=some zpn)(h1:code 492=some zk8){av hv tv sv:IV}{k n w w':Int}{t:ByteArray}
  (hs:callW code ext 355 [.imm av,.imm hv] []=some (avb true,[])) (hl:callW code ext 334 [.imm tv,.imm sv] []=some (avb true,[])) (hw:w=if t=.empty then w' else 0):
  ∃m,callW code ext 490 [.agg [.imm av,.imm (.val (.int .u8 k)),zaa n,zaq t,zaa w],.imm (.ptr [hv] 0),za2 k n t w',.imm tv,.imm sv] []=some (avb true,m):=by
 obtain⟨m1,hr⟩:=yfy (ext:=ext) h1 k n t w'
 rw[<-hw]at hr
 refine zfw ?_
 rw[zad code ext h]
 unfold za2 at *
 simp -implicitDefEqProofs [zpn,hs,hl,hr]
end
section
variable {ext:zac}
structure zlh (T:List Obj):Prop where
 wf:∀o∈T,tObj.wf o
 n:T.length<=50000
 s:∀o∈T,o.s.size<=50000
 l:∀o∈T,o.l.xs.length<=50000
 sum:zgh T<=50000
theorem zrm{T:List Obj}(h:zlh T):zao tObj (.slice (zrl T) 0 T.length (some (T.length+1))) T:=
 ⟨h.wf,by have:=h.n;omega,.inr ⟨_,0,_,rfl,fun c hc=>by cases hc;exact Nat.le_succ _,zy3 T⟩⟩
section
variable {T:List Obj} (h:zlh T)
include h
end
end
section
variable {ext:zac}
theorem LikeObj.symm{a b:Obj}(h:LikeObj a b):LikeObj b a:=⟨h.1.symm,h.2.1.symm,h.2.2.1.symm,h.2.2.2.1.symm,h.2.2.2.2.symm⟩
theorem z5u{t:ByteArray}(ht:t.size<=4096):ze9 [zb7 t]=zbf (zb7 t):=by
 have:=yhp t ht
 show IntKind.wrap .i64 (0+zbf (zb7 t))=_
 rw[Int.zero_add]
 exact zap (by omega) (by omega)
theorem z4a{t:ByteArray}(ht:t.size<=4096):tObj.wf (zb7 t):=by
 have h3:(zct .u8).wf (3:Int):=wfU8.2 ⟨by decide,by decide⟩
 have h0:(zct .i64).wf (0:Int):=wfI64.2 ⟨by decide,by decide⟩
 refine⟨h3,?_,h0,h0⟩
 show t.size<=_
 exact xci ht (by decide)
end
section
variable {ext:zac}
theorem z8p{S:List Obj}(hw:∀o∈S,tObj.wf o)(h:zdp S.length S<=50000):zlh (S.map zal):=by
 obtain⟨h1,h2,h3,h4⟩:=z3c hw h
 refine⟨fun x hx=>?_,by rw[xam];omega,fun x hx=>?_,fun x hx=>?_,?_⟩
 ·obtain⟨o,ho,rfl⟩:=xa9.1 hx;exact hw o ho
 ·obtain⟨o,ho,rfl⟩:=xa9.1 hx;exact h3 o ho
 ·obtain⟨o,ho,rfl⟩:=xa9.1 hx;exact h4 o ho
 ·have:∀(l:List Obj),zgh (l.map zal)=zgh l:=by
   intro l
   induction l with
   |nil=>rfl
   |cons o l ih=>rw[xa1,zgh,zgh,ih];rfl
  rw[this];exact h1
end
section
variable {code:Nat->Option zab} {ext:zac}
structure zp1 (code:Nat->Option zab):Prop where
 c490:code 490=some zpn
 c492:code 492=some zk8
 c355:code 355=some zpi
 c352:code 352=some zm4
 c351:code 351=some zk5
 c357:code 357=some zj1
 c334:code 334=some zpf
 c330:code 330=some zpe
 c329:code 329=some zm2
 c336:code 336=some zk4
end
def zxo(T:List Obj)(ck:Val->Bool)(v k:Val)(kk n:Int)(t:ByteArray)(B:List ByteArray):Prop:=
 (zhb ck v k=true/\GetIs T v k kk n t B)\/(zhb ck v k=false/\kk=0/\n=0/\t=zdm/\B=[])
theorem zms(T:List Obj)(a b:Val):zdw (T.map zae) a b=zdw T a b:=by
 have e:∀v,zeq (T.map zae) v=zeq T v:=by
  intro v
  unfold zeq zjo
  rw[zvj (zmb T)]
  cases zau T v with
  |none=>rfl
  |some p=>
   simp only[xbi,xap]
   cases T[p]?<;>rfl
 unfold zdw
 rw[e,e]
theorem z5x(T:List Obj)(xs:List Val)(k:Val):∃r,AtV T xs k r:=by
 have key:∀n:Nat,(∃r,AtV T xs k r)\/∀(j:Nat) a,j<n->xs[2*j]?=some a->zdw T a k=false:=by
  intro n
  induction n with
  |zero=>exact .inr fun j a h=>absurd h (xcn _)
  |succ n ih=>
   rcases ih with h|h
   ·exact .inl h
   ·cases hx:xs[2*n]? with
    |none=>
     refine .inr fun j a hj ha=>?_
     by_cases hjn:j=n
     ·subst hjn;rw[hx]at ha;cases ha
     ·exact h j a (by omega) ha
    |some b=>
     cases hs:zdw T b k with
     |true=>exact .inl ⟨_,.inr ⟨n,b,rfl,hx,hs,fun i c hi hc=>h i c hi hc⟩⟩
     |false=>
      refine .inr fun j a hj ha=>?_
      by_cases hjn:j=n
      ·subst hjn;rw[hx]at ha;cases ha;exact hs
      ·exact h j a (by omega) ha
 rcases key (xs.length+1)with h|h
 ·exact h
 ·refine⟨-1,.inl ⟨rfl,fun j a ha=>h j a ?_ ha⟩⟩
  have:=(xaa.1 ha).1
  omega
section
variable {code:Nat->Option zab} {ext:zac}
theorem z8j(c:DoQ code){T:List Obj}(hn:T.length<=1000000)(hS:∀o∈T,o.l.xs.length<=1000000){v k:Val}(hw:∀x∈[v,k],tVal.wf x)(h7:([v,k].any fun v=>decide (v.k=7))=false)(cv:zcq T v)(ckk:zcq T k):
  ∃kk n t B,GetIs T v k kk n t B/\
   ((B=[]/\callW code ext 206 [.optr 0 0,.agg [.imm (.val (.int .u8 24)),zaa 0,.osl 1 0 2 2 (some 2),zaf]] (sL false (T.map zae) (tVal.row [v,k]) 0)=some (zbk kk n t,sL false (T.map zae) (tVal.row [v,k]) 0))\/
    (∃s,s.size<=4096/\B=[s]/\kk=3/\n=((T.length+1:Nat):Int)/\t=.empty/\callW code ext 206 [.optr 0 0,.agg [.imm (.val (.int .u8 24)),zaa 0,.osl 1 0 2 2 (some 2),zaf]] (sL false (T.map zae) (tVal.row [v,k]) 0)=some (zbk 3 ((T.length+1:Nat):Int) .empty,sKM false (T.map zae) (tVal.row [v,k]) (zdd s) (zbf (zdd s))))):=by
 have hTl:(T.map zae).length=T.length:=xam ..
 have d1:=fun kk n t=>(z7c (ext:=ext) c.toPlainFns false (T.map zae) hw h7 kk n t).2
 have hlead:∀p o,zau T v=some p->T[p]?=some o->zau (T.map zae) v=some p/\(T.map zae)[p]?=some (zae o):=fun p o h1 h2=>⟨by rw[zvj (zmb T)];exact h1,z0b h2⟩
 by_cases v5:v.k=5
 ·obtain⟨p,o,p1,p2,p3,p4⟩:=zue cv (by omega)
  obtain⟨q1,q2⟩:=hlead p o p1 p2
  have ok:=(zoc (by omega)).1 p4
  have hev:=zzn ok.2.2.1
  have hl:=hS o (xag p2)
  have hkt:zbw (T.map zae) k:=zrr (zmb T) ckk.1
  have hxt:∀(j:Nat) a,(zae o).l.xs[2*j]?=some a->zbw (T.map zae) a:=fun j a hy=>by
   rw[zg4]at hy
   exact zrr (zmb T) (zva ok.2.2.2.2.2.2.1 a (xag hy))
  obtain⟨r,hr⟩:=z5x T o.l.xs k
  have hr':AtV (T.map zae) (zae o).l.xs k r:=by
   rw[zg4]
   rcases hr with⟨e,h1⟩|⟨j,a,e,h1,h2,h3⟩
   ·exact .inl ⟨e,fun j a hj=>by rw[zms];exact h1 j a hj⟩
   ·exact .inr ⟨j,a,e,h1,by rw[zms];exact h2,fun i b hi hb=>by rw[zms];exact h3 i b hi hb⟩
  rcases hr with⟨rfl,h1⟩|⟨j,a,rfl,h1,h2,h3⟩
  ·exact⟨0,0,.empty,[],.no v5 p1 p2 (.inl ⟨rfl,h1⟩),.inl ⟨rfl,d1 _ _ _ (ya8 (ext:=ext) c.toPlainFns (by omega) v5 q1 q2 (by rw[zg4];exact hl) hkt hxt hr')⟩⟩
  ·have hj:=(xaa.1 h1).1
   obtain⟨x,hx⟩:∃x,o.l.xs[2*j+1]?=some x:=⟨_,xab (by omega)⟩
   exact⟨x.k,x.n,.empty,[],.key v5 p1 p2 (.inr ⟨j,a,rfl,h1,h2,h3⟩) hx,.inl ⟨rfl,d1 _ _ _ (ya6 (ext:=ext) c.toPlainFns (by omega) v5 q1 q2 (by rw[zg4];exact hl) hkt hxt hr' (by rw[zg4];exact hx))⟩⟩
 ·by_cases h43:(v.k=4\/v.k=3)/\k.k=2
  ·obtain⟨v43,k2⟩:=h43
   obtain⟨p,o,p1,p2,p3,p4⟩:=zue cv (by omega)
   obtain⟨q1,q2⟩:=hlead p o p1 p2
   have hl:=hS o (xag p2)
   have hcs:(zae o).s=o.s:=rfl
   have hsz:o.s.size<=4096:=by
    rcases v43 with v4|v3
    ·have:=((zqv (by omega)).1 p4).1
     rw[this];decide
    ·unfold zan at p4
     rw[if_pos (by omega)]at p4
     exact p4.1
   by_cases hb:k.n<0\/((o.l.xs.length+o.s.size:Nat):Int)<=k.n
   ·exact⟨0,0,zho,[],.bounds v43 k2 p1 p2 hsz hb,.inl ⟨rfl,d1 _ _ _ (ya3 (ext:=ext) c.toPlainFns (by omega) v43 k2 q1 q2 (by rw[zg4];exact hl) hsz (by rw[zg4];exact hb))⟩⟩
   ·obtain⟨i,hi⟩:∃i:Nat,k.n=i:=⟨k.n.toNat,by omega⟩
    rcases v43 with v4|v3
    ·have hs:=((zqv (by omega)).1 p4).1
     have hz:o.s.size=0:=by rw[hs];rfl
     obtain⟨x,hx⟩:∃x,o.l.xs[i]?=some x:=⟨_,xab (by omega)⟩
     exact⟨x.k,x.n,.empty,[],.item v4 k2 p1 p2 hs hi hx,.inl ⟨rfl,d1 _ _ _ (ya5 (ext:=ext) c.toPlainFns (by omega) v4 k2 q1 q2 (by rw[zg4];exact hl) hs hi (by rw[zg4];exact hx))⟩⟩
    ·have hx0:o.l.xs=[]:=by
      unfold zan at p4
      rw[if_pos (by omega)]at p4
      exact p4.2.1
     have hl0:o.l.xs.length=0:=by rw[hx0];rfl
     have hlt:i<o.s.size:=by omega
     have h1:=ya4 (ext:=ext) c.toPlainFns (T:=T.map zae) (by omega) v3 k2 q1 q2 (by rw[zg4];exact hx0) hsz hi hlt
     rw[hTl]at h1
     exact⟨3,((T.length+1:Nat):Int),.empty,_,.byte v3 k2 p1 p2 hsz hx0 hi hlt,.inr ⟨_,by rw[ByteArray.size_extract];omega,rfl,rfl,rfl,rfl,(z7d (ext:=ext) c.toPlainFns false (T.map zae) hw h7 _ _ _ _ _).2 h1⟩⟩
  ·have hno:¬(v.k=5\/((v.k=4\/v.k=3)/\k.k=2)):=fun h=>h.elim v5 h43
   exact⟨0,0,zdm,[],.kind hno,.inl ⟨rfl,d1 _ _ _ (ya7 (ext:=ext) c.toPlainFns false _ hno)⟩⟩
def znj(code:Nat->Option zab)(ext:zac)(sv:IV)(T:List Obj)(ck:Val->Bool)(v k:Val):Prop:=
 ∃(kk n:Int) (t:ByteArray) (B:List ByteArray) (X:Mem) (TD:List Obj),zxo T ck v k kk n t B/\(B=[]\/∃s,s.size<=4096/\B=[s]/\t=.empty)/\XM 0 TD X/\TD.length=T.length+B.length/\zei (T++B.map zb7) TD/\
  callW code ext 630 [.imm sv,zag v,zag k] []=some (.agg [.osl 0 0 5 TD.length (some TD.length),.imm (.val (.int .u8 kk)),zaa n,zaq t,zaa (zx1 B)],X)
theorem z8i(c:DoQ code)(kt:zlp code ext)(h:code 630=some x630Q){sv:IV}{T:List Obj}(hr:zao tObj sv T)(hz:zbs sv=false)(hS:∀o∈T,o.l.xs.length<=1000000)(hn:T.length<=900000){ck:Val->Bool}{v k:Val}(hw:∀x∈[v,k],tVal.wf x)
  (h646:∀y∈[v,k],callW code ext 646 [.imm sv,.agg [.imm (.val (.int .u8 y.k)),zaa y.n]] []=some (avb (ck y),[])) (ha:ck v=true) (hb:ck k=true) (hck:∀y∈[v,k],ck y=true->zcq T y):znj code ext sv T ck v k:=by
 have hq:=zp5 (ext:=ext) c sv [v,k] ck (by simp) h646
 have hq0:([v,k].any fun v=> !ck v)=false:=by simp[ha,hb]
 rw[hq0]at hq
 have hA:=zyv hr.1
 have hTl:(T.map zae).length=T.length:=xam ..
 cases h7:[v,k].any fun v=>decide (v.k=7)with
 |true=>
  have hm:zhb ck v k=false:=by
   unfold zhb
   cases hh:([v,k].all fun v=>decide (v.k≠7)&&ck v)with
   |false=>rfl
   |true=>
    obtain⟨y,hy,h7'⟩:=xcb.1 h7
    have:=xai.1 hh y hy
    simp at h7' this
    exact absurd h7' this.1
  have hd:=zy7 (ext:=ext) c.toPlainFns false (T.map zae) 24 0 (by decide) (by decide) (by simp) hw h7
  obtain⟨X,hX,h2⟩:=zqh (ext:=ext) h (by rw[hTl];omega) (zuo (ext:=ext) c kt hr hz hS (by omega) (by simp) hq 24 0 0 0 zdm hd)
  exact⟨0,0,zdm,[],X,_,.inr ⟨hm,rfl,rfl,rfl,rfl⟩,.inl rfl,hX,by simp,by simpa using hA,by rw[hTl];exact h2⟩
 |false=>
  have hm:zhb ck v k=true:=by
   unfold zhb
   rw[xai]
   intro y hy
   rw[List.any_eq_false]at h7
   have h8:¬y.k=7:=by simpa using h7 y hy
   have h9:ck y=true:=by
    simp only[xbt,xb4,or_false]at hy
    rcases hy with e1|e1<;>rw[e1]<;>assumption
   simp[h8,h9]
  obtain⟨kk,n,t,B,hg,hd⟩:=z8j (ext:=ext) c (T:=T) (by omega) hS hw h7 (hck v (by simp) ha) (hck k (by simp) hb)
  rcases hd with⟨rfl,hd⟩|⟨s,hs,rfl,rfl,rfl,rfl,hd⟩
  ·obtain⟨X,hX,h2⟩:=zqh (ext:=ext) h (by rw[hTl];omega) (zuo (ext:=ext) c kt hr hz hS (by omega) (by simp) hq 24 0 _ _ _ hd)
   exact⟨kk,n,t,[],X,_,.inl ⟨hm,hg⟩,.inl rfl,hX,by simp,by simpa using hA,by rw[hTl];exact h2⟩
  ·obtain⟨X,hX,h2⟩:=zqh (ext:=ext) h (by rw[xao,hTl];simp;omega) (z7b (ext:=ext) c kt hr hz hS (by omega) (by simp) hq 24 0 _ _ _ (show(zdd s).l.xs=[]from rfl) _ hd)
   refine⟨3,_,.empty,[s],X,_,.inl ⟨hm,hg⟩,.inr ⟨s,hs,rfl,rfl⟩,hX,by simp,?_,?_⟩
   ·exact z5c hA (x:=zb7 s) (z4a hs)
   ·have:(T.map zae++[zdd s]).length=T.length+1:=by simp
    rw[this];exact h2
theorem z8h(c:DoQ code)(h:code 630=some x630Q){sv:IV}{T:List Obj}(hr:zao tObj sv T){X:Mem}(hX:XM 0 T X)(hn:T.length<=900000)(h1:callW code ext 643 [.imm sv] []=some (.osl 0 0 5 T.length (some T.length),X)){ck:Val->Bool}{v k:Val}
  (h646:∀y∈[v,k],callW code ext 646 [.imm sv,.agg [.imm (.val (.int .u8 y.k)),zaa y.n]] []=some (avb (ck y),[])) (hno:¬(ck v=true/\ck k=true)):znj code ext sv T ck v k:=by
 have hq:=zp5 (ext:=ext) c sv [v,k] ck (by simp) h646
 have hq0:([v,k].any fun v=> !ck v)=true:=by
  cases ha:ck v with
  |false=>simp[ha]
  |true=>
   cases hb:ck k with
   |false=>simp[hb]
   |true=>exact absurd ⟨ha,hb⟩ hno
 rw[hq0]at hq
 have hm:zhb ck v k=false:=by
  unfold zhb
  cases hh:([v,k].all fun v=>decide (v.k≠7)&&ck v)with
  |false=>rfl
  |true=>
   have h1:=xai.1 hh v (by simp)
   have h2:=xai.1 hh k (by simp)
   simp only[xaf]at h1 h2
   exact absurd ⟨h1.2,h2.2⟩ hno
 obtain⟨X',hX',hc⟩:=zqh (ext:=ext) h (by omega) (zy6 (ext:=ext) c hX (by omega) h1 hq 24 0)
 exact⟨0,0,zdm,[],X',T,.inr ⟨hm,rfl,rfl,rfl,rfl⟩,.inl rfl,hX',by simp,by simpa using zt8 hr.1,hc⟩
end
end Go.EX

