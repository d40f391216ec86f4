import Derived.Test.YtjdfihnmpmckjaaGreatDoorK12
set_option linter.unusedVariables false
set_option linter.unusedSimpArgs false
namespace Go.EX
section
variable {code:Nat→Option XFun} {ext:Calls'}
def AddShapeT(t:TP)(k:Nat)(out:List Nat)(o:AV)(tail:Mem):Prop:=
 (k=4∧((out=[]∧o=nilS∧tail=[])∨(o=.osl 4 0 1 out.length none∧tail=[.rich (ptrsT t out)])))∨(k=5∧((o=.osl 4 0 1 out.length none∧tail=[.rich (ptrsT t out)])∨(o=.osl 5 0 1 out.length none∧tail=[.dead,.rich (ptrsT t out)])))
theorem ztk(n:Nat)(out:List Nat)(h:out.Nodup)(hl:∀k∈out,k<n):out.length≤n:=by
 have hp:out.Perm ((List.range n).filter fun k=>decide (k∈out)):=(List.perm_ext_iff_of_nodup h (List.nodup_range.filter _)).2 fun k=>by
  rw[List.mem_filter,List.mem_range]
  exact⟨fun hk=>⟨hl k hk,by simpa using hk⟩,fun hk=>by simpa using hk.2⟩
 rw[hp.length_eq]
 exact Nat.le_trans (List.length_filter_le _ _) (by simp)
theorem zae{sA:AV}{t:TP}{T:List Obj}(hT:StoreT code ext sA t T)(hb:T.length≤1048576)(lv:IV)(l:List Val)(hl:Reads tVal lv l)(k:Nat)(out:List Nat)(o:AV)(tail:Mem)(hsh:AddShapeT t k out o tail)(hnd:out.Nodup)(hlt:∀q∈out,q<T.length){s:St}
  (hst:s.tidy [1,2,3,8,9,10]=⟨k,addEnvT lv l.length 0,addBaseT sA t out o++tail⟩):
  ∃e s',den code ext (.loop [1,2,3,8,9,10] x655L1) s=some (e,s')∧e≠ .normal∧
   (e=.exit 0∧∃o' tail',AddShapeT t k (addAll T out l) o' tail'∧(addAll T out l=out→o'=o∧tail'=tail)∧(addAll T out l≠out→o'=.osl k 0 1 (addAll T out l).length none)∧
    s'=⟨k,addEnvT lv l.length l.length++[(11,avb false)],addBaseT sA t (addAll T out l) o'++tail'⟩):=by
 refine zjp (fun n s=>∃(i:Nat) (out1:List Nat) (o1:AV) (tail1:Mem),i+n=l.length∧addAll T out l=addAll T out1 (l.drop i)∧AddShapeT t k out1 o1 tail1∧out1.Nodup∧(∀q∈out1,q<T.length)∧
  (∃r,out1=out++r∧(r=[]→o1=o∧tail1=tail)∧(r≠[]→o1=.osl k 0 1 out1.length none))∧s.tidy [1,2,3,8,9,10]=⟨k,addEnvT lv l.length i,addBaseT sA t out1 o1++tail1⟩) _ ?_ l.length _ ⟨0,out,o,tail,by simp,by simp,hsh,hnd,hlt,⟨[],by simp,fun _=>⟨rfl,rfl⟩,fun h=>absurd rfl h⟩,hst⟩
 clear hst hsh hnd hlt s
 rintro n s ⟨i,out1,o1,tail1,hi,ha,hsh,hnd,hlt,⟨r,hr,hr1,hr2⟩,hst⟩
 rw[hst]
 by_cases hil:i<l.length
 ·have hv:=List.getElem?_eq_getElem hil
  rw[List.drop_eq_getElem_cons hil,addAll]at ha
  obtain⟨row,off,cap,rfl,_,_,_⟩:=zps hl hv
  generalize l[i]=v at hv ha
  cases hq:leadsOf T v with
  |none=>
   rw[hq]at ha
   obtain⟨s',g1,g2⟩:=zag (code:=code) (ext:=ext) hT row off cap l hl out1 i v hv (.inl hq) k o1 tail1 hsh
   exact⟨.normal,s',g1,.inl ⟨rfl,n-1,by omega,i+1,out1,o1,tail1,by omega,ha,hsh,hnd,hlt,⟨r,hr,hr1,hr2⟩,by rw[g2];rfl⟩⟩
  |some q=>
   rw[hq]at ha
   by_cases hm:q∈out1
   ·dsimp only at ha
    rw[if_pos hm]at ha
    obtain⟨s',g1,g2⟩:=zag (code:=code) (ext:=ext) hT row off cap l hl out1 i v hv (.inr ⟨q,hq,hm⟩) k o1 tail1 hsh
    exact⟨.normal,s',g1,.inl ⟨rfl,n-1,by omega,i+1,out1,o1,tail1,by omega,ha,hsh,hnd,hlt,⟨r,hr,hr1,hr2⟩,by rw[g2];rfl⟩⟩
   ·dsimp only at ha
    rw[if_neg hm]at ha
    have hlen:=ztk T.length out1 hnd hlt
    obtain⟨s',g1,g2⟩:=zaf (code:=code) (ext:=ext) hT row off cap l hl out1 (by omega) i v hv q hq hm k o1 tail1 hsh
    refine⟨.normal,s',g1,.inl ⟨rfl,n-1,by omega,i+1,out1++[q],.osl k 0 1 (out1.length+1) none,(if k=4 then[]else[.dead])++[.rich (ptrsT t (out1++[q]))],by omega,ha,?_,?_,?_,⟨r++[q],by rw[hr];simp,fun h=>by simp at h,fun _=>by simp⟩,by rw[g2,List.append_assoc];rfl⟩⟩
    ·rcases hsh with⟨rfl,_⟩|⟨rfl,_⟩
     ·exact .inl ⟨rfl,.inr ⟨by simp,by simp⟩⟩
     ·exact .inr ⟨rfl,.inr ⟨by simp,by simp⟩⟩
    ·rw[List.nodup_append]
     exact⟨hnd,by simp,fun a ha' b hb'=>by simp at hb';subst hb';exact fun e=>hm (e▸ha')⟩
    ·intro p hp
     rw[List.mem_append,List.mem_singleton]at hp
     rcases hp with hp|rfl
     ·exact hlt p hp
     ·exact(zi0 hq).1
 ·have:i=l.length:=by omega
  subst this
  rw[List.drop_eq_nil_of_le (Nat.le_refl _),addAll]at ha
  refine⟨.exit 0,⟨k,addEnvT lv l.length l.length++[(11,avb false)],addBaseT sA t (addAll T out l) o1++tail1⟩,?_,.inr ⟨by simp,rfl,o1,tail1,by rw[ha];exact hsh,fun he=>hr1 ?_,fun he=>?_,rfl⟩⟩
  ·rw[ha]
   simp -implicitDefEqProofs [x655L1]
  ·rw[ha,hr]at he
   simpa using he
  ·rw[ha]
   refine hr2 fun e=>he ?_
   rw[ha,hr,e];simp
theorem zah{sA:AV}{t:TP}{T:List Obj}(hT:StoreT code ext sA t T)(h':code 655=some x655)(hb:T.length≤1048576)(lv:IV)(l:List Val)(hl:Reads tVal lv l)(k:Nat)(out:List Nat)(o:AV)(tail:Mem)(hsh:AddShapeT t k out o tail)(hk:(addBaseT sA t out o++tail).length=k)(hnd:out.Nodup)(hlt:∀q∈out,q<T.length):
  ∃o' tail',AddShapeT t k (addAll T out l) o' tail'∧(addAll T out l=out→o'=o∧tail'=tail)∧(addAll T out l≠out→o'=.osl k 0 1 (addAll T out l).length none)∧
   callW code ext 655 [.imm lv,.optr 0 0,.optr 1 0,.optr 2 0] (addBaseT sA t out o++tail)=some (.tup [],addBaseT sA t (addAll T out l) o'++tail'):=by
 have hlen:=zpr hl
 have hsr:=hT.refs
 have hsn:=hT.ren
 obtain⟨e,s',h1,_,rfl,o',tail',g1,g2,g3,rfl⟩:=zae (code:=code) (ext:=ext) hT hb lv l hl k out o tail hsh hnd hlt (s:=⟨k,addEnvT lv l.length 0,addBaseT sA t out o++tail⟩) (by
  rcases hsh with⟨rfl,⟨rfl,rfl,rfl⟩|⟨rfl,rfl⟩⟩|⟨rfl,⟨rfl,rfl⟩|⟨rfl,rfl⟩⟩<;>simp -implicitDefEqProofs [addBaseT,hsr,hsn])
 refine⟨o',tail',g1,g2,g3,?_⟩
 rw[zb5 code ext h',hk]
 generalize hM:addBaseT sA t out o++tail=M at h1 ⊢
 generalize hout:addAll T out l=out' at *
 clear hsh g2 g3 hk hM
 rcases g1 with⟨rfl,⟨rfl,rfl,rfl⟩|⟨rfl,rfl⟩⟩|⟨rfl,⟨rfl,rfl⟩|⟨rfl,rfl⟩⟩
 ·simp -implicitDefEqProofs [x655,hlen,h1,addBaseT,hsr,hsn]
 ·simp -implicitDefEqProofs [x655,hlen,h1,addBaseT,hsr,hsn]
 ·simp -implicitDefEqProofs [x655,hlen,h1,addBaseT,hsr,hsn]
 ·simp -implicitDefEqProofs [x655,hlen,h1,addBaseT,hsr,hsn]
end
end Go.EX


namespace Go.EX
theorem zcd(n:Nat):AV.cells (.omap n)=some [.omap n]:=rfl
theorem zcf(i o z l:Nat)(c:Option Nat):AV.cells (.osl i o z l c)=some [.osl i o z l c]:=rfl
theorem zcc(x:IV):AV.cells (.imm x)=some [.imm x]:=rfl
section
variable {code:Nat→Option XFun} {ext:Calls'}
end
end Go.EX


namespace Go.EX
theorem zce(i o:Nat):AV.cells (.optr i o)=some [.optr i o]:=rfl
theorem zcb(l:List AV):AV.cells (.agg l)=some l:=rfl
theorem zcg(b a:Nat)(x:IV):AV.cells (.tag b a x)=some [.tag b a x]:=rfl
end Go.EX


namespace Go.EX
section
variable {code:Nat→Option XFun} {ext:Calls'}
theorem zvu{sA:AV}{t:TP}{T:List Obj}(hT:StoreT code ext sA t T)(h':code 656=some x656)(hb:T.length≤1048576)(v:Val)(hv:(tInt .i64).wf v.n):
  callW code ext 656 [sA,.agg [.imm (.val (.int .u8 v.k)),int64 v.n]] []=some (avb (valOf T v),[]):=by
 rw[zb5 code ext h']
 have hl:=hT.lead v hv
 by_cases k0:v.k=0
 ·simp -implicitDefEqProofs [x656,hT.refs,hT.ren,TP.at,valOf,k0]
 by_cases k1:v.k=1
 ·by_cases n0:v.n=0
  ·simp -implicitDefEqProofs [x656,hT.refs,hT.ren,TP.at,valOf,k1,n0]
  ·simp -implicitDefEqProofs [x656,hT.refs,hT.ren,TP.at,valOf,k1,n0]
 by_cases k2:v.k=2
 ·simp -implicitDefEqProofs [x656,hT.refs,hT.ren,TP.at,valOf,k2]
 cases hq:leadsOf T v with
 |none=>
  rw[hq,leadT]at hl
  try simp only[TP.at]at hl
  simp -implicitDefEqProofs [x656,hT.refs,hT.ren,TP.at,valOf,k0,k1,k2,hq,hl]
 |some q=>
  rw[hq,leadT]at hl
  try simp only[TP.at]at hl
  simp -implicitDefEqProofs [x656,hT.refs,hT.ren,TP.at,valOf,k0,k1,k2,hq,hl]
def mayMemT(sA:AV)(t:TP)(k:Nat):Mem:=[.rich [sA],.rich [t.at k]]
theorem zbj{sA:AV}{t:TP}{T:List Obj}(hT:StoreT code ext sA t T)(h':code 656=some x656)(h2:code 653=some x653)(hb:T.length≤1048576)(k:Nat)(o:Obj)(ho:T[k]?=some o)(v:Val)(hv:(tInt .i64).wf v.n):
  callW code ext 653 [.agg [.imm (.val (.int .u8 v.k)),int64 v.n],.optr 0 0,.optr 1 0] (mayMemT sA t k)=some (avb (badOf T o v),mayMemT sA t k):=by
 rw[zb5 code ext h2]
 have hval:=zvu (ext:=ext) hT h' hb v hv
 have g0:t.row[t.off+k*5]?=some (.val (.int .u8 o.k)):=zdz (hT.obj k o ho) 0 (by omega)
 cases hvv:valOf T v with
 |false=>
  rw[hvv]at hval
  simp -implicitDefEqProofs [x653,mayMemT,hT.refs,hT.ren,TP.at,  hval,badOf,hvv]
 |true=>
  rw[hvv]at hval
  by_cases c7:v.k=7
  ·have hval7:=hval
   rw[c7]at hval7
   have hvv7:=hvv
   by_cases c6:o.k=6
   ·simp -implicitDefEqProofs [x653,mayMemT,hT.refs,hT.ren,TP.at,  hval7,badOf,hvv,g0,c7,c6]
   ·simp -implicitDefEqProofs [x653,mayMemT,hT.refs,hT.ren,TP.at,  hval7,badOf,hvv,g0,c7,c6]
  ·by_cases c6:o.k=6
   ·simp -implicitDefEqProofs [x653,mayMemT,hT.refs,hT.ren,TP.at,  hval,badOf,hvv,g0,c7,c6]
   ·simp -implicitDefEqProofs [x653,mayMemT,hT.refs,hT.ren,TP.at,  hval,badOf,hvv,g0,c7,c6]
theorem zaq{sA:AV}{t:TP}{T:List Obj}(hT:StoreT code ext sA t T)(h':code 656=some x656)(h2:code 653=some x653)(h3:code 759=some x759)(h4:code 749=some x749)(hb:T.length≤1048576)(k:Nat)(o:Obj)(ho:T[k]?=some o){lv:IV}{l:List Val}(hl:Reads tVal lv l):
  callW code ext 749 [.imm lv,.clo 653 [.optr 0 0,.optr 1 0]] (mayMemT sA t k)=some (avb (l.any (badOf T o)),mayMemT sA t k):=by
 have hlen:=zpr hl
 have hbl:=hl.2.1
 have loop:∃e s',den code ext (.loop [0,1,7,8] x759L1) ⟨2,[(0,.imm lv),(1,.clo 653 [.optr 0 0,.optr 1 0]),(7,int64 l.length),(8,int64 0)],mayMemT sA t k⟩=some (e,s')∧e≠ .normal∧
   ((e=.exit 0∧l.any (badOf T o)=false∧s'=⟨2,[(0,.imm lv),(1,.clo 653 [.optr 0 0,.optr 1 0]),(7,int64 l.length),(8,int64 l.length),(9,avb false)],mayMemT sA t k⟩)∨(e=.ret∧l.any (badOf T o)=true∧∃i:Nat,s'=⟨2,[(4,int64 (i:Nat))],mayMemT sA t k⟩)):=by
  refine zjp (fun n s=>∃(i:Nat),i+n=l.length∧(l.take i).any (badOf T o)=false∧s=⟨2,[(0,.imm lv),(1,.clo 653 [.optr 0 0,.optr 1 0]),(7,int64 l.length),(8,int64 (i:Nat))],mayMemT sA t k⟩) _ ?_ l.length _ ⟨0,by simp,by simp,rfl⟩
  rintro n _ ⟨i,hi,hall,rfl⟩
  by_cases hlt:i<l.length
  ·obtain⟨row,off,cap,rfl,hc,hcut,hget⟩:=zps hl (List.getElem?_eq_getElem hlt)
   have e1:IntKind.wrap .i64 ((i:Int)+1)=(i:Int)+1:=wrapI64 (by omega) (by omega)
   have htk:l.take (i+1)=l.take i++[l[i]]:=by rw[List.take_add_one,List.getElem?_eq_getElem hlt];rfl
   have hmem:=List.getElem_mem hlt
   have hw:=(hl.1 _ hmem).2
   generalize l[i]=v at hget htk hmem hw
   simp only[tVal]at hget
   have hs:=zbj (ext:=ext) hT h' h2 hb k o ho v hw
   simp only[mayMemT,TP.at]at hs
   cases hbv:badOf T o v with
   |true=>
    rw[hbv]at hs
    refine⟨.ret,⟨2,[(4,int64 (i:Nat))],mayMemT sA t k⟩,?_,.inr ⟨by simp,.inr ⟨rfl,List.any_eq_true.2 ⟨v,hmem,hbv⟩,i,rfl⟩⟩⟩
    simp -implicitDefEqProofs [x759L1,mayMemT,hT.refs,hT.ren,TP.at,  hlt,hget,hs]
   |false=>
    rw[hbv]at hs
    refine⟨.normal,⟨2,[(0,.imm (.slice row off l.length cap)),(1,.clo 653 [.optr 0 0,.optr 1 0]),(7,int64 l.length),(8,int64 ((i:Int)+1))],mayMemT sA t k⟩,?_,.inl ⟨rfl,n-1,by omega,i+1,by omega,by rw[htk,List.any_append,hall];simp[hbv],rfl⟩⟩
    simp -implicitDefEqProofs [x759L1,mayMemT,hT.refs,hT.ren,TP.at,  hlt,hget,hs,e1]
  ·have:i=l.length:=by omega
   subst this
   rw[List.take_length]at hall
   refine⟨.exit 0,_,?_,.inr ⟨by simp,.inl ⟨rfl,hall,rfl⟩⟩⟩
   simp -implicitDefEqProofs [x759L1,mayMemT,hT.refs,hT.ren,TP.at]
 have hidx:∃r:Int,callW code ext 759 [.imm lv,.clo 653 [.optr 0 0,.optr 1 0]] (mayMemT sA t k)=some (int64 r,mayMemT sA t k)∧((0≤r)↔l.any (badOf T o)=true):=by
  obtain⟨e,s',g1,_,⟨rfl,ha,rfl⟩|⟨rfl,ha,i,rfl⟩⟩:=loop
  ·refine⟨-1,?_,by rw[ha];simp⟩
   rw[zb5 code ext h3]
   simp only[mayMemT,TP.at]at g1 ⊢
   simp -implicitDefEqProofs [x759,hT.refs,hT.ren,TP.at,hlen,g1]
  ·refine⟨i,?_,by rw[ha];simp⟩
   rw[zb5 code ext h3]
   simp only[mayMemT,TP.at]at g1 ⊢
   simp -implicitDefEqProofs [x759,hT.refs,hT.ren,TP.at,hlen,g1]
 obtain⟨r,hr,hri⟩:=hidx
 rw[zb5 code ext h4]
 have hdec:decide (0≤r)=l.any (badOf T o):=by
  cases ha:l.any (badOf T o)with
  |true=>simpa using hri.2 ha
  |false=>simp only[decide_eq_false_iff_not];intro hc;rw[hri.1 hc]at ha;cases ha
 simp only[mayMemT,TP.at]at hr ⊢
 simp -implicitDefEqProofs [x749,hT.refs,hT.ren,TP.at,hr,hdec]
end
end Go.EX


namespace Go.EX
section
variable {code:Nat→Option XFun} {ext:Calls'}
def keysMemT(acc:List (Int×Int×ByteArray)):Mem:=[.map (normMap acc)]
theorem zim{sA:AV}{t:TP}{T:List Obj}(hT:StoreT code ext sA t T)(hb:T.length≤1048576){row:List IV}{off:Nat}{cap:Option Nat}{l:List Val}(hl:Reads tVal (.slice row off l.length cap) l)(i:Nat)(v:Val)(hv:l[i]?=some v)(acc:List (Int×Int×ByteArray)):
  ∃s',den code ext x650L1 ⟨0,[(0,sA),(1,.imm (.slice row off l.length cap)),(5,.omap 0),(6,int64 (i:Nat))],keysMemT acc⟩=some (.normal,s')∧
   s'.tidy [0,1,5,6]=⟨0,[(0,sA),(1,.imm (.slice row off l.length cap)),(5,.omap 0),(6,int64 ((i:Int)+2))],keysMemT (addNorm acc (normOf T v))⟩:=by
 have hlt:=(List.getElem?_eq_some_iff.1 hv).1
 obtain⟨row',off',cap',he,hc,hcut,hget⟩:=zps hl hv
 cases he
 simp only[tVal]at hget
 have g0:row[off+i*2]?=some (.val (.int .u8 v.k)):=zdz hget 0 (by omega)
 have hbl:=hl.2.1
 have hw:=(hl.1 v (List.mem_of_getElem? hv)).2
 have e1:IntKind.wrap .i64 ((i:Int)+2)=(i:Int)+2:=wrapI64 (by omega) (by omega)
 have hld:=hT.lead v hw
 have hkey:∀x:Int×Int×ByteArray,(sameCells (digits 64 53) [.imm (.val (.int .u8 x.1)),int64 x.2.1,.imm (.val (.string x.2.2))] [.imm (.val (.int .u8 x.1)),int64 x.2.1,.imm (.val (.string x.2.2))]).isSome=true:=key57
 by_cases k3:v.k=3
 ·rw[k3]at hget g0 hld
  cases hq:leadsOf T v with
  |none=>
   have hn:normOf T v=(3,v.n,.empty):=by simp[normOf,k3,hq]
   rw[hq,leadT]at hld
   try simp only[TP.at]at hld
   rw[hn]
   have hk1:=hkey (3,v.n,.empty)
   rcases findK57 (3,v.n,.empty) acc 0 with⟨hm,hf⟩|⟨hm,j,hf,hj⟩
   ·have ha:normMap (addNorm acc (3,v.n,.empty))=normMap (acc++[(3,v.n,.empty)]):=by rw[addNorm,if_neg hm]
    have hsn:=zmt acc (3,v.n,.empty)
    simp only[keysMemT]
    rw[ha]
    clear ha hm
    simp only[keyAV,Nat.zero_add]at hf hk1 hsn ⊢
    simp -implicitDefEqProofs [x650L1,hT.refs,hT.ren,TP.at,hget,g0,hld,e1,hlt,hf,hk1,hsn]
   ·have ha:normMap (addNorm acc (3,v.n,.empty))=normMap acc:=by rw[addNorm,if_pos hm]
    have hset:=zms _ _ _ hj
    simp only[keysMemT]
    rw[ha]
    clear ha hm
    simp only[keyAV,Nat.zero_add]at hf hk1 hset ⊢
    simp -implicitDefEqProofs [x650L1,hT.refs,hT.ren,TP.at,hget,g0,hld,e1,hlt,hf,hk1,hset]
  |some p=>
   have hn:normOf T v=(3,0,sAt T p):=by simp[normOf,k3,hq]
   rw[hq,leadT]at hld
   try simp only[TP.at]at hld
   obtain⟨hpl,_,_,_,o,ho,_⟩:=zi0 hq
   have hso:sAt T p=o.s:=by rw[sAt,ho]
   have g1:t.row[t.off+p*5+1]?=some (.val (.string o.s)):=by
    have hcg:=hT.obj p o ho
    exact zdz hcg 1 (by omega)
   rw[hso]at hn
   rw[hn]
   have hk1:=hkey (3,0,o.s)
   rcases findK57 (3,0,o.s) acc 0 with⟨hm,hf⟩|⟨hm,j,hf,hj⟩
   ·have ha:normMap (addNorm acc (3,0,o.s))=normMap (acc++[(3,0,o.s)]):=by rw[addNorm,if_neg hm]
    have hsn:=zmt acc (3,0,o.s)
    simp only[keysMemT]
    rw[ha]
    clear ha hm
    simp only[keyAV,Nat.zero_add]at hf hk1 hsn ⊢
    simp -implicitDefEqProofs [x650L1,hT.refs,hT.ren,TP.at,hget,g0,g1,hld,e1,hlt,hf,hk1,hsn]
   ·have ha:normMap (addNorm acc (3,0,o.s))=normMap acc:=by rw[addNorm,if_pos hm]
    have hset:=zms _ _ _ hj
    simp only[keysMemT]
    rw[ha]
    clear ha hm
    simp only[keyAV,Nat.zero_add]at hf hk1 hset ⊢
    simp -implicitDefEqProofs [x650L1,hT.refs,hT.ren,TP.at,hget,g0,g1,hld,e1,hlt,hf,hk1,hset]
 ·have hn:normOf T v=(v.k,v.n,.empty):=by simp[normOf,k3]
  rw[hn]
  have hk1:=hkey (v.k,v.n,.empty)
  rcases findK57 (v.k,v.n,.empty) acc 0 with⟨hm,hf⟩|⟨hm,j,hf,hj⟩
  ·have ha:normMap (addNorm acc (v.k,v.n,.empty))=normMap (acc++[(v.k,v.n,.empty)]):=by rw[addNorm,if_neg hm]
   have hsn:=zmt acc (v.k,v.n,.empty)
   simp only[keysMemT]
   rw[ha]
   clear ha hm
   simp only[keyAV,Nat.zero_add]at hf hk1 hsn ⊢
   simp -implicitDefEqProofs [x650L1,hT.refs,hT.ren,TP.at,hget,g0,k3,hld,e1,hlt,hf,hk1,hsn]
  ·have ha:normMap (addNorm acc (v.k,v.n,.empty))=normMap acc:=by rw[addNorm,if_pos hm]
   have hset:=zms _ _ _ hj
   simp only[keysMemT]
   rw[ha]
   clear ha hm
   simp only[keyAV,Nat.zero_add]at hf hk1 hset ⊢
   simp -implicitDefEqProofs [x650L1,hT.refs,hT.ren,TP.at,hget,g0,k3,hld,e1,hlt,hf,hk1,hset]
theorem zil{sA:AV}{t:TP}{T:List Obj}(hT:StoreT code ext sA t T)(h':code 650=some x650)(hb:T.length≤1048576){lv:IV}{l:List Val}(hl:Reads tVal lv l)(hev:l.length%2=0):
  callW code ext 650 [sA,.imm lv] []=some (avb (decide ((normsTo T l l.length).length=l.length / 2)),[]):=by
 have hlen:=zpr hl
 have hbl:=hl.2.1
 have loop:∃e s',den code ext (.loop [0,1,5,6] x650L1) ⟨0,[(0,sA),(1,.imm lv),(5,.omap 0),(6,int64 0)],keysMemT []⟩=some (e,s')∧e≠ .normal∧
   (e=.exit 0∧s'=⟨0,[(0,sA),(1,.imm lv),(5,.omap 0),(6,int64 l.length),(13,avb false)],keysMemT (normsTo T l l.length)⟩):=by
  refine zjp (fun n s=>∃(i:Nat),i+n=l.length∧i%2=0∧s.tidy [0,1,5,6]=⟨0,[(0,sA),(1,.imm lv),(5,.omap 0),(6,int64 (i:Nat))],keysMemT (normsTo T l i)⟩) _ ?_ l.length _ ⟨0,by simp,rfl,by simp -implicitDefEqProofs [keysMemT,hT.refs,hT.ren,TP.at,normsTo,normMap]⟩
  rintro n s ⟨i,hi,hi2,hs⟩
  rw[hs]
  by_cases hlt:i<l.length
  ·obtain⟨row,off,cap,rfl,hc,hcut,hget⟩:=zps hl (List.getElem?_eq_getElem hlt)
   obtain⟨s',g1,g2⟩:=zim (ext:=ext) hT hb hl i l[i] (List.getElem?_eq_getElem hlt) (normsTo T l i)
   refine⟨.normal,s',g1,.inl ⟨rfl,n-2,by omega,i+2,by omega,by omega,?_⟩⟩
   rw[g2,zmu T l i l[i] hi2 (List.getElem?_eq_getElem hlt)]
   rfl
  ·have:i=l.length:=by omega
   subst this
   refine⟨.exit 0,⟨0,[(0,sA),(1,.imm lv),(5,.omap 0),(6,int64 l.length),(13,avb false)],keysMemT (normsTo T l l.length)⟩,?_,.inr ⟨by simp,rfl,rfl⟩⟩
   simp -implicitDefEqProofs [x650L1,hT.refs,hT.ren,TP.at,keysMemT,hlen]
 obtain⟨e,s',g1,_,rfl,rfl⟩:=loop
 rw[zb5 code ext h']
 have hnl:=zmp (normsTo T l l.length)
 have e2:IntKind.wrap .i64 ((l.length:Int) / 2)=(l.length:Int) / 2:=wrapI64 (by omega) (by omega)
 have hn0:normMap []=[]:=rfl
 simp only[keysMemT,hn0]at g1
 simp -implicitDefEqProofs [x650,hT.refs,hT.ren,TP.at,hlen,g1,hnl,e2]
 omega
end
end Go.EX


set_option maxHeartbeats 1000000
namespace Go.EX
section
variable {code:Nat→Option XFun} {ext:Calls'}
theorem zjz {sA:AV} {t:TP} {T:List Obj} (hT:StoreT code ext sA t T) (h':code 656=some x656) (h2:code 653=some x653) (h3:code 759=some x759) (h4:code 749=some x749) (h5:code 650=some x650) (h6:code 652=some x652) (hb:T.length≤1048576) (k:Nat) (o:Obj) (ho:T[k]?=some o) (k3:o.k=3) (cS:¬o.s=.empty):∃b:Bool,callW code ext 652 [sA,t.at k] []=some (avb b,[])∧(b=true↔ObjOk T o):=by
 rw[zb5 code ext h6]
 have hlen:=zpr o.l.ok
 have hok:ObjOk T o↔(o.s.size≤4096∧o.l.xs=[]∧o.room=0∧o.fn=0):=by
  unfold ObjOk
  rw[if_pos k3]
 rw[hok]
 clear hok
 have g0:t.row[t.off+k*5]?=some (.val (.int .u8 o.k)):=zdz (hT.obj k o ho) 0 (by omega)
 have g1:t.row[t.off+k*5+1]?=some (.val (.string o.s)):=zdz (hT.obj k o ho) 1 (by omega)
 have g2:t.row[t.off+k*5+2]?=some (o.l.iv):=zdz (hT.obj k o ho) 2 (by omega)
 have g3:t.row[t.off+k*5+3]?=some (.val (.int .i64 o.room)):=zdz (hT.obj k o ho) 3 (by omega)
 have g4:t.row[t.off+k*5+4]?=some (.val (.int .i64 o.fn)):=zdz (hT.obj k o ho) 4 (by omega)
 have hba:=zaq (ext:=ext) hT h' h2 h3 h4 hb k o ho o.l.ok
 rw[zas]at hba
 rw[show decide (o.k=6)=false by simp;omega]at hba
 simp only[mayMemT,TP.at]at hba
 have cSt:(o.s=.empty)=False:=eq_false cS
 by_cases hh:heldOf T o.l.xs false=true
 case neg=>
  have hhf:heldOf T o.l.xs false=false:=by simpa using hh
  rw[hhf]at hba
  refine⟨false,by simp -implicitDefEqProofs [x652,hT.refs,hT.ren,TP.at,hT.box,-AV.cells,zcc,zcf,zce,zcd,zcb,zcg,k3,g0,g1,g2,g3,g4,hlen,hba,cSt],?_⟩
  refine⟨fun c=>(by cases c),?_⟩
  rintro⟨_,c,_⟩
  rw[c]at hhf
  cases hhf
 rw[hh]at hba
 by_cases cBn:o.s.size≤4096
 case neg=>
  have cBt:((o.s.size:Int)≤4096)=False:=eq_false (by omega)
  exact⟨false,by simp -implicitDefEqProofs [x652,hT.refs,hT.ren,TP.at,hT.box,-AV.cells,zcc,zcf,zce,zcd,zcb,zcg,k3,g0,g1,g2,g3,g4,hlen,hba,cSt,cBt],by simp[cS,cBn]⟩
 have cBt:((o.s.size:Int)≤4096)=True:=eq_true (by omega)
 by_cases cNn:o.l.xs=[]
 case neg=>
  have cN0t:(o.l.xs=[])=False:=eq_false cNn
  exact⟨false,by simp -implicitDefEqProofs [x652,hT.refs,hT.ren,TP.at,hT.box,-AV.cells,zcc,zcf,zce,zcd,zcb,zcg,k3,g0,g1,g2,g3,g4,hlen,hba,cSt,cBt,cN0t],by simp[cS,cBn,cNn]⟩
 have cN0t:(o.l.xs=[])=True:=eq_true cNn
 by_cases cZ:o.room=0
 case neg=>
  have cZt:(o.room=0)=False:=eq_false cZ
  exact⟨false,by simp -implicitDefEqProofs [x652,hT.refs,hT.ren,TP.at,hT.box,-AV.cells,zcc,zcf,zce,zcd,zcb,zcg,k3,g0,g1,g2,g3,g4,hlen,hba,cSt,cBt,cN0t,cZt],by simp[cS,cBn,cNn,cZ]⟩
 have cZt:(o.room=0)=True:=eq_true cZ
 by_cases cF:o.fn=0
 case neg=>
  have cFt:(o.fn=0)=False:=eq_false cF
  exact⟨false,by simp -implicitDefEqProofs [x652,hT.refs,hT.ren,TP.at,hT.box,-AV.cells,zcc,zcf,zce,zcd,zcb,zcg,k3,g0,g1,g2,g3,g4,hlen,hba,cSt,cBt,cN0t,cZt,cFt],by simp[cS,cBn,cNn,cZ,cF]⟩
 have cFt:(o.fn=0)=True:=eq_true cF
 exact⟨true,by simp -implicitDefEqProofs [x652,hT.refs,hT.ren,TP.at,hT.box,-AV.cells,zcc,zcf,zce,zcd,zcb,zcg,k3,g0,g1,g2,g3,g4,hlen,hba,cSt,cBt,cN0t,cZt,cFt],by simp[cS,cBn,cNn,cZ,cF,hh]⟩
theorem zj0 {sA:AV} {t:TP} {T:List Obj} (hT:StoreT code ext sA t T) (h':code 656=some x656) (h2:code 653=some x653) (h3:code 759=some x759) (h4:code 749=some x749) (h5:code 650=some x650) (h6:code 652=some x652) (hb:T.length≤1048576) (k:Nat) (o:Obj) (ho:T[k]?=some o) (k3:o.k=3) (cS:o.s=.empty) (cF:¬o.fn=0):∃b:Bool,callW code ext 652 [sA,t.at k] []=some (avb b,[])∧(b=true↔ObjOk T o):=by
 rw[zb5 code ext h6]
 have hlen:=zpr o.l.ok
 have hok:ObjOk T o↔(o.s.size≤4096∧o.l.xs=[]∧o.room=0∧o.fn=0):=by
  unfold ObjOk
  rw[if_pos k3]
 rw[hok]
 clear hok
 have g0:t.row[t.off+k*5]?=some (.val (.int .u8 o.k)):=zdz (hT.obj k o ho) 0 (by omega)
 have g1:t.row[t.off+k*5+1]?=some (.val (.string o.s)):=zdz (hT.obj k o ho) 1 (by omega)
 have g2:t.row[t.off+k*5+2]?=some (o.l.iv):=zdz (hT.obj k o ho) 2 (by omega)
 have g3:t.row[t.off+k*5+3]?=some (.val (.int .i64 o.room)):=zdz (hT.obj k o ho) 3 (by omega)
 have g4:t.row[t.off+k*5+4]?=some (.val (.int .i64 o.fn)):=zdz (hT.obj k o ho) 4 (by omega)
 have hba:=zaq (ext:=ext) hT h' h2 h3 h4 hb k o ho o.l.ok
 rw[zas]at hba
 rw[show decide (o.k=6)=false by simp;omega]at hba
 simp only[mayMemT,TP.at]at hba
 have cSt:(o.s=.empty)=True:=eq_true cS
 have cFt:(o.fn=0)=False:=eq_false cF
 by_cases hh:heldOf T o.l.xs false=true
 case neg=>
  have hhf:heldOf T o.l.xs false=false:=by simpa using hh
  rw[hhf]at hba
  refine⟨false,by simp -implicitDefEqProofs [x652,hT.refs,hT.ren,TP.at,hT.box,-AV.cells,zcc,zcf,zce,zcd,zcb,zcg,k3,g0,g1,g2,g3,g4,hlen,hba,cSt,cFt],?_⟩
  refine⟨fun c=>(by cases c),?_⟩
  rintro⟨_,c,_⟩
  rw[c]at hhf
  cases hhf
 rw[hh]at hba
 have cB:o.s.size≤4096:=by rw[cS];decide
 have cBt:((o.s.size:Int)≤4096)=True:=eq_true (by omega)
 by_cases cNn:o.l.xs=[]
 case neg=>
  have cN0t:(o.l.xs=[])=False:=eq_false cNn
  exact⟨false,by simp -implicitDefEqProofs [x652,hT.refs,hT.ren,TP.at,hT.box,-AV.cells,zcc,zcf,zce,zcd,zcb,zcg,k3,g0,g1,g2,g3,g4,hlen,hba,cSt,cFt,cBt,cN0t],by simp[cS,cF,cB,cNn]⟩
 have cN0t:(o.l.xs=[])=True:=eq_true cNn
 by_cases cZ:o.room=0
 case neg=>
  have cZt:(o.room=0)=False:=eq_false cZ
  exact⟨false,by simp -implicitDefEqProofs [x652,hT.refs,hT.ren,TP.at,hT.box,-AV.cells,zcc,zcf,zce,zcd,zcb,zcg,k3,g0,g1,g2,g3,g4,hlen,hba,cSt,cFt,cBt,cN0t,cZt],by simp[cS,cF,cB,cNn,cZ]⟩
 have cZt:(o.room=0)=True:=eq_true cZ
 exact⟨false,by simp -implicitDefEqProofs [x652,hT.refs,hT.ren,TP.at,hT.box,-AV.cells,zcc,zcf,zce,zcd,zcb,zcg,k3,g0,g1,g2,g3,g4,hlen,hba,cSt,cFt,cBt,cN0t,cZt],by simp[cS,cF,cB,cNn,cZ,hh]⟩
theorem zj1 {sA:AV} {t:TP} {T:List Obj} (hT:StoreT code ext sA t T) (h':code 656=some x656) (h2:code 653=some x653) (h3:code 759=some x759) (h4:code 749=some x749) (h5:code 650=some x650) (h6:code 652=some x652) (hb:T.length≤1048576) (k:Nat) (o:Obj) (ho:T[k]?=some o) (k3:o.k=3) (cS:o.s=.empty) (cF:o.fn=0) (cR:¬(o.l.xs.length:Int)≤o.room):∃b:Bool,callW code ext 652 [sA,t.at k] []=some (avb b,[])∧(b=true↔ObjOk T o):=by
 rw[zb5 code ext h6]
 have hlen:=zpr o.l.ok
 have hok:ObjOk T o↔(o.s.size≤4096∧o.l.xs=[]∧o.room=0∧o.fn=0):=by
  unfold ObjOk
  rw[if_pos k3]
 rw[hok]
 clear hok
 have g0:t.row[t.off+k*5]?=some (.val (.int .u8 o.k)):=zdz (hT.obj k o ho) 0 (by omega)
 have g1:t.row[t.off+k*5+1]?=some (.val (.string o.s)):=zdz (hT.obj k o ho) 1 (by omega)
 have g2:t.row[t.off+k*5+2]?=some (o.l.iv):=zdz (hT.obj k o ho) 2 (by omega)
 have g3:t.row[t.off+k*5+3]?=some (.val (.int .i64 o.room)):=zdz (hT.obj k o ho) 3 (by omega)
 have g4:t.row[t.off+k*5+4]?=some (.val (.int .i64 o.fn)):=zdz (hT.obj k o ho) 4 (by omega)
 have hba:=zaq (ext:=ext) hT h' h2 h3 h4 hb k o ho o.l.ok
 rw[zas]at hba
 rw[show decide (o.k=6)=false by simp;omega]at hba
 simp only[mayMemT,TP.at]at hba
 have cSt:(o.s=.empty)=True:=eq_true cS
 have cFt:(o.fn=0)=True:=eq_true cF
 have cRt:((o.l.xs.length:Int)≤o.room)=False:=eq_false cR
 by_cases hh:heldOf T o.l.xs false=true
 case neg=>
  have hhf:heldOf T o.l.xs false=false:=by simpa using hh
  rw[hhf]at hba
  refine⟨false,by simp -implicitDefEqProofs [x652,hT.refs,hT.ren,TP.at,hT.box,-AV.cells,zcc,zcf,zce,zcd,zcb,zcg,k3,g0,g1,g2,g3,g4,hlen,hba,cSt,cFt,cRt],?_⟩
  refine⟨fun c=>(by cases c),?_⟩
  rintro⟨_,c,_⟩
  rw[c]at hhf
  cases hhf
 rw[hh]at hba
 have cB:o.s.size≤4096:=by rw[cS];decide
 have cBt:((o.s.size:Int)≤4096)=True:=eq_true (by omega)
 by_cases cNn:o.l.xs=[]
 case neg=>
  have cN0t:(o.l.xs=[])=False:=eq_false cNn
  exact⟨false,by simp -implicitDefEqProofs [x652,hT.refs,hT.ren,TP.at,hT.box,-AV.cells,zcc,zcf,zce,zcd,zcb,zcg,k3,g0,g1,g2,g3,g4,hlen,hba,cSt,cFt,cRt,cBt,cN0t],by simp[cS,cF,cR,cB,cNn]⟩
 have cN0t:(o.l.xs=[])=True:=eq_true cNn
 by_cases cZ:o.room=0
 case neg=>
  have cZt:(o.room=0)=False:=eq_false cZ
  exact⟨false,by simp -implicitDefEqProofs [x652,hT.refs,hT.ren,TP.at,hT.box,-AV.cells,zcc,zcf,zce,zcd,zcb,zcg,k3,g0,g1,g2,g3,g4,hlen,hba,cSt,cFt,cRt,cBt,cN0t,cZt],by simp[cS,cF,cR,cB,cNn,cZ]⟩
 have cZt:(o.room=0)=True:=eq_true cZ
 exact⟨true,by simp -implicitDefEqProofs [x652,hT.refs,hT.ren,TP.at,hT.box,-AV.cells,zcc,zcf,zce,zcd,zcb,zcg,k3,g0,g1,g2,g3,g4,hlen,hba,cSt,cFt,cRt,cBt,cN0t,cZt],by simp[cS,cF,cR,cB,cNn,cZ,hh]⟩
theorem zj2 {sA:AV} {t:TP} {T:List Obj} (hT:StoreT code ext sA t T) (h':code 656=some x656) (h2:code 653=some x653) (h3:code 759=some x759) (h4:code 749=some x749) (h5:code 650=some x650) (h6:code 652=some x652) (hb:T.length≤1048576) (k:Nat) (o:Obj) (ho:T[k]?=some o) (k3:o.k=3) (cS:o.s=.empty) (cF:o.fn=0) (cR:(o.l.xs.length:Int)≤o.room) (cQ:¬o.room≤262144):∃b:Bool,callW code ext 652 [sA,t.at k] []=some (avb b,[])∧(b=true↔ObjOk T o):=by
 rw[zb5 code ext h6]
 have hlen:=zpr o.l.ok
 have hok:ObjOk T o↔(o.s.size≤4096∧o.l.xs=[]∧o.room=0∧o.fn=0):=by
  unfold ObjOk
  rw[if_pos k3]
 rw[hok]
 clear hok
 have g0:t.row[t.off+k*5]?=some (.val (.int .u8 o.k)):=zdz (hT.obj k o ho) 0 (by omega)
 have g1:t.row[t.off+k*5+1]?=some (.val (.string o.s)):=zdz (hT.obj k o ho) 1 (by omega)
 have g2:t.row[t.off+k*5+2]?=some (o.l.iv):=zdz (hT.obj k o ho) 2 (by omega)
 have g3:t.row[t.off+k*5+3]?=some (.val (.int .i64 o.room)):=zdz (hT.obj k o ho) 3 (by omega)
 have g4:t.row[t.off+k*5+4]?=some (.val (.int .i64 o.fn)):=zdz (hT.obj k o ho) 4 (by omega)
 have hba:=zaq (ext:=ext) hT h' h2 h3 h4 hb k o ho o.l.ok
 rw[zas]at hba
 rw[show decide (o.k=6)=false by simp;omega]at hba
 simp only[mayMemT,TP.at]at hba
 have cSt:(o.s=.empty)=True:=eq_true cS
 have cFt:(o.fn=0)=True:=eq_true cF
 have cRt:((o.l.xs.length:Int)≤o.room)=True:=eq_true cR
 have cQt:(o.room≤262144)=False:=eq_false cQ
 by_cases hh:heldOf T o.l.xs false=true
 case neg=>
  have hhf:heldOf T o.l.xs false=false:=by simpa using hh
  rw[hhf]at hba
  refine⟨false,by simp -implicitDefEqProofs [x652,hT.refs,hT.ren,TP.at,hT.box,-AV.cells,zcc,zcf,zce,zcd,zcb,zcg,k3,g0,g1,g2,g3,g4,hlen,hba,cSt,cFt,cRt,cQt],?_⟩
  refine⟨fun c=>(by cases c),?_⟩
  rintro⟨_,c,_⟩
  rw[c]at hhf
  cases hhf
 rw[hh]at hba
 have cB:o.s.size≤4096:=by rw[cS];decide
 have cBt:((o.s.size:Int)≤4096)=True:=eq_true (by omega)
 by_cases cNn:o.l.xs=[]
 case neg=>
  have cN0t:(o.l.xs=[])=False:=eq_false cNn
  exact⟨false,by simp -implicitDefEqProofs [x652,hT.refs,hT.ren,TP.at,hT.box,-AV.cells,zcc,zcf,zce,zcd,zcb,zcg,k3,g0,g1,g2,g3,g4,hlen,hba,cSt,cFt,cRt,cQt,cBt,cN0t],by simp[cS,cF,cR,cQ,cB,cNn]⟩
 have cN0t:(o.l.xs=[])=True:=eq_true cNn
 by_cases cZ:o.room=0
 case neg=>
  have cZt:(o.room=0)=False:=eq_false cZ
  exact⟨false,by simp -implicitDefEqProofs [x652,hT.refs,hT.ren,TP.at,hT.box,-AV.cells,zcc,zcf,zce,zcd,zcb,zcg,k3,g0,g1,g2,g3,g4,hlen,hba,cSt,cFt,cRt,cQt,cBt,cN0t,cZt],by simp[cS,cF,cR,cQ,cB,cNn,cZ]⟩
 have cZt:(o.room=0)=True:=eq_true cZ
 exact⟨true,by simp -implicitDefEqProofs [x652,hT.refs,hT.ren,TP.at,hT.box,-AV.cells,zcc,zcf,zce,zcd,zcb,zcg,k3,g0,g1,g2,g3,g4,hlen,hba,cSt,cFt,cRt,cQt,cBt,cN0t,cZt],by simp[cS,cF,cR,cQ,cB,cNn,cZ,hh]⟩
theorem zj3 {sA:AV} {t:TP} {T:List Obj} (hT:StoreT code ext sA t T) (h':code 656=some x656) (h2:code 653=some x653) (h3:code 759=some x759) (h4:code 749=some x749) (h5:code 650=some x650) (h6:code 652=some x652) (hb:T.length≤1048576) (k:Nat) (o:Obj) (ho:T[k]?=some o) (k3:o.k=3) (cS:o.s=.empty) (cF:o.fn=0) (cR:(o.l.xs.length:Int)≤o.room) (cQ:o.room≤262144):∃b:Bool,callW code ext 652 [sA,t.at k] []=some (avb b,[])∧(b=true↔ObjOk T o):=by
 rw[zb5 code ext h6]
 have hlen:=zpr o.l.ok
 have hok:ObjOk T o↔(o.s.size≤4096∧o.l.xs=[]∧o.room=0∧o.fn=0):=by
  unfold ObjOk
  rw[if_pos k3]
 rw[hok]
 clear hok
 have g0:t.row[t.off+k*5]?=some (.val (.int .u8 o.k)):=zdz (hT.obj k o ho) 0 (by omega)
 have g1:t.row[t.off+k*5+1]?=some (.val (.string o.s)):=zdz (hT.obj k o ho) 1 (by omega)
 have g2:t.row[t.off+k*5+2]?=some (o.l.iv):=zdz (hT.obj k o ho) 2 (by omega)
 have g3:t.row[t.off+k*5+3]?=some (.val (.int .i64 o.room)):=zdz (hT.obj k o ho) 3 (by omega)
 have g4:t.row[t.off+k*5+4]?=some (.val (.int .i64 o.fn)):=zdz (hT.obj k o ho) 4 (by omega)
 have hba:=zaq (ext:=ext) hT h' h2 h3 h4 hb k o ho o.l.ok
 rw[zas]at hba
 rw[show decide (o.k=6)=false by simp;omega]at hba
 simp only[mayMemT,TP.at]at hba
 have cSt:(o.s=.empty)=True:=eq_true cS
 have cFt:(o.fn=0)=True:=eq_true cF
 have cRt:((o.l.xs.length:Int)≤o.room)=True:=eq_true cR
 have cQt:(o.room≤262144)=True:=eq_true cQ
 by_cases hh:heldOf T o.l.xs false=true
 case neg=>
  have hhf:heldOf T o.l.xs false=false:=by simpa using hh
  rw[hhf]at hba
  refine⟨false,by simp -implicitDefEqProofs [x652,hT.refs,hT.ren,TP.at,hT.box,-AV.cells,zcc,zcf,zce,zcd,zcb,zcg,k3,g0,g1,g2,g3,g4,hlen,hba,cSt,cFt,cRt,cQt],?_⟩
  refine⟨fun c=>(by cases c),?_⟩
  rintro⟨_,c,_⟩
  rw[c]at hhf
  cases hhf
 rw[hh]at hba
 have cB:o.s.size≤4096:=by rw[cS];decide
 have cBt:((o.s.size:Int)≤4096)=True:=eq_true (by omega)
 by_cases cNn:o.l.xs=[]
 case neg=>
  have cN0t:(o.l.xs=[])=False:=eq_false cNn
  exact⟨false,by simp -implicitDefEqProofs [x652,hT.refs,hT.ren,TP.at,hT.box,-AV.cells,zcc,zcf,zce,zcd,zcb,zcg,k3,g0,g1,g2,g3,g4,hlen,hba,cSt,cFt,cRt,cQt,cBt,cN0t],by simp[cS,cF,cR,cQ,cB,cNn]⟩
 have cN0t:(o.l.xs=[])=True:=eq_true cNn
 by_cases cZ:o.room=0
 case neg=>
  have cZt:(o.room=0)=False:=eq_false cZ
  exact⟨false,by simp -implicitDefEqProofs [x652,hT.refs,hT.ren,TP.at,hT.box,-AV.cells,zcc,zcf,zce,zcd,zcb,zcg,k3,g0,g1,g2,g3,g4,hlen,hba,cSt,cFt,cRt,cQt,cBt,cN0t,cZt],by simp[cS,cF,cR,cQ,cB,cNn,cZ]⟩
 have cZt:(o.room=0)=True:=eq_true cZ
 exact⟨true,by simp -implicitDefEqProofs [x652,hT.refs,hT.ren,TP.at,hT.box,-AV.cells,zcc,zcf,zce,zcd,zcb,zcg,k3,g0,g1,g2,g3,g4,hlen,hba,cSt,cFt,cRt,cQt,cBt,cN0t,cZt],by simp[cS,cF,cR,cQ,cB,cNn,cZ,hh]⟩
theorem may3T{sA:AV}{t:TP}{T:List Obj}(hT:StoreT code ext sA t T)(h':code 656=some x656)(h2:code 653=some x653)(h3:code 759=some x759)(h4:code 749=some x749)(h5:code 650=some x650)(h6:code 652=some x652)(hb:T.length≤1048576)(k:Nat)(o:Obj)(ho:T[k]?=some o)(k3:o.k=3):∃b:Bool,callW code ext 652 [sA,t.at k] []=some (avb b,[])∧(b=true↔ObjOk T o):=by
 by_cases cS:o.s=.empty
 case neg=>exact zjz hT h' h2 h3 h4 h5 h6 hb k o ho k3 cS
 by_cases cF:o.fn=0
 case neg=>exact zj0 hT h' h2 h3 h4 h5 h6 hb k o ho k3 cS cF
 by_cases cR:(o.l.xs.length:Int)≤o.room
 case neg=>exact zj1 hT h' h2 h3 h4 h5 h6 hb k o ho k3 cS cF cR
 by_cases cQ:o.room≤262144
 case neg=>exact zj2 hT h' h2 h3 h4 h5 h6 hb k o ho k3 cS cF cR cQ
 exact zj3 hT h' h2 h3 h4 h5 h6 hb k o ho k3 cS cF cR cQ
end
end Go.EX


set_option maxHeartbeats 1000000
namespace Go.EX
section
variable {code:Nat→Option XFun} {ext:Calls'}
theorem zj4 {sA:AV} {t:TP} {T:List Obj} (hT:StoreT code ext sA t T) (h':code 656=some x656) (h2:code 653=some x653) (h3:code 759=some x759) (h4:code 749=some x749) (h5:code 650=some x650) (h6:code 652=some x652) (hb:T.length≤1048576) (k:Nat) (o:Obj) (ho:T[k]?=some o) (k4:o.k=4) (cS:¬o.s=.empty):∃b:Bool,callW code ext 652 [sA,t.at k] []=some (avb b,[])∧(b=true↔ObjOk T o):=by
 rw[zb5 code ext h6]
 have hlen:=zpr o.l.ok
 have hok:ObjOk T o↔(o.s=.empty∧o.fn=0∧(o.l.xs.length:Int)≤65536∧(o.l.xs.length:Int)≤o.room∧o.room≤262144∧heldOf T o.l.xs false=true):=by
  unfold ObjOk
  rw[if_neg (by omega),if_pos k4]
 rw[hok]
 clear hok
 have g0:t.row[t.off+k*5]?=some (.val (.int .u8 o.k)):=zdz (hT.obj k o ho) 0 (by omega)
 have g1:t.row[t.off+k*5+1]?=some (.val (.string o.s)):=zdz (hT.obj k o ho) 1 (by omega)
 have g2:t.row[t.off+k*5+2]?=some (o.l.iv):=zdz (hT.obj k o ho) 2 (by omega)
 have g3:t.row[t.off+k*5+3]?=some (.val (.int .i64 o.room)):=zdz (hT.obj k o ho) 3 (by omega)
 have g4:t.row[t.off+k*5+4]?=some (.val (.int .i64 o.fn)):=zdz (hT.obj k o ho) 4 (by omega)
 have hba:=zaq (ext:=ext) hT h' h2 h3 h4 hb k o ho o.l.ok
 rw[zas]at hba
 rw[show decide (o.k=6)=false by simp;omega]at hba
 simp only[mayMemT,TP.at]at hba
 have cSt:(o.s=.empty)=False:=eq_false cS
 by_cases hh:heldOf T o.l.xs false=true
 case neg=>
  have hhf:heldOf T o.l.xs false=false:=by simpa using hh
  rw[hhf]at hba
  exact⟨false,by simp -implicitDefEqProofs [x652,hT.refs,hT.ren,TP.at,hT.box,-AV.cells,zcc,zcf,zce,zcd,zcb,zcg,k4,g0,g1,g2,g3,g4,hlen,hba,cSt],by simp[hhf]⟩
 rw[hh]at hba
 exact⟨false,by simp -implicitDefEqProofs [x652,hT.refs,hT.ren,TP.at,hT.box,-AV.cells,zcc,zcf,zce,zcd,zcb,zcg,k4,g0,g1,g2,g3,g4,hlen,hba,cSt],by simp[cS,hh]⟩
theorem zj5 {sA:AV} {t:TP} {T:List Obj} (hT:StoreT code ext sA t T) (h':code 656=some x656) (h2:code 653=some x653) (h3:code 759=some x759) (h4:code 749=some x749) (h5:code 650=some x650) (h6:code 652=some x652) (hb:T.length≤1048576) (k:Nat) (o:Obj) (ho:T[k]?=some o) (k4:o.k=4) (cS:o.s=.empty) (cF:¬o.fn=0):∃b:Bool,callW code ext 652 [sA,t.at k] []=some (avb b,[])∧(b=true↔ObjOk T o):=by
 rw[zb5 code ext h6]
 have hlen:=zpr o.l.ok
 have hok:ObjOk T o↔(o.s=.empty∧o.fn=0∧(o.l.xs.length:Int)≤65536∧(o.l.xs.length:Int)≤o.room∧o.room≤262144∧heldOf T o.l.xs false=true):=by
  unfold ObjOk
  rw[if_neg (by omega),if_pos k4]
 rw[hok]
 clear hok
 have g0:t.row[t.off+k*5]?=some (.val (.int .u8 o.k)):=zdz (hT.obj k o ho) 0 (by omega)
 have g1:t.row[t.off+k*5+1]?=some (.val (.string o.s)):=zdz (hT.obj k o ho) 1 (by omega)
 have g2:t.row[t.off+k*5+2]?=some (o.l.iv):=zdz (hT.obj k o ho) 2 (by omega)
 have g3:t.row[t.off+k*5+3]?=some (.val (.int .i64 o.room)):=zdz (hT.obj k o ho) 3 (by omega)
 have g4:t.row[t.off+k*5+4]?=some (.val (.int .i64 o.fn)):=zdz (hT.obj k o ho) 4 (by omega)
 have hba:=zaq (ext:=ext) hT h' h2 h3 h4 hb k o ho o.l.ok
 rw[zas]at hba
 rw[show decide (o.k=6)=false by simp;omega]at hba
 simp only[mayMemT,TP.at]at hba
 have cSt:(o.s=.empty)=True:=eq_true cS
 have cFt:(o.fn=0)=False:=eq_false cF
 by_cases hh:heldOf T o.l.xs false=true
 case neg=>
  have hhf:heldOf T o.l.xs false=false:=by simpa using hh
  rw[hhf]at hba
  exact⟨false,by simp -implicitDefEqProofs [x652,hT.refs,hT.ren,TP.at,hT.box,-AV.cells,zcc,zcf,zce,zcd,zcb,zcg,k4,g0,g1,g2,g3,g4,hlen,hba,cSt,cFt],by simp[hhf]⟩
 rw[hh]at hba
 exact⟨false,by simp -implicitDefEqProofs [x652,hT.refs,hT.ren,TP.at,hT.box,-AV.cells,zcc,zcf,zce,zcd,zcb,zcg,k4,g0,g1,g2,g3,g4,hlen,hba,cSt,cFt],by simp[cS,cF,hh]⟩
theorem zj6 {sA:AV} {t:TP} {T:List Obj} (hT:StoreT code ext sA t T) (h':code 656=some x656) (h2:code 653=some x653) (h3:code 759=some x759) (h4:code 749=some x749) (h5:code 650=some x650) (h6:code 652=some x652) (hb:T.length≤1048576) (k:Nat) (o:Obj) (ho:T[k]?=some o) (k4:o.k=4) (cS:o.s=.empty) (cF:o.fn=0) (cR:¬(o.l.xs.length:Int)≤o.room):∃b:Bool,callW code ext 652 [sA,t.at k] []=some (avb b,[])∧(b=true↔ObjOk T o):=by
 rw[zb5 code ext h6]
 have hlen:=zpr o.l.ok
 have hok:ObjOk T o↔(o.s=.empty∧o.fn=0∧(o.l.xs.length:Int)≤65536∧(o.l.xs.length:Int)≤o.room∧o.room≤262144∧heldOf T o.l.xs false=true):=by
  unfold ObjOk
  rw[if_neg (by omega),if_pos k4]
 rw[hok]
 clear hok
 have g0:t.row[t.off+k*5]?=some (.val (.int .u8 o.k)):=zdz (hT.obj k o ho) 0 (by omega)
 have g1:t.row[t.off+k*5+1]?=some (.val (.string o.s)):=zdz (hT.obj k o ho) 1 (by omega)
 have g2:t.row[t.off+k*5+2]?=some (o.l.iv):=zdz (hT.obj k o ho) 2 (by omega)
 have g3:t.row[t.off+k*5+3]?=some (.val (.int .i64 o.room)):=zdz (hT.obj k o ho) 3 (by omega)
 have g4:t.row[t.off+k*5+4]?=some (.val (.int .i64 o.fn)):=zdz (hT.obj k o ho) 4 (by omega)
 have hba:=zaq (ext:=ext) hT h' h2 h3 h4 hb k o ho o.l.ok
 rw[zas]at hba
 rw[show decide (o.k=6)=false by simp;omega]at hba
 simp only[mayMemT,TP.at]at hba
 have cSt:(o.s=.empty)=True:=eq_true cS
 have cFt:(o.fn=0)=True:=eq_true cF
 have cRt:((o.l.xs.length:Int)≤o.room)=False:=eq_false cR
 by_cases hh:heldOf T o.l.xs false=true
 case neg=>
  have hhf:heldOf T o.l.xs false=false:=by simpa using hh
  rw[hhf]at hba
  exact⟨false,by simp -implicitDefEqProofs [x652,hT.refs,hT.ren,TP.at,hT.box,-AV.cells,zcc,zcf,zce,zcd,zcb,zcg,k4,g0,g1,g2,g3,g4,hlen,hba,cSt,cFt,cRt],by simp[hhf]⟩
 rw[hh]at hba
 exact⟨false,by simp -implicitDefEqProofs [x652,hT.refs,hT.ren,TP.at,hT.box,-AV.cells,zcc,zcf,zce,zcd,zcb,zcg,k4,g0,g1,g2,g3,g4,hlen,hba,cSt,cFt,cRt],by simp[cS,cF,cR,hh]⟩
theorem zj7 {sA:AV} {t:TP} {T:List Obj} (hT:StoreT code ext sA t T) (h':code 656=some x656) (h2:code 653=some x653) (h3:code 759=some x759) (h4:code 749=some x749) (h5:code 650=some x650) (h6:code 652=some x652) (hb:T.length≤1048576) (k:Nat) (o:Obj) (ho:T[k]?=some o) (k4:o.k=4) (cS:o.s=.empty) (cF:o.fn=0) (cR:(o.l.xs.length:Int)≤o.room) (cQ:¬o.room≤262144):∃b:Bool,callW code ext 652 [sA,t.at k] []=some (avb b,[])∧(b=true↔ObjOk T o):=by
 rw[zb5 code ext h6]
 have hlen:=zpr o.l.ok
 have hok:ObjOk T o↔(o.s=.empty∧o.fn=0∧(o.l.xs.length:Int)≤65536∧(o.l.xs.length:Int)≤o.room∧o.room≤262144∧heldOf T o.l.xs false=true):=by
  unfold ObjOk
  rw[if_neg (by omega),if_pos k4]
 rw[hok]
 clear hok
 have g0:t.row[t.off+k*5]?=some (.val (.int .u8 o.k)):=zdz (hT.obj k o ho) 0 (by omega)
 have g1:t.row[t.off+k*5+1]?=some (.val (.string o.s)):=zdz (hT.obj k o ho) 1 (by omega)
 have g2:t.row[t.off+k*5+2]?=some (o.l.iv):=zdz (hT.obj k o ho) 2 (by omega)
 have g3:t.row[t.off+k*5+3]?=some (.val (.int .i64 o.room)):=zdz (hT.obj k o ho) 3 (by omega)
 have g4:t.row[t.off+k*5+4]?=some (.val (.int .i64 o.fn)):=zdz (hT.obj k o ho) 4 (by omega)
 have hba:=zaq (ext:=ext) hT h' h2 h3 h4 hb k o ho o.l.ok
 rw[zas]at hba
 rw[show decide (o.k=6)=false by simp;omega]at hba
 simp only[mayMemT,TP.at]at hba
 have cSt:(o.s=.empty)=True:=eq_true cS
 have cFt:(o.fn=0)=True:=eq_true cF
 have cRt:((o.l.xs.length:Int)≤o.room)=True:=eq_true cR
 have cQt:(o.room≤262144)=False:=eq_false cQ
 by_cases hh:heldOf T o.l.xs false=true
 case neg=>
  have hhf:heldOf T o.l.xs false=false:=by simpa using hh
  rw[hhf]at hba
  exact⟨false,by simp -implicitDefEqProofs [x652,hT.refs,hT.ren,TP.at,hT.box,-AV.cells,zcc,zcf,zce,zcd,zcb,zcg,k4,g0,g1,g2,g3,g4,hlen,hba,cSt,cFt,cRt,cQt],by simp[hhf]⟩
 rw[hh]at hba
 exact⟨false,by simp -implicitDefEqProofs [x652,hT.refs,hT.ren,TP.at,hT.box,-AV.cells,zcc,zcf,zce,zcd,zcb,zcg,k4,g0,g1,g2,g3,g4,hlen,hba,cSt,cFt,cRt,cQt],by simp[cS,cF,cR,cQ,hh]⟩
theorem zj8 {sA:AV} {t:TP} {T:List Obj} (hT:StoreT code ext sA t T) (h':code 656=some x656) (h2:code 653=some x653) (h3:code 759=some x759) (h4:code 749=some x749) (h5:code 650=some x650) (h6:code 652=some x652) (hb:T.length≤1048576) (k:Nat) (o:Obj) (ho:T[k]?=some o) (k4:o.k=4) (cS:o.s=.empty) (cF:o.fn=0) (cR:(o.l.xs.length:Int)≤o.room) (cQ:o.room≤262144):∃b:Bool,callW code ext 652 [sA,t.at k] []=some (avb b,[])∧(b=true↔ObjOk T o):=by
 rw[zb5 code ext h6]
 have hlen:=zpr o.l.ok
 have hok:ObjOk T o↔(o.s=.empty∧o.fn=0∧(o.l.xs.length:Int)≤65536∧(o.l.xs.length:Int)≤o.room∧o.room≤262144∧heldOf T o.l.xs false=true):=by
  unfold ObjOk
  rw[if_neg (by omega),if_pos k4]
 rw[hok]
 clear hok
 have g0:t.row[t.off+k*5]?=some (.val (.int .u8 o.k)):=zdz (hT.obj k o ho) 0 (by omega)
 have g1:t.row[t.off+k*5+1]?=some (.val (.string o.s)):=zdz (hT.obj k o ho) 1 (by omega)
 have g2:t.row[t.off+k*5+2]?=some (o.l.iv):=zdz (hT.obj k o ho) 2 (by omega)
 have g3:t.row[t.off+k*5+3]?=some (.val (.int .i64 o.room)):=zdz (hT.obj k o ho) 3 (by omega)
 have g4:t.row[t.off+k*5+4]?=some (.val (.int .i64 o.fn)):=zdz (hT.obj k o ho) 4 (by omega)
 have hba:=zaq (ext:=ext) hT h' h2 h3 h4 hb k o ho o.l.ok
 rw[zas]at hba
 rw[show decide (o.k=6)=false by simp;omega]at hba
 simp only[mayMemT,TP.at]at hba
 have cSt:(o.s=.empty)=True:=eq_true cS
 have cFt:(o.fn=0)=True:=eq_true cF
 have cRt:((o.l.xs.length:Int)≤o.room)=True:=eq_true cR
 have cQt:(o.room≤262144)=True:=eq_true cQ
 by_cases hh:heldOf T o.l.xs false=true
 case neg=>
  have hhf:heldOf T o.l.xs false=false:=by simpa using hh
  rw[hhf]at hba
  exact⟨false,by simp -implicitDefEqProofs [x652,hT.refs,hT.ren,TP.at,hT.box,-AV.cells,zcc,zcf,zce,zcd,zcb,zcg,k4,g0,g1,g2,g3,g4,hlen,hba,cSt,cFt,cRt,cQt],by simp[hhf]⟩
 rw[hh]at hba
 by_cases cN4:(o.l.xs.length:Int)≤65536
 case neg=>
  have cN4t:((o.l.xs.length:Int)≤65536)=False:=eq_false cN4
  exact⟨false,by simp -implicitDefEqProofs [x652,hT.refs,hT.ren,TP.at,hT.box,-AV.cells,zcc,zcf,zce,zcd,zcb,zcg,k4,g0,g1,g2,g3,g4,hlen,hba,cSt,cFt,cRt,cQt,cN4t],by simp[cS,cF,cR,cQ,cN4]⟩
 have cN4t:((o.l.xs.length:Int)≤65536)=True:=eq_true cN4
 exact⟨true,by simp -implicitDefEqProofs [x652,hT.refs,hT.ren,TP.at,hT.box,-AV.cells,zcc,zcf,zce,zcd,zcb,zcg,k4,g0,g1,g2,g3,g4,hlen,hba,cSt,cFt,cRt,cQt,cN4t],by simp[cS,cF,cR,cQ,cN4,hh]⟩
theorem may4T{sA:AV}{t:TP}{T:List Obj}(hT:StoreT code ext sA t T)(h':code 656=some x656)(h2:code 653=some x653)(h3:code 759=some x759)(h4:code 749=some x749)(h5:code 650=some x650)(h6:code 652=some x652)(hb:T.length≤1048576)(k:Nat)(o:Obj)(ho:T[k]?=some o)(k4:o.k=4):∃b:Bool,callW code ext 652 [sA,t.at k] []=some (avb b,[])∧(b=true↔ObjOk T o):=by
 by_cases cS:o.s=.empty
 case neg=>exact zj4 hT h' h2 h3 h4 h5 h6 hb k o ho k4 cS
 by_cases cF:o.fn=0
 case neg=>exact zj5 hT h' h2 h3 h4 h5 h6 hb k o ho k4 cS cF
 by_cases cR:(o.l.xs.length:Int)≤o.room
 case neg=>exact zj6 hT h' h2 h3 h4 h5 h6 hb k o ho k4 cS cF cR
 by_cases cQ:o.room≤262144
 case neg=>exact zj7 hT h' h2 h3 h4 h5 h6 hb k o ho k4 cS cF cR cQ
 exact zj8 hT h' h2 h3 h4 h5 h6 hb k o ho k4 cS cF cR cQ
end
end Go.EX


set_option maxHeartbeats 1000000
namespace Go.EX
section
variable {code:Nat→Option XFun} {ext:Calls'}
theorem zj9 {sA:AV} {t:TP} {T:List Obj} (hT:StoreT code ext sA t T) (h':code 656=some x656) (h2:code 653=some x653) (h3:code 759=some x759) (h4:code 749=some x749) (h5:code 650=some x650) (h6:code 652=some x652) (hb:T.length≤1048576) (k:Nat) (o:Obj) (ho:T[k]?=some o) (k5:o.k=5) (cS:¬o.s=.empty):∃b:Bool,callW code ext 652 [sA,t.at k] []=some (avb b,[])∧(b=true↔ObjOk T o):=by
 rw[zb5 code ext h6]
 have hlen:=zpr o.l.ok
 have hok:ObjOk T o↔(o.s=.empty∧o.fn=0∧(o.l.xs.length:Int).tmod 2=0∧(o.l.xs.length:Int)≤131072∧(o.l.xs.length:Int)≤o.room∧o.room≤262144∧heldOf T o.l.xs false=true∧KeysOk T o.l.xs):=by
  unfold ObjOk
  rw[if_neg (by omega),if_neg (by omega),if_pos k5]
 rw[hok]
 clear hok
 have g0:t.row[t.off+k*5]?=some (.val (.int .u8 o.k)):=zdz (hT.obj k o ho) 0 (by omega)
 have g1:t.row[t.off+k*5+1]?=some (.val (.string o.s)):=zdz (hT.obj k o ho) 1 (by omega)
 have g2:t.row[t.off+k*5+2]?=some (o.l.iv):=zdz (hT.obj k o ho) 2 (by omega)
 have g3:t.row[t.off+k*5+3]?=some (.val (.int .i64 o.room)):=zdz (hT.obj k o ho) 3 (by omega)
 have g4:t.row[t.off+k*5+4]?=some (.val (.int .i64 o.fn)):=zdz (hT.obj k o ho) 4 (by omega)
 have hba:=zaq (ext:=ext) hT h' h2 h3 h4 hb k o ho o.l.ok
 rw[zas]at hba
 rw[show decide (o.k=6)=false by simp;omega]at hba
 simp only[mayMemT,TP.at]at hba
 have cSt:(o.s=.empty)=False:=eq_false cS
 by_cases hh:heldOf T o.l.xs false=true
 case neg=>
  have hhf:heldOf T o.l.xs false=false:=by simpa using hh
  rw[hhf]at hba
  exact⟨false,by simp -implicitDefEqProofs [x652,hT.refs,hT.ren,TP.at,hT.box,-AV.cells,zcc,zcf,zce,zcd,zcb,zcg,k5,g0,g1,g2,g3,g4,hlen,hba,cSt],by simp[hhf]⟩
 rw[hh]at hba
 exact⟨false,by simp -implicitDefEqProofs [x652,hT.refs,hT.ren,TP.at,hT.box,-AV.cells,zcc,zcf,zce,zcd,zcb,zcg,k5,g0,g1,g2,g3,g4,hlen,hba,cSt],by simp[cS,hh]⟩
theorem zka {sA:AV} {t:TP} {T:List Obj} (hT:StoreT code ext sA t T) (h':code 656=some x656) (h2:code 653=some x653) (h3:code 759=some x759) (h4:code 749=some x749) (h5:code 650=some x650) (h6:code 652=some x652) (hb:T.length≤1048576) (k:Nat) (o:Obj) (ho:T[k]?=some o) (k5:o.k=5) (cS:o.s=.empty) (cF:¬o.fn=0):∃b:Bool,callW code ext 652 [sA,t.at k] []=some (avb b,[])∧(b=true↔ObjOk T o):=by
 rw[zb5 code ext h6]
 have hlen:=zpr o.l.ok
 have hok:ObjOk T o↔(o.s=.empty∧o.fn=0∧(o.l.xs.length:Int).tmod 2=0∧(o.l.xs.length:Int)≤131072∧(o.l.xs.length:Int)≤o.room∧o.room≤262144∧heldOf T o.l.xs false=true∧KeysOk T o.l.xs):=by
  unfold ObjOk
  rw[if_neg (by omega),if_neg (by omega),if_pos k5]
 rw[hok]
 clear hok
 have g0:t.row[t.off+k*5]?=some (.val (.int .u8 o.k)):=zdz (hT.obj k o ho) 0 (by omega)
 have g1:t.row[t.off+k*5+1]?=some (.val (.string o.s)):=zdz (hT.obj k o ho) 1 (by omega)
 have g2:t.row[t.off+k*5+2]?=some (o.l.iv):=zdz (hT.obj k o ho) 2 (by omega)
 have g3:t.row[t.off+k*5+3]?=some (.val (.int .i64 o.room)):=zdz (hT.obj k o ho) 3 (by omega)
 have g4:t.row[t.off+k*5+4]?=some (.val (.int .i64 o.fn)):=zdz (hT.obj k o ho) 4 (by omega)
 have hba:=zaq (ext:=ext) hT h' h2 h3 h4 hb k o ho o.l.ok
 rw[zas]at hba
 rw[show decide (o.k=6)=false by simp;omega]at hba
 simp only[mayMemT,TP.at]at hba
 have cSt:(o.s=.empty)=True:=eq_true cS
 have cFt:(o.fn=0)=False:=eq_false cF
 by_cases hh:heldOf T o.l.xs false=true
 case neg=>
  have hhf:heldOf T o.l.xs false=false:=by simpa using hh
  rw[hhf]at hba
  exact⟨false,by simp -implicitDefEqProofs [x652,hT.refs,hT.ren,TP.at,hT.box,-AV.cells,zcc,zcf,zce,zcd,zcb,zcg,k5,g0,g1,g2,g3,g4,hlen,hba,cSt,cFt],by simp[hhf]⟩
 rw[hh]at hba
 exact⟨false,by simp -implicitDefEqProofs [x652,hT.refs,hT.ren,TP.at,hT.box,-AV.cells,zcc,zcf,zce,zcd,zcb,zcg,k5,g0,g1,g2,g3,g4,hlen,hba,cSt,cFt],by simp[cS,cF,hh]⟩
theorem zkb {sA:AV} {t:TP} {T:List Obj} (hT:StoreT code ext sA t T) (h':code 656=some x656) (h2:code 653=some x653) (h3:code 759=some x759) (h4:code 749=some x749) (h5:code 650=some x650) (h6:code 652=some x652) (hb:T.length≤1048576) (k:Nat) (o:Obj) (ho:T[k]?=some o) (k5:o.k=5) (cS:o.s=.empty) (cF:o.fn=0) (cR:¬(o.l.xs.length:Int)≤o.room):∃b:Bool,callW code ext 652 [sA,t.at k] []=some (avb b,[])∧(b=true↔ObjOk T o):=by
 rw[zb5 code ext h6]
 have hlen:=zpr o.l.ok
 have hok:ObjOk T o↔(o.s=.empty∧o.fn=0∧(o.l.xs.length:Int).tmod 2=0∧(o.l.xs.length:Int)≤131072∧(o.l.xs.length:Int)≤o.room∧o.room≤262144∧heldOf T o.l.xs false=true∧KeysOk T o.l.xs):=by
  unfold ObjOk
  rw[if_neg (by omega),if_neg (by omega),if_pos k5]
 rw[hok]
 clear hok
 have g0:t.row[t.off+k*5]?=some (.val (.int .u8 o.k)):=zdz (hT.obj k o ho) 0 (by omega)
 have g1:t.row[t.off+k*5+1]?=some (.val (.string o.s)):=zdz (hT.obj k o ho) 1 (by omega)
 have g2:t.row[t.off+k*5+2]?=some (o.l.iv):=zdz (hT.obj k o ho) 2 (by omega)
 have g3:t.row[t.off+k*5+3]?=some (.val (.int .i64 o.room)):=zdz (hT.obj k o ho) 3 (by omega)
 have g4:t.row[t.off+k*5+4]?=some (.val (.int .i64 o.fn)):=zdz (hT.obj k o ho) 4 (by omega)
 have hba:=zaq (ext:=ext) hT h' h2 h3 h4 hb k o ho o.l.ok
 rw[zas]at hba
 rw[show decide (o.k=6)=false by simp;omega]at hba
 simp only[mayMemT,TP.at]at hba
 have cSt:(o.s=.empty)=True:=eq_true cS
 have cFt:(o.fn=0)=True:=eq_true cF
 have cRt:((o.l.xs.length:Int)≤o.room)=False:=eq_false cR
 by_cases hh:heldOf T o.l.xs false=true
 case neg=>
  have hhf:heldOf T o.l.xs false=false:=by simpa using hh
  rw[hhf]at hba
  exact⟨false,by simp -implicitDefEqProofs [x652,hT.refs,hT.ren,TP.at,hT.box,-AV.cells,zcc,zcf,zce,zcd,zcb,zcg,k5,g0,g1,g2,g3,g4,hlen,hba,cSt,cFt,cRt],by simp[hhf]⟩
 rw[hh]at hba
 exact⟨false,by simp -implicitDefEqProofs [x652,hT.refs,hT.ren,TP.at,hT.box,-AV.cells,zcc,zcf,zce,zcd,zcb,zcg,k5,g0,g1,g2,g3,g4,hlen,hba,cSt,cFt,cRt],by simp[cS,cF,cR,hh]⟩
theorem zkc {sA:AV} {t:TP} {T:List Obj} (hT:StoreT code ext sA t T) (h':code 656=some x656) (h2:code 653=some x653) (h3:code 759=some x759) (h4:code 749=some x749) (h5:code 650=some x650) (h6:code 652=some x652) (hb:T.length≤1048576) (k:Nat) (o:Obj) (ho:T[k]?=some o) (k5:o.k=5) (cS:o.s=.empty) (cF:o.fn=0) (cR:(o.l.xs.length:Int)≤o.room) (cQ:¬o.room≤262144):∃b:Bool,callW code ext 652 [sA,t.at k] []=some (avb b,[])∧(b=true↔ObjOk T o):=by
 rw[zb5 code ext h6]
 have hlen:=zpr o.l.ok
 have hok:ObjOk T o↔(o.s=.empty∧o.fn=0∧(o.l.xs.length:Int).tmod 2=0∧(o.l.xs.length:Int)≤131072∧(o.l.xs.length:Int)≤o.room∧o.room≤262144∧heldOf T o.l.xs false=true∧KeysOk T o.l.xs):=by
  unfold ObjOk
  rw[if_neg (by omega),if_neg (by omega),if_pos k5]
 rw[hok]
 clear hok
 have g0:t.row[t.off+k*5]?=some (.val (.int .u8 o.k)):=zdz (hT.obj k o ho) 0 (by omega)
 have g1:t.row[t.off+k*5+1]?=some (.val (.string o.s)):=zdz (hT.obj k o ho) 1 (by omega)
 have g2:t.row[t.off+k*5+2]?=some (o.l.iv):=zdz (hT.obj k o ho) 2 (by omega)
 have g3:t.row[t.off+k*5+3]?=some (.val (.int .i64 o.room)):=zdz (hT.obj k o ho) 3 (by omega)
 have g4:t.row[t.off+k*5+4]?=some (.val (.int .i64 o.fn)):=zdz (hT.obj k o ho) 4 (by omega)
 have hba:=zaq (ext:=ext) hT h' h2 h3 h4 hb k o ho o.l.ok
 rw[zas]at hba
 rw[show decide (o.k=6)=false by simp;omega]at hba
 simp only[mayMemT,TP.at]at hba
 have cSt:(o.s=.empty)=True:=eq_true cS
 have cFt:(o.fn=0)=True:=eq_true cF
 have cRt:((o.l.xs.length:Int)≤o.room)=True:=eq_true cR
 have cQt:(o.room≤262144)=False:=eq_false cQ
 by_cases hh:heldOf T o.l.xs false=true
 case neg=>
  have hhf:heldOf T o.l.xs false=false:=by simpa using hh
  rw[hhf]at hba
  exact⟨false,by simp -implicitDefEqProofs [x652,hT.refs,hT.ren,TP.at,hT.box,-AV.cells,zcc,zcf,zce,zcd,zcb,zcg,k5,g0,g1,g2,g3,g4,hlen,hba,cSt,cFt,cRt,cQt],by simp[hhf]⟩
 rw[hh]at hba
 exact⟨false,by simp -implicitDefEqProofs [x652,hT.refs,hT.ren,TP.at,hT.box,-AV.cells,zcc,zcf,zce,zcd,zcb,zcg,k5,g0,g1,g2,g3,g4,hlen,hba,cSt,cFt,cRt,cQt],by simp[cS,cF,cR,cQ,hh]⟩
theorem zkd {sA:AV} {t:TP} {T:List Obj} (hT:StoreT code ext sA t T) (h':code 656=some x656) (h2:code 653=some x653) (h3:code 759=some x759) (h4:code 749=some x749) (h5:code 650=some x650) (h6:code 652=some x652) (hb:T.length≤1048576) (k:Nat) (o:Obj) (ho:T[k]?=some o) (k5:o.k=5) (cS:o.s=.empty) (cF:o.fn=0) (cR:(o.l.xs.length:Int)≤o.room) (cQ:o.room≤262144):∃b:Bool,callW code ext 652 [sA,t.at k] []=some (avb b,[])∧(b=true↔ObjOk T o):=by
 rw[zb5 code ext h6]
 have hlen:=zpr o.l.ok
 have hok:ObjOk T o↔(o.s=.empty∧o.fn=0∧(o.l.xs.length:Int).tmod 2=0∧(o.l.xs.length:Int)≤131072∧(o.l.xs.length:Int)≤o.room∧o.room≤262144∧heldOf T o.l.xs false=true∧KeysOk T o.l.xs):=by
  unfold ObjOk
  rw[if_neg (by omega),if_neg (by omega),if_pos k5]
 rw[hok]
 clear hok
 have g0:t.row[t.off+k*5]?=some (.val (.int .u8 o.k)):=zdz (hT.obj k o ho) 0 (by omega)
 have g1:t.row[t.off+k*5+1]?=some (.val (.string o.s)):=zdz (hT.obj k o ho) 1 (by omega)
 have g2:t.row[t.off+k*5+2]?=some (o.l.iv):=zdz (hT.obj k o ho) 2 (by omega)
 have g3:t.row[t.off+k*5+3]?=some (.val (.int .i64 o.room)):=zdz (hT.obj k o ho) 3 (by omega)
 have g4:t.row[t.off+k*5+4]?=some (.val (.int .i64 o.fn)):=zdz (hT.obj k o ho) 4 (by omega)
 have hba:=zaq (ext:=ext) hT h' h2 h3 h4 hb k o ho o.l.ok
 rw[zas]at hba
 rw[show decide (o.k=6)=false by simp;omega]at hba
 simp only[mayMemT,TP.at]at hba
 have cSt:(o.s=.empty)=True:=eq_true cS
 have cFt:(o.fn=0)=True:=eq_true cF
 have cRt:((o.l.xs.length:Int)≤o.room)=True:=eq_true cR
 have cQt:(o.room≤262144)=True:=eq_true cQ
 by_cases hh:heldOf T o.l.xs false=true
 case neg=>
  have hhf:heldOf T o.l.xs false=false:=by simpa using hh
  rw[hhf]at hba
  exact⟨false,by simp -implicitDefEqProofs [x652,hT.refs,hT.ren,TP.at,hT.box,-AV.cells,zcc,zcf,zce,zcd,zcb,zcg,k5,g0,g1,g2,g3,g4,hlen,hba,cSt,cFt,cRt,cQt],by simp[hhf]⟩
 rw[hh]at hba
 by_cases cE:(o.l.xs.length:Int).tmod 2=0
 case neg=>
  have cEt:((o.l.xs.length:Int).tmod 2=0)=False:=eq_false cE
  first
  |(exfalso;omega)
  |exact⟨false,by simp -implicitDefEqProofs [x652,hT.refs,hT.ren,TP.at,hT.box,-AV.cells,zcc,zcf,zce,zcd,zcb,zcg,k5,g0,g1,g2,g3,g4,hlen,hba,cSt,cFt,cRt,cQt,cEt],by simp[cS,cF,cR,cQ,cE]⟩
 have cEt:((o.l.xs.length:Int).tmod 2=0)=True:=eq_true cE
 by_cases cN5:(o.l.xs.length:Int)≤131072
 case neg=>
  have cN5t:((o.l.xs.length:Int)≤131072)=False:=eq_false cN5
  first
  |(exfalso;omega)
  |exact⟨false,by simp -implicitDefEqProofs [x652,hT.refs,hT.ren,TP.at,hT.box,-AV.cells,zcc,zcf,zce,zcd,zcb,zcg,k5,g0,g1,g2,g3,g4,hlen,hba,cSt,cFt,cRt,cQt,cEt,cN5t],by simp[cS,cF,cR,cQ,cE,cN5]⟩
 have cN5t:((o.l.xs.length:Int)≤131072)=True:=eq_true cN5
 have hev:o.l.xs.length%2=0:=by
  have h9:=cE
  rw[Int.tmod_eq_emod_of_nonneg (by omega)]at h9
  omega
 have hkv:∀v∈o.l.xs,valOf T v=true:=by
  intro v hv
  have h1:=List.all_eq_true.1 hh v hv
  simp only[Bool.and_eq_true]at h1
  exact h1.1
 have hkk:=zil (ext:=ext) hT h5 hb o.l.ok hev
 have hki:=zin T o.l.xs hev hkv
 have hkb:(decide ((normsTo T o.l.xs o.l.xs.length).length=o.l.xs.length / 2)=true)↔KeysOk T o.l.xs:=by rw[decide_eq_true_eq,hki]
 generalize decide ((normsTo T o.l.xs o.l.xs.length).length=o.l.xs.length / 2)=bk at hkk hkb
 refine⟨bk,?_,by rw[hkb];simp[cS,cF,cR,cQ,cE,cN5,hh]⟩
 simp -implicitDefEqProofs [x652,hT.refs,hT.ren,TP.at,hT.box,-AV.cells,zcc,zcf,zce,zcd,zcb,zcg,k5,g0,g1,g2,g3,g4,hlen,hba,cSt,cFt,cRt,cQt,cEt,cN5t,hkk]
theorem may5T{sA:AV}{t:TP}{T:List Obj}(hT:StoreT code ext sA t T)(h':code 656=some x656)(h2:code 653=some x653)(h3:code 759=some x759)(h4:code 749=some x749)(h5:code 650=some x650)(h6:code 652=some x652)(hb:T.length≤1048576)(k:Nat)(o:Obj)(ho:T[k]?=some o)(k5:o.k=5):∃b:Bool,callW code ext 652 [sA,t.at k] []=some (avb b,[])∧(b=true↔ObjOk T o):=by
 by_cases cS:o.s=.empty
 case neg=>exact zj9 hT h' h2 h3 h4 h5 h6 hb k o ho k5 cS
 by_cases cF:o.fn=0
 case neg=>exact zka hT h' h2 h3 h4 h5 h6 hb k o ho k5 cS cF
 by_cases cR:(o.l.xs.length:Int)≤o.room
 case neg=>exact zkb hT h' h2 h3 h4 h5 h6 hb k o ho k5 cS cF cR
 by_cases cQ:o.room≤262144
 case neg=>exact zkc hT h' h2 h3 h4 h5 h6 hb k o ho k5 cS cF cR cQ
 exact zkd hT h' h2 h3 h4 h5 h6 hb k o ho k5 cS cF cR cQ
end
end Go.EX


set_option maxHeartbeats 1000000
namespace Go.EX
section
variable {code:Nat→Option XFun} {ext:Calls'}
theorem zke {sA:AV} {t:TP} {T:List Obj} (hT:StoreT code ext sA t T) (h':code 656=some x656) (h2:code 653=some x653) (h3:code 759=some x759) (h4:code 749=some x749) (h5:code 650=some x650) (h6:code 652=some x652) (hb:T.length≤1048576) (k:Nat) (o:Obj) (ho:T[k]?=some o) (k6:o.k=6) (cS:¬o.s=.empty):∃b:Bool,callW code ext 652 [sA,t.at k] []=some (avb b,[])∧(b=true↔ObjOk T o):=by
 rw[zb5 code ext h6]
 have hlen:=zpr o.l.ok
 have hok:ObjOk T o↔(o.s=.empty∧o.room=0∧0≤o.fn∧o.fn<256∧heldOf T o.l.xs true=true):=by
  unfold ObjOk
  rw[if_neg (by omega),if_neg (by omega),if_neg (by omega),if_pos k6]
 rw[hok]
 clear hok
 have g0:t.row[t.off+k*5]?=some (.val (.int .u8 o.k)):=zdz (hT.obj k o ho) 0 (by omega)
 have g1:t.row[t.off+k*5+1]?=some (.val (.string o.s)):=zdz (hT.obj k o ho) 1 (by omega)
 have g2:t.row[t.off+k*5+2]?=some (o.l.iv):=zdz (hT.obj k o ho) 2 (by omega)
 have g3:t.row[t.off+k*5+3]?=some (.val (.int .i64 o.room)):=zdz (hT.obj k o ho) 3 (by omega)
 have g4:t.row[t.off+k*5+4]?=some (.val (.int .i64 o.fn)):=zdz (hT.obj k o ho) 4 (by omega)
 have hba:=zaq (ext:=ext) hT h' h2 h3 h4 hb k o ho o.l.ok
 rw[zas]at hba
 rw[show decide (o.k=6)=true by simp[k6]]at hba
 simp only[mayMemT,TP.at]at hba
 have cSt:(o.s=.empty)=False:=eq_false cS
 by_cases hh:heldOf T o.l.xs true=true
 case neg=>
  have hhf:heldOf T o.l.xs true=false:=by simpa using hh
  rw[hhf]at hba
  exact⟨false,by simp -implicitDefEqProofs [x652,hT.refs,hT.ren,TP.at,hT.box,-AV.cells,zcc,zcf,zce,zcd,zcb,zcg,k6,g0,g1,g2,g3,g4,hlen,hba,cSt],by simp[hhf]⟩
 rw[hh]at hba
 exact⟨false,by simp -implicitDefEqProofs [x652,hT.refs,hT.ren,TP.at,hT.box,-AV.cells,zcc,zcf,zce,zcd,zcb,zcg,k6,g0,g1,g2,g3,g4,hlen,hba,cSt],by simp[cS,hh]⟩
theorem zkf {sA:AV} {t:TP} {T:List Obj} (hT:StoreT code ext sA t T) (h':code 656=some x656) (h2:code 653=some x653) (h3:code 759=some x759) (h4:code 749=some x749) (h5:code 650=some x650) (h6:code 652=some x652) (hb:T.length≤1048576) (k:Nat) (o:Obj) (ho:T[k]?=some o) (k6:o.k=6) (cS:o.s=.empty) (cF:¬o.fn=0):∃b:Bool,callW code ext 652 [sA,t.at k] []=some (avb b,[])∧(b=true↔ObjOk T o):=by
 rw[zb5 code ext h6]
 have hlen:=zpr o.l.ok
 have hok:ObjOk T o↔(o.s=.empty∧o.room=0∧0≤o.fn∧o.fn<256∧heldOf T o.l.xs true=true):=by
  unfold ObjOk
  rw[if_neg (by omega),if_neg (by omega),if_neg (by omega),if_pos k6]
 rw[hok]
 clear hok
 have g0:t.row[t.off+k*5]?=some (.val (.int .u8 o.k)):=zdz (hT.obj k o ho) 0 (by omega)
 have g1:t.row[t.off+k*5+1]?=some (.val (.string o.s)):=zdz (hT.obj k o ho) 1 (by omega)
 have g2:t.row[t.off+k*5+2]?=some (o.l.iv):=zdz (hT.obj k o ho) 2 (by omega)
 have g3:t.row[t.off+k*5+3]?=some (.val (.int .i64 o.room)):=zdz (hT.obj k o ho) 3 (by omega)
 have g4:t.row[t.off+k*5+4]?=some (.val (.int .i64 o.fn)):=zdz (hT.obj k o ho) 4 (by omega)
 have hba:=zaq (ext:=ext) hT h' h2 h3 h4 hb k o ho o.l.ok
 rw[zas]at hba
 rw[show decide (o.k=6)=true by simp[k6]]at hba
 simp only[mayMemT,TP.at]at hba
 have cSt:(o.s=.empty)=True:=eq_true cS
 have cFt:(o.fn=0)=False:=eq_false cF
 by_cases hh:heldOf T o.l.xs true=true
 case neg=>
  have hhf:heldOf T o.l.xs true=false:=by simpa using hh
  rw[hhf]at hba
  exact⟨false,by simp -implicitDefEqProofs [x652,hT.refs,hT.ren,TP.at,hT.box,-AV.cells,zcc,zcf,zce,zcd,zcb,zcg,k6,g0,g1,g2,g3,g4,hlen,hba,cSt,cFt],by simp[hhf]⟩
 rw[hh]at hba
 by_cases cZ:o.room=0
 case neg=>
  have cZt:(o.room=0)=False:=eq_false cZ
  first
  |(exfalso;omega)
  |exact⟨false,by simp -implicitDefEqProofs [x652,hT.refs,hT.ren,TP.at,hT.box,-AV.cells,zcc,zcf,zce,zcd,zcb,zcg,k6,g0,g1,g2,g3,g4,hlen,hba,cSt,cFt,cZt],by simp[cS,cF,cZ]⟩
 have cZt:(o.room=0)=True:=eq_true cZ
 by_cases cG:0≤o.fn
 case neg=>
  have cGt:(0≤o.fn)=False:=eq_false cG
  first
  |(exfalso;omega)
  |exact⟨false,by simp -implicitDefEqProofs [x652,hT.refs,hT.ren,TP.at,hT.box,-AV.cells,zcc,zcf,zce,zcd,zcb,zcg,k6,g0,g1,g2,g3,g4,hlen,hba,cSt,cFt,cZt,cGt],by simp[cS,cF,cZ,cG]⟩
 have cGt:(0≤o.fn)=True:=eq_true cG
 by_cases cH:o.fn<256
 case neg=>
  have cHt:(o.fn<256)=False:=eq_false cH
  first
  |(exfalso;omega)
  |exact⟨false,by simp -implicitDefEqProofs [x652,hT.refs,hT.ren,TP.at,hT.box,-AV.cells,zcc,zcf,zce,zcd,zcb,zcg,k6,g0,g1,g2,g3,g4,hlen,hba,cSt,cFt,cZt,cGt,cHt],by simp[cS,cF,cZ,cG,cH]⟩
 have cHt:(o.fn<256)=True:=eq_true cH
 exact⟨true,by simp -implicitDefEqProofs [x652,hT.refs,hT.ren,TP.at,hT.box,-AV.cells,zcc,zcf,zce,zcd,zcb,zcg,k6,g0,g1,g2,g3,g4,hlen,hba,cSt,cFt,cZt,cGt,cHt],by simp[cS,cF,cZ,cG,cH,hh]⟩
theorem zkg {sA:AV} {t:TP} {T:List Obj} (hT:StoreT code ext sA t T) (h':code 656=some x656) (h2:code 653=some x653) (h3:code 759=some x759) (h4:code 749=some x749) (h5:code 650=some x650) (h6:code 652=some x652) (hb:T.length≤1048576) (k:Nat) (o:Obj) (ho:T[k]?=some o) (k6:o.k=6) (cS:o.s=.empty) (cF:o.fn=0) (cR:¬(o.l.xs.length:Int)≤o.room):∃b:Bool,callW code ext 652 [sA,t.at k] []=some (avb b,[])∧(b=true↔ObjOk T o):=by
 rw[zb5 code ext h6]
 have hlen:=zpr o.l.ok
 have hok:ObjOk T o↔(o.s=.empty∧o.room=0∧0≤o.fn∧o.fn<256∧heldOf T o.l.xs true=true):=by
  unfold ObjOk
  rw[if_neg (by omega),if_neg (by omega),if_neg (by omega),if_pos k6]
 rw[hok]
 clear hok
 have g0:t.row[t.off+k*5]?=some (.val (.int .u8 o.k)):=zdz (hT.obj k o ho) 0 (by omega)
 have g1:t.row[t.off+k*5+1]?=some (.val (.string o.s)):=zdz (hT.obj k o ho) 1 (by omega)
 have g2:t.row[t.off+k*5+2]?=some (o.l.iv):=zdz (hT.obj k o ho) 2 (by omega)
 have g3:t.row[t.off+k*5+3]?=some (.val (.int .i64 o.room)):=zdz (hT.obj k o ho) 3 (by omega)
 have g4:t.row[t.off+k*5+4]?=some (.val (.int .i64 o.fn)):=zdz (hT.obj k o ho) 4 (by omega)
 have hba:=zaq (ext:=ext) hT h' h2 h3 h4 hb k o ho o.l.ok
 rw[zas]at hba
 rw[show decide (o.k=6)=true by simp[k6]]at hba
 simp only[mayMemT,TP.at]at hba
 have cSt:(o.s=.empty)=True:=eq_true cS
 have cFt:(o.fn=0)=True:=eq_true cF
 have cRt:((o.l.xs.length:Int)≤o.room)=False:=eq_false cR
 by_cases hh:heldOf T o.l.xs true=true
 case neg=>
  have hhf:heldOf T o.l.xs true=false:=by simpa using hh
  rw[hhf]at hba
  exact⟨false,by simp -implicitDefEqProofs [x652,hT.refs,hT.ren,TP.at,hT.box,-AV.cells,zcc,zcf,zce,zcd,zcb,zcg,k6,g0,g1,g2,g3,g4,hlen,hba,cSt,cFt,cRt],by simp[hhf]⟩
 rw[hh]at hba
 by_cases cZ:o.room=0
 case neg=>
  have cZt:(o.room=0)=False:=eq_false cZ
  first
  |(exfalso;omega)
  |exact⟨false,by simp -implicitDefEqProofs [x652,hT.refs,hT.ren,TP.at,hT.box,-AV.cells,zcc,zcf,zce,zcd,zcb,zcg,k6,g0,g1,g2,g3,g4,hlen,hba,cSt,cFt,cRt,cZt],by simp[cS,cF,cR,cZ]⟩
 have cZt:(o.room=0)=True:=eq_true cZ
 by_cases cG:0≤o.fn
 case neg=>
  have cGt:(0≤o.fn)=False:=eq_false cG
  first
  |(exfalso;omega)
  |exact⟨false,by simp -implicitDefEqProofs [x652,hT.refs,hT.ren,TP.at,hT.box,-AV.cells,zcc,zcf,zce,zcd,zcb,zcg,k6,g0,g1,g2,g3,g4,hlen,hba,cSt,cFt,cRt,cZt,cGt],by simp[cS,cF,cR,cZ,cG]⟩
 have cGt:(0≤o.fn)=True:=eq_true cG
 by_cases cH:o.fn<256
 case neg=>
  have cHt:(o.fn<256)=False:=eq_false cH
  first
  |(exfalso;omega)
  |exact⟨false,by simp -implicitDefEqProofs [x652,hT.refs,hT.ren,TP.at,hT.box,-AV.cells,zcc,zcf,zce,zcd,zcb,zcg,k6,g0,g1,g2,g3,g4,hlen,hba,cSt,cFt,cRt,cZt,cGt,cHt],by simp[cS,cF,cR,cZ,cG,cH]⟩
 have cHt:(o.fn<256)=True:=eq_true cH
 exact⟨true,by simp -implicitDefEqProofs [x652,hT.refs,hT.ren,TP.at,hT.box,-AV.cells,zcc,zcf,zce,zcd,zcb,zcg,k6,g0,g1,g2,g3,g4,hlen,hba,cSt,cFt,cRt,cZt,cGt,cHt],by simp[cS,cF,cR,cZ,cG,cH,hh]⟩
theorem zkh {sA:AV} {t:TP} {T:List Obj} (hT:StoreT code ext sA t T) (h':code 656=some x656) (h2:code 653=some x653) (h3:code 759=some x759) (h4:code 749=some x749) (h5:code 650=some x650) (h6:code 652=some x652) (hb:T.length≤1048576) (k:Nat) (o:Obj) (ho:T[k]?=some o) (k6:o.k=6) (cS:o.s=.empty) (cF:o.fn=0) (cR:(o.l.xs.length:Int)≤o.room) (cQ:¬o.room≤262144):∃b:Bool,callW code ext 652 [sA,t.at k] []=some (avb b,[])∧(b=true↔ObjOk T o):=by
 rw[zb5 code ext h6]
 have hlen:=zpr o.l.ok
 have hok:ObjOk T o↔(o.s=.empty∧o.room=0∧0≤o.fn∧o.fn<256∧heldOf T o.l.xs true=true):=by
  unfold ObjOk
  rw[if_neg (by omega),if_neg (by omega),if_neg (by omega),if_pos k6]
 rw[hok]
 clear hok
 have g0:t.row[t.off+k*5]?=some (.val (.int .u8 o.k)):=zdz (hT.obj k o ho) 0 (by omega)
 have g1:t.row[t.off+k*5+1]?=some (.val (.string o.s)):=zdz (hT.obj k o ho) 1 (by omega)
 have g2:t.row[t.off+k*5+2]?=some (o.l.iv):=zdz (hT.obj k o ho) 2 (by omega)
 have g3:t.row[t.off+k*5+3]?=some (.val (.int .i64 o.room)):=zdz (hT.obj k o ho) 3 (by omega)
 have g4:t.row[t.off+k*5+4]?=some (.val (.int .i64 o.fn)):=zdz (hT.obj k o ho) 4 (by omega)
 have hba:=zaq (ext:=ext) hT h' h2 h3 h4 hb k o ho o.l.ok
 rw[zas]at hba
 rw[show decide (o.k=6)=true by simp[k6]]at hba
 simp only[mayMemT,TP.at]at hba
 have cSt:(o.s=.empty)=True:=eq_true cS
 have cFt:(o.fn=0)=True:=eq_true cF
 have cRt:((o.l.xs.length:Int)≤o.room)=True:=eq_true cR
 have cQt:(o.room≤262144)=False:=eq_false cQ
 by_cases hh:heldOf T o.l.xs true=true
 case neg=>
  have hhf:heldOf T o.l.xs true=false:=by simpa using hh
  rw[hhf]at hba
  exact⟨false,by simp -implicitDefEqProofs [x652,hT.refs,hT.ren,TP.at,hT.box,-AV.cells,zcc,zcf,zce,zcd,zcb,zcg,k6,g0,g1,g2,g3,g4,hlen,hba,cSt,cFt,cRt,cQt],by simp[hhf]⟩
 rw[hh]at hba
 by_cases cZ:o.room=0
 case neg=>
  have cZt:(o.room=0)=False:=eq_false cZ
  first
  |(exfalso;omega)
  |exact⟨false,by simp -implicitDefEqProofs [x652,hT.refs,hT.ren,TP.at,hT.box,-AV.cells,zcc,zcf,zce,zcd,zcb,zcg,k6,g0,g1,g2,g3,g4,hlen,hba,cSt,cFt,cRt,cQt,cZt],by simp[cS,cF,cR,cQ,cZ]⟩
 have cZt:(o.room=0)=True:=eq_true cZ
 by_cases cG:0≤o.fn
 case neg=>
  have cGt:(0≤o.fn)=False:=eq_false cG
  first
  |(exfalso;omega)
  |exact⟨false,by simp -implicitDefEqProofs [x652,hT.refs,hT.ren,TP.at,hT.box,-AV.cells,zcc,zcf,zce,zcd,zcb,zcg,k6,g0,g1,g2,g3,g4,hlen,hba,cSt,cFt,cRt,cQt,cZt,cGt],by simp[cS,cF,cR,cQ,cZ,cG]⟩
 have cGt:(0≤o.fn)=True:=eq_true cG
 by_cases cH:o.fn<256
 case neg=>
  have cHt:(o.fn<256)=False:=eq_false cH
  first
  |(exfalso;omega)
  |exact⟨false,by simp -implicitDefEqProofs [x652,hT.refs,hT.ren,TP.at,hT.box,-AV.cells,zcc,zcf,zce,zcd,zcb,zcg,k6,g0,g1,g2,g3,g4,hlen,hba,cSt,cFt,cRt,cQt,cZt,cGt,cHt],by simp[cS,cF,cR,cQ,cZ,cG,cH]⟩
 have cHt:(o.fn<256)=True:=eq_true cH
 exact⟨true,by simp -implicitDefEqProofs [x652,hT.refs,hT.ren,TP.at,hT.box,-AV.cells,zcc,zcf,zce,zcd,zcb,zcg,k6,g0,g1,g2,g3,g4,hlen,hba,cSt,cFt,cRt,cQt,cZt,cGt,cHt],by simp[cS,cF,cR,cQ,cZ,cG,cH,hh]⟩
theorem zki {sA:AV} {t:TP} {T:List Obj} (hT:StoreT code ext sA t T) (h':code 656=some x656) (h2:code 653=some x653) (h3:code 759=some x759) (h4:code 749=some x749) (h5:code 650=some x650) (h6:code 652=some x652) (hb:T.length≤1048576) (k:Nat) (o:Obj) (ho:T[k]?=some o) (k6:o.k=6) (cS:o.s=.empty) (cF:o.fn=0) (cR:(o.l.xs.length:Int)≤o.room) (cQ:o.room≤262144):∃b:Bool,callW code ext 652 [sA,t.at k] []=some (avb b,[])∧(b=true↔ObjOk T o):=by
 rw[zb5 code ext h6]
 have hlen:=zpr o.l.ok
 have hok:ObjOk T o↔(o.s=.empty∧o.room=0∧0≤o.fn∧o.fn<256∧heldOf T o.l.xs true=true):=by
  unfold ObjOk
  rw[if_neg (by omega),if_neg (by omega),if_neg (by omega),if_pos k6]
 rw[hok]
 clear hok
 have g0:t.row[t.off+k*5]?=some (.val (.int .u8 o.k)):=zdz (hT.obj k o ho) 0 (by omega)
 have g1:t.row[t.off+k*5+1]?=some (.val (.string o.s)):=zdz (hT.obj k o ho) 1 (by omega)
 have g2:t.row[t.off+k*5+2]?=some (o.l.iv):=zdz (hT.obj k o ho) 2 (by omega)
 have g3:t.row[t.off+k*5+3]?=some (.val (.int .i64 o.room)):=zdz (hT.obj k o ho) 3 (by omega)
 have g4:t.row[t.off+k*5+4]?=some (.val (.int .i64 o.fn)):=zdz (hT.obj k o ho) 4 (by omega)
 have hba:=zaq (ext:=ext) hT h' h2 h3 h4 hb k o ho o.l.ok
 rw[zas]at hba
 rw[show decide (o.k=6)=true by simp[k6]]at hba
 simp only[mayMemT,TP.at]at hba
 have cSt:(o.s=.empty)=True:=eq_true cS
 have cFt:(o.fn=0)=True:=eq_true cF
 have cRt:((o.l.xs.length:Int)≤o.room)=True:=eq_true cR
 have cQt:(o.room≤262144)=True:=eq_true cQ
 by_cases hh:heldOf T o.l.xs true=true
 case neg=>
  have hhf:heldOf T o.l.xs true=false:=by simpa using hh
  rw[hhf]at hba
  exact⟨false,by simp -implicitDefEqProofs [x652,hT.refs,hT.ren,TP.at,hT.box,-AV.cells,zcc,zcf,zce,zcd,zcb,zcg,k6,g0,g1,g2,g3,g4,hlen,hba,cSt,cFt,cRt,cQt],by simp[hhf]⟩
 rw[hh]at hba
 by_cases cZ:o.room=0
 case neg=>
  have cZt:(o.room=0)=False:=eq_false cZ
  first
  |(exfalso;omega)
  |exact⟨false,by simp -implicitDefEqProofs [x652,hT.refs,hT.ren,TP.at,hT.box,-AV.cells,zcc,zcf,zce,zcd,zcb,zcg,k6,g0,g1,g2,g3,g4,hlen,hba,cSt,cFt,cRt,cQt,cZt],by simp[cS,cF,cR,cQ,cZ]⟩
 have cZt:(o.room=0)=True:=eq_true cZ
 by_cases cG:0≤o.fn
 case neg=>
  have cGt:(0≤o.fn)=False:=eq_false cG
  first
  |(exfalso;omega)
  |exact⟨false,by simp -implicitDefEqProofs [x652,hT.refs,hT.ren,TP.at,hT.box,-AV.cells,zcc,zcf,zce,zcd,zcb,zcg,k6,g0,g1,g2,g3,g4,hlen,hba,cSt,cFt,cRt,cQt,cZt,cGt],by simp[cS,cF,cR,cQ,cZ,cG]⟩
 have cGt:(0≤o.fn)=True:=eq_true cG
 by_cases cH:o.fn<256
 case neg=>
  have cHt:(o.fn<256)=False:=eq_false cH
  first
  |(exfalso;omega)
  |exact⟨false,by simp -implicitDefEqProofs [x652,hT.refs,hT.ren,TP.at,hT.box,-AV.cells,zcc,zcf,zce,zcd,zcb,zcg,k6,g0,g1,g2,g3,g4,hlen,hba,cSt,cFt,cRt,cQt,cZt,cGt,cHt],by simp[cS,cF,cR,cQ,cZ,cG,cH]⟩
 have cHt:(o.fn<256)=True:=eq_true cH
 exact⟨true,by simp -implicitDefEqProofs [x652,hT.refs,hT.ren,TP.at,hT.box,-AV.cells,zcc,zcf,zce,zcd,zcb,zcg,k6,g0,g1,g2,g3,g4,hlen,hba,cSt,cFt,cRt,cQt,cZt,cGt,cHt],by simp[cS,cF,cR,cQ,cZ,cG,cH,hh]⟩
theorem may6T{sA:AV}{t:TP}{T:List Obj}(hT:StoreT code ext sA t T)(h':code 656=some x656)(h2:code 653=some x653)(h3:code 759=some x759)(h4:code 749=some x749)(h5:code 650=some x650)(h6:code 652=some x652)(hb:T.length≤1048576)(k:Nat)(o:Obj)(ho:T[k]?=some o)(k6:o.k=6):∃b:Bool,callW code ext 652 [sA,t.at k] []=some (avb b,[])∧(b=true↔ObjOk T o):=by
 by_cases cS:o.s=.empty
 case neg=>exact zke hT h' h2 h3 h4 h5 h6 hb k o ho k6 cS
 by_cases cF:o.fn=0
 case neg=>exact zkf hT h' h2 h3 h4 h5 h6 hb k o ho k6 cS cF
 by_cases cR:(o.l.xs.length:Int)≤o.room
 case neg=>exact zkg hT h' h2 h3 h4 h5 h6 hb k o ho k6 cS cF cR
 by_cases cQ:o.room≤262144
 case neg=>exact zkh hT h' h2 h3 h4 h5 h6 hb k o ho k6 cS cF cR cQ
 exact zki hT h' h2 h3 h4 h5 h6 hb k o ho k6 cS cF cR cQ
end
end Go.EX


set_option maxHeartbeats 1000000
namespace Go.EX
section
variable {code:Nat→Option XFun} {ext:Calls'}
theorem zkj {sA:AV} {t:TP} {T:List Obj} (hT:StoreT code ext sA t T) (h':code 656=some x656) (h2:code 653=some x653) (h3:code 759=some x759) (h4:code 749=some x749) (h5:code 650=some x650) (h6:code 652=some x652) (hb:T.length≤1048576) (k:Nat) (o:Obj) (ho:T[k]?=some o) (k3:¬o.k=3) (k4:¬o.k=4) (k5:¬o.k=5) (k6:¬o.k=6) (cS:¬o.s=.empty):∃b:Bool,callW code ext 652 [sA,t.at k] []=some (avb b,[])∧(b=true↔ObjOk T o):=by
 rw[zb5 code ext h6]
 have hlen:=zpr o.l.ok
 have hok:ObjOk T o↔(o.s=.empty∧o.room=0∧o.fn=0∧(o.l.xs.length:Int)=1∧heldOf T o.l.xs false=true):=by
  unfold ObjOk
  rw[if_neg k3,if_neg k4,if_neg k5,if_neg k6]
 rw[hok]
 clear hok
 have g0:t.row[t.off+k*5]?=some (.val (.int .u8 o.k)):=zdz (hT.obj k o ho) 0 (by omega)
 have g1:t.row[t.off+k*5+1]?=some (.val (.string o.s)):=zdz (hT.obj k o ho) 1 (by omega)
 have g2:t.row[t.off+k*5+2]?=some (o.l.iv):=zdz (hT.obj k o ho) 2 (by omega)
 have g3:t.row[t.off+k*5+3]?=some (.val (.int .i64 o.room)):=zdz (hT.obj k o ho) 3 (by omega)
 have g4:t.row[t.off+k*5+4]?=some (.val (.int .i64 o.fn)):=zdz (hT.obj k o ho) 4 (by omega)
 have hba:=zaq (ext:=ext) hT h' h2 h3 h4 hb k o ho o.l.ok
 rw[zas]at hba
 rw[show decide (o.k=6)=false by simp;omega]at hba
 simp only[mayMemT,TP.at]at hba
 have cSt:(o.s=.empty)=False:=eq_false cS
 by_cases hh:heldOf T o.l.xs false=true
 case neg=>
  have hhf:heldOf T o.l.xs false=false:=by simpa using hh
  rw[hhf]at hba
  exact⟨false,by simp -implicitDefEqProofs [x652,hT.refs,hT.ren,TP.at,hT.box,-AV.cells,zcc,zcf,zce,zcd,zcb,zcg,k3,k4,k5,k6,g0,g1,g2,g3,g4,hlen,hba,cSt],by simp[hhf]⟩
 rw[hh]at hba
 exact⟨false,by simp -implicitDefEqProofs [x652,hT.refs,hT.ren,TP.at,hT.box,-AV.cells,zcc,zcf,zce,zcd,zcb,zcg,k3,k4,k5,k6,g0,g1,g2,g3,g4,hlen,hba,cSt],by simp[cS,hh]⟩
theorem zkk {sA:AV} {t:TP} {T:List Obj} (hT:StoreT code ext sA t T) (h':code 656=some x656) (h2:code 653=some x653) (h3:code 759=some x759) (h4:code 749=some x749) (h5:code 650=some x650) (h6:code 652=some x652) (hb:T.length≤1048576) (k:Nat) (o:Obj) (ho:T[k]?=some o) (k3:¬o.k=3) (k4:¬o.k=4) (k5:¬o.k=5) (k6:¬o.k=6) (cS:o.s=.empty) (cF:¬o.fn=0):∃b:Bool,callW code ext 652 [sA,t.at k] []=some (avb b,[])∧(b=true↔ObjOk T o):=by
 rw[zb5 code ext h6]
 have hlen:=zpr o.l.ok
 have hok:ObjOk T o↔(o.s=.empty∧o.room=0∧o.fn=0∧(o.l.xs.length:Int)=1∧heldOf T o.l.xs false=true):=by
  unfold ObjOk
  rw[if_neg k3,if_neg k4,if_neg k5,if_neg k6]
 rw[hok]
 clear hok
 have g0:t.row[t.off+k*5]?=some (.val (.int .u8 o.k)):=zdz (hT.obj k o ho) 0 (by omega)
 have g1:t.row[t.off+k*5+1]?=some (.val (.string o.s)):=zdz (hT.obj k o ho) 1 (by omega)
 have g2:t.row[t.off+k*5+2]?=some (o.l.iv):=zdz (hT.obj k o ho) 2 (by omega)
 have g3:t.row[t.off+k*5+3]?=some (.val (.int .i64 o.room)):=zdz (hT.obj k o ho) 3 (by omega)
 have g4:t.row[t.off+k*5+4]?=some (.val (.int .i64 o.fn)):=zdz (hT.obj k o ho) 4 (by omega)
 have hba:=zaq (ext:=ext) hT h' h2 h3 h4 hb k o ho o.l.ok
 rw[zas]at hba
 rw[show decide (o.k=6)=false by simp;omega]at hba
 simp only[mayMemT,TP.at]at hba
 have cSt:(o.s=.empty)=True:=eq_true cS
 have cFt:(o.fn=0)=False:=eq_false cF
 by_cases hh:heldOf T o.l.xs false=true
 case neg=>
  have hhf:heldOf T o.l.xs false=false:=by simpa using hh
  rw[hhf]at hba
  exact⟨false,by simp -implicitDefEqProofs [x652,hT.refs,hT.ren,TP.at,hT.box,-AV.cells,zcc,zcf,zce,zcd,zcb,zcg,k3,k4,k5,k6,g0,g1,g2,g3,g4,hlen,hba,cSt,cFt],by simp[hhf]⟩
 rw[hh]at hba
 by_cases cZ:o.room=0
 case neg=>
  have cZt:(o.room=0)=False:=eq_false cZ
  exact⟨false,by simp -implicitDefEqProofs [x652,hT.refs,hT.ren,TP.at,hT.box,-AV.cells,zcc,zcf,zce,zcd,zcb,zcg,k3,k4,k5,k6,g0,g1,g2,g3,g4,hlen,hba,cSt,cFt,cZt],by simp[cS,cF,cZ]⟩
 have cZt:(o.room=0)=True:=eq_true cZ
 exact⟨false,by simp -implicitDefEqProofs [x652,hT.refs,hT.ren,TP.at,hT.box,-AV.cells,zcc,zcf,zce,zcd,zcb,zcg,k3,k4,k5,k6,g0,g1,g2,g3,g4,hlen,hba,cSt,cFt,cZt],by simp[cS,cF,cZ,hh]⟩
theorem zkl {sA:AV} {t:TP} {T:List Obj} (hT:StoreT code ext sA t T) (h':code 656=some x656) (h2:code 653=some x653) (h3:code 759=some x759) (h4:code 749=some x749) (h5:code 650=some x650) (h6:code 652=some x652) (hb:T.length≤1048576) (k:Nat) (o:Obj) (ho:T[k]?=some o) (k3:¬o.k=3) (k4:¬o.k=4) (k5:¬o.k=5) (k6:¬o.k=6) (cS:o.s=.empty) (cF:o.fn=0) (cR:¬(o.l.xs.length:Int)≤o.room):∃b:Bool,callW code ext 652 [sA,t.at k] []=some (avb b,[])∧(b=true↔ObjOk T o):=by
 rw[zb5 code ext h6]
 have hlen:=zpr o.l.ok
 have hok:ObjOk T o↔(o.s=.empty∧o.room=0∧o.fn=0∧(o.l.xs.length:Int)=1∧heldOf T o.l.xs false=true):=by
  unfold ObjOk
  rw[if_neg k3,if_neg k4,if_neg k5,if_neg k6]
 rw[hok]
 clear hok
 have g0:t.row[t.off+k*5]?=some (.val (.int .u8 o.k)):=zdz (hT.obj k o ho) 0 (by omega)
 have g1:t.row[t.off+k*5+1]?=some (.val (.string o.s)):=zdz (hT.obj k o ho) 1 (by omega)
 have g2:t.row[t.off+k*5+2]?=some (o.l.iv):=zdz (hT.obj k o ho) 2 (by omega)
 have g3:t.row[t.off+k*5+3]?=some (.val (.int .i64 o.room)):=zdz (hT.obj k o ho) 3 (by omega)
 have g4:t.row[t.off+k*5+4]?=some (.val (.int .i64 o.fn)):=zdz (hT.obj k o ho) 4 (by omega)
 have hba:=zaq (ext:=ext) hT h' h2 h3 h4 hb k o ho o.l.ok
 rw[zas]at hba
 rw[show decide (o.k=6)=false by simp;omega]at hba
 simp only[mayMemT,TP.at]at hba
 have cSt:(o.s=.empty)=True:=eq_true cS
 have cFt:(o.fn=0)=True:=eq_true cF
 have cRt:((o.l.xs.length:Int)≤o.room)=False:=eq_false cR
 by_cases hh:heldOf T o.l.xs false=true
 case neg=>
  have hhf:heldOf T o.l.xs false=false:=by simpa using hh
  rw[hhf]at hba
  exact⟨false,by simp -implicitDefEqProofs [x652,hT.refs,hT.ren,TP.at,hT.box,-AV.cells,zcc,zcf,zce,zcd,zcb,zcg,k3,k4,k5,k6,g0,g1,g2,g3,g4,hlen,hba,cSt,cFt,cRt],by simp[hhf]⟩
 rw[hh]at hba
 by_cases cZ:o.room=0
 case neg=>
  have cZt:(o.room=0)=False:=eq_false cZ
  exact⟨false,by simp -implicitDefEqProofs [x652,hT.refs,hT.ren,TP.at,hT.box,-AV.cells,zcc,zcf,zce,zcd,zcb,zcg,k3,k4,k5,k6,g0,g1,g2,g3,g4,hlen,hba,cSt,cFt,cRt,cZt],by simp[cS,cF,cR,cZ]⟩
 have cZt:(o.room=0)=True:=eq_true cZ
 by_cases cN1:(o.l.xs.length:Int)=1
 case neg=>
  have cN1t:((o.l.xs.length:Int)=1)=False:=eq_false cN1
  exact⟨false,by simp -implicitDefEqProofs [x652,hT.refs,hT.ren,TP.at,hT.box,-AV.cells,zcc,zcf,zce,zcd,zcb,zcg,k3,k4,k5,k6,g0,g1,g2,g3,g4,hlen,hba,cSt,cFt,cRt,cZt,cN1t],by simp[cS,cF,cR,cZ,cN1]⟩
 have cN1t:((o.l.xs.length:Int)=1)=True:=eq_true cN1
 exact⟨true,by simp -implicitDefEqProofs [x652,hT.refs,hT.ren,TP.at,hT.box,-AV.cells,zcc,zcf,zce,zcd,zcb,zcg,k3,k4,k5,k6,g0,g1,g2,g3,g4,hlen,hba,cSt,cFt,cRt,cZt,cN1t],by simp[cS,cF,cR,cZ,cN1,hh]⟩
theorem zkm {sA:AV} {t:TP} {T:List Obj} (hT:StoreT code ext sA t T) (h':code 656=some x656) (h2:code 653=some x653) (h3:code 759=some x759) (h4:code 749=some x749) (h5:code 650=some x650) (h6:code 652=some x652) (hb:T.length≤1048576) (k:Nat) (o:Obj) (ho:T[k]?=some o) (k3:¬o.k=3) (k4:¬o.k=4) (k5:¬o.k=5) (k6:¬o.k=6) (cS:o.s=.empty) (cF:o.fn=0) (cR:(o.l.xs.length:Int)≤o.room) (cQ:¬o.room≤262144):∃b:Bool,callW code ext 652 [sA,t.at k] []=some (avb b,[])∧(b=true↔ObjOk T o):=by
 rw[zb5 code ext h6]
 have hlen:=zpr o.l.ok
 have hok:ObjOk T o↔(o.s=.empty∧o.room=0∧o.fn=0∧(o.l.xs.length:Int)=1∧heldOf T o.l.xs false=true):=by
  unfold ObjOk
  rw[if_neg k3,if_neg k4,if_neg k5,if_neg k6]
 rw[hok]
 clear hok
 have g0:t.row[t.off+k*5]?=some (.val (.int .u8 o.k)):=zdz (hT.obj k o ho) 0 (by omega)
 have g1:t.row[t.off+k*5+1]?=some (.val (.string o.s)):=zdz (hT.obj k o ho) 1 (by omega)
 have g2:t.row[t.off+k*5+2]?=some (o.l.iv):=zdz (hT.obj k o ho) 2 (by omega)
 have g3:t.row[t.off+k*5+3]?=some (.val (.int .i64 o.room)):=zdz (hT.obj k o ho) 3 (by omega)
 have g4:t.row[t.off+k*5+4]?=some (.val (.int .i64 o.fn)):=zdz (hT.obj k o ho) 4 (by omega)
 have hba:=zaq (ext:=ext) hT h' h2 h3 h4 hb k o ho o.l.ok
 rw[zas]at hba
 rw[show decide (o.k=6)=false by simp;omega]at hba
 simp only[mayMemT,TP.at]at hba
 have cSt:(o.s=.empty)=True:=eq_true cS
 have cFt:(o.fn=0)=True:=eq_true cF
 have cRt:((o.l.xs.length:Int)≤o.room)=True:=eq_true cR
 have cQt:(o.room≤262144)=False:=eq_false cQ
 by_cases hh:heldOf T o.l.xs false=true
 case neg=>
  have hhf:heldOf T o.l.xs false=false:=by simpa using hh
  rw[hhf]at hba
  exact⟨false,by simp -implicitDefEqProofs [x652,hT.refs,hT.ren,TP.at,hT.box,-AV.cells,zcc,zcf,zce,zcd,zcb,zcg,k3,k4,k5,k6,g0,g1,g2,g3,g4,hlen,hba,cSt,cFt,cRt,cQt],by simp[hhf]⟩
 rw[hh]at hba
 by_cases cZ:o.room=0
 case neg=>
  have cZt:(o.room=0)=False:=eq_false cZ
  exact⟨false,by simp -implicitDefEqProofs [x652,hT.refs,hT.ren,TP.at,hT.box,-AV.cells,zcc,zcf,zce,zcd,zcb,zcg,k3,k4,k5,k6,g0,g1,g2,g3,g4,hlen,hba,cSt,cFt,cRt,cQt,cZt],by simp[cS,cF,cR,cQ,cZ]⟩
 have cZt:(o.room=0)=True:=eq_true cZ
 by_cases cN1:(o.l.xs.length:Int)=1
 case neg=>
  have cN1t:((o.l.xs.length:Int)=1)=False:=eq_false cN1
  exact⟨false,by simp -implicitDefEqProofs [x652,hT.refs,hT.ren,TP.at,hT.box,-AV.cells,zcc,zcf,zce,zcd,zcb,zcg,k3,k4,k5,k6,g0,g1,g2,g3,g4,hlen,hba,cSt,cFt,cRt,cQt,cZt,cN1t],by simp[cS,cF,cR,cQ,cZ,cN1]⟩
 have cN1t:((o.l.xs.length:Int)=1)=True:=eq_true cN1
 exact⟨true,by simp -implicitDefEqProofs [x652,hT.refs,hT.ren,TP.at,hT.box,-AV.cells,zcc,zcf,zce,zcd,zcb,zcg,k3,k4,k5,k6,g0,g1,g2,g3,g4,hlen,hba,cSt,cFt,cRt,cQt,cZt,cN1t],by simp[cS,cF,cR,cQ,cZ,cN1,hh]⟩
theorem zkn {sA:AV} {t:TP} {T:List Obj} (hT:StoreT code ext sA t T) (h':code 656=some x656) (h2:code 653=some x653) (h3:code 759=some x759) (h4:code 749=some x749) (h5:code 650=some x650) (h6:code 652=some x652) (hb:T.length≤1048576) (k:Nat) (o:Obj) (ho:T[k]?=some o) (k3:¬o.k=3) (k4:¬o.k=4) (k5:¬o.k=5) (k6:¬o.k=6) (cS:o.s=.empty) (cF:o.fn=0) (cR:(o.l.xs.length:Int)≤o.room) (cQ:o.room≤262144):∃b:Bool,callW code ext 652 [sA,t.at k] []=some (avb b,[])∧(b=true↔ObjOk T o):=by
 rw[zb5 code ext h6]
 have hlen:=zpr o.l.ok
 have hok:ObjOk T o↔(o.s=.empty∧o.room=0∧o.fn=0∧(o.l.xs.length:Int)=1∧heldOf T o.l.xs false=true):=by
  unfold ObjOk
  rw[if_neg k3,if_neg k4,if_neg k5,if_neg k6]
 rw[hok]
 clear hok
 have g0:t.row[t.off+k*5]?=some (.val (.int .u8 o.k)):=zdz (hT.obj k o ho) 0 (by omega)
 have g1:t.row[t.off+k*5+1]?=some (.val (.string o.s)):=zdz (hT.obj k o ho) 1 (by omega)
 have g2:t.row[t.off+k*5+2]?=some (o.l.iv):=zdz (hT.obj k o ho) 2 (by omega)
 have g3:t.row[t.off+k*5+3]?=some (.val (.int .i64 o.room)):=zdz (hT.obj k o ho) 3 (by omega)
 have g4:t.row[t.off+k*5+4]?=some (.val (.int .i64 o.fn)):=zdz (hT.obj k o ho) 4 (by omega)
 have hba:=zaq (ext:=ext) hT h' h2 h3 h4 hb k o ho o.l.ok
 rw[zas]at hba
 rw[show decide (o.k=6)=false by simp;omega]at hba
 simp only[mayMemT,TP.at]at hba
 have cSt:(o.s=.empty)=True:=eq_true cS
 have cFt:(o.fn=0)=True:=eq_true cF
 have cRt:((o.l.xs.length:Int)≤o.room)=True:=eq_true cR
 have cQt:(o.room≤262144)=True:=eq_true cQ
 by_cases hh:heldOf T o.l.xs false=true
 case neg=>
  have hhf:heldOf T o.l.xs false=false:=by simpa using hh
  rw[hhf]at hba
  exact⟨false,by simp -implicitDefEqProofs [x652,hT.refs,hT.ren,TP.at,hT.box,-AV.cells,zcc,zcf,zce,zcd,zcb,zcg,k3,k4,k5,k6,g0,g1,g2,g3,g4,hlen,hba,cSt,cFt,cRt,cQt],by simp[hhf]⟩
 rw[hh]at hba
 by_cases cZ:o.room=0
 case neg=>
  have cZt:(o.room=0)=False:=eq_false cZ
  exact⟨false,by simp -implicitDefEqProofs [x652,hT.refs,hT.ren,TP.at,hT.box,-AV.cells,zcc,zcf,zce,zcd,zcb,zcg,k3,k4,k5,k6,g0,g1,g2,g3,g4,hlen,hba,cSt,cFt,cRt,cQt,cZt],by simp[cS,cF,cR,cQ,cZ]⟩
 have cZt:(o.room=0)=True:=eq_true cZ
 by_cases cN1:(o.l.xs.length:Int)=1
 case neg=>
  have cN1t:((o.l.xs.length:Int)=1)=False:=eq_false cN1
  exact⟨false,by simp -implicitDefEqProofs [x652,hT.refs,hT.ren,TP.at,hT.box,-AV.cells,zcc,zcf,zce,zcd,zcb,zcg,k3,k4,k5,k6,g0,g1,g2,g3,g4,hlen,hba,cSt,cFt,cRt,cQt,cZt,cN1t],by simp[cS,cF,cR,cQ,cZ,cN1]⟩
 have cN1t:((o.l.xs.length:Int)=1)=True:=eq_true cN1
 exact⟨true,by simp -implicitDefEqProofs [x652,hT.refs,hT.ren,TP.at,hT.box,-AV.cells,zcc,zcf,zce,zcd,zcb,zcg,k3,k4,k5,k6,g0,g1,g2,g3,g4,hlen,hba,cSt,cFt,cRt,cQt,cZt,cN1t],by simp[cS,cF,cR,cQ,cZ,cN1,hh]⟩
theorem may7T{sA:AV}{t:TP}{T:List Obj}(hT:StoreT code ext sA t T)(h':code 656=some x656)(h2:code 653=some x653)(h3:code 759=some x759)(h4:code 749=some x749)(h5:code 650=some x650)(h6:code 652=some x652)(hb:T.length≤1048576)(k:Nat)(o:Obj)(ho:T[k]?=some o)(k3:¬o.k=3)(k4:¬o.k=4)(k5:¬o.k=5)(k6:¬o.k=6):∃b:Bool,callW code ext 652 [sA,t.at k] []=some (avb b,[])∧(b=true↔ObjOk T o):=by
 by_cases cS:o.s=.empty
 case neg=>exact zkj hT h' h2 h3 h4 h5 h6 hb k o ho k3 k4 k5 k6 cS
 by_cases cF:o.fn=0
 case neg=>exact zkk hT h' h2 h3 h4 h5 h6 hb k o ho k3 k4 k5 k6 cS cF
 by_cases cR:(o.l.xs.length:Int)≤o.room
 case neg=>exact zkl hT h' h2 h3 h4 h5 h6 hb k o ho k3 k4 k5 k6 cS cF cR
 by_cases cQ:o.room≤262144
 case neg=>exact zkm hT h' h2 h3 h4 h5 h6 hb k o ho k3 k4 k5 k6 cS cF cR cQ
 exact zkn hT h' h2 h3 h4 h5 h6 hb k o ho k3 k4 k5 k6 cS cF cR cQ
end
end Go.EX


namespace Go.EX
section
variable {code:Nat→Option XFun} {ext:Calls'}
theorem zko{sA:AV}{t:TP}{T:List Obj}(hT:StoreT code ext sA t T)(h':code 656=some x656)(h2:code 653=some x653)(h3:code 759=some x759)(h4:code 749=some x749)(h5:code 650=some x650)(h6:code 652=some x652)(hb:T.length≤1048576)(k:Nat)(o:Obj)(ho:T[k]?=some o):∃b:Bool,callW code ext 652 [sA,t.at k] []=some (avb b,[])∧(b=true↔ObjOk T o):=by
 by_cases k3:o.k=3
 ·exact may3T hT h' h2 h3 h4 h5 h6 hb k o ho k3
 by_cases k4:o.k=4
 ·exact may4T hT h' h2 h3 h4 h5 h6 hb k o ho k4
 by_cases k5:o.k=5
 ·exact may5T hT h' h2 h3 h4 h5 h6 hb k o ho k5
 by_cases k6:o.k=6
 ·exact may6T hT h' h2 h3 h4 h5 h6 hb k o ho k6
 exact may7T hT h' h2 h3 h4 h5 h6 hb k o ho k3 k4 k5 k6
abbrev oneObjB(v:Val):AObj:=.flat [.val (.int .u8 v.k),.val (.int .i64 v.n)] false
abbrev oneEnvB(i:Int):Env:=[(1,.optr 1 0),(2,.optr 2 0),(3,.optr 3 0),(8,.osl 0 0 2 1 (some 1)),(9,int64 1),(10,int64 i)]
def oneMemT(sA:AV)(t:TP)(v:Val):Option Nat→Mem
 |none=>[oneObjB v,.rich [sA],.rich [.omap 4],.rich [nilS],.map []]
 |some q=>[oneObjB v,.rich [sA],.rich [.omap 4],.rich [.osl 5 0 1 1 none],.map (seenT t [q]),.rich (ptrsT t [q])]
theorem znh{sA:AV}{t:TP}{T:List Obj}(hT:StoreT code ext sA t T)(hb:T.length≤1048576)(v:Val)(hw:tVal.wf v):
  ∃s',den code ext x655L1 ⟨5,oneEnvB 0,oneMemT sA t v none⟩=some (.normal,s')∧s'.tidy [1,2,3,8,9,10]=⟨5,oneEnvB 1,oneMemT sA t v (leadsOf T v)⟩:=by
 have hld:=hT.lead v hw.2
 have e1:IntKind.wrap .i64 1=1:=rfl
 cases hq:leadsOf T v with
 |none=>
  rw[hq,leadT]at hld
  try simp only[TP.at]at hld
  simp only[oneMemT]
  simp -implicitDefEqProofs [x655L1,hT.refs,hT.ren,TP.at,hld,e1]
 |some q=>
  rw[hq,leadT]at hld
  try simp only[TP.at]at hld
  simp only[oneMemT]
  have hf:∀m,findK m 3 (.tag t.b (t.a+q*5) (.ptr t.row (t.off+q*5))) [] 0=some none:=fun _=>rfl
  simp -implicitDefEqProofs [x655L1,hT.refs,hT.ren,TP.at,hld,e1,hf,exAppendX,exAppend,exAppendR,elems,elemsR,seenT,ptrsT]
theorem zng{sA:AV}{t:TP}{T:List Obj}(hT:StoreT code ext sA t T)(h':code 655=some x655)(hb:T.length≤1048576)(v:Val)(hw:tVal.wf v):
  callW code ext 655 [.osl 0 0 2 1 (some 1),.optr 1 0,.optr 2 0,.optr 3 0] (oneMemT sA t v none)=some (.tup [],oneMemT sA t v (leadsOf T v)):=by
 obtain⟨s',g1,g2⟩:=znh (ext:=ext) hT hb v hw
 have hl:∀s,s.tidy [1,2,3,8,9,10]=⟨5,oneEnvB 0,oneMemT sA t v none⟩→den code ext (.loop [1,2,3,8,9,10] x655L1) s=some (.exit 0,⟨5,oneEnvB 1++[(11,avb false)],oneMemT sA t v (leadsOf T v)⟩):=by
  intro s hs
  rw[zeb,hs,g1]
  simp only[andThen]
  rw[zeb,g2]
  cases leadsOf T v with
  |none=>simp -implicitDefEqProofs [x655L1,hT.refs,hT.ren,TP.at,oneMemT]
  |some q=>simp -implicitDefEqProofs [x655L1,hT.refs,hT.ren,TP.at,oneMemT,ptrsT,seenT]
 rw[zb5 code ext h']
 have hl':=hl ⟨5,oneEnvB 0,oneMemT sA t v none⟩ (by simp -implicitDefEqProofs [oneMemT,hT.refs,hT.ren,TP.at])
 cases hq:leadsOf T v with
 |none=>
  rw[hq]at hl'
  simp only[oneMemT]at hl' ⊢
  simp -implicitDefEqProofs [x655,hT.refs,hT.ren,TP.at,hl']
 |some q=>
  rw[hq]at hl'
  simp only[oneMemT,ptrsT,seenT]at hl' ⊢
  simp -implicitDefEqProofs [x655,hT.refs,hT.ren,TP.at,hl',ptrsT,seenT]
end
end Go.EX


namespace Go.EX
section
variable {code:Nat→Option XFun} {ext:Calls'}
abbrev reachEnv1T(i:Int):Env:=[(4,.optr 1 0),(6,.clo 655 [.optr 2 0,.optr 3 0,.optr 1 0]),(7,int64 i)]
def reachMem1T(sA:AV)(t:TP)(v:Val)(out:List Nat):Mem:=[oneObjB v,.rich [.osl 4 0 1 out.length none],.rich [sA],.rich [.omap 5],.rich (ptrsT t out),.map (seenT t out)]
theorem zpk{sA:AV}{t:TP}{T:List Obj}(hT:StoreT code ext sA t T)(h':code 655=some x655)(hb:T.length≤1048576)(v:Val)(out:List Nat)(hnd:out.Nodup)(hlt:∀q∈out,q<T.length)(i k:Nat)(hk:out[i]?=some k)(o:Obj)(ho:T[k]?=some o):
  ∃s',den code ext x654L1 ⟨1,reachEnv1T i,reachMem1T sA t v out⟩=some (.normal,s')∧s'.tidy [4,6,7]=⟨1,reachEnv1T ((i:Int)+1),reachMem1T sA t v (addAll T out o.l.xs)⟩:=by
 have hi:=(List.getElem?_eq_some_iff.1 hk).1
 have hlen:=ztk T.length out hnd hlt
 have e1:IntKind.wrap .i64 ((i:Int)+1)=(i:Int)+1:=wrapI64 (by omega) (by omega)
 have hp:(ptrsT t out)[i]?=some (t.at k):=by simp[ptrsT,hk]
 have hL:t.row[t.off+k*5+2]?=some o.l.iv:=zdz (hT.obj k o ho) 2 (by omega)
 obtain⟨o',tail',g1,g2,g3,g4⟩:=zah (ext:=ext) hT h' hb o.l.iv o.l.xs o.l.ok 5 out (.osl 4 0 1 out.length none) [.rich (ptrsT t out)] (.inr ⟨rfl,.inl ⟨rfl,rfl⟩⟩) rfl hnd hlt
 simp only[addBaseT,List.cons_append,List.nil_append]at g4
 by_cases he:addAll T out o.l.xs=out
 ·obtain⟨rfl,rfl⟩:=g2 he
  rw[he]at g4 ⊢
  refine⟨⟨1,reachEnv1T ((i:Int)+1),reachMem1T sA t v out⟩,?_,?_⟩
  ·simp -implicitDefEqProofs [x654L1,hT.refs,hT.ren,TP.at,reachMem1T,hi,hp,hL,g4,e1]
  ·simp -implicitDefEqProofs [reachMem1T,hT.refs,hT.ren,TP.at]
 ·have ho':=g3 he
  subst ho'
  generalize addAll T out o.l.xs=out' at *
  obtain rfl:tail'=[.dead,.rich (ptrsT t out')]:=by
   rcases g1 with⟨h5,_⟩|⟨_,⟨h6,_⟩|⟨_,h7⟩⟩
   ·cases h5
   ·cases h6
   ·exact h7
  refine⟨⟨1,reachEnv1T ((i:Int)+1),[oneObjB v,.rich [.osl 6 0 1 out'.length none],.rich [sA],.rich [.omap 5],.dead,.map (seenT t out'),.rich (ptrsT t out')]⟩,?_,?_⟩
  ·simp -implicitDefEqProofs [x654L1,hT.refs,hT.ren,TP.at,reachMem1T,hi,hp,hL,g4,e1]
  ·simp -implicitDefEqProofs [reachMem1T,hT.refs,hT.ren,TP.at]
def reachOut1T(t:TP)(v:Val)(out:List Nat):AV×Mem:=if out=[]then(nilS,[oneObjB v])else(.osl 1 0 1 out.length none,[oneObjB v,.rich (ptrsT t out)])
theorem zpi{sA:AV}{t:TP}{T:List Obj}(hT:StoreT code ext sA t T)(h':code 655=some x655)(h2:code 654=some x654)(hb:T.length≤1048576)(v:Val)(hw:tVal.wf v):
  ∃out,Grown T [v] out out.length∧callW code ext 654 [sA,.osl 0 0 2 1 (some 1)] [oneObjB v]=some (reachOut1T t v out):=by
 have g4:=zng (ext:=ext) hT h' hb v hw
 have hG:=Grown.start T [v]
 rw[zb5 code ext h2]
 cases hq:leadsOf T v with
 |none=>
  have he:addAll T [] [v]=[]:=by simp[addAll,hq]
  rw[hq]at g4
  rw[he]at hG
  simp only[oneMemT]at g4
  refine⟨[],hG,?_⟩
  have hl:den code ext (.loop [4,6,7] x654L1) ⟨1,[(4,.optr 2 0),(6,.clo 655 [.optr 1 0,.optr 4 0,.optr 2 0]),(7,int64 0)],[oneObjB v,.rich [sA],.rich [nilS],.map [],.rich [.omap 3]]⟩=
     some (.exit 0,⟨1,[(4,.optr 1 0),(6,.clo 655 [.optr 2 0,.optr 3 0,.optr 1 0]),(7,int64 0),(16,avb false)],[oneObjB v,.rich [nilS],.rich [sA],.rich [.omap 4],.map []]⟩):=by
   rw[zeb]
   simp -implicitDefEqProofs [x654L1,hT.refs,hT.ren,TP.at]
  simp -implicitDefEqProofs [x654,hT.refs,hT.ren,TP.at,hT.box,-AV.cells,zcc,zcf,zce,zcd,zcb,zcg,g4,hl,reachOut1T]
 |some q=>
  have he:addAll T [] [v]=[q]:=by simp[addAll,hq]
  rw[hq]at g4
  rw[he]at hG
  simp only[oneMemT]at g4
  have loop:∀s:St,s.tidy [4,6,7]=⟨1,reachEnv1T 0,reachMem1T sA t v [q]⟩→∃e s',den code ext (.loop [4,6,7] x654L1) s=some (e,s')∧e≠ .normal∧
    (e=.exit 0∧∃out,out≠[]∧Grown T [v] out out.length∧s'=⟨1,reachEnv1T out.length++[(16,avb false)],reachMem1T sA t v out⟩):=by
   intro s hst
   refine zjp (fun n s=>∃(i:Nat) (out:List Nat),i≤out.length∧out≠[]∧n+i=T.length∧Grown T [v] out i∧s.tidy [4,6,7]=⟨1,reachEnv1T i,reachMem1T sA t v out⟩) _ ?_ T.length s ⟨0,[q],by omega,by simp,by omega,hG,hst⟩
   clear hst hG he g4
   rintro n s ⟨i,out,hio,hne,hn,hG,hst⟩
   rw[hst]
   have hlt:∀q∈out,q<T.length:=fun q hq=>(hG.reach q hq).lt
   by_cases hi:i<out.length
   ·have hk:=List.getElem?_eq_getElem hi
    have hko:=hlt _ (List.getElem_mem hi)
    obtain⟨s',q1,q2⟩:=zpk (code:=code) (ext:=ext) hT h' hb v out hG.nodup hlt i _ hk _ (List.getElem?_eq_getElem hko)
    have hG':=hG.next hk (List.getElem?_eq_getElem hko)
    have hs:=hG.short
    obtain⟨r,hr⟩:=zad T T[out[i]].l.xs out
    refine⟨.normal,s',q1,.inl ⟨rfl,n-1,by omega,i+1,_,?_,?_,by omega,hG',by rw[q2];rfl⟩⟩
    ·rw[hr,List.length_append];omega
    ·rw[hr];intro e;exact hne (List.append_eq_nil_iff.1 e).1
   ·have:i=out.length:=by omega
    subst this
    refine⟨.exit 0,⟨1,reachEnv1T out.length++[(16,avb false)],reachMem1T sA t v out⟩,?_,.inr ⟨by simp,rfl,out,hne,hG,rfl⟩⟩
    simp -implicitDefEqProofs [x654L1,hT.refs,hT.ren,TP.at,reachMem1T]
  obtain⟨e,s',l1,_,rfl,out,hne,hG',rfl⟩:=loop ⟨1,[(4,.optr 2 0),(6,.clo 655 [.optr 1 0,.optr 4 0,.optr 2 0]),(7,int64 0)],[oneObjB v,.rich [sA],.rich [.osl 5 0 1 1 none],.map (seenT t [q]),.rich [.omap 3],.rich (ptrsT t [q])]⟩ (by simp -implicitDefEqProofs [reachMem1T,hT.refs,hT.ren,TP.at,ptrsT,seenT])
  refine⟨out,hG',?_⟩
  simp -implicitDefEqProofs [x654,hT.refs,hT.ren,TP.at,hT.box,-AV.cells,zcc,zcf,zce,zcd,zcb,zcg,g4,l1,reachMem1T,reachOut1T,hne]
end
end Go.EX


namespace Go.EX
section
variable {code:Nat→Option XFun} {ext:Calls'}
theorem zmx{sA:AV}{t:TP}{T:List Obj}(hT:StoreT code ext sA t T)(h':code 656=some x656)(h2:code 653=some x653)(h3:code 759=some x759)(h4:code 749=some x749)(h5:code 650=some x650)(h6:code 652=some x652)(h7:code 647=some x647)(hb:T.length≤1048576)(k:Nat)(o:Obj)(ho:T[k]?=some o):
  ∃b:Bool,callW code ext 647 [t.at k,.optr 0 0] [.rich [sA]]=some (avb b,[.rich [sA]])∧(b=true↔ ¬ObjOk T o):=by
 obtain⟨b,hm,hbo⟩:=zko (ext:=ext) hT h' h2 h3 h4 h5 h6 hb k o ho
 refine⟨!b,?_,by rw[←hbo];simp⟩
 simp only[TP.at]at hm ⊢
 rw[zb5 code ext h7]
 simp -implicitDefEqProofs [x647,hT.refs,hT.ren,TP.at,hm]
def anyMemT(sA:AV)(t:TP)(out:List Nat):Mem:=[.rich (ptrsT t out),.rich [sA]]
theorem zar{sA:AV}{t:TP}{T:List Obj}(hT:StoreT code ext sA t T)(h':code 656=some x656)(h2:code 653=some x653)(h3:code 759=some x759)(h4:code 749=some x749)(h5:code 650=some x650)(h6:code 652=some x652)(h7:code 647=some x647)(h8:code 745=some x745)(h9:code 755=some x755)(hb:T.length≤1048576)(out:List Nat)(hol:out.length≤T.length)(hlt:∀q∈out,q<T.length):
  ∃b:Bool,callW code ext 745 [.osl 0 0 1 out.length none,.clo 647 [.optr 1 0]] (anyMemT sA t out)=some (avb b,anyMemT sA t out)∧(b=true↔ ∃(k:Nat) (o:Obj),k∈out∧T[k]?=some o∧¬ObjOk T o):=by
 have loop:∃e s',den code ext (.loop [0,1,7,8] x755L1) ⟨2,[(0,.osl 0 0 1 out.length none),(1,.clo 647 [.optr 1 0]),(7,int64 out.length),(8,int64 0)],anyMemT sA t out⟩=some (e,s')∧e≠ .normal∧
   ((e=.exit 0∧(∀(i k:Nat) (o:Obj),out[i]?=some k→T[k]?=some o→ObjOk T o)∧s'=⟨2,[(0,.osl 0 0 1 out.length none),(1,.clo 647 [.optr 1 0]),(7,int64 out.length),(8,int64 out.length),(9,avb false)],anyMemT sA t out⟩)∨(e=.ret∧(∃(k:Nat) (o:Obj),k∈out∧T[k]?=some o∧¬ObjOk T o)∧∃i:Nat,s'=⟨2,[(4,int64 (i:Nat))],anyMemT sA t out⟩)):=by
  refine zjp (fun n s=>∃(i:Nat),i+n=out.length∧(∀(j k:Nat) (o:Obj),j<i→out[j]?=some k→T[k]?=some o→ObjOk T o)∧s=⟨2,[(0,.osl 0 0 1 out.length none),(1,.clo 647 [.optr 1 0]),(7,int64 out.length),(8,int64 (i:Nat))],anyMemT sA t out⟩) _ ?_ out.length _ ⟨0,by simp,fun j k o hj=>by omega,rfl⟩
  rintro n _ ⟨i,hi,hall,rfl⟩
  by_cases hio:i<out.length
  ·have hk:=List.getElem?_eq_getElem hio
   have hkm:=List.getElem_mem hio
   have hkT:=hlt _ hkm
   have e1:IntKind.wrap .i64 ((i:Int)+1)=(i:Int)+1:=wrapI64 (by omega) (by omega)
   generalize out[i]=k at hk hkm hkT
   have hTk:=List.getElem?_eq_getElem hkT
   generalize T[k]=o at hTk
   have hp:(ptrsT t out)[i]?=some (t.at k):=by simp[ptrsT,hk]
   obtain⟨b,hm,hbo⟩:=zmx (ext:=ext) hT h' h2 h3 h4 h5 h6 h7 hb k o hTk
   simp only[TP.at]at hm hp
   cases b with
   |true=>
    refine⟨.ret,⟨2,[(4,int64 (i:Nat))],anyMemT sA t out⟩,?_,.inr ⟨by simp,.inr ⟨rfl,⟨k,o,hkm,hTk,hbo.1 rfl⟩,i,rfl⟩⟩⟩
    simp -implicitDefEqProofs [x755L1,hT.refs,hT.ren,TP.at,anyMemT,hio,hp,hm]
   |false=>
    refine⟨.normal,⟨2,[(0,.osl 0 0 1 out.length none),(1,.clo 647 [.optr 1 0]),(7,int64 out.length),(8,int64 ((i:Int)+1))],anyMemT sA t out⟩,?_,.inl ⟨rfl,n-1,by omega,i+1,by omega,?_,rfl⟩⟩
    ·simp -implicitDefEqProofs [x755L1,hT.refs,hT.ren,TP.at,anyMemT,hio,hp,hm,e1]
    ·intro j k' o' hj h1 h2
     by_cases hji:j<i
     ·exact hall j k' o' hji h1 h2
     ·have:j=i:=by omega
      subst this
      rw[hk]at h1;cases h1
      rw[hTk]at h2;cases h2
      exact Classical.byContradiction fun hc=>by have:=hbo.2 hc;cases this
  ·have:i=out.length:=by omega
   subst this
   refine⟨.exit 0,_,?_,.inr ⟨by simp,.inl ⟨rfl,fun i k o h1 h2=>hall i k o (List.getElem?_eq_some_iff.1 h1).1 h1 h2,rfl⟩⟩⟩
   simp -implicitDefEqProofs [x755L1,hT.refs,hT.ren,TP.at,anyMemT]
 have hidx:∃r:Int,callW code ext 755 [.osl 0 0 1 out.length none,.clo 647 [.optr 1 0]] (anyMemT sA t out)=some (int64 r,anyMemT sA t out)∧((0≤r)↔ ∃(k:Nat) (o:Obj),k∈out∧T[k]?=some o∧¬ObjOk T o):=by
  obtain⟨e,s',g1,_,⟨rfl,ha,rfl⟩|⟨rfl,ha,i,rfl⟩⟩:=loop
  ·refine⟨-1,?_,⟨fun h=>by omega,?_⟩⟩
   ·rw[zb5 code ext h9]
    simp only[anyMemT]at g1 ⊢
    simp -implicitDefEqProofs [x755,hT.refs,hT.ren,TP.at,g1]
   ·rintro⟨k,o,hk,ho,hn⟩
    obtain⟨i,hi⟩:=List.getElem?_of_mem hk
    exact absurd (ha i k o hi ho) hn
  ·refine⟨i,?_,⟨fun _=>ha,fun _=>by omega⟩⟩
   rw[zb5 code ext h9]
   simp only[anyMemT]at g1 ⊢
   simp -implicitDefEqProofs [x755,hT.refs,hT.ren,TP.at,g1]
 obtain⟨r,hr,hri⟩:=hidx
 rw[zb5 code ext h8]
 refine⟨decide (0≤r),?_,by rw[decide_eq_true_eq,hri]⟩
 simp only[anyMemT]at hr ⊢
 simp -implicitDefEqProofs [x745,hT.refs,hT.ren,TP.at,hr]
theorem zmn(h8:code 745=some x745)(h9:code 755=some x755){sA:AV}{t:TP}{T:List Obj}(hT:StoreT code ext sA t T):
  callW code ext 745 [nilS,.clo 647 [.optr 0 0]] [.rich [sA]]=some (avb false,[.rich [sA]]):=by
 have hl:den code ext (.loop [0,1,7,8] x755L1) ⟨1,[(0,nilS),(1,.clo 647 [.optr 0 0]),(7,int64 0),(8,int64 0)],[.rich [sA]]⟩=some (.exit 0,⟨1,[(0,nilS),(1,.clo 647 [.optr 0 0]),(7,int64 0),(8,int64 0),(9,avb false)],[.rich [sA]]⟩):=by
  rw[zeb]
  simp -implicitDefEqProofs [x755L1,hT.refs,hT.ren,TP.at]
 have h5:callW code ext 755 [nilS,.clo 647 [.optr 0 0]] [.rich [sA]]=some (int64 (-1),[.rich [sA]]):=by
  rw[zb5 code ext h9]
  simp -implicitDefEqProofs [x755,hT.refs,hT.ren,TP.at,hl]
 rw[zb5 code ext h8]
 simp -implicitDefEqProofs [x745,hT.refs,hT.ren,TP.at,h5]
theorem zci{sA:AV}{t:TP}{T:List Obj}(hT:StoreT code ext sA t T)(h':code 656=some x656)(h2:code 653=some x653)(h3:code 759=some x759)(h4:code 749=some x749)(h5:code 650=some x650)(h6:code 652=some x652)(h7:code 647=some x647)(h8:code 745=some x745)(h9:code 755=some x755)(h10:code 654=some x654)(h11:code 655=some x655)(h12:code 646=some x646)
  (hb:T.length≤1048576) (v:Val) (hw:tVal.wf v):
  ∃b:Bool,callW code ext 646 [sA,.agg [.imm (.val (.int .u8 v.k)),int64 v.n]] []=some (avb b,[])∧(b=true↔CheckOk T v):=by
 have hv:=zvu (ext:=ext) hT h' hb v hw.2
 rw[zb5 code ext h12]
 cases hvv:valOf T v with
 |false=>
  rw[hvv]at hv
  exact⟨false,by simp -implicitDefEqProofs [x646,hT.refs,hT.ren,TP.at,hT.box,-AV.cells,zcc,zcf,zce,zcd,zcb,zcg,hv],by simp[CheckOk,hvv]⟩
 |true=>
  rw[hvv]at hv
  obtain⟨out,hG,hre⟩:=zpi (ext:=ext) hT h11 h10 hb v hw
  have hmem:∀k,k∈out↔Reach T [v] k:=hG.done (Nat.le_refl _)
  by_cases hne:out=[]
  ·subst hne
   simp only[reachOut1T,if_true]at hre
   have hna:=zmn (ext:=ext) h8 h9 hT
   refine⟨true,by simp -implicitDefEqProofs [x646,hT.refs,hT.ren,TP.at,hT.box,-AV.cells,zcc,zcf,zce,zcd,zcb,zcg,hv,hre,hna],?_⟩
   simp only[CheckOk,hvv,true_and,true_iff]
   intro k o hk
   have:=(hmem k).2 hk
   cases this
  ·simp only[reachOut1T,if_neg hne]at hre
   obtain⟨b,hany,hbo⟩:=zar (ext:=ext) hT h' h2 h3 h4 h5 h6 h7 h8 h9 hb out hG.short (fun q hq=>((hmem q).1 hq).lt)
   refine⟨!b,?_,?_⟩
   ·simp only[anyMemT]at hany
    simp -implicitDefEqProofs [x646,hT.refs,hT.ren,TP.at,hT.box,-AV.cells,zcc,zcf,zce,zcd,zcb,zcg,hv,hre,hany]
   ·simp only[CheckOk,hvv,true_and]
    cases b with
    |true=>
     obtain⟨k,o,hk,ho,hn⟩:=hbo.1 rfl
     simp only[Bool.not_true,Bool.false_eq_true,false_iff]
     exact fun hc=>hn (hc k o ((hmem k).1 hk) ho)
    |false=>
     simp only[Bool.not_false,true_iff]
     intro k o hk ho
     exact Classical.byContradiction fun hc=>by
      have:=hbo.2 ⟨k,o,(hmem k).2 hk,ho,hc⟩
      cases this
end
end Go.EX

