import Derived.Test.YtjdfihnmpmckjaaGreatDoorK11
import Derived.Test.YtjdfihnmpmckjaaGreatDoorK9
import Derived.Lib.ItoaLen
import Derived.Test.YtjdfihnmpmckjaaGreatDoorK7
import Derived.Test.YtjdfihnmpmckjaaGreatDoorK4
import Derived.Test.YtjdfihnmpmckjaaGreatDoorK10
import Derived.Test.YtjdfihnmpmckjaaGreatDoorK8
set_option linter.unusedVariables false
set_option linter.unusedSimpArgs false
namespace Go.EX
def zfv(q:Nat)(v:AV):Nat->List Obj->List AV
 |_,[]=>[]
 |i,o::r=>[.imm (.val (.int .u8 o.k)),.imm (.val (.string o.s)),if i=q then v else .imm o.l.iv,zaa o.room,zaa o.fn]++zfv q v (i+1) r
theorem zza(q:Nat)(v:AV):∀(T:List Obj) (i:Nat),q<i->zfv q v i T=(tObj.row T).map .imm
 |[],i,h=>rfl
 |o::r,i,h=>by
  rw[zfv,zza q v r (i+1) (by omega),if_neg (by omega)]
  simp[Ty.row,tObj]
theorem zy9(q:Nat)(v:AV):∀(T:List Obj) (i:Nat),i<=q->zfv q v i T=((tObj.row T).map AV.imm).set ((q-i)*5+2) v
 |[],i,h=>by simp[zfv,Ty.row]
 |o::r,i,h=>by
  have c:(tObj.row (o::r)).map AV.imm=[.imm (.val (.int .u8 o.k)),.imm (.val (.string o.s)),.imm o.l.iv,zaa o.room,zaa o.fn]++(tObj.row r).map AV.imm:=by simp[Ty.row,tObj]
  rw[zfv,c]
  by_cases e:i=q
  ·subst e
   rw[zza _ v r (i+1) (by omega),if_pos rfl,xcl]
   rfl
  ·rw[zy9 q v r (i+1) (by omega),if_neg e,xbb _ _ (by simp;omega)]
   congr 2
   simp
   omega
theorem z6o(q:Nat)(v:AV)(T:List Obj):zfv q v 0 T=zax (tObj.row T) (q*5+2) v:=by
 rw[zy9 q v T 0 (xcb _)]
 rfl
theorem z4z:∀xs:List Val,(tVal.row xs).all IV.plain=true
 |[]=>rfl
 |x::r=>by
  have h:tVal.row (x::r)=tVal.enc x++tVal.row r:=by simp[Ty.row]
  rw[h,xc2,z4z r,xcv]
  rfl
section
variable {code:Nat->Option zab} {ext:zac}
theorem yeq(h:code 742=some zda)(l:Sl tVal)(hb:l.xs.length<=1000000000){M:Mem}{v:AV}(hv:v=.imm l.iv\/∃lid cp,v=.osl lid 0 2 l.xs.length cp/\M[lid]?=some (.flat (tVal.row l.xs) false)/\l.iv=.slice (tVal.row l.xs) 0 l.xs.length cp):
  (zbt l.iv=true/\∀K e,zbk (callW code ext) ⟨K,e,M⟩ 742 [v]=some (zae,⟨K,e,M⟩))\/
  (zbt l.iv=false/\∃cap:Option Nat,(cap=none\/cap=some l.xs.length)/\∀K e,zbk (callW code ext) ⟨K,e,M⟩ 742 [v]=some (.osl M.length 0 2 l.xs.length cap,⟨K,e,M++[.flat (tVal.row l.xs) false]⟩)):=by
 have hf:[v].mapM (frz M)=some [.imm l.iv]:=by
  rcases hv with rfl|⟨lid,cp,rfl,h1,h2⟩
  ·rfl
  ·have:frz M (.osl lid 0 2 l.xs.length cp)=some (.imm l.iv):=by
    show(za5 M 20 _).map AV.imm=_
    have h3:za5 M 20 (.osl lid 0 2 l.xs.length cp)=some (.slice (tVal.row l.xs) 0 l.xs.length cp):=by
     show(match M[lid]? with
      |some (.flat cells _)=>some (IV.slice cells 0 l.xs.length cp)
      |some (.rich cells)=>(cells.mapM (za5 M 19)).map fun row=>.slice row 0 l.xs.length cp
      |_=>none)=_
     rw[h1]
    rw[h3,h2];rfl
   rw[xa5,this];rfl
 have hp:=z4z l.xs
 rcases zzw (ext:=ext) h l hb with⟨hz,c⟩|⟨hz,cap,hcap,c⟩
 ·refine .inl ⟨hz,fun K e=>?_⟩
  simp only[zbk,hf,c]
  rw[if_pos (by simp[AV.own,AV.own2,AV.own1])]
  simp[AV.ren]
 ·refine .inr ⟨hz,cap,hcap,fun K e=>?_⟩
  simp only[zbk,hf,c]
  rw[if_pos (by simp[AV.own,AV.own2,AV.own1,AObj.own,hp])]
  simp[AV.ren,AObj.ren]
theorem yif(h:code 742=some zda)(h2:code 740=some zes){T:List Obj}(hT:∀o∈T,o.l.xs.length<=1000000)(hn:T.length<=100000000){K:Nat}{Pm:Mem}{cap:Option Nat}{o0:AObj}{q lid n:Nat}{cq:Option Nat}{W:List IV}(hPl:Pm[lid]?=some (.flat W false))(hq:∀o,T[q]?=some o->o.l.xs.length=n/\tVal.row o.l.xs=W/\o.l.iv=.slice W 0 n cq)(ho0:za3 (zfv q (.osl lid 0 2 n cq) 0 T) o0){s:St}
  (hst:s.tidy [1000000,3,8,9]=⟨K,[(1000000,.junk),(3,.osl Pm.length 0 5 T.length cap),(8,zaa T.length),(9,zaa 0)],Pm++[o0]⟩):
  ∃e s',den code ext (.loop [1000000,3,8,9] zho) s=some (e,s')/\e≠ .normal/\
   (e=.exit 0/\∃o,za3 (zav (clR (Pm.length+1) T)) o/\s'=⟨K,[(3,.osl Pm.length 0 5 T.length cap),(8,zaa T.length),(9,zaa T.length),(10,avb false)],Pm++o::clM T⟩):=by
 refine zbu (fun m s=>∃(i:Nat) (o:AObj),i+m=T.length/\za3 (zav (clR (Pm.length+1) (T.take i))++zfv q (.osl lid 0 2 n cq) i (T.drop i)) o/\s.tidy [1000000,3,8,9]=⟨K,[(1000000,.junk),(3,.osl Pm.length 0 5 T.length cap),(8,zaa T.length),(9,zaa (i:Nat))],Pm++o::clM (T.take i)⟩) _ ?_ T.length _
  ⟨0,o0,by simp,by simpa [clR,zav]using ho0,by simpa [clM]using hst⟩
 clear hst
 rintro m s ⟨i,o,hi,ho,hst⟩
 rw[hst]
 by_cases hlt:i<T.length
 ·have hx:=xaa hlt
  have hb:=hT _ (xa8 hlt)
  have e1:IntKind.wrap .i64 ((i:Int)+1)=(i:Int)+1:=zaw (by omega) (by omega)
  have hlt':(i:Int)<T.length:=by omega
  have htk:T.take (i+1)=T.take i++[T[i]]:=by rw[xbg,hx];rfl
  have hdr:T.drop i=T[i]::T.drop (i+1):=xbl hlt
  have hqi:i=q->T[i].l.xs.length=n/\tVal.row T[i].l.xs=W/\T[i].l.iv=.slice W 0 n cq:=fun e=>hq _ (by rw[<-e];exact hx)
  have hcl:(zav (clR (Pm.length+1) (T.take i))).length=i*5:=by rw[zi3,zod,xb7];omega
  rw[hdr,zfv]at ho
  have hR2:zav (clR (Pm.length+1) (T.take (i+1)))=zav (clR (Pm.length+1) (T.take i))++(clO (Pm.length+1+(clM (T.take i)).length) T[i]).cells:=by rw[htk,zvf,zxi]
  have hM2:clM (T.take (i+1))=clM (T.take i)++clL T[i]:=by rw[htk,zzk]
  generalize T[i]=w at *
  generalize zav (clR (Pm.length+1) (T.take i))=A at *
  generalize clM (T.take i)=C at *
  have hll:lid<Pm.length:=(xab.1 hPl).1
  have hMl:(Pm++o::C)[lid]?=some (.flat W false):=by rw[xac hll];exact hPl
  have hcc:=yeq (ext:=ext) h w.l (by omega) (M:=Pm++o::C) (v:=if i=q then .osl lid 0 2 n cq else .imm w.l.iv) (by
   by_cases e:i=q
   ·rw[if_pos e]
    obtain⟨e1,e2,e3⟩:=hqi e
    exact .inr ⟨lid,cq,by rw[e1],by rw[e2];exact hMl,by rw[e1,e2];exact e3⟩
   ·rw[if_neg e];exact .inl rfl)
  have hv0:∀f:Nat->Option Nat,f lid=some lid->AV.ren f (if i=q then .osl lid 0 2 n cq else .imm w.l.iv)=if i=q then .osl lid 0 2 n cq else .imm w.l.iv:=fun f hf=>by
   by_cases e:i=q
   ·rw[if_pos e];simp[AV.ren,hf]
   ·rw[if_neg e];rfl
  generalize (if i=q then AV.osl lid 0 2 n cq else .imm w.l.iv)=v0 at *
  have hMq:(Pm++o::C)[Pm.length]?=some o:=by simp
  have hld:loadAt (Pm++o::C) none (.optr Pm.length (i*5+2))=some v0:=by
   rw[z3l hMq ho,xag (by omega),hcl,xbq];rfl
  have hset:∀v,setAll (A++([.imm (.val (.int .u8 w.k)),.imm (.val (.string w.s)),v0,zaa w.room,zaa w.fn]++zfv q (.osl lid 0 2 n cq) (i+1) (T.drop (i+1)))) (i*5+2) [v]=A++([.imm (.val (.int .u8 w.k)),.imm (.val (.string w.s)),v,zaa w.room,zaa w.fn]++zfv q (.osl lid 0 2 n cq) (i+1) (T.drop (i+1))):=by
   intro v
   simp only[setAll]
   rw[xbb _ _ (by omega),hcl,xbq];rfl
  have hfit:∀v:AV,i*5+2+[v].length<=(A++([.imm (.val (.int .u8 w.k)),.imm (.val (.string w.s)),v0,zaa w.room,zaa w.fn]++zfv q (.osl lid 0 2 n cq) (i+1) (T.drop (i+1)))).length:=by
   intro v;simp[hcl];omega
  have hlen:(Pm++o::C).length=Pm.length+1+C.length:=by simp;omega
  rcases hcc with⟨hz,c1⟩|⟨hz,cp,hcp,c1⟩
  ·obtain⟨o',hr',hs'⟩:=zpm (vs:=[zae]) hMq ho (hfit _)
   rw[hset]at hr'
   have hs2:(Pm++o::C).set Pm.length o'=Pm++o'::C:=by rw[xbb _ _ (xap _)];simp
   rw[hs2]at hs'
   have c2:=zzv (ext:=ext) h2 (Pm++o::C)
   have hmo:=zi4 ho
   have hmW:(AObj.flat W false).moved=false:=rfl
   refine⟨.normal,⟨K,[(3,.osl Pm.length 0 5 T.length cap),(8,zaa T.length),(9,zaa ((i:Int)+1))],Pm++o'::C⟩,?_,.inl ⟨rfl,m-1,by omega,i+1,o',by omega,?_,?_⟩⟩
   ·generalize Pm++o::C=N at *
    generalize Pm.length=q at *
    simp -implicitDefEqProofs [zho,hlt',hld,-loadAt,-zbk,c1,c2,hMq,hmo,-AObj.moved,hs',-storeAt,e1,hMl,hmW,hv0]
   ·rw[hR2]
    unfold clO RO.cells
    rw[if_pos hz]
    rw[xbj]
    exact hr'
   ·rw[hM2]
    simp -implicitDefEqProofs [clL,hz]
  ·have hMq2:((Pm++o::C)++[.flat (tVal.row w.l.xs) false])[Pm.length]?=some o:=by rw[xac (by simp)];exact hMq
   obtain⟨o',hr',hs'⟩:=zpm (vs:=[.osl (Pm++o::C).length 0 2 w.l.xs.length (some w.l.xs.length)]) hMq2 ho (hfit _)
   rw[hset]at hr'
   have hs2:((Pm++o::C)++[AObj.flat (tVal.row w.l.xs) false]).set Pm.length o'=Pm++o'::(C++[.flat (tVal.row w.l.xs) false]):=by
    rw[xbj,xbo,xbb _ _ (xap _)];simp
   rw[hs2]at hs'
   have c2:=zzu (ext:=ext) h2 ((Pm++o::C)++[.flat (tVal.row w.l.xs) false]) (Pm++o::C).length w.l.xs.length hcp
   have hmo:=zi4 ho
   have hmW:(AObj.flat W false).moved=false:=rfl
   have hmf:(AObj.flat (tVal.row w.l.xs) false).moved=false:=rfl
   have hMl2:((Pm++o::C)++[.flat (tVal.row w.l.xs) false])[lid]?=some (.flat W false):=by rw[xac (by simp;omega)];exact hMl
   have hgl:((Pm++o::C)++[AObj.flat (tVal.row w.l.xs) false])[(Pm++o::C).length]?=some (.flat (tVal.row w.l.xs) false):=ze2 _ _
   refine⟨.normal,⟨K,[(3,.osl Pm.length 0 5 T.length cap),(8,zaa T.length),(9,zaa ((i:Int)+1))],Pm++o'::(C++[.flat (tVal.row w.l.xs) false])⟩,?_,.inl ⟨rfl,m-1,by omega,i+1,o',by omega,?_,?_⟩⟩
   ·generalize Pm++o::C=N at *
    generalize Pm.length=q at *
    simp -implicitDefEqProofs [zho,hlt',hld,-loadAt,-zbk,c1,c2,hMq2,hmo,hmf,-AObj.moved,hs',-storeAt,e1,hMl2,hmW,hv0]
   ·rw[hR2]
    unfold clO RO.cells
    rw[if_neg (by rw[hz];decide),xbj,<-hlen]
    exact hr'
   ·rw[hM2]
    simp -implicitDefEqProofs [clL,hz]
 ·have:i=T.length:=by omega
  subst this
  rw[xbp,List.drop_length]at ho
  rw[xbp]
  refine⟨.exit 0,⟨K,[(3,.osl Pm.length 0 5 T.length cap),(8,zaa T.length),(9,zaa T.length),(10,avb false)],Pm++o::clM T⟩,?_,.inr ⟨by simp,rfl,o,by simpa [zfv]using ho,rfl⟩⟩
  simp -implicitDefEqProofs [zho]
theorem yig(c:zqw code){T:List Obj}{q:Nat}{o:Obj}(ho:T[q]?=some o)(hT:∀o∈T,o.l.xs.length<=1000000)(hn:T.length<=100000000)(cap cap0:Option Nat)(hiv:o.l.iv=.slice (tVal.row o.l.xs) 0 o.l.xs.length cap):
  ∃ob,za3 (zav (clR 3 T)) ob/\callW code ext 643 [.osl 0 0 5 T.length cap0] [.rich (zax (tObj.row T) (q*5+2) (.osl 1 0 2 o.l.xs.length cap)),.flat (tVal.row o.l.xs) false]=
   some (.osl 2 0 5 T.length (some T.length),.rich (zax (tObj.row T) (q*5+2) (.osl 1 0 2 o.l.xs.length cap)):: .flat (tVal.row o.l.xs) false::ob::clM T):=by
 have hq:q<T.length:=(xab.1 ho).1
 have h1:=z7j (ext:=ext) c.c743 (T:=T) (by omega) hn cap0 (q*5+2) (by omega) o.l.xs.length cap (tVal.row o.l.xs)
 have hb:=z6o q (.osl 1 0 2 o.l.xs.length cap) T
 have hrl:(tObj.row T).length=T.length*5:=zca tObj T
 have hrf:=zdz (R:=tObj.row T) (p:=q*5+2) (v:=.osl 1 0 2 o.l.xs.length cap) (by omega)
 have p1:=zd0
 obtain⟨e,s',h2,_,rfl,ob,hr,rfl⟩:=yif (ext:=ext) c.c742 c.c740 hT hn (K:=2) (Pm:=[.rich (zax (tObj.row T) (q*5+2) (.osl 1 0 2 o.l.xs.length cap)),.flat (tVal.row o.l.xs) false]) (cap:=none) (o0:=.rich (zax (tObj.row T) (q*5+2) (.osl 1 0 2 o.l.xs.length cap))) (q:=q) (lid:=1) (n:=o.l.xs.length) (cq:=cap) (W:=tVal.row o.l.xs) rfl
  (fun o' h=>by rw[ho]at h;cases h;exact⟨rfl,rfl,hiv⟩) (.inl (by rw[hb]))
  (s:=⟨2,[(3,.osl 2 0 5 T.length none),(8,zaa T.length),(9,zaa 0)],[.rich (zax (tObj.row T) (q*5+2) (.osl 1 0 2 o.l.xs.length cap)),.flat (tVal.row o.l.xs) false,.rich (zax (tObj.row T) (q*5+2) (.osl 1 0 2 o.l.xs.length cap))]⟩) (by simp -implicitDefEqProofs [])
 refine⟨ob,hr,?_⟩
 simp only[xax,xaz,xaw,xbo,xa7]at h2 hr
 have h3:=zvh (ext:=ext) c.c741 (.rich (zax (tObj.row T) (q*5+2) (.osl 1 0 2 o.l.xs.length cap)):: .flat (tVal.row o.l.xs) false::ob::clM T) 2 T.length (cap:=none) (.inl rfl)
 have hmo:=zi4 hr
 rw[zad code ext c.c643]
 generalize tObj.row T=R at *
 generalize clM T=C at *
 generalize T.length=N at *
 generalize tVal.row o.l.xs=W at *
 generalize o.l.xs.length=n at *
 have hmf:(AObj.flat W false).moved=false:=rfl
 have hmr:∀c,(AObj.rich c).moved=false:=fun _=>rfl
 simp -implicitDefEqProofs [znq,h1,h2,h3,hmo,hmf,hmr,hrf,p1,-AObj.moved]
end
structure z5x (code:Nat->Option zab) (idx:Nat):Prop extends zyv code,TwinCode code idx where
 c578:code 578=some zfb
 c639:code 639=some zlo
 c640:code 640=some z5c
 c641:code 641=some zkd
 c642:code 642=some zlp
 c749:code 749=some zbf
 c759:code 759=some zbc
section
variable {code:Nat->Option zab} {ext:zac}
end
section
variable {code:Nat->Option zab} {ext:zac}
structure zny (code:Nat->Option zab) (ext:zac) (q:Nat):Prop where
 imm:∀{sv:IV} {S:List Obj},zak tObj sv S->zbt sv=false->(∀o∈S,o.l.xs.length<=1000000)->S.length<=10000000->callW code ext 643 [.imm sv] []=some (.osl 0 0 5 S.length (some S.length),zdr S q (decide (q<S.length)) (tObj.row (S.map zaf)))
 obj:∀{T:List Obj} {o:Obj},T[q]?=some o->∀(cap cap0:Option Nat),(∀o∈T,o.l.xs.length<=1000000)->T.length<=100000000->o.l.iv=.slice (tVal.row o.l.xs) 0 o.l.xs.length cap->
  ∃X,XM 2 T X/\callW code ext 643 [.osl 0 0 5 T.length cap0] [.rich (zax (tObj.row T) (q*5+2) (.osl 1 0 2 o.l.xs.length cap)),.flat (tVal.row o.l.xs) false]=
   some (.osl 2 0 5 T.length (some T.length),.rich (zax (tObj.row T) (q*5+2) (.osl 1 0 2 o.l.xs.length cap)):: .flat (tVal.row o.l.xs) false::X)
theorem yen{m:Mem}{rid lid:Nat}{cs:List AV}{W:List IV}{b:Bool}(h:m[rid]?=some (.rich cs))(hr:AV.refs.refsL cs=[lid])(hl:m[lid]?=some (.flat W b))(hne:lid≠rid):order 0 [rid] m=[rid,lid]:=by
 have h1:rid<m.length:=(xab.1 h).1
 have h2:lid<m.length:=(xab.1 hl).1
 unfold order
 simp only[xcr,Mem.refs,xas,List.range_zero]
 rw[show(1000000000000:Nat)=999999999997+1+1+1 from rfl,reach]
 simp only[List.not_mem_nil,if_false,h1,if_true,h,xa0,AObj.refs,hr,xa7]
 rw[reach]
 have hn:lid ∉ [rid]:=by simp[hne]
 simp only[hn,if_false,h2,if_true,hl,xa0,AObj.refs,xas]
 rw[reach]
 rfl
theorem z16{q:Nat}(k:zny code ext q){T:List Obj}{o:Obj}(ho:T[q]?=some o)(cap cap0:Option Nat)(hT:∀o∈T,o.l.xs.length<=1000000)(hn:T.length<=100000000)(hiv:o.l.iv=.slice (tVal.row o.l.xs) 0 o.l.xs.length cap):
  ∃Xf:Nat->Mem,(∀n,XM n T (Xf n))/\∀(s:St) (rid lid:Nat),s.mem[rid]?=some (.rich (zax (tObj.row T) (q*5+2) (.osl lid 0 2 o.l.xs.length cap)))->s.mem[lid]?=some (.flat (tVal.row o.l.xs) false)->lid≠rid->
   zbg (callW code ext) s 643 [.osl rid 0 5 T.length cap0]=some (.osl s.mem.length 0 5 T.length (some T.length),{ s with mem:=s.mem++Xf s.mem.length }):=by
 obtain⟨X,hX,h⟩:=k.obj (T:=T) ho cap cap0 hT hn hiv
 have hq:q<T.length:=(xab.1 ho).1
 have hrl:(tObj.row T).length=T.length*5:=zca tObj T
 refine⟨fun n=>X.map (AObj.ren fun i=>some (n+(i-2))),fun n=>zkf hX fun i hi=>by simp,fun s rid lid hrid hlid hne=>?_⟩
 have hrl':rid<s.mem.length:=(xab.1 hrid).1
 have hrf:∀v:AV,AV.refs.refsL (zax (tObj.row T) (q*5+2) v)=v.refs:=fun v=>zdz (by omega)
 have hord:=yen hrid (by rw[hrf];rfl) hlid hne
 have hro:AV.refs.refsL [.osl rid 0 5 T.length cap0]=[rid]:=rfl
 have pl0:place [rid,lid] rid=some 0:=by simp[place]
 have pl1:place [rid,lid] lid=some 1:=by simp[place,hne]
 have hpk:s.mem.pickAll [rid,lid]=[.rich (zax (tObj.row T) (q*5+2) (.osl 1 0 2 o.l.xs.length cap)),.flat (tVal.row o.l.xs) false]:=by
  simp only[Mem.pickAll,xa4,List.map_nil,hrid,hlid,xa0,AObj.ren,zd0,AV.ren,pl1]
 have hrn:AV.ren.renL (place [rid,lid]) [.osl rid 0 5 T.length cap0]=[.osl 0 0 5 T.length cap0]:=by simp[AV.ren.renL,AV.ren]
 have hl1:0<X.length:=by obtain⟨ob,rfl,_⟩:=hX;simp
 have hmap:∀n,X.map (AObj.ren fun i=>if i<2 then[rid,lid][i]? else some (n+(i-2)))=X.map (AObj.ren fun i=>some (n+(i-2))):=fun n=>by
  refine xbk fun o ho=>zh3 o fun id hid=>?_
  have:=zlt hX o ho id hid
  rw[if_neg (by omega)]
 have hX2:=zlt hX
 generalize hB:zax (tObj.row T) (q*5+2) (.osl 1 0 2 o.l.xs.length cap)=B at *
 have hBr:(AObj.rich B).refs=[1]:=by simp only[AObj.refs];rw[<-hB,hrf];rfl
 have hall:(((AV.osl 2 0 5 T.length (some T.length)).refs.all fun j=>decide (j<(AObj.rich B::AObj.flat (tVal.row o.l.xs) false::X).length))&&(AObj.rich B::AObj.flat (tVal.row o.l.xs) false::X).all fun z=>z.refs.all fun j=>decide (j<(AObj.rich B::AObj.flat (tVal.row o.l.xs) false::X).length))=true:=by
  rw[xae]
  refine⟨by simp[AV.refs,hl1],?_⟩
  rw[xcp,xae]
  refine⟨by rw[hBr];simp,?_⟩
  rw[xcp,xae]
  refine⟨by simp[AObj.refs],?_⟩
  rw[xai]
  intro o ho
  rw[xai]
  intro r hr
  have:=hX2 o ho r hr
  simp;omega
 unfold zbg
 rw[hro,hord]
 dsimp only
 rw[hpk,hrn,h]
 simp only[xax,xaz,xaw]at hmap hall ⊢
 rw[if_pos]
 ·simp only[List.drop_succ_cons,xc5,hmap]
  simp[AV.ren]
 ·refine⟨by simp,?_⟩
  rw[xae]
  refine⟨?_,hall⟩
  simp[hrid,hlid,AObj.isFix,AObj.moved,AObj.refs,hrf,AV.refs]
end
structure zhq (T B:List Obj):Prop where
 len:B.length=T.length
 like:∀(i:Nat) (a b:Obj),T[i]?=some a->B[i]?=some b->LikeObj a b
 wf:∀o∈B,tObj.wf o
theorem z7l(o:Obj):LikeObj o (zaf o):=by
 refine⟨rfl,rfl,?_,rfl,rfl⟩
 unfold zaf zfg
 dsimp only
 split<;>rfl
theorem LikeObj.trans{a b c:Obj}(h:LikeObj a b)(g:LikeObj b c):LikeObj a c:=
 ⟨h.1.trans g.1,h.2.1.trans g.2.1,h.2.2.1.trans g.2.2.1,h.2.2.2.1.trans g.2.2.2.1,h.2.2.2.2.trans g.2.2.2.2⟩
theorem zn2{T:List Obj}(hw:∀o∈T,tObj.wf o):zhq T T:=
 ⟨rfl,fun i a b ha hb=>by rw[ha]at hb;cases hb;exact⟨rfl,rfl,rfl,rfl,rfl⟩,hw⟩
theorem zu7{T B:List Obj}(h:zhq T B):zhq T (B.map zaf):=by
 refine⟨by rw[xam];exact h.len,fun i a b ha hb=>?_,fun o ho=>?_⟩
 ·rw[xar,xad]at hb
  obtain⟨p,hp,rfl⟩:=hb
  exact(h.like i a p ha hp).trans (z7l p)
 ·obtain⟨p,hp,rfl⟩:=xbd.1 ho
  exact h.wf p hp
theorem zy2{T B:List Obj}(h:zhq T B)(i:Nat):(T[i]?=none/\B[i]?=none)\/∃a b,T[i]?=some a/\B[i]?=some b/\LikeObj a b:=by
 by_cases hi:i<T.length
 ·have h1:=xaa hi
  have h2:=xaa (l:=B) (i:=i) (by rw[h.len];exact hi)
  exact .inr ⟨_,_,h1,h2,h.like i _ _ h1 h2⟩
 ·exact .inl ⟨xaq (by omega),xaq (by rw[h.len];omega)⟩
theorem z4v:∀(S:List Obj),(unm (List.replicate S.length false) S:Int)=zgk S+S.length
 |[]=>by simp[unm,zgk]
 |o::S=>by
  have:=z4v S
  simp only[xax,List.replicate_succ,unm,zgk]
  omega
theorem z4e:∀(S:List Obj) (n:Int),(∀o∈S,tObj.wf o)->0<=n->zdq n S<=50000->n+zgk S<=50000/\n+S.length<=50000/\∀o∈S,zei o<=50000
 |[],n,_,h0,hz=>⟨by unfold zdq at hz;simpa [zgk]using hz,by unfold zdq at hz;simpa using hz,fun o ho=>by cases ho⟩
 |o::r,n,hw,h0,hz=>by
  unfold zdq at hz
  have hb:=zwx o (hw o (xbh ..))
  have hr:=fun x hx=>hw x (xbc o hx)
  split at hz
  ·obtain⟨h1,h2,h3⟩:=z4e r (n+zei o) hr (by omega) hz
   have hlow:=(z4c r (n+zei o) hr (by omega) (by omega)).1
   have ho:zei o<=50000:=by omega
   have hl:(1:Int)+o.l.xs.length<=zei o:=by
    unfold zei at ho ⊢
    split at ho
    ·rename_i h;rw[if_pos h];omega
    ·omega
   refine⟨by rw[zgk];omega,by rw[xax];omega,fun x hx=>?_⟩
   rcases xca.1 hx with rfl|hx
   ·exact ho
   ·exact h3 x hx
  ·omega
theorem z4d{S:List Obj}(hw:∀o∈S,tObj.wf o)(h:zdq S.length S<=50000):zgk S<=50000/\S.length<=50000/\(∀o∈S,o.s.size<=50000)/\∀o∈S,o.l.xs.length<=50000:=by
 obtain⟨h1,h2,h3⟩:=z4e S S.length hw (by omega) h
 refine⟨by omega,by omega,fun o ho=>?_,fun o ho=>?_⟩<;>
 ·have:=h3 o ho
  unfold zei at this
  split at this<;>omega
section
variable {code:Nat->Option zab} {ext:zac}
theorem zl4{S:List Obj}(hw:∀o∈S,tObj.wf o):zhq S (S.map zaf):=zu7 (zn2 hw)
end
@[simp] theorem yle(b a:Nat)(row:List IV)(off:Nat):zgs 1 (.tag b a (.ptr row off))=some false:=rfl
@[simp] theorem ylf(b a:Nat)(row:List IV)(off len:Nat)(cap:Option Nat):zgs 0 (.tag b a (.slice row off len cap))=some false:=rfl
@[simp] theorem ylm(b a:Nat)(x:IV):ze3 (.tag b a x)=some false:=rfl
@[simp] theorem ylq(b a:Nat)(row:List IV)(off len:Nat)(cap:Option Nat):lenOf (.tag b a (.slice row off len cap))=some len:=rfl
structure TP where
 b:Nat
 a:Nat
 row:List IV
 off:Nat
def TP.at(t:TP)(k:Nat):AV:=.tag t.b (t.a+k*5) (.ptr t.row (t.off+k*5))
def TP.sl(t:TP)(n:Nat)(cap:Option Nat):AV:=.tag t.b t.a (.slice t.row t.off n cap)
@[simp] theorem ykv(f:Nat->Option Nat)(t:TP)(k:Nat):(t.at k).ren f=t.at k:=rfl
@[simp] theorem zy7(t:TP)(k:Nat):(t.at k).refs=[]:=rfl
def zbi(t:TP)(out:List Nat):List AV:=out.map t.at
def zcq(t:TP)(out:List Nat):List (AV×AV):=out.map fun k=>(t.at k,avb true)
@[simp] theorem yl4(f:Nat->Option Nat)(t:TP)(out:List Nat):AV.ren.renL f (zbi t out)=zbi t out:=by
 rw[zfm]
 simp[zbi]
@[simp] theorem ymh(f:Nat->Option Nat)(t:TP)(out:List Nat):List.map (fun p=>(AV.ren f p.1,AV.ren f p.2)) (zcq t out)=zcq t out:=by
 simp[zcq,AV.ren]
@[simp] theorem yly(t:TP)(out:List Nat):AV.refs.refsL (zbi t out)=[]:=by
 unfold zbi
 induction out with
 |nil=>rfl
 |cons x r ih=>simp only[xa4,AV.refs.refsL,ih,zy7];rfl
@[simp] theorem yl1(t:TP)(out:List Nat):AV.refs.refsL (List.map (fun x=>x.1) (zcq t out))=[]:=by
 unfold zcq
 induction out with
 |nil=>rfl
 |cons x r ih=>simp only[xa4,AV.refs.refsL,ih,zy7];rfl
@[simp] theorem yl2(t:TP)(out:List Nat):AV.refs.refsL (List.map (fun x=>x.2) (zcq t out))=[]:=by
 unfold zcq
 induction out with
 |nil=>rfl
 |cons x r ih=>simp only[xa4,AV.refs.refsL,ih,AV.refs];rfl
theorem z1w(m:Mem)(t:TP)(k x:Nat):zeo m 3 (t.at k) (t.at x)=some (decide (k=x)):=by
 have h:(t.a+k*5==t.a+x*5)=decide (k=x):=by
  by_cases h:k=x
  ·subst h;simp
  ·simp[h]
   omega
 simp[zeo,TP.at,h]
theorem zv4(t:TP)(k:Nat):∀(out:List Nat) (i:Nat),
  (k ∉ out/\∀m:Mem,zcp m 3 (t.at k) (zcq t out) i=some none)\/
  (k∈out/\∃j,(∀m:Mem,zcp m 3 (t.at k) (zcq t out) i=some (some (i+j)))/\(zcq t out)[j]?=some (t.at k,avb true))
 |[],i=>.inl ⟨by simp,fun _=>rfl⟩
 |x::r,i=>by
  by_cases h:k=x
  ·subst h
   exact .inr ⟨by simp,0,fun m=>by simp[zcq,zcp,z1w],rfl⟩
  ·have hf:∀m:Mem,zcp m 3 (t.at k) (zcq t (x::r)) i=zcp m 3 (t.at k) (zcq t r) (i+1):=fun m=>by simp[zcq,zcp,z1w,h]
   rcases zv4 t k r (i+1)with⟨h1,h2⟩|⟨h1,j,h2,h3⟩
   ·exact .inl ⟨by simp[h,h1],fun m=>by rw[hf,h2]⟩
   ·refine .inr ⟨by simp[h1],j+1,fun m=>?_,h3⟩
    rw[hf,h2];congr 2;omega
theorem yg6(t:TP)(k:Nat)(out:List Nat):zcq t out++[(t.at k,avb true)]=zcq t (out++[k]):=by simp[zcq]
theorem yfb(t:TP)(k:Nat)(out:List Nat):zbi t out++[t.at k]=zbi t (out++[k]):=by simp[zbi]
theorem z7w(t:TP)(out:List Nat):cut (zbi t out) 0 out.length=some (zbi t out):=zdv _ (by simp[zbi])
section
variable {code:Nat->Option zab} {ext:zac}
def zde(t:TP):Option Nat->AV
 |some k=>t.at k
 |none=>.imm (.val (.pointer none))
structure zbd (code:Nat->Option zab) (ext:zac) (sA:AV) (t:TP) (S:List Obj):Prop where
 refs:sA.refs=[]
 ren:∀f,sA.ren f=sA
 box:AV.cells sA=some [sA]
 lead:∀v:Val,(zcs .i64).wf v.n->callW code ext 651 [sA,.agg [.imm (.val (.int .u8 v.k)),zaa v.n]] []=some (zde t (za7 S v),[])
 obj:∀(k:Nat) (o:Obj),S[k]?=some o->cut t.row (t.off+k*5) 5=some [.val (.int .u8 o.k),.val (.string o.s),o.l.iv,.val (.int .i64 o.room),.val (.int .i64 o.fn)]
theorem yan(h:code 651=some zfc)(t:TP)(S:List Obj)(cap:Option Nat)(hr:zak tObj (.slice t.row t.off S.length cap) S)(v:Val)(hv:(zcs .i64).wf v.n):
  callW code ext 651 [t.sl S.length cap,.agg [.imm (.val (.int .u8 v.k)),zaa v.n]] []=some (zde t (za7 S v),[]):=by
 have hb:=hr.2.1
 rw[zad code ext h]
 unfold za7 TP.sl
 by_cases c1:v.k<3
 ·simp -implicitDefEqProofs [zfc,c1,zde]
 by_cases c2:7<v.k
 ·simp -implicitDefEqProofs [zfc,c1,c2,zde]
 by_cases c3:v.n<1
 ·simp -implicitDefEqProofs [zfc,c1,c2,c3,zde]
 by_cases c4:(S.length:Int)<v.n
 ·simp -implicitDefEqProofs [zfc,c1,c2,c3,c4,zde,lenOf]
 obtain⟨vk,vn⟩:=v
 simp only at c1 c2 c3 c4 ⊢
 obtain⟨p,rfl⟩:∃p:Nat,vn=(p:Int)+1:=⟨(vn-1).toNat,by omega⟩
 have hlt:p<S.length:=by omega
 have hi:=xaa hlt
 have ep:((p:Int)+1-1).toNat=p:=by omega
 rw[if_neg c1,if_neg c2,if_neg c3,if_neg c4,ep,hi]
 obtain⟨row',off',cap',he,_,_,hget⟩:=zbv hr hi
 cases he
 generalize S[p]=o at hget
 simp only[tObj]at hget
 have g0:t.row[t.off+p*5]?=some (.val (.int .u8 o.k)):=zai hget 0 (by omega)
 have e1:IntKind.wrap .i64 (p:Int)=p:=zaw (by omega) (by omega)
 by_cases c5:o.k=vk
 ·simp -implicitDefEqProofs [zfc,c1,c2,c3,c4,e1,g0,c5,hlt,zde,lenOf,TP.at]
 ·simp -implicitDefEqProofs [zfc,c1,c2,c3,c4,e1,g0,c5,hlt,zde,lenOf]
theorem yam(h:code 651=some zfc)(t:TP){sv:IV}(hr:zak tObj sv [])(v:Val)(hv:(zcs .i64).wf v.n):
  callW code ext 651 [.imm sv,.agg [.imm (.val (.int .u8 v.k)),zaa v.n]] []=some (zde t (za7 [] v),[]):=by
 have hlen:lenOf (.imm sv)=some 0:=zau hr
 have hn:za7 [] v=none:=by
  cases hq:za7 [] v with
  |none=>rfl
  |some k=>exact absurd (ze5 hq).1 (by simp)
 rw[hn,zad code ext h]
 by_cases c1:v.k<3
 ·simp -implicitDefEqProofs [zfc,c1,zde]
 by_cases c2:7<v.k
 ·simp -implicitDefEqProofs [zfc,c1,c2,zde]
 by_cases c3:v.n<1
 ·simp -implicitDefEqProofs [zfc,c1,c2,c3,zde]
 have c4:(0:Int)<v.n:=by omega
 simp -implicitDefEqProofs [zfc,c1,c2,c3,c4,zde,hlen]
theorem yhk(h:code 651=some zfc)(t:TP)(S:List Obj)(cap:Option Nat)(hr:zak tObj (.slice t.row t.off S.length cap) S):zbd code ext (t.sl S.length cap) t S:=
 ⟨rfl,fun _=>rfl,rfl,fun v hv=>yan h t S cap hr v hv,fun k o ho=>by
  obtain⟨row',off',cap',he,_,_,hget⟩:=zbv hr ho
  cases he
  exact hget⟩
theorem yhj(h:code 651=some zfc)(t:TP){sv:IV}(hr:zak tObj sv []):zbd code ext (.imm sv) t []:=
 ⟨rfl,fun _=>rfl,rfl,fun v hv=>yam h t hr v hv,fun k o ho=>by simp at ho⟩
end
section
variable {code:Nat->Option zab} {ext:zac}
def zbb(sA:AV)(t:TP)(out:List Nat)(o:AV):Mem:=[.rich [sA],.rich [.omap 3],.rich [o],.map (zcq t out)]
abbrev zds(lv:IV)(n i:Int):Env:=[(1,.optr 0 0),(2,.optr 1 0),(3,.optr 2 0),(8,.imm lv),(9,zaa n),(10,zaa i)]
theorem zyz{sA:AV}{t:TP}{T:List Obj}(hT:zbd code ext sA t T)(row:List IV)(off:Nat)(cap:Option Nat)(l:List Val)(hl:zak tVal (.slice row off l.length cap) l)(out:List Nat)(i:Nat)(v:Val)(hv:l[i]?=some v)
  (hold:za7 T v=none\/∃k,za7 T v=some k/\k∈out) (k:Nat) (o:AV) (tail:Mem) (hk:(k=4/\((out=[]/\o=zae/\tail=[])\/(o=.osl 4 0 1 out.length none/\tail=[.rich (zbi t out)])))\/(k=5/\((o=.osl 4 0 1 out.length none/\tail=[.rich (zbi t out)])\/(o=.osl 5 0 1 out.length none/\tail=[.dead,.rich (zbi t out)])))):
  ∃s',den code ext zdh ⟨k,zds (.slice row off l.length cap) l.length i,zbb sA t out o++tail⟩=some (.normal,s')/\s'.tidy [1,2,3,8,9,10]=⟨k,zds (.slice row off l.length cap) l.length ((i:Int)+1),zbb sA t out o++tail⟩:=by
 have hlt:=(xab.1 hv).1
 obtain⟨row',off',cap',he,hc,hcut,hget⟩:=zbv hl hv
 cases he
 simp only[tVal]at hget
 have hb2:=hl.2.1
 have hw:=(hl.1 v (xah hv)).2
 have e1:IntKind.wrap .i64 ((i:Int)+1)=(i:Int)+1:=zaw (by omega) (by omega)
 have hld:=hT.lead v hw
 have hsr:=hT.refs
 have hsn:=hT.ren
 rcases hold with hn|⟨q,hq,hm⟩
 ·rw[hn,zde]at hld
  rcases hk with⟨rfl,⟨rfl,rfl,rfl⟩|⟨rfl,rfl⟩⟩|⟨rfl,⟨rfl,rfl⟩|⟨rfl,rfl⟩⟩
  ·refine⟨⟨4,zds (.slice row off l.length cap) l.length ((i:Int)+1),zbb sA t [] zae++[.rich [.imm (.val (.int .u8 v.k)),zaa v.n]]⟩,?_,?_⟩
   ·simp -implicitDefEqProofs [zdh,zbb,hsr,hsn,hlt,hget,hld,e1]
   ·simp -implicitDefEqProofs [zbb,hsr,hsn]
  ·refine⟨⟨4,zds (.slice row off l.length cap) l.length ((i:Int)+1),zbb sA t out (.osl 4 0 1 out.length none)++[.rich (zbi t out),.rich [.imm (.val (.int .u8 v.k)),zaa v.n]]⟩,?_,?_⟩
   ·simp -implicitDefEqProofs [zdh,zbb,hsr,hsn,hlt,hget,hld,e1]
   ·simp -implicitDefEqProofs [zbb,hsr,hsn]
  ·refine⟨⟨5,zds (.slice row off l.length cap) l.length ((i:Int)+1),zbb sA t out (.osl 4 0 1 out.length none)++[.rich (zbi t out),.rich [.imm (.val (.int .u8 v.k)),zaa v.n]]⟩,?_,?_⟩
   ·simp -implicitDefEqProofs [zdh,zbb,hsr,hsn,hlt,hget,hld,e1]
   ·simp -implicitDefEqProofs [zbb,hsr,hsn]
  ·refine⟨⟨5,zds (.slice row off l.length cap) l.length ((i:Int)+1),zbb sA t out (.osl 5 0 1 out.length none)++[.dead,.rich (zbi t out),.rich [.imm (.val (.int .u8 v.k)),zaa v.n]]⟩,?_,?_⟩
   ·simp -implicitDefEqProofs [zdh,zbb,hsr,hsn,hlt,hget,hld,e1]
   ·simp -implicitDefEqProofs [zbb,hsr,hsn]
 ·rw[hq,zde]at hld
  rcases zv4 t q out 0 with⟨h1,_⟩|⟨_,j,hf,hj⟩
  ·exact absurd hm h1
  simp only[xaw]at hf
  simp only[TP.at]at hld hf hj
  rcases hk with⟨rfl,⟨rfl,rfl,rfl⟩|⟨rfl,rfl⟩⟩|⟨rfl,⟨rfl,rfl⟩|⟨rfl,rfl⟩⟩
  ·cases hm
  ·refine⟨⟨4,zds (.slice row off l.length cap) l.length ((i:Int)+1),zbb sA t out (.osl 4 0 1 out.length none)++[.rich (zbi t out),.rich [.imm (.val (.int .u8 v.k)),zaa v.n]]⟩,?_,?_⟩
   ·simp -implicitDefEqProofs [zdh,zbb,hsr,hsn,hlt,hget,hld,e1,hf,hj]
   ·simp -implicitDefEqProofs [zbb,hsr,hsn]
  ·refine⟨⟨5,zds (.slice row off l.length cap) l.length ((i:Int)+1),zbb sA t out (.osl 4 0 1 out.length none)++[.rich (zbi t out),.rich [.imm (.val (.int .u8 v.k)),zaa v.n]]⟩,?_,?_⟩
   ·simp -implicitDefEqProofs [zdh,zbb,hsr,hsn,hlt,hget,hld,e1,hf,hj]
   ·simp -implicitDefEqProofs [zbb,hsr,hsn]
  ·refine⟨⟨5,zds (.slice row off l.length cap) l.length ((i:Int)+1),zbb sA t out (.osl 5 0 1 out.length none)++[.dead,.rich (zbi t out),.rich [.imm (.val (.int .u8 v.k)),zaa v.n]]⟩,?_,?_⟩
   ·simp -implicitDefEqProofs [zdh,zbb,hsr,hsn,hlt,hget,hld,e1,hf,hj]
   ·simp -implicitDefEqProofs [zbb,hsr,hsn]
theorem z52{sA:AV}{t:TP}{T:List Obj}(hT:zbd code ext sA t T)(row:List IV)(off:Nat)(cap:Option Nat)(l:List Val)(hl:zak tVal (.slice row off l.length cap) l)(out:List Nat)(hbo:out.length<=1048576)(i:Nat)(v:Val)(hv:l[i]?=some v)
  (q:Nat) (hq:za7 T v=some q) (hm:q ∉ out) (k:Nat) (o:AV) (tail:Mem) (hk:(k=4/\((out=[]/\o=zae/\tail=[])\/(o=.osl 4 0 1 out.length none/\tail=[.rich (zbi t out)])))\/(k=5/\((o=.osl 4 0 1 out.length none/\tail=[.rich (zbi t out)])\/(o=.osl 5 0 1 out.length none/\tail=[.dead,.rich (zbi t out)])))):
  ∃s',den code ext zdh ⟨k,zds (.slice row off l.length cap) l.length i,zbb sA t out o++tail⟩=some (.normal,s')/\
   s'.tidy [1,2,3,8,9,10]=⟨k,zds (.slice row off l.length cap) l.length ((i:Int)+1),zbb sA t (out++[q]) (.osl k 0 1 (out.length+1) none)++(if k=4 then[]else[.dead])++[.rich (zbi t (out++[q]))]⟩:=by
 have hlt:=(xab.1 hv).1
 obtain⟨row',off',cap',he,hc,hcut,hget⟩:=zbv hl hv
 cases he
 simp only[tVal]at hget
 have hb2:=hl.2.1
 have hw:=(hl.1 v (xah hv)).2
 have e1:IntKind.wrap .i64 ((i:Int)+1)=(i:Int)+1:=zaw (by omega) (by omega)
 have hld:=hT.lead v hw
 have hsr:=hT.refs
 have hsn:=hT.ren
 rw[hq,zde]at hld
 rcases zv4 t q out 0 with⟨_,hf⟩|⟨h1,_⟩
 case inr=>exact absurd h1 hm
 have hcp:=z7w t out
 have hs1:=yg6 t q out
 have hs2:=yfb t q out
 have hbd:(out.length+1)*8<=140737488355328:=by omega
 have h0:zcq t []=[]:=rfl
 have h0':[(t.at q,avb true)]=zcq t [q]:=rfl
 have h0'':[t.at q]=zbi t [q]:=rfl
 have hf0:∀(m:Mem) (x:AV),zcp m 3 x [] 0=some none:=fun _ _=>rfl
 simp only[TP.at]at hld hf hs1 hs2 h0' h0''
 rcases hk with⟨rfl,⟨rfl,rfl,rfl⟩|⟨rfl,rfl⟩⟩|⟨rfl,⟨rfl,rfl⟩|⟨rfl,rfl⟩⟩
 ·refine⟨⟨4,zds (.slice row off l.length cap) l.length ((i:Int)+1),zbb sA t [q] (.osl 6 0 1 1 none)++[.rich [.imm (.val (.int .u8 v.k)),zaa v.n],.rich [t.at q],.rich [t.at q]]⟩,?_,?_⟩
  ·simp -implicitDefEqProofs [zdh,zbb,TP.at,hsr,hsn,hlt,hget,hld,e1,h0,hf0,zaz,za0,zb8,elems,zbr,h0']
  ·simp -implicitDefEqProofs [zbb,TP.at,hsr,hsn,zbi]
 ·refine⟨⟨4,zds (.slice row off l.length cap) l.length ((i:Int)+1),zbb sA t (out++[q]) (.osl 7 0 1 (out.length+1) none)++[.dead,.rich [.imm (.val (.int .u8 v.k)),zaa v.n],.rich [t.at q],.rich (zbi t (out++[q]))]⟩,?_,?_⟩
  ·simp -implicitDefEqProofs [zdh,zbb,TP.at,hsr,hsn,hlt,hget,hld,e1,hf,hs1,hs2,hcp,hbd,zaz,za0,zb8,elems,zbr]
  ·simp -implicitDefEqProofs [zbb,TP.at,hsr,hsn]
 ·refine⟨⟨5,zds (.slice row off l.length cap) l.length ((i:Int)+1),zbb sA t (out++[q]) (.osl 7 0 1 (out.length+1) none)++[.dead,.rich [.imm (.val (.int .u8 v.k)),zaa v.n],.rich [t.at q],.rich (zbi t (out++[q]))]⟩,?_,?_⟩
  ·simp -implicitDefEqProofs [zdh,zbb,TP.at,hsr,hsn,hlt,hget,hld,e1,hf,hs1,hs2,hcp,hbd,zaz,za0,zb8,elems,zbr]
  ·simp -implicitDefEqProofs [zbb,TP.at,hsr,hsn]
 ·refine⟨⟨5,zds (.slice row off l.length cap) l.length ((i:Int)+1),zbb sA t (out++[q]) (.osl 8 0 1 (out.length+1) none)++[.dead,.dead,.rich [.imm (.val (.int .u8 v.k)),zaa v.n],.rich [t.at q],.rich (zbi t (out++[q]))]⟩,?_,?_⟩
  ·simp -implicitDefEqProofs [zdh,zbb,TP.at,hsr,hsn,hlt,hget,hld,e1,hf,hs1,hs2,hcp,hbd,zaz,za0,zb8,elems,zbr]
  ·simp -implicitDefEqProofs [zbb,TP.at,hsr,hsn]
end
section
variable {code:Nat->Option zab} {ext:zac}
def znt(t:TP)(k:Nat)(out:List Nat)(o:AV)(tail:Mem):Prop:=
 (k=4/\((out=[]/\o=zae/\tail=[])\/(o=.osl 4 0 1 out.length none/\tail=[.rich (zbi t out)])))\/(k=5/\((o=.osl 4 0 1 out.length none/\tail=[.rich (zbi t out)])\/(o=.osl 5 0 1 out.length none/\tail=[.dead,.rich (zbi t out)])))
theorem z4b(n:Nat)(out:List Nat)(h:out.Nodup)(hl:∀k∈out,k<n):out.length<=n:=by
 have hp:out.Perm ((List.range n).filter fun k=>decide (k∈out)):=(List.perm_ext_iff_of_nodup h (List.nodup_range.filter _)).2 fun k=>by
  rw[List.mem_filter,xa9]
  exact⟨fun hk=>⟨hl k hk,by simpa using hk⟩,fun hk=>by simpa using hk.2⟩
 rw[hp.length_eq]
 exact xb1 (List.length_filter_le _ _) (by simp)
theorem z50{sA:AV}{t:TP}{T:List Obj}(hT:zbd code ext sA t T)(hb:T.length<=1048576)(lv:IV)(l:List Val)(hl:zak tVal lv l)(k:Nat)(out:List Nat)(o:AV)(tail:Mem)(hsh:znt t k out o tail)(hnd:out.Nodup)(hlt:∀q∈out,q<T.length){s:St}
  (hst:s.tidy [1,2,3,8,9,10]=⟨k,zds lv l.length 0,zbb sA t out o++tail⟩):
  ∃e s',den code ext (.loop [1,2,3,8,9,10] zdh) s=some (e,s')/\e≠ .normal/\
   (e=.exit 0/\∃o' tail',znt t k (zb4 T out l) o' tail'/\(zb4 T out l=out->o'=o/\tail'=tail)/\(zb4 T out l≠out->o'=.osl k 0 1 (zb4 T out l).length none)/\
    s'=⟨k,zds lv l.length l.length++[(11,avb false)],zbb sA t (zb4 T out l) o'++tail'⟩):=by
 refine zbu (fun n s=>∃(i:Nat) (out1:List Nat) (o1:AV) (tail1:Mem),i+n=l.length/\zb4 T out l=zb4 T out1 (l.drop i)/\znt t k out1 o1 tail1/\out1.Nodup/\(∀q∈out1,q<T.length)/\
  (∃r,out1=out++r/\(r=[]->o1=o/\tail1=tail)/\(r≠[]->o1=.osl k 0 1 out1.length none))/\s.tidy [1,2,3,8,9,10]=⟨k,zds lv l.length i,zbb sA t out1 o1++tail1⟩) _ ?_ l.length _ ⟨0,out,o,tail,by simp,by simp,hsh,hnd,hlt,⟨[],by simp,fun _=>⟨rfl,rfl⟩,fun h=>absurd rfl h⟩,hst⟩
 clear hst hsh hnd hlt s
 rintro n s ⟨i,out1,o1,tail1,hi,ha,hsh,hnd,hlt,⟨r,hr,hr1,hr2⟩,hst⟩
 rw[hst]
 by_cases hil:i<l.length
 ·have hv:=xaa hil
  rw[xbl hil,zb4]at ha
  obtain⟨row,off,cap,rfl,_,_,_⟩:=zbv hl hv
  generalize l[i]=v at hv ha
  cases hq:za7 T v with
  |none=>
   rw[hq]at ha
   obtain⟨s',g1,g2⟩:=zyz (code:=code) (ext:=ext) hT row off cap l hl out1 i v hv (.inl hq) k o1 tail1 hsh
   exact⟨.normal,s',g1,.inl ⟨rfl,n-1,by omega,i+1,out1,o1,tail1,by omega,ha,hsh,hnd,hlt,⟨r,hr,hr1,hr2⟩,by rw[g2];rfl⟩⟩
  |some q=>
   rw[hq]at ha
   by_cases hm:q∈out1
   ·dsimp only at ha
    rw[if_pos hm]at ha
    obtain⟨s',g1,g2⟩:=zyz (code:=code) (ext:=ext) hT row off cap l hl out1 i v hv (.inr ⟨q,hq,hm⟩) k o1 tail1 hsh
    exact⟨.normal,s',g1,.inl ⟨rfl,n-1,by omega,i+1,out1,o1,tail1,by omega,ha,hsh,hnd,hlt,⟨r,hr,hr1,hr2⟩,by rw[g2];rfl⟩⟩
   ·dsimp only at ha
    rw[if_neg hm]at ha
    have hlen:=z4b T.length out1 hnd hlt
    obtain⟨s',g1,g2⟩:=z52 (code:=code) (ext:=ext) hT row off cap l hl out1 (by omega) i v hv q hq hm k o1 tail1 hsh
    refine⟨.normal,s',g1,.inl ⟨rfl,n-1,by omega,i+1,out1++[q],.osl k 0 1 (out1.length+1) none,(if k=4 then[]else[.dead])++[.rich (zbi t (out1++[q]))],by omega,ha,?_,?_,?_,⟨r++[q],by rw[hr];simp,fun h=>by simp at h,fun _=>by simp⟩,by rw[g2,xbj];rfl⟩⟩
    ·rcases hsh with⟨rfl,_⟩|⟨rfl,_⟩
     ·exact .inl ⟨rfl,.inr ⟨by simp,by simp⟩⟩
     ·exact .inr ⟨rfl,.inr ⟨by simp,by simp⟩⟩
    ·rw[xco]
     exact⟨hnd,by simp,fun a ha' b hb'=>by simp at hb';subst hb';exact fun e=>hm (e▸ha')⟩
    ·intro p hp
     rw[xaj,xav]at hp
     rcases hp with hp|rfl
     ·exact hlt p hp
     ·exact(ze5 hq).1
 ·have:i=l.length:=by omega
  subst this
  rw[xcs (xap _),zb4]at ha
  refine⟨.exit 0,⟨k,zds lv l.length l.length++[(11,avb false)],zbb sA t (zb4 T out l) o1++tail1⟩,?_,.inr ⟨by simp,rfl,o1,tail1,by rw[ha];exact hsh,fun he=>hr1 ?_,fun he=>?_,rfl⟩⟩
  ·rw[ha]
   simp -implicitDefEqProofs [zdh]
  ·rw[ha,hr]at he
   simpa using he
  ·rw[ha]
   refine hr2 fun e=>he ?_
   rw[ha,hr,e];simp
theorem z54{sA:AV}{t:TP}{T:List Obj}(hT:zbd code ext sA t T)(h':code 655=some zg3)(hb:T.length<=1048576)(lv:IV)(l:List Val)(hl:zak tVal lv l)(k:Nat)(out:List Nat)(o:AV)(tail:Mem)(hsh:znt t k out o tail)(hk:(zbb sA t out o++tail).length=k)(hnd:out.Nodup)(hlt:∀q∈out,q<T.length):
  ∃o' tail',znt t k (zb4 T out l) o' tail'/\(zb4 T out l=out->o'=o/\tail'=tail)/\(zb4 T out l≠out->o'=.osl k 0 1 (zb4 T out l).length none)/\
   callW code ext 655 [.imm lv,.optr 0 0,.optr 1 0,.optr 2 0] (zbb sA t out o++tail)=some (.tup [],zbb sA t (zb4 T out l) o'++tail'):=by
 have hlen:=zau hl
 have hsr:=hT.refs
 have hsn:=hT.ren
 obtain⟨e,s',h1,_,rfl,o',tail',g1,g2,g3,rfl⟩:=z50 (code:=code) (ext:=ext) hT hb lv l hl k out o tail hsh hnd hlt (s:=⟨k,zds lv l.length 0,zbb sA t out o++tail⟩) (by
  rcases hsh with⟨rfl,⟨rfl,rfl,rfl⟩|⟨rfl,rfl⟩⟩|⟨rfl,⟨rfl,rfl⟩|⟨rfl,rfl⟩⟩<;>simp -implicitDefEqProofs [zbb,hsr,hsn])
 refine⟨o',tail',g1,g2,g3,?_⟩
 rw[zad code ext h',hk]
 generalize hM:zbb sA t out o++tail=M at h1 ⊢
 generalize hout:zb4 T out l=out' at *
 clear hsh g2 g3 hk hM
 rcases g1 with⟨rfl,⟨rfl,rfl,rfl⟩|⟨rfl,rfl⟩⟩|⟨rfl,⟨rfl,rfl⟩|⟨rfl,rfl⟩⟩
 ·simp -implicitDefEqProofs [zg3,hlen,h1,zbb]
 ·simp -implicitDefEqProofs [zg3,hlen,h1,zbb,hsr,hsn]
 ·simp -implicitDefEqProofs [zg3,hlen,h1,zbb]
 ·simp -implicitDefEqProofs [zg3,hlen,h1,zbb,hsr,hsn]
end
theorem zjf(n:Nat):AV.cells (.omap n)=some [.omap n]:=rfl
theorem zkq(i o z l:Nat)(c:Option Nat):AV.cells (.osl i o z l c)=some [.osl i o z l c]:=rfl
theorem zkp(x:IV):AV.cells (.imm x)=some [.imm x]:=rfl
section
variable {code:Nat->Option zab} {ext:zac}
end
open Classical
noncomputable def z48(S:List Obj)(roots:List Val):Nat:=((List.range S.length).map fun k=>if Reach S roots k then yis S k else 0).sum
end Go.EX


namespace Go.EX
theorem zl3(i o:Nat):AV.cells (.optr i o)=some [.optr i o]:=rfl
theorem ziq(l:List AV):AV.cells (.agg l)=some l:=rfl
theorem zat(b a:Nat)(x:IV):AV.cells (.tag b a x)=some [.tag b a x]:=rfl
open Classical
structure SameO (o u:Obj):Prop where
 k:u.k=o.k
 s:u.s=o.s
 l:u.l.xs=o.l.xs
 room:u.room=o.room
 fn:u.fn=o.fn
theorem SameO.symm{o u:Obj}(h:SameO o u):SameO u o:=⟨h.k.symm,h.s.symm,h.l.symm,h.room.symm,h.fn.symm⟩
theorem SameO.refl(o:Obj):SameO o o:=⟨rfl,rfl,rfl,rfl,rfl⟩
theorem SameO.trans{a b c:Obj}(h:SameO a b)(g:SameO b c):SameO a c:=⟨g.k.trans h.k,g.s.trans h.s,g.l.trans h.l,g.room.trans h.room,g.fn.trans h.fn⟩
theorem yg3(o:Obj):SameO o (zaf o):=by
 refine⟨rfl,rfl,?_,rfl,rfl⟩
 unfold zaf zfg
 dsimp only
 split<;>rfl
structure Like (S T:List Obj):Prop where
 len:T.length=S.length
 at_:∀(i:Nat) o u,S[i]?=some o->T[i]?=some u->SameO o u
theorem Like.symm{S T:List Obj}(h:Like S T):Like T S:=⟨h.len.symm,fun i o u ho hu=>(h.at_ i u o hu ho).symm⟩
theorem Like.get{S T:List Obj}(h:Like S T){i:Nat}{o:Obj}(ho:S[i]?=some o):∃u,T[i]?=some u/\SameO o u:=by
 have hl:=(xab.1 ho).1
 have hlt:i<T.length:=by have:=h.len;omega
 have:T[i]?=some T[i]:=xaa hlt
 exact⟨_,this,h.at_ i o _ ho this⟩
theorem z1z{S T:List Obj}(h:Like S T)(v:Val):za7 T v=za7 S v:=by
 unfold za7
 rw[h.len]
 split
 ·rfl
 ·split
  ·rfl
  ·split
   ·rfl
   ·split
    ·rfl
    ·cases hs:S[(v.n-1).toNat]? with
     |none=>
      have:T[(v.n-1).toNat]?=none:=by
       rw[List.getElem?_eq_none_iff]at hs ⊢
       have:=h.len;omega
      rw[this]
     |some o=>
      obtain⟨u,hu,hs'⟩:=h.get hs
      rw[hu]
      simp only[hs'.k]
end Go.EX


namespace Go.EX
structure FineT (T:List Obj):Prop where
 len:T.length<=60000
 s:∀o∈T,o.s.size<=60000
 l:∀o∈T,o.l.xs.length<=60000
theorem FineT.like{S T:List Obj}(h:FineT S)(hl:Like S T):FineT T:=by
 refine⟨by rw[hl.len];exact h.len,fun u hu=>?_,fun u hu=>?_⟩
 ·obtain⟨i,hi⟩:=xa3 hu
  obtain⟨o,ho,hs⟩:=hl.symm.get hi
  rw[<-hs.s]
  exact h.s o (xah ho)
 ·obtain⟨i,hi⟩:=xa3 hu
  obtain⟨o,ho,hs⟩:=hl.symm.get hi
  rw[<-hs.l]
  exact h.l o (xah ho)
inductive OutN (S:List Obj) (r:List Val):IV->Int->Int->ByteArray->Int->Prop
 |thr {x:IV} {t:ByteArray} {T:List Obj} (hx:zak tObj x T) (hl:Like S T) (ht:t≠ .empty):OutN S r x 0 0 t 0
 |ok {x:IV} {k n:Int} {T:List Obj} {w:Nat} (hx:zak tObj x T) (hf:FineT T) (hv:tVal.wf ⟨k,n⟩) (hc:zft T ⟨k,n⟩) (hw:z48 T ((⟨k,n⟩:Val)::r)<=z48 S r+w) (hw2:w<=1000000000000):OutN S r x k n .empty w
section
variable {S:List Obj} {r:List Val} {nl:Bool}
end
theorem z14(S:List Obj):Like S (S.map zaf):=by
 refine⟨by simp,fun i o u ho hu=>?_⟩
 rw[xar,ho]at hu
 cases hu
 exact yg3 o
structure KeepN (code:Nat->Option zab) (ext:zac) (nl:Bool) (sv:IV) (S:List Obj) (idx:Nat) (r:List Val):Prop where
 st:StoreN nl sv S idx
 fn:FineT S
 len:S.length<=50000
 ck:∀v∈r,zft S v
 wf:∀v∈r,tVal.wf v
 may:zu4 code ext sv r
section
variable {code:Nat->Option zab} {ext:zac} {nl:Bool} {sv:IV} {S:List Obj} {idx:Nat} {r:List Val}
theorem KeepN.nil(h:KeepN code ext nl sv S idx r):nl=true->S=[]:=fun e=>(h.st.nil e).2
theorem KeepN.sub(h:KeepN code ext nl sv S idx r){l:List Val}(hl:∀v∈l,v∈r):zu4 code ext sv l:=fun v hv=>h.may v (hl v hv)
end
section
variable {code:Nat->Option zab} {ext:zac} {nl:Bool} {sv:IV} {S:List Obj} {idx:Nat} {r:List Val}
def yku(code:Nat->Option zab)(ext:zac)(S:List Obj)(r:List Val)(f:Nat)(args:List AV):Prop:=
 ∃x k n t w,OutN S r x k n t w/\∀s,zbl (callW code ext) s f args=some (yeo x k n t w,s)
end
theorem Like.trans{A B C:List Obj}(h:Like A B)(g:Like B C):Like A C:=⟨g.len.trans h.len,fun i o u ho hu=>by
 obtain⟨w,hw,hs⟩:=h.get ho
 exact hs.trans (g.at_ i w u hw hu)⟩
section
variable {code:Nat->Option zab} {ext:zac} {sv:IV} {S:List Obj} {r:List Val}
structure KeepP (nl:Bool) (sv:IV) (S:List Obj) (r:List Val):Prop where
 rd:zak tObj sv S
 nil:nl=true->sv=.val (.slice none 0 0)/\S=[]
 some:nl=false->zbt sv=false
 fn:FineT S
 len:S.length<=50000
 l:∀o∈S,o.l.xs.length<=50000
 ck:∀v∈r,zft S v
 wf:∀v∈r,tVal.wf v
theorem KeepP.keep{nl:Bool}(h:KeepP nl sv S r){idx:Nat}(hi:S.length+1<idx)(hm:zu4 code ext sv r):KeepN code ext nl sv S idx r:=
 ⟨⟨h.rd,h.nil,h.some,hi,fun o ho=>xb1 (h.l o ho) (by decide),xb1 h.len (by decide)⟩,h.fn,h.len,h.ck,h.wf,hm⟩
end
section
variable {ext:zac} {sv:IV} {S:List Obj}
theorem DoCode.put{code:Nat->Option zab}{i:Nat}(c:DoCode code i)(p:zyv code):z5x code i:=⟨p,c.toTwinCode,c.c578,c.c639,c.c640,c.c641,c.c642,c.c749,c.c759⟩
end
section
variable {code:Nat->Option zab} {ext:zac}
theorem zjo{xf:zab}{ct:Nat}(hres:xf.res=[.cell ct (some 5)]){P:Mem}{b q N:Nat}{T:List Obj}{X:Mem}(hX:XM b T X)(hP:P.length=b)(hb:1<=b)(hT:T.length<=10000000){k n:Int}{t:ByteArray}{w:Int}
  (hq:P[q]?=some (.rich [.osl b 0 5 N (some N),.imm (.val (.int .u8 k)),zaa n,zaj t,zaa w])):
  ∃X',XM 0 T X'/\zha ⟨0,[(ct,.optr q 0)],P++X⟩ xf=some (.agg [.osl 0 0 5 N (some N),.imm (.val (.int .u8 k)),zaa n,zaj t,zaa w],X'):=by
 have ho:=z5g (k:=0) hX hP (by omega) rfl hT
 obtain⟨X',hp,hX'⟩:=zym (k:=0) hX hP (by omega) (by simp)
 have hpl:=zrw (k:=0) (b:=b) (n:=X.length) (i:=0) (by omega) (by rw[zhp hX];omega)
 refine⟨X',hX',?_⟩
 have hql:q<P.length:=(xab.1 hq).1
 have hq2:(P++X)[q]?=some (.rich [.osl b 0 5 N (some N),.imm (.val (.int .u8 k)),zaa n,zaj t,zaa w]):=by rw[xac hql];exact hq
 have hlen:¬(P++X).length=0:=by rw[xak,hP,zhp hX];omega
 have hld:loadAt (P++X) (some 5) (.optr q 0)=some (.agg [.osl b 0 5 N (some N),.imm (.val (.int .u8 k)),zaa n,zaj t,zaa w]):=by simp[loadAt,hq2,zdw]
 unfold zha
 simp only[hres,XRes.outs,XRes.asIs,xa5,List.mapM_nil,zgx,Env.get,if_true,hld,xch,xb0,xbe,xao,zhk,hlen,if_false,xan]
 simp only[AV.refs,AV.refs.refsL,xas,xa7,ho,hp,xcr]
 simp only[AV.ren,AV.ren.renL]
 rw[xbi]at hpl
 rw[hpl]
end
theorem zvl{β:Type}(l rest:List β):∀(n k:Nat),k<n->cut (zaq n l++rest) (k*l.length) l.length=some l
 |0,k,h=>by omega
 |n+1,0,h=>by
  rw[zaq,Nat.zero_mul,xbj]
  unfold cut
  simp
 |n+1,k+1,h=>by
  have h1:=zvl l rest n k (by omega)
  have e:(k+1)*l.length=l.length+k*l.length:=by rw[Nat.add_mul,xc4,Nat.add_comm]
  unfold cut at *
  rw[zaq,xbj,e,List.drop_append,xcs (by omega),xa7,xbq]
  exact h1
section
variable {code:Nat->Option zab} {ext:zac}
theorem ya2{sz f isn:Nat}{n:Int}{ms:List IV}(his:∀s,zbl (callW code ext) s isn [.agg (ms.map .imm),zaa n]=some (avb true,s))(hms:ms.length=sz){K b h len nid:Nat}{i:Int}{M:Mem}{x:AV}{rest:List AV}{nob:AObj}
  (hh:M[h]?=some (.rich [x,.osl nid 0 sz (len+40) none,zaa n])) (hk:KX M sz x len (zaq len (ms.map .imm)++rest)) (hno:M[nid]?=some nob) (hnr:za3 (zaq (len+40) (ms.map .imm)) nob) (hlen:len<=1000000000) {s:St}
  (hst:s.tidy [1000000,0,3,4,5]=⟨K,[(1000000,.junk),(0,.optr b 0),(3,zaa i),(4,.optr h 0),(5,zaa 0)],M⟩):
  ∃e s',den code ext (.loop [1000000,0,3,4,5] (zor sz f isn)) s=some (e,s')/\e≠ .normal/\
   (e=.exit 2/\s'=⟨K,[(0,.optr b 0),(3,zaa i),(4,.optr h 0),(5,zaa (len+40:Nat)),(34,avb false)],M⟩):=by
 have hmi:(ms.map AV.imm).length=sz:=by rw[xam,hms]
 have l0:loadAt M none (.optr h 0)=some x:=by simp only[loadAt,hh];rfl
 have l1:loadAt M none (.optr h 1)=some (.osl nid 0 sz (len+40) none):=by simp only[loadAt,hh];rfl
 have l2:loadAt M none (.optr h 2)=some (zaa n):=by simp only[loadAt,hh];rfl
 have hlx:=zwi hk
 refine zbu (fun m s=>∃(k:Nat),k+m=len+40/\s.tidy [1000000,0,3,4,5]=⟨K,[(1000000,.junk),(0,.optr b 0),(3,zaa i),(4,.optr h 0),(5,zaa (k:Nat))],M⟩) _ ?_ (len+40) _ ⟨0,by simp,by simpa using hst⟩
 clear hst
 rintro m s ⟨k,hm,hst⟩
 rw[hst]
 by_cases hlt:k<len+40
 ·have hlt':(k:Int)<(len:Int)+40:=by omega
  have e1:IntKind.wrap .i64 ((k:Int)+1)=(k:Int)+1:=zaw (by omega) (by omega)
  have hc1:=zvl (ms.map AV.imm) [] (len+40) k hlt
  rw[xas,hmi]at hc1
  have lk:=zmy hno hnr hc1
  refine⟨.normal,⟨K,[(0,.optr b 0),(3,zaa i),(4,.optr h 0),(5,zaa ((k:Int)+1))],M⟩,?_,.inl ⟨rfl,m-1,by omega,k+1,by omega,by simp -implicitDefEqProofs []⟩⟩
  by_cases hkl:k<len
  ·have hkl':(k:Int)<len:=by omega
   rcases hk with⟨rid,c,ob,rfl,ho,hr,hc,hlc,hc2⟩|⟨rfl,_⟩
   ·have hc3:=zvl (ms.map AV.imm) rest len k hkl
    rw[hmi]at hc3
    have lr:=zmy ho hr hc3
    simp -implicitDefEqProofs [zor,l0,l1,l2,-loadAt,hlt',lk,his,-zbl,hkl',lr,e1]
   ·omega
  ·have hkl':¬(k:Int)<len:=by omega
   simp -implicitDefEqProofs [zor,l0,l1,l2,-loadAt,hlt',lk,his,-zbl,hkl',hlx,e1]
 ·have:k=len+40:=by omega
  subst this
  refine⟨.exit 2,⟨K,[(0,.optr b 0),(3,zaa i),(4,.optr h 0),(5,zaa (len+40:Nat)),(34,avb false)],M⟩,?_,.inr ⟨by simp,rfl,rfl⟩⟩
  simp -implicitDefEqProofs [zor,l1,-loadAt]
theorem z15{g sz f isn:Nat}(hg:code g=some (zc8 sz f isn)){mi:Int->List IV}{R:Int->Prop}(his:∀s n,R n->zbl (callW code ext) s isn [.agg ((mi n).map .imm),zaa n]=some (avb true,s))(hms:∀n,(mi n).length=sz)
  {M:Mem} {b:Nat} {vx:AV} {E:List KE} (hB:∃B,M[b]?=some (.rich B)/\B[f]?=some vx) (hh:zfd M vx (zcn E) E.length) (hE:E.length<=1000000000) (hEn:∀e∈E,R e.n)
  (hx:∀e∈E,e.len<=1000000000/\(∃rest,KX M sz e.x e.len (zaq e.len ((mi e.n).map .imm)++rest))/\∃nid ob,e.lg=.osl nid 0 sz (e.len+40) none/\M[nid]?=some ob/\za3 (zaq (e.len+40) ((mi e.n).map .imm)) ob):
  ∃G,callW code ext g [.optr b 0] M=some (avb true,M++G):=by
 obtain⟨B,hB,hBf⟩:=hB
 have hbl:b<M.length:=(xab.1 hB).1
 have hloop:∃e s',den code ext (.loop [1000000,0,3] (zos sz f isn)) ⟨M.length,[(0,.optr b 0),(3,zaa 0)],M⟩=some (e,s')/\e≠ .normal/\
   (e=.exit 0/\∃G,s'=⟨M.length,[(0,.optr b 0),(3,zaa E.length),(12,avb false)],M++G⟩):=by
  refine zbu (fun m s=>∃(i:Nat) (Mi:Mem),i+m=E.length/\(∃G,Mi=M++G)/\s.tidy [1000000,0,3]=⟨M.length,[(1000000,.junk),(0,.optr b 0),(3,zaa (i:Nat))],Mi⟩) _ ?_ E.length _ ⟨0,M,by simp,⟨[],by simp⟩,by simp -implicitDefEqProofs []⟩
  rintro m s ⟨i,Mi,hi,hG,hst⟩
  rw[hst]
  have hold:∀id,id<M.length->Mi[id]?=M[id]?:=fun id h=>by
   obtain⟨G,rfl⟩:=hG
   exact xac h
  have hMl:M.length<=Mi.length:=by obtain⟨G,rfl⟩:=hG;simp
  have lb:loadAt Mi none (.optr b f)=some vx:=by simp only[loadAt,hold b hbl,hB];exact hBf
  have hlx:=zwb hh
  by_cases hlt:i<E.length
  ·have hlt':(i:Int)<E.length:=by omega
   have e1:IntKind.wrap .i64 ((i:Int)+1)=(i:Int)+1:=zaw (by omega) (by omega)
   have hgi:=xaa hlt
   have hmke:=fun s=>his s _ (hEn _ (xa8 hlt))
   have hcut:=zq6 E i _ hgi
   obtain⟨hle,⟨rest,hxi⟩,nid,nob,hlg,hno,hnr⟩:=hx _ (xa8 hlt)
   generalize E[i]=e at hmke hxi hle hcut hlg hno hnr
   obtain⟨x,lg,n,len,cells⟩:=e
   dsimp only at hmke
   simp only[KE.c3]at hcut hxi hle hlg hno hnr
   subst hlg
   rcases hh with⟨_,_,h0⟩|⟨vid,vo,rfl,hvo,hvr,hvc,_⟩
   ·omega
   have hvl:vid<M.length:=(xab.1 hvo).1
   have lv:=zmy (by rw[hold vid hvl];exact hvo) hvr hcut
   have hst3:storeAt (Mi++[.rich [zae,zae,zaa 0]]) (.optr Mi.length 0) [x,.osl nid 0 sz (len+40) none,zaa n]=some (Mi++[.rich [x,.osl nid 0 sz (len+40) none,zaa n]]):=by
    simp[storeAt,setAll]
   have hH:(Mi++[.rich [x,.osl nid 0 sz (len+40) none,zaa n]])[Mi.length]?=some (.rich [x,.osl nid 0 sz (len+40) none,zaa n]):=ze2 _ _
   have l0:loadAt (Mi++[.rich [x,.osl nid 0 sz (len+40) none,zaa n]]) none (.optr Mi.length 0)=some x:=by simp only[loadAt,hH];rfl
   have l1:loadAt (Mi++[.rich [x,.osl nid 0 sz (len+40) none,zaa n]]) none (.optr Mi.length 1)=some (.osl nid 0 sz (len+40) none):=by simp only[loadAt,hH];rfl
   have hold2:∀id,id<M.length->(Mi++[.rich [x,.osl nid 0 sz (len+40) none,zaa n]])[id]?=M[id]?:=fun id h=>by rw[xac (by omega)];exact hold id h
   have hlen:=zwi hxi
   have e40:IntKind.wrap .i64 ((len:Int)+40)=(len:Int)+40:=zaw (by omega) (by omega)
   obtain⟨e,s',h1,_,rfl,rfl⟩:=ya2 (K:=M.length) (b:=b) (i:=(i:Int)) (f:=f) hmke (hms n) hH (zdn hxi fun id hid=>hold2 id (zee hxi id hid)) (by rw[hold2 nid (xab.1 hno).1];exact hno) hnr hle
    (s:=⟨M.length,[(0,.optr b 0),(3,zaa (i:Nat)),(4,.optr Mi.length 0),(5,zaa 0)],Mi++[.rich [x,.osl nid 0 sz (len+40) none,zaa n]]⟩) (by simp -implicitDefEqProofs [])
   refine⟨.normal,⟨M.length,[(0,.optr b 0),(3,zaa ((i:Int)+1))],Mi++[.rich [x,.osl nid 0 sz (len+40) none,zaa n]]⟩,?_,.inl ⟨rfl,m-1,by omega,i+1,Mi++[.rich [x,.osl nid 0 sz (len+40) none,zaa n]],by omega,?_,by simp -implicitDefEqProofs []⟩⟩
   ·simp -implicitDefEqProofs [zos,lb,-loadAt,hlt',lv,hst3,-storeAt,l0,l1,hlen,h1,e1,e40]
   ·obtain⟨G,rfl⟩:=hG
    exact⟨G++[_],by rw[xbj]⟩
  ·have:i=E.length:=by omega
   subst this
   obtain⟨G,rfl⟩:=hG
   refine⟨.exit 0,⟨M.length,[(0,.optr b 0),(3,zaa E.length),(12,avb false)],M++G⟩,?_,.inr ⟨by simp,rfl,G,rfl⟩⟩
   simp -implicitDefEqProofs [zos,lb,-loadAt,hlx]
 obtain⟨e,s',h1,_,rfl,G,rfl⟩:=hloop
 refine⟨G,?_⟩
 rw[zad code ext hg]
 simp -implicitDefEqProofs [zc8,h1]
end
structure zij (code:Nat->Option zab):Prop where
 c1:code 1=some x1W
 c9:code 9=some x9W
 c10:code 10=some zp4
 c12:code 12=some zp5
 c14:code 14=some zj1
 c62:code 62=some zln
 c64:code 64=some zi9
 c25:code 25=some zs8
 c29:code 29=some ztc
 c33:code 33=some zti
 c34:code 34=some ztj
 c28:code 28=some ztb
 c24:code 24=some zs7
 c18:code 18=some zs1
 c17:code 17=some zs0
 c23:code 23=some zs6
 c22:code 22=some zs5
 c21:code 21=some zs4
 c32:code 32=some ztf
 c35:code 35=some ztk
 c30:code 30=some ztd
 c26:code 26=some zs9
 c20:code 20=some zs3
 c19:code 19=some zs2
 c27:code 27=some zta
 c16:code 16=some zsz
 c31:code 31=some zte
 c45:code 45=some zt1
 c49:code 49=some zt6
 c53:code 53=some zua
 c54:code 54=some zub
 c48:code 48=some zt5
 c44:code 44=some zt0
 c38:code 38=some ztp
 c37:code 37=some zto
 c43:code 43=some ztz
 c42:code 42=some zty
 c41:code 41=some ztv
 c52:code 52=some zt9
 c55:code 55=some zuc
 c50:code 50=some zt7
 c46:code 46=some zt2
 c40:code 40=some ztt
 c39:code 39=some ztr
 c47:code 47=some zt3
 c36:code 36=some ztl
 c51:code 51=some zt8
 c75:code 75=some zqo
 c79:code 79=some zqp
 c83:code 83=some zqq
 c84:code 84=some zuw
 c78:code 78=some zus
 c74:code 74=some zuo
 c68:code 68=some zuh
 c67:code 67=some zug
 c73:code 73=some zun
 c72:code 72=some zum
 c71:code 71=some zul
 c82:code 82=some zuv
 c85:code 85=some zux
 c80:code 80=some zut
 c76:code 76=some zup
 c70:code 70=some zuk
 c69:code 69=some zui
 c77:code 77=some zuq
 c66:code 66=some zuf
 c81:code 81=some zuu
section
variable {code:Nat->Option zab} {ext:zac}
set_option maxHeartbeats 4000000 in
set_option maxRecDepth 100000 in
theorem z6b (c:zij code) {b:Nat} {B:List AV} (hn:∀j,1<=j->j<21->j≠4->j≠5->B[j]?=some zae) {M M1 M2 M3 M4 M5 M6:Mem} (hbM:M[b]?=some (.rich B)) (hbM1:M1[b]?=some (.rich B)) (hbM2:M2[b]?=some (.rich B)) (hbM3:M3[b]?=some (.rich B)) (hbM4:M4[b]?=some (.rich B)) (hbM5:M5[b]?=some (.rich B)) (hbM6:M6[b]?=some (.rich B))
  (c34:callW code ext 34 [.optr b 0] M=some (.tup [],M1)) (c28:callW code ext 28 [.optr b 0] M1=some (.tup [],M2)) (c54:callW code ext 54 [.optr b 0] M2=some (.tup [],M3)) (c48:callW code ext 48 [.optr b 0] M3=some (.tup [],M4))
  (c84:callW code ext 84 [.optr b 0] M4=some (avb true,M5)) (c78:callW code ext 78 [.optr b 0] M5=some (avb true,M6)):callW code ext 1 [.optr b 0] M=some (avb true,M6):=by
 have c25:=ycr (ext:=ext) c.c25 hbM (hn 1 (by decide) (by decide) (by decide) (by decide))
 have c29:=ycu (ext:=ext) c.c29 hbM (hn 2 (by decide) (by decide) (by decide) (by decide))
 have c33:=ycy (ext:=ext) c.c33 hbM (hn 3 (by decide) (by decide) (by decide) (by decide))
 have c24:=ycq (ext:=ext) c.c24 hbM2 (hn 6 (by decide) (by decide) (by decide) (by decide))
 have c18:=yck (ext:=ext) c.c18 hbM2 (hn 7 (by decide) (by decide) (by decide) (by decide))
 have c17:=ycj (ext:=ext) c.c17 hbM2 (hn 8 (by decide) (by decide) (by decide) (by decide))
 have c23:=ycp (ext:=ext) c.c23 hbM2 (hn 9 (by decide) (by decide) (by decide) (by decide))
 have c22:=yco (ext:=ext) c.c22 hbM2 (hn 10 (by decide) (by decide) (by decide) (by decide))
 have c21:=ycn (ext:=ext) c.c21 hbM2 (hn 11 (by decide) (by decide) (by decide) (by decide))
 have c32:=ycx (ext:=ext) c.c32 hbM2 (hn 12 (by decide) (by decide) (by decide) (by decide))
 have c35:=ycz (ext:=ext) c.c35 hbM2 (hn 13 (by decide) (by decide) (by decide) (by decide))
 have c30:=ycv (ext:=ext) c.c30 hbM2 (hn 14 (by decide) (by decide) (by decide) (by decide))
 have c26:=ycs (ext:=ext) c.c26 hbM2 (hn 15 (by decide) (by decide) (by decide) (by decide))
 have c20:=ycm (ext:=ext) c.c20 hbM2 (hn 16 (by decide) (by decide) (by decide) (by decide))
 have c19:=ycl (ext:=ext) c.c19 hbM2 (hn 17 (by decide) (by decide) (by decide) (by decide))
 have c27:=yct (ext:=ext) c.c27 hbM2 (hn 18 (by decide) (by decide) (by decide) (by decide))
 have c16:=yci (ext:=ext) c.c16 hbM2 (hn 19 (by decide) (by decide) (by decide) (by decide))
 have c31:=ycw (ext:=ext) c.c31 hbM2 (hn 20 (by decide) (by decide) (by decide) (by decide))
 have c45:=yc9 (ext:=ext) c.c45 hbM2 (hn 1 (by decide) (by decide) (by decide) (by decide))
 have c49:=ydc (ext:=ext) c.c49 hbM2 (hn 2 (by decide) (by decide) (by decide) (by decide))
 have c53:=ydg (ext:=ext) c.c53 hbM2 (hn 3 (by decide) (by decide) (by decide) (by decide))
 have c44:=yc8 (ext:=ext) c.c44 hbM4 (hn 6 (by decide) (by decide) (by decide) (by decide))
 have c38:=yc2 (ext:=ext) c.c38 hbM4 (hn 7 (by decide) (by decide) (by decide) (by decide))
 have c37:=yc1 (ext:=ext) c.c37 hbM4 (hn 8 (by decide) (by decide) (by decide) (by decide))
 have c43:=yc7 (ext:=ext) c.c43 hbM4 (hn 9 (by decide) (by decide) (by decide) (by decide))
 have c42:=yc6 (ext:=ext) c.c42 hbM4 (hn 10 (by decide) (by decide) (by decide) (by decide))
 have c41:=yc5 (ext:=ext) c.c41 hbM4 (hn 11 (by decide) (by decide) (by decide) (by decide))
 have c52:=ydf (ext:=ext) c.c52 hbM4 (hn 12 (by decide) (by decide) (by decide) (by decide))
 have c55:=ydh (ext:=ext) c.c55 hbM4 (hn 13 (by decide) (by decide) (by decide) (by decide))
 have c50:=ydd (ext:=ext) c.c50 hbM4 (hn 14 (by decide) (by decide) (by decide) (by decide))
 have c46:=yda (ext:=ext) c.c46 hbM4 (hn 15 (by decide) (by decide) (by decide) (by decide))
 have c40:=yc4 (ext:=ext) c.c40 hbM4 (hn 16 (by decide) (by decide) (by decide) (by decide))
 have c39:=yc3 (ext:=ext) c.c39 hbM4 (hn 17 (by decide) (by decide) (by decide) (by decide))
 have c47:=ydb (ext:=ext) c.c47 hbM4 (hn 18 (by decide) (by decide) (by decide) (by decide))
 have c36:=yc0 (ext:=ext) c.c36 hbM4 (hn 19 (by decide) (by decide) (by decide) (by decide))
 have c51:=yde (ext:=ext) c.c51 hbM4 (hn 20 (by decide) (by decide) (by decide) (by decide))
 have c75:=ydr (ext:=ext) c.c75 hbM4 (hn 1 (by decide) (by decide) (by decide) (by decide))
 have c79:=ydu (ext:=ext) c.c79 hbM4 (hn 2 (by decide) (by decide) (by decide) (by decide))
 have c83:=ydy (ext:=ext) c.c83 hbM4 (hn 3 (by decide) (by decide) (by decide) (by decide))
 have c74:=ydq (ext:=ext) c.c74 hbM6 (hn 6 (by decide) (by decide) (by decide) (by decide))
 have c68:=ydk (ext:=ext) c.c68 hbM6 (hn 7 (by decide) (by decide) (by decide) (by decide))
 have c67:=ydj (ext:=ext) c.c67 hbM6 (hn 8 (by decide) (by decide) (by decide) (by decide))
 have c73:=ydp (ext:=ext) c.c73 hbM6 (hn 9 (by decide) (by decide) (by decide) (by decide))
 have c72:=ydo (ext:=ext) c.c72 hbM6 (hn 10 (by decide) (by decide) (by decide) (by decide))
 have c71:=ydn (ext:=ext) c.c71 hbM6 (hn 11 (by decide) (by decide) (by decide) (by decide))
 have c82:=ydx (ext:=ext) c.c82 hbM6 (hn 12 (by decide) (by decide) (by decide) (by decide))
 have c85:=ydz (ext:=ext) c.c85 hbM6 (hn 13 (by decide) (by decide) (by decide) (by decide))
 have c80:=ydv (ext:=ext) c.c80 hbM6 (hn 14 (by decide) (by decide) (by decide) (by decide))
 have c76:=yds (ext:=ext) c.c76 hbM6 (hn 15 (by decide) (by decide) (by decide) (by decide))
 have c70:=ydm (ext:=ext) c.c70 hbM6 (hn 16 (by decide) (by decide) (by decide) (by decide))
 have c69:=ydl (ext:=ext) c.c69 hbM6 (hn 17 (by decide) (by decide) (by decide) (by decide))
 have c77:=ydt (ext:=ext) c.c77 hbM6 (hn 18 (by decide) (by decide) (by decide) (by decide))
 have c66:=ydi (ext:=ext) c.c66 hbM6 (hn 19 (by decide) (by decide) (by decide) (by decide))
 have c81:=ydw (ext:=ext) c.c81 hbM6 (hn 20 (by decide) (by decide) (by decide) (by decide))
 have hmb:(AObj.rich B).moved=false:=rfl
 rw[zad code ext c.c1]
 simp -implicitDefEqProofs [x1W,hmb,-AObj.moved,hbM,hbM1,hbM2,hbM3,hbM4,hbM5,hbM6,c25,c29,c33,c34,c28,c24,c18,c17,c23,c22,c21,c32,c35,c30,c26,c20,c19,c27,c16,c31,c45,c49,c53,c54,c48,c44,c38,c37,c43,c42,c41,c52,c55,c50,c46,c40,c39,c47,c36,c51,c75,c79,c83,c84,c78,c74,c68,c67,c73,c72,c71,c82,c85,c80,c76,c70,c69,c77,c66,c81]
end
structure KL where
 x:AV
 len:Nat
 cells:List AV
def zgq:Int->List KL->List KE
 |_,[]=>[]
 |n,p::r=>⟨p.x,zae,n+1,p.len,p.cells⟩::zgq (n+1) r
def refsL(P:List KL):List Nat:=P.flatMap fun p=>p.x.refs
theorem z0e:∀(P:List KL) (n:Int),zcn (zgq n P)=zhz n (P.map (·.x))
 |[],n=>rfl
 |p::r,n=>by
  have h:=z0e r (n+1)
  have hr:zcn (zgq n (p::r))=[p.x,zae,zaa (n+1)]++zcn (zgq (n+1) r):=rfl
  rw[hr,h];rfl
theorem z0f:∀(P:List KL) (n:Int),(zgq n P).length=P.length
 |[],n=>rfl
 |p::r,n=>by simp[zgq,z0f r]
theorem z0g:∀(P:List KL) (n:Int),za2 (zgq n P)=refsL P
 |[],n=>rfl
 |p::r,n=>by
  have h:=z0g r (n+1)
  have hr:za2 (zgq n (p::r))=p.x.refs++za2 (zgq (n+1) r):=rfl
  rw[hr,h];rfl
theorem zvv:∀(P:List KL) (n:Int) (e:KE),e∈zgq n P->(∃p∈P,e.x=p.x/\e.len=p.len/\e.cells=p.cells)/\n<e.n/\e.n<=n+P.length
 |[],n,e,h=>by simp[zgq]at h
 |p::r,n,e,h=>by
  rcases xca.1 h with rfl|h
  ·exact⟨⟨p,xbh ..,rfl,rfl,rfl⟩,by dsimp only;omega,by simp;omega⟩
  ·obtain⟨⟨q,hq,h1⟩,h2,h3⟩:=zvv r (n+1) e h
   exact⟨⟨q,xbc _ hq,h1⟩,by omega,by simp;omega⟩
theorem zvu(A B:List KE):zcn (A++B)=zcn A++zcn B:=by simp[zcn]
theorem zpe(A B:List KE):za2 (A++B)=za2 A++za2 B:=by simp[za2]
def zqu(code:Nat->Option zab)(ext:zac)(sz mk isn:Nat)(mi:Int->List IV):Prop:=
 (∀n,(mi n).length=sz)/\(∀s n,(0<=n/\n<=1000000000)->zbl (callW code ext) s mk [zaa n]=some (.agg ((mi n).map .imm),s))/\
 (∀s n,(0<=n/\n<=1000000000)->zbl (callW code ext) s isn [.agg ((mi n).map .imm),zaa n]=some (avb true,s))
section
variable {code:Nat->Option zab} {ext:zac}
theorem zjv{E:List KE}{e:KE}(he:e∈E){id:Nat}(h:id∈e.x.refs):id∈za2 E:=xa2.2 ⟨e,he,h⟩
theorem z6a(c:zij code){miV miO:Int->List IV}(mV:zqu code ext 2 420 400 miV)(mO:zqu code ext 5 414 394 miO){M:Mem}{b:Nat}{n:Int}{vx ox:AV}{EV EO:List KE}(k:Bk M b n vx (zcn EV) EV.length ox (zcn EO) EO.length)
  (hV:EV.length<=1000000000) (hO:EO.length<=1000000000) (nV:∀e∈EV,0<=e.n/\e.n<=1000000000) (nO:∀e∈EO,0<=e.n/\e.n<=1000000000)
  (xV:∀e∈EV,KX M 2 e.x e.len e.cells/\e.len<=1000000000) (xO:∀e∈EO,KX M 5 e.x e.len e.cells/\e.len<=1000000000)
  (dV:(za2 EV).Nodup) (dO:(za2 EO).Nodup) (dd:∀id∈za2 EV,id ∉ za2 EO) (fV:∀id∈za2 EV,id≠b/\id ∉ vx.refs/\id ∉ ox.refs) (fO:∀id∈za2 EO,id≠b/\id ∉ vx.refs/\id ∉ ox.refs):
  ∃M',callW code ext 1 [.optr b 0] M=some (avb true,M')/\M.length<=M'.length:=by
 obtain⟨mV1,mV2,mV3⟩:=mV
 obtain⟨mO1,mO2,mO3⟩:=mO
 obtain⟨B,hB,hBl,hB0,hB4,hB5,hBn⟩:=k.B
 have hbl:b<M.length:=(xab.1 hB).1
 have ltV:∀id∈za2 EV,id<M.length:=fun id hid=>by
  obtain⟨e,he,hid⟩:=xa2.1 hid
  exact zee (xV e he).1 id hid
 have ltO:∀id∈za2 EO,id<M.length:=fun id hid=>by
  obtain⟨e,he,hid⟩:=xa2.1 hid
  exact zee (xO e he).1 id hid
 obtain⟨M1,c34,l1,s1,x1⟩:=z0s (ext:=ext) (c.c34.trans (congrArg some yiz)) (R:=fun n=>0<=n/\n<=1000000000) mV2 mV1 (f:=4) (vx:=vx) (E:=EV) ⟨⟨B,hB,hB4⟩,k.v,fun id h=>⟨(fV id h).1,(fV id h).2.1⟩,dV⟩ hbl hV nV xV (fun id h=>(k.vr id h).1)
 have hB1:M1[b]?=some (.rich B):=by rw[s1 b hbl fun h=>(fV b h).1 rfl];exact hB
 have ox1:∀id∈ox.refs,M1[id]?=M[id]?:=fun id h=>s1 id (k.or id h).1 fun hm=>(fV id hm).2.2 h
 have vx1:∀id∈vx.refs,M1[id]?=M[id]?:=fun id h=>s1 id (k.vr id h).1 fun hm=>(fV id hm).2.1 h
 have xO1:∀e∈EO,KX M1 5 e.x e.len e.cells/\e.len<=1000000000:=fun e he=>⟨zdn (xO e he).1 fun id h=>s1 id (zee (xO e he).1 id h) fun hm=>dd id hm (zjv he h),(xO e he).2⟩
 obtain⟨M2,c28,l2,s2,x2⟩:=z0s (ext:=ext) (c.c28.trans (congrArg some yiy)) (R:=fun n=>0<=n/\n<=1000000000) mO2 mO1 (f:=5) (vx:=ox) (E:=EO) ⟨⟨B,hB1,hB5⟩,zgr k.o ox1,fun id h=>⟨(fO id h).1,(fO id h).2.2⟩,dO⟩ (by omega) hO nO xO1 (fun id h=>by have:=(k.or id h).1;omega)
 have hB2:M2[b]?=some (.rich B):=by rw[s2 b (by omega) fun h=>(fO b h).1 rfl];exact hB1
 have vx2:∀id∈vx.refs,M2[id]?=M[id]?:=fun id h=>by rw[s2 id (by have:=(k.vr id h).1;omega) fun hm=>(fO id hm).2.1 h];exact vx1 id h
 have ox2:∀id∈ox.refs,M2[id]?=M[id]?:=fun id h=>by rw[s2 id (by have:=(k.or id h).1;omega) fun hm=>(fO id hm).2.2 h];exact ox1 id h
 have xV2:∀e∈EV,(∃rest,KX M2 2 e.x e.len (zaq e.len ((miV e.n).map .imm)++rest))/\e.len<=1000000000:=fun e he=>⟨⟨_,zdn (x1 e he) fun id h=>s2 id (by have:=ltV id (zjv he h);omega) fun hm=>dd id (zjv he h) hm⟩,(xV e he).2⟩
 obtain⟨M3,EV3,c54,l3,s3,h3,e3,g3⟩:=z1b (ext:=ext) (c.c54.trans (congrArg some yi7)) (by decide) rfl (R:=fun n=>0<=n/\n<=1000000000) mV2 mV1 (f:=4) (vx:=vx) (E:=EV) ⟨⟨B,hB2,hB4⟩,zgr k.v vx2,fun id h=>⟨(fV id h).1,(fV id h).2.1⟩,dV⟩ (by omega) hV nV xV2 (fun id h=>⟨by have:=(k.vr id h).1;omega,(k.vr id h).2⟩)
 have hB3:M3[b]?=some (.rich B):=by rw[s3 b (by omega) (fun h=>(fV b h).1 rfl) fun h=>(k.vr b h).2 rfl];exact hB2
 have ox3:∀id∈ox.refs,M3[id]?=M[id]?:=fun id h=>by rw[s3 id (by have:=(k.or id h).1;omega) (fun hm=>(fV id hm).2.2 h) fun hm=>k.vo id hm h];exact ox2 id h
 have xO3:∀e∈EO,(∃rest,KX M3 5 e.x e.len (zaq e.len ((miO e.n).map .imm)++rest))/\e.len<=1000000000:=fun e he=>⟨⟨_,zdn (x2 e he) fun id h=>s3 id (by have:=ltO id (zjv he h);omega) (fun hm=>dd id hm (zjv he h)) fun hm=>(fO id (zjv he h)).2.1 hm⟩,(xO e he).2⟩
 obtain⟨M4,EO4,c48,l4,s4,h4,e4,g4⟩:=z1b (ext:=ext) (c.c48.trans (congrArg some yi5)) (by decide) rfl (R:=fun n=>0<=n/\n<=1000000000) mO2 mO1 (f:=5) (vx:=ox) (E:=EO) ⟨⟨B,hB3,hB5⟩,zgr k.o ox3,fun id h=>⟨(fO id h).1,(fO id h).2.2⟩,dO⟩ (by omega) hO nO xO3 (fun id h=>⟨by have:=(k.or id h).1;omega,(k.or id h).2⟩)
 have hB4':M4[b]?=some (.rich B):=by rw[s4 b (by omega) (fun h=>(fO b h).1 rfl) fun h=>(k.or b h).2 rfl];exact hB3
 have vx4:∀id∈vx.refs,M4[id]?=M3[id]?:=fun id h=>s4 id (by have:=(k.vr id h).1;omega) (fun hm=>(fO id hm).2.1 h) fun hm=>k.vo id h hm
 have lookV:∀e∈EV3,e.len<=1000000000/\(∃rest,KX M4 2 e.x e.len (zaq e.len ((miV e.n).map .imm)++rest))/\∃nid ob,e.lg=.osl nid 0 2 (e.len+40) none/\M4[nid]?=some ob/\za3 (zaq (e.len+40) ((miV e.n).map .imm)) ob:=fun e he=>by
  obtain⟨j,hj⟩:=xa3 he
  have hjl:=(xab.1 hj).1
  have hje:=xaa (l:=EV) (i:=j) (by omega)
  obtain⟨e',q1,q2⟩:=g3 j _ hje
  have hm:=xa8 (l:=EV) (n:=j) (by omega)
  generalize EV[j]=u at q2 hm hje
  rw[hj]at q1;cases q1
  obtain⟨p1,p2,p3,⟨rest,p4⟩,nid,ob,p5,p6,p7,p8⟩:=q2
  rw[p1,p2,p3]
  refine⟨(xV u hm).2,⟨rest,zdn p4 fun id h=>s4 id (zee p4 id h) (fun hq=>dd id (zjv hm h) hq) fun hq=>(fV id (zjv hm h)).2.2 hq⟩,nid,ob,p5,?_,p8⟩
  rw[s4 nid (xab.1 p7).1 (fun hq=>by have:=ltO nid hq;omega) fun hq=>by have:=(k.or nid hq).1;omega]
  exact p7
 have nV3:∀e∈EV3,0<=e.n/\e.n<=1000000000:=fun e he=>by
  obtain⟨j,hj⟩:=xa3 he
  have hjl:=(xab.1 hj).1
  obtain⟨e',q1,q2⟩:=g3 j _ (xaa (l:=EV) (i:=j) (by omega))
  rw[hj]at q1;cases q1
  rw[q2.2.1]
  exact nV _ (xa8 _)
 have nO4:∀e∈EO4,0<=e.n/\e.n<=1000000000:=fun e he=>by
  obtain⟨j,hj⟩:=xa3 he
  have hjl:=(xab.1 hj).1
  obtain⟨e',q1,q2⟩:=g4 j _ (xaa (l:=EO) (i:=j) (by omega))
  rw[hj]at q1;cases q1
  rw[q2.2.1]
  exact nO _ (xa8 _)
 obtain⟨G5,c84⟩:=z15 (ext:=ext) (c.c84.trans (congrArg some yjq)) (R:=fun n=>0<=n/\n<=1000000000) mV3 mV1 (f:=4) (vx:=vx) (E:=EV3) ⟨B,hB4',hB4⟩ (by rw[e3];exact zgr h3 vx4) (by omega) nV3 lookV
 have hold:∀id,id<M4.length->(M4++G5)[id]?=M4[id]?:=fun id h=>xac h
 have lookO:∀e∈EO4,e.len<=1000000000/\(∃rest,KX (M4++G5) 5 e.x e.len (zaq e.len ((miO e.n).map .imm)++rest))/\∃nid ob,e.lg=.osl nid 0 5 (e.len+40) none/\(M4++G5)[nid]?=some ob/\za3 (zaq (e.len+40) ((miO e.n).map .imm)) ob:=fun e he=>by
  obtain⟨j,hj⟩:=xa3 he
  have hjl:=(xab.1 hj).1
  have hje:=xaa (l:=EO) (i:=j) (by omega)
  obtain⟨e',q1,q2⟩:=g4 j _ hje
  have hm:=xa8 (l:=EO) (n:=j) (by omega)
  generalize EO[j]=u at q2 hm hje
  rw[hj]at q1;cases q1
  obtain⟨p1,p2,p3,⟨rest,p4⟩,nid,ob,p5,p6,p7,p8⟩:=q2
  rw[p1,p2,p3]
  exact⟨(xO u hm).2,⟨rest,zdn p4 fun id h=>hold id (zee p4 id h)⟩,nid,ob,p5,by rw[hold nid (xab.1 p7).1];exact p7,p8⟩
 have oxl:∀id∈ox.refs,id<M4.length:=fun id h=>by have:=(k.or id h).1;omega
 obtain⟨G6,c78⟩:=z15 (ext:=ext) (c.c78.trans (congrArg some yjn)) (R:=fun n=>0<=n/\n<=1000000000) mO3 mO1 (f:=5) (vx:=ox) (E:=EO4) ⟨B,by rw[hold b (by omega)];exact hB4',hB5⟩ (by rw[e4];exact zgr h4 fun id h=>hold id (oxl id h)) (by omega) nO4 lookO
 refine⟨_,z6b c hBn hB hB1 hB2 hB3 hB4' (by rw[hold b (by omega)];exact hB4') (by rw[xac (by simp;omega),hold b (by omega)];exact hB4') c34 c28 c54 c48 c84 c78,by simp;omega⟩
end
def miV(n:Int):List IV:=[.val (.int .u8 0),.val (.int .i64 (IntKind.wrap .i64 (-1000-n)))]
def miO(n:Int):List IV:=[.val (.int .u8 0),.val (.string (⟨#[35]⟩++dig n)),.val (.slice none 0 0),.val (.int .i64 0),.val (.int .i64 0)]
structure zki (code:Nat->Option zab) (ext:zac):Prop where
 c786:code 786=some zur
 c709:code 709=some zuj
 n708:code 708=none
 e708:∀a m,ext 708 a m=ziu 708 708 a m
structure zkk (code:Nat->Option zab):Prop where
 c420:code 420=some ztw
 c400:code 400=some zts
 c414:code 414=some ztu
 c394:code 394=some ztq
 c422:code 422=some ztx
section
variable {code:Nat->Option zab} {ext:zac}
theorem ybf(c:zkk code):zqu code ext 2 420 400 miV:=by
 refine⟨fun n=>rfl,fun s n hn=>?_,fun s n hn=>?_⟩
 ·have h:callW code ext 420 [zaa n] []=some (.agg ((miV n).map .imm),[]):=by
   rw[zad code ext c.c420]
   unfold miV
   simp -implicitDefEqProofs [ztw]
  simp only[zbl]
  simp -implicitDefEqProofs [h,miV]
 ·have h:callW code ext 400 [.agg ((miV n).map .imm),zaa n] []=some (avb true,[]):=by
   rw[zad code ext c.c400]
   unfold miV
   simp -implicitDefEqProofs [zts]
  unfold miV at h ⊢
  simp -implicitDefEqProofs at h
  simp -implicitDefEqProofs [zbl,h]
theorem z92(c:zki code ext)(n:Int)(hn:(zcs .i64).wf n):callW code ext 786 [zaa n] []=some (zaj (dig n),[]):=by
 obtain⟨h0,h1⟩:=wfI64.1 hn
 have h:callW code ext 708 [zaa n,zaa 10] []=some (zaj (dig n),[]):=by
  rw[zfe code ext c.n708 (by decide),c.e708]
  simp[ziu,h0,h1,dig]
 have h2:callW code ext 709 [zaa n] []=some (zaj (dig n),[]):=by
  rw[zad code ext c.c709]
  simp -implicitDefEqProofs [zuj,h]
 rw[zad code ext c.c786]
 simp -implicitDefEqProofs [zur,h2]
theorem z47(c:zkk code)(t:zki code ext){n:Int}(hn:0<=n/\n<=1000000000):callW code ext 422 [zaa n] []=some (zaj (⟨#[35]⟩++dig n),[]):=by
 have hw:(zcs .i64).wf n:=wfI64.2 ⟨by omega,by omega⟩
 have h1:=z92 (ext:=ext) t n hw
 have hs:=z78 hw
 have hsz:(ByteArray.mk #[35]).size+(dig n).size<=9223372036854775807:=by
  have:(ByteArray.mk #[35]).size=1:=rfl
  omega
 rw[zad code ext c.c422]
 generalize dig n=d at *
 simp -implicitDefEqProofs [ztx,h1,hsz]
theorem ybe(c:zkk code)(t:zki code ext):zqu code ext 5 414 394 miO:=by
 refine⟨fun n=>rfl,fun s n hn=>?_,fun s n hn=>?_⟩
 ·have h1:=z47 c t hn
  have h:callW code ext 414 [zaa n] []=some (.agg ((miO n).map .imm),[]):=by
   rw[zad code ext c.c414]
   unfold miO
   generalize (⟨#[35]⟩++dig n:ByteArray)=d at *
   simp -implicitDefEqProofs [ztu,h1]
  unfold miO at h ⊢
  generalize (⟨#[35]⟩++dig n:ByteArray)=d at *
  simp -implicitDefEqProofs [zbl,h]
 ·have h1:=z47 c t hn
  have h:callW code ext 394 [.agg ((miO n).map .imm),zaa n] []=some (avb true,[]):=by
   rw[zad code ext c.c394]
   unfold miO
   generalize (⟨#[35]⟩++dig n:ByteArray)=d at *
   simp -implicitDefEqProofs [ztq,h1]
  unfold miO at h ⊢
  generalize (⟨#[35]⟩++dig n:ByteArray)=d at *
  simp -implicitDefEqProofs at h
  simp -implicitDefEqProofs [zbl,h]
structure zyx (M:Mem) (sid N:Nat) (cp:Nat) (P:List KL):Prop where
 row:∃o L rest,M[sid]?=some o/\za3 (zav L++rest) o/\L.map (·.l)=P.map (·.x)/\L.length=N/\(zav L++rest).length=cp*5/\(∀w∈L,w.l.cells=some [w.l])
 cap:N<=cp/\cp<=N+1
 n:N<=10000000
 kx:∀p∈P,KX M 2 p.x p.len p.cells/\p.len<=1000000000
theorem z60(M:Mem):Bk (M++[.rich [zaa 0,zae,zae,zae,zae,zae,zae,zae,zae,zae,zae,zae,zae,zae,zae,zae,zae,zae,zae,zae,zae]]) M.length 0 zae [] 0 zae [] 0:=by
 refine⟨⟨_,ze2 M _,rfl,rfl,rfl,rfl,fun j h1 h2 _ _=>?_⟩,.inl ⟨rfl,rfl,rfl⟩,.inl ⟨rfl,rfl,rfl⟩,by simp[AV.refs],by simp[AV.refs],by simp[AV.refs]⟩
 obtain⟨i,rfl⟩:∃i,j=i+1:=⟨j-1,by omega⟩
 show(zaa 0::List.replicate 20 zae)[i+1]?=some zae
 rw[xba,List.getElem?_replicate,if_pos (by omega)]
end
structure zht (M:Mem) (b:Nat) (S:List Obj):Prop where
 row:∃o,M[b]?=some o/\za3 (zav (twR (b+1) S)++zgy) o
 lists:∀(i:Nat) f,S[i]?=some f->M[b+1+i]?=some (zcw f)
structure znu (M:Mem) (b:Nat) (T:List Obj):Prop where
 row:∃o,M[b]?=some o/\za3 (zav (clR (b+1) T)) o
 lists:∀(i:Nat) a,(clM T)[i]?=some a->M[b+1+i]?=some a
def clP:Nat->List Obj->List KL
 |_,[]=>[]
 |j,o::r=>(if zbt o.l.iv=true then⟨zae,0,[]⟩else⟨.osl j 0 2 o.l.xs.length (some o.l.xs.length),o.l.xs.length,(tVal.row o.l.xs).map .imm⟩)::clP (j+(clL o).length) r
theorem zzn:∀(T:List Obj) (j:Nat),refsL (clP j T)=List.range' j (clM T).length
 |[],j=>rfl
 |o::r,j=>by
  have h:=zzn r (j+(clL o).length)
  have hr:refsL (clP j (o::r))=(if zbt o.l.iv=true then(⟨zae,0,[]⟩:KL)else⟨.osl j 0 2 o.l.xs.length (some o.l.xs.length),o.l.xs.length,(tVal.row o.l.xs).map .imm⟩).x.refs++refsL (clP (j+(clL o).length) r):=rfl
  have hm:clM (o::r)=clL o++clM r:=by simp[clM]
  rw[hr,h,hm,xak,<-List.range'_append_1]
  congr 1
  unfold clL
  split<;>rfl
theorem zzs:∀(T:List Obj) (j:Nat),(clR j T).map (·.l)=(clP j T).map (·.x)
 |[],j=>rfl
 |o::r,j=>by
  simp only[clR,clP,xa4,zzs r]
  congr 1
  unfold clO
  split<;>rfl
theorem zzo:∀(T:List Obj) (j:Nat),∀w∈clR j T,w.l.cells=some [w.l]
 |[],j,w,h=>by simp[clR]at h
 |o::r,j,w,h=>by
  rcases xca.1 h with rfl|h
  ·unfold clO
   dsimp only
   split<;>rfl
  ·exact zzo r _ w h
theorem zzm{M:Mem}:∀(T:List Obj) (j:Nat),(∀o∈T,o.l.xs.length<=1000000)->(∀(i:Nat) a,(clM T)[i]?=some a->M[j+i]?=some a)->∀p∈clP j T,KX M 2 p.x p.len p.cells/\p.len<=1000000000
 |[],j,_,_,p,hp=>by simp[clP]at hp
 |o::r,j,hS,hM,p,hp=>by
  have ho:=hS o (xbh ..)
  have hm:clM (o::r)=clL o++clM r:=by simp[clM]
  rcases xca.1 hp with rfl|hp
  ·split
   ·exact⟨.inr ⟨rfl,rfl,.inl rfl⟩,by decide⟩
   ·rename_i hz
    have hg:=hM 0 (.flat (tVal.row o.l.xs) false) (by rw[hm];unfold clL;rw[if_neg hz];rfl)
    refine⟨.inl ⟨j,_,_,rfl,by simpa using hg,.inr ⟨_,rfl,rfl⟩,?_,by dsimp only;omega,by dsimp only;omega⟩,by dsimp only;omega⟩
    rw[xam,zca];rfl
  ·exact zzm r (j+(clL o).length) (fun o ho=>hS o (xbc _ ho)) (fun i a ha=>by
    have:=hM ((clL o).length+i) a (by rw[hm,xag (by omega),xbq];exact ha)
    rw[<-this];congr 1;omega) p hp
theorem z76{M:Mem}{b:Nat}{T:List Obj}(h:znu M b T)(hS:∀o∈T,o.l.xs.length<=1000000)(hn:T.length<=1000000):zyx M b T.length T.length (clP (b+1) T):=by
 obtain⟨o,h1,h2⟩:=h.row
 refine⟨⟨o,_,[],h1,by rw[xas];exact h2,zzs T _,zod T _,?_,zzo T _⟩,⟨by omega,by omega⟩,by omega,zzm T _ hS h.lists⟩
 rw[xas,zi3,zod]
section
variable {code:Nat->Option zab} {ext:zac}
end
theorem zwn{α β:Type}(f:α->Option β):∀(a c:List α) {x y:List β},a.mapM f=some x->c.mapM f=some y->(a++c).mapM f=some (x++y):=by
 intro a c x y h1 h2
 rw[List.mapM_append,h1,h2];rfl
theorem z08{M:Mem}{b n:Nat}{cap:Option Nat}{o:AObj}{cells:List AV}{R:List IV}(hM:M[b]?=some o)(h:za3 cells o)(hm:cells.mapM (za5 M 19)=some R):frz M (.osl b 0 5 n cap)=some (.imm (.slice R 0 n cap)):=by
 have hv:za5 M 20 (.osl b 0 5 n cap)=some (.slice R 0 n cap):=by
  rcases h with rfl|⟨cs,rfl,rfl⟩
  ·show(match M[b]? with
    |some (.flat cells _)=>some (IV.slice cells 0 n cap)
    |some (.rich cells)=>(cells.mapM (za5 M 19)).map fun row=>.slice row 0 n cap
    |_=>none)=_
   rw[hM]
   dsimp only
   rw[hm];rfl
  ·have:∀l:List IV,(l.map AV.imm).mapM (za5 M 19)=some l:=by
    intro l
    induction l with
    |nil=>rfl
    |cons x l ih=>
     rw[xa4,xa5,ih];rfl
   rw[this]at hm
   cases hm
   show(match M[b]? with
    |some (.flat cells _)=>some (IV.slice cells 0 n cap)
    |some (.rich cells)=>(cells.mapM (za5 M 19)).map fun row=>.slice row 0 n cap
    |_=>none)=_
   rw[hM]
 simp only[frz,hv,xao]
theorem z01 {M : Mem} {j n : Nat} {cap : Option Nat} {cs : List IV} (h : M[j]? = some (.flat cs false)) : za5 M 19 (.osl j 0 2 n cap) = some (.slice cs 0 n cap) := by
  show (match M[j]? with
        | some (.flat cells _) => some (IV.slice cells 0 n cap)
        | some (.rich cells) => (cells.mapM (za5 M 18)).map fun row => .slice row 0 n cap
        | _ => none) = _
  rw [h]
theorem z4o{M:Mem}:∀(S:List Obj) (j:Nat),(∀(i:Nat) f,S[i]?=some f->M[j+i]?=some (zcw f))->(zav (twR j S)).mapM (za5 M 19)=some (tObj.row (S.map zam))
 |[],j,_=>rfl
 |o::r,j,hM=>by
  have h:=z4o r (j+1) fun i f hf=>by
   have:=hM (i+1) f (by simpa using hf)
   rw[<-this];congr 1;omega
  have hr:zav (twR j (o::r))=(zfo j o).cells++zav (twR (j+1) r):=rfl
  have hc:tObj.row ((o::r).map zam)=tObj.enc (zam o)++tObj.row (r.map zam):=rfl
  rw[hr,hc]
  refine zwn _ _ _ ?_ h
  have hl:=z01 (n:=o.l.xs.length) (cap:=some (o.l.xs.length+1)) (show M[j]?=some (.flat (tVal.row (o.l.xs++[zby])) false)from(by have:=hM 0 o rfl;rw[xbi]at this;exact this))
  simp only[zfo,RO.cells,xa5,List.mapM_nil,hl]
  rfl
theorem zlb{M:Mem}{b:Nat}{S:List Obj}(h:zht M b S):frz M (.osl b 0 5 S.length (some (S.length+1)))=some (.imm (.slice (tObj.row (S.map zam++[zap])) 0 S.length (some (S.length+1)))):=by
 obtain⟨o,h1,h2⟩:=h.row
 refine z08 h1 h2 ?_
 have:tObj.row (S.map zam++[zap])=tObj.row (S.map zam)++tObj.enc zap:=by simp[Ty.row]
 rw[this]
 exact zwn _ _ _ (z4o S _ h.lists) rfl
theorem zzp{M:Mem}:∀(T:List Obj) (j:Nat),(∀(i:Nat) a,(clM T)[i]?=some a->M[j+i]?=some a)->(zav (clR j T)).mapM (za5 M 19)=some (tObj.row (T.map zaf))
 |[],j,_=>rfl
 |o::r,j,hM=>by
  have hm:clM (o::r)=clL o++clM r:=by simp[clM]
  have h:=zzp r (j+(clL o).length) fun i a ha=>by
   have:=hM ((clL o).length+i) a (by rw[hm,xag (by omega),xbq];exact ha)
   rw[<-this];congr 1;omega
  have hr:zav (clR j (o::r))=(clO j o).cells++zav (clR (j+(clL o).length) r):=rfl
  have hc:tObj.row ((o::r).map zaf)=tObj.enc (zaf o)++tObj.row (r.map zaf):=rfl
  rw[hr,hc]
  refine zwn _ _ _ ?_ h
  by_cases hz:zbt o.l.iv=true
  ·have hv:o.l.iv=.val (.slice none 0 0):=by
    rcases o.l.ok.2.2 with⟨e,_⟩|⟨row,off,cap,e,_⟩
    ·exact e
    ·rw[e]at hz;simp[zbt]at hz
   unfold clO zaf zfg
   rw[if_pos hz,if_pos hz]
   show(some [IV.val (.int .u8 o.k),.val (.string o.s),.val (.slice none 0 0),.val (.int .i64 o.room),.val (.int .i64 o.fn)]:Option (List IV))=some [IV.val (.int .u8 o.k),.val (.string o.s),o.l.iv,.val (.int .i64 o.room),.val (.int .i64 o.fn)]
   rw[hv]
  ·have hg:=hM 0 (.flat (tVal.row o.l.xs) false) (by rw[hm];unfold clL;rw[if_neg hz];rfl)
   rw[xbi]at hg
   have hl:=z01 (n:=o.l.xs.length) (cap:=some o.l.xs.length) hg
   unfold clO zaf zfg
   rw[if_neg hz,if_neg hz]
   simp only[RO.cells,xa5,List.mapM_nil,hl]
   rfl
theorem z75{M:Mem}{b:Nat}{T:List Obj}(h:znu M b T):frz M (.osl b 0 5 T.length (some T.length))=some (.imm (.slice (tObj.row (T.map zaf)) 0 T.length (some T.length))):=by
 obtain⟨o,h1,h2⟩:=h.row
 exact z08 h1 h2 (zzp T _ h.lists)
def yi1:zab:=
 ⟨[.tmp 6],(.seq (.region [0,1,5] [o0 5 (.box 4 (.t 2)),
 o0 6 (.mv (.c (.bool false)))]) (.seq (.seq (.region [0,1,5,12] [o3 11 0,
 o0 12 (.call .view 487 [.t 11])]) (.cond (.t 12) (.seq (.region [6] [o0 13 (.call .view 489 []),o3 6 13]) .ret) .skip)) (.seq (.region [0,1,5,7] [o3 14 0,
 o0 15 (.call .own 377 [.t 14]),o3 7 15]) (.seq (.region [0,1,5,7,8] [o3 16 7,o3 17 1,
 o0 18 (.idxP 2 2 (.t 5) (.c (.int .i64 0))),o6 19 2 18,
 o0 20 (.idxP 2 2 (.t 5) (.c (.int .i64 1))),o6 21 2 20,
 o0 22 (.call .own 627 [(.t 16),(.t 17),(.t 19),(.t 21)]),
 o0 8 (.alloc [(.slice none 0 0),(.int .u8 0),(.int .i64 0),(.string .empty),(.int .i64 0)]),
 o2 (.store 5 (.t 8) (.t 22))]) (.seq (.region [0,1,5,7,8,9] [o3 23 0,
 o0 24 (.call .own 488 [.t 23]),o3 9 24]) (.seq (.region [0,7,8,9,10] [o3 25 9,o3 26 1,
 o0 27 (.idxP 2 2 (.t 5) (.c (.int .i64 0))),o6 28 2 27,
 o0 29 (.idxP 2 2 (.t 5) (.c (.int .i64 1))),o6 30 2 29,
 o0 31 (.call .share 150 [(.t 25),(.t 26),(.t 28),(.t 30),(.c (.bool false))]),
 o0 10 (.alloc [(.int .u8 0),(.int .i64 0),(.string .empty),(.int .i64 0)]),
 o2 (.store 4 (.t 10) (.t 31))]) (.seq (.region [6] [o6 32 5 8,o3 33 9,o6 34 4 10,o3 35 7,o3 36 0,
 o0 37 (.call .view 490 [(.t 32),(.t 33),(.t 34),(.t 35),(.t 36)]),o3 38 37,
 o1 39 38 true (.mv (.t 7)),
 o1 40 38 true (.fieldA 0 (.t 8)),
 o1 41 38 true (.load none (.t 40)),
 o1 42 38 true (.call .whole 486 [(.t 39),(.t 41)]),
 o0 43 (.pick (.t 38) (.t 42) (.c (.bool false))),o3 44 43,
 o1 45 44 true (.call .view 489 []),
 o0 46 (.pick (.t 44) (.t 45) (.c (.bool false))),o3 6 46]) .ret)))))))⟩
section
variable {code:Nat->Option zab} {ext:zac}
end
theorem z4p{f:Nat->Option Nat}:∀(S:List Obj) (j j':Nat),(∀i,i<S.length->f (j+i)=some (j'+i))->AV.ren.renL f (zav (twR j S))=zav (twR j' S)
 |[],j,j',_=>rfl
 |o::r,j,j',h=>by
  have h1:∀j,zav (twR j (o::r))=(zfo j o).cells++zav (twR (j+1) r):=fun _=>rfl
  have h2:=z4p (f:=f) r (j+1) (j'+1) fun i hi=>by
   have:=h (1+i) (by simp;omega)
   rw[<-Nat.add_assoc,<-Nat.add_assoc]at this
   exact this
  have h0:=h 0 (by simp)
  rw[xbi,xbi]at h0
  rw[h1,h1,zfm,xcj,<-zfm,<-zfm,h2]
  congr 1
  simp only[zfo,RO.cells,AV.ren.renL,AV.ren,h0]
theorem yfx(f:Nat->Option Nat)(a b:List AV):AV.ren.renL f (a++b)=AV.ren.renL f a++AV.ren.renL f b:=by
 rw[zfm,zfm,zfm,xcj]
theorem yaz(f:Nat->Option Nat)(S:List Obj):(S.map zcw).map (AObj.ren f)=S.map zcw:=by
 rw[xc3]
 exact xbk fun o _=>rfl
theorem yg8(M:Mem)(x y:AObj):(M++[x]).set M.length y=M++[y]:=by
 rw[xbb _ _ (xap _),xcl];rfl
theorem yg7(zs vs:List AV)(h:vs.length=zs.length):setAll zs 0 vs=vs:=by
 refine xbf fun j=>?_
 rw[zsb _ _ _ _ (by omega)]
 by_cases hj:j<vs.length
 ·rw[if_pos (by omega),Nat.sub_zero]
 ·rw[if_neg (by omega),xaq (by omega),xaq (by omega)]
theorem yhm(M:Mem)(zs vs:List AV)(h:vs.length=zs.length):storeAt (M++[.rich zs]) (.optr M.length 0) vs=some (M++[.rich vs]):=by
 simp only[storeAt,ze2]
 rw[if_pos (by omega),yg7 _ _ h,yg8]
theorem z9l{M:Mem}{b n:Nat}{cap:Option Nat}{iv:IV}(h:frz M (.osl b 0 5 n cap)=some (.imm iv)):za5 M 20 (.osl b 0 5 n cap)=some iv:=by
 have e:frz M (.osl b 0 5 n cap)=(za5 M 20 (.osl b 0 5 n cap)).map .imm:=rfl
 rw[e]at h
 cases hv:za5 M 20 (.osl b 0 5 n cap)with
 |none=>rw[hv]at h;cases h
 |some x=>rw[hv]at h;cases h;rfl
theorem zgz{M M':Mem}{b:Nat}{S:List Obj}(h:zht M b S)(hs:∀id,id<M.length->M'[id]?=M[id]?):zht M' b S:=by
 obtain⟨o,h1,h2⟩:=h.row
 exact⟨⟨o,by rw[hs b (xab.1 h1).1];exact h1,h2⟩,fun i f hf=>by
  have:=h.lists i f hf
  rw[hs _ (xab.1 this).1];exact this⟩
theorem yhp(xs:List Val):(tVal.row xs).all IV.plain=true:=by
 rw[xai]
 intro v hv
 obtain⟨x,_,hx⟩:=xa2.1 hv
 simp only[tVal,xca,List.not_mem_nil,or_false]at hx
 rcases hx with rfl|rfl<;>rfl
theorem zzq:∀(T:List Obj) (j:Nat),∀x∈zav (clR j T),x.own1=true
 |[],j,x,h=>by simp[clR,zav]at h
 |o::r,j,x,h=>by
  have h1:zav (clR j (o::r))=(clO j o).cells++zav (clR (j+(clL o).length) r):=rfl
  rw[h1]at h
  rcases xaj.1 h with h|h
  ·simp only[clO,RO.cells,xca,List.not_mem_nil,or_false]at h
   rcases h with rfl|rfl|rfl|rfl|rfl
   ·rfl
   ·rfl
   ·split<;>rfl
   ·rfl
   ·rfl
  ·exact zzq r _ x h
theorem yjs{b:Nat}{T:List Obj}{X:Mem}(h:XM b T X):X.all AObj.own=true:=by
 obtain⟨ob,rfl,hr⟩:=h
 rw[xcp,xae]
 refine⟨?_,?_⟩
 ·have ho:=zzq T (b+1)
  rcases hr with rfl|⟨cs,rfl,e⟩
  ·exact xai.2 ho
  ·refine xai.2 fun v hv=>?_
   have:=ho (.imm v) (by rw[e];exact xbd.2 ⟨v,hv,rfl⟩)
   cases v<;>first|rfl|cases this
 ·rw[xai]
  intro a ha
  obtain⟨o,_,ha⟩:=xa2.1 ha
  unfold clL at ha
  split at ha
  ·simp at ha
  ·rw[xav.1 ha];exact yhp _
section
variable {code:Nat->Option zab} {ext:zac}
theorem yeu{sv:IV}{S:List Obj}{o:AObj}(hr:za3 (zav (twR 1 S)++zgy) o)(h:callW code ext 377 [.imm sv] []=some (.osl 0 0 5 S.length (some (S.length+1)),o::S.map zcw))(A:Mem):
  ∃M1,(∀e,zbk (callW code ext) ⟨0,e,A⟩ 377 [.imm sv]=some (.osl A.length 0 5 S.length (some (S.length+1)),⟨0,e,M1⟩))/\zht M1 A.length S/\M1.length=A.length+1+S.length/\∀id,id<A.length->M1[id]?=A[id]?:=by
 refine⟨A++(o::S.map zcw).map (AObj.ren fun i=>some (A.length+i)),fun e=>?_,⟨⟨o.ren fun i=>some (A.length+i),?_,?_⟩,fun i f hf=>?_⟩,by simp;omega,fun id hid=>xac hid⟩
 ·simp only[zbk,xa5,List.mapM_nil,frz,za5,xao,xch,xb0,xbe,h]
  simp[AV.isImm,AV.ren]
 ·rw[xag (xap _),xcl];rfl
 ·have:=z3m (f:=fun i=>some (A.length+i)) hr
  rw[yfx,z4p S 1 (A.length+1) fun i _=>by rw[xb4]]at this
  exact this
 ·rw[xa4,yaz,xag (by omega)]
  have e:A.length+1+i-A.length=i+1:=by omega
  rw[e,xba,xar,hf];rfl
theorem yer{sv:IV}{N:Nat}{R:List IV}(h:callW code ext 488 [.imm sv] []=some (.optr 0 0,[.rich [.osl 1 0 5 N (some (N+1))],.flat R false]))(M3:Mem):
  ∀e,zbk (callW code ext) ⟨0,e,M3⟩ 488 [.imm sv]=some (.optr M3.length 0,⟨0,e,M3++[.rich [.osl (M3.length+1) 0 5 N (some (N+1))],.flat R false]⟩):=by
 intro e
 simp only[zbk,xa5,List.mapM_nil,frz,za5,xao,xch,xb0,xbe,h]
 simp[AV.isImm,AV.ren,AObj.ren,AV.ren.renL]
end
section
variable {code:Nat->Option zab} {ext:zac}
abbrev tsv(S:List Obj):IV:=.slice (tObj.row (S.map zam++[zap])) 0 S.length (some (S.length+1))
theorem z9k{M:Mem}{q r N c:Nat}{R:List IV}(h0:M[q]?=some (.rich [.osl r 0 5 N (some c)]))(h1:M[r]?=some (.flat R false)):frz M (.optr q 0)=some (.imm (.ptr [.slice R 0 N (some c)] 0)):=by
 have h2:za5 M 19 (.osl r 0 5 N (some c))=some (.slice R 0 N (some c)):=by
  show(match M[r]? with
    |some (.flat cells _)=>some (IV.slice cells 0 N (some c))
    |some (.rich cells)=>(cells.mapM (za5 M 18)).map fun row=>.slice row 0 N (some c)
    |_=>none)=_
  rw[h1]
 have h3:za5 M 20 (.optr q 0)=some (.ptr [.slice R 0 N (some c)] 0):=by
  show(match M[q]? with
    |some (.flat cells _)=>some (IV.ptr cells 0)
    |some (.rich cells)=>(cells.mapM (za5 M 19)).map fun row=>.ptr row 0
    |_=>none)=_
  rw[h0]
  dsimp only
  rw[xa5,h2];rfl
 show(za5 M 20 (.optr q 0)).map AV.imm=_
 rw[h3];rfl
end
section
variable {code:Nat->Option zab} {ext:zac}
theorem yh4(h:code 379=some zhn)(h':code 372=some zqg)(iv:IV)(xs:List Obj)(hr:zak tObj iv xs)(hb:∀o∈xs,o.l.xs.length<=1000000){s:St}
  (hst:s.tidy [0,3,4]=⟨0,[(0,.imm iv),(3,.osl 0 0 5 0 (some (xs.length+1))),(4,zaa 0)],[.flat (tObj.part zgo [] (xs.length+1)) false]⟩):
  ∃e s',den code ext (.loop [0,3,4] ztm) s=some (e,s')/\e≠ .normal/\
   (e=.exit 0/\s'=⟨0,[(0,.imm iv),(3,.osl 0 0 5 xs.length (some (xs.length+1))),(4,zaa xs.length),(12,avb false)],[.flat (tObj.part zgo (xs.map zam) 1) false]⟩):=by
 refine zbu (fun n s=>∃i,i+n=xs.length/\s.tidy [0,3,4]=⟨0,[(0,.imm iv),(3,.osl 0 0 5 i (some (xs.length+1))),(4,zaa (i:Nat))],[.flat (tObj.part zgo ((xs.map zam).take i) (n+1)) false]⟩) _ ?_ xs.length _ ⟨0,by simp,by simpa using hst⟩
 clear hst
 rintro n s ⟨i,hi,hst⟩
 rw[hst]
 have hlen:=zau hr
 have hbl:=hr.2.1
 by_cases hlt:i<xs.length
 ·obtain⟨row,off,cap,rfl,hc,hcut,hget⟩:=zbv hr (xaa hlt)
  have e1:IntKind.wrap .i64 ((i:Int)+1)=(i:Int)+1:=zaw (by omega) (by omega)
  obtain⟨m,rfl⟩:∃m,n=m+1:=⟨n-1,by omega⟩
  have hlt':(i:Int)<xs.length:=by omega
  have hob:=hb _ (xa8 hlt)
  have htk:xs.take (i+1)=xs.take i++[xs[i]]:=by rw[xbg,xaa hlt];rfl
  have hti:((xs.map zam).take i).length=i:=by rw[xb7,xam];omega
  have hset:=zrv tObj (by decide) zgo ((xs.map zam).take i) (m+1) (zam xs[i])
  rw[hti]at hset
  have hset2:(xs.map zam).take i++[zam xs[i]]=(xs.map zam).take (i+1):=by rw[<-List.map_take,<-List.map_take,htk,xcj];rfl
  rw[hset2]at hset
  have hfit:(i+1)*5<=(tObj.part zgo ((xs.map zam).take i) (m+1+1)).length:=by
   rw[zru,hti];exact xb6 _ (by omega)
  have hto:=yh3 (ext:=ext) h h' xs[i] (by omega)
  generalize xs[i]=o at hget hto hset
  simp only[tObj]at hget
  have henc:tObj.enc (zam o)=[.val (.int .u8 o.k),.val (.string o.s),zfp tVal zby o.l.xs,.val (.int .i64 o.room),.val (.int .i64 o.fn)]:=rfl
  rw[henc,show tObj.sz=5 from rfl]at hset
  refine⟨.normal,⟨0,[(0,.imm (.slice row off xs.length cap)),(3,.osl 0 0 5 (i+1) (some (xs.length+1))),(4,zaa ((i:Int)+1))],[.flat (tObj.part zgo ((xs.map zam).take (i+1)) (m+1)) false,.flat [.val (.int .u8 o.k),.val (.string o.s),zfp tVal zby o.l.xs,.val (.int .i64 o.room),.val (.int .i64 o.fn)] false]⟩,?_,.inl ⟨rfl,m,by omega,i+1,by omega,?_⟩⟩
  ·simp -implicitDefEqProofs [ztm,hlt',hget,hto,zaz,za0,elems,e1,hset,hfit,show i+1<=xs.length+1 by omega]
  ·simp -implicitDefEqProofs
 ·have:i=xs.length:=by omega
  subst this
  refine⟨.exit 0,⟨0,[(0,.imm iv),(3,.osl 0 0 5 xs.length (some (xs.length+1))),(4,zaa xs.length),(12,avb false)],[.flat (tObj.part zgo (xs.map zam) 1) false]⟩,?_,.inr ⟨by simp,rfl,rfl⟩⟩
  have:n=0:=by omega
  subst this
  simp -implicitDefEqProofs [ztm,hlen]
  rw[List.take_of_length_le (by simp)]
theorem yid(h:code 379=some zhn)(h':code 372=some zqg)(h2:code 373=some zyb)(h3:code 377=some zli){iv:IV}{xs:List Obj}(hr:zak tObj iv xs)(hb:∀o∈xs,o.l.xs.length<=1000000)(hl:xs.length<=1048576):
  callW code ext 377 [.imm iv] []=some (.osl 0 0 5 xs.length (some (xs.length+1)),[.flat (tObj.row (xs.map zam++[zap])) false]):=by
 have hcp:zaq (xs.length+1) [IV.val (.int .u8 0),.val (.string .empty),.val (.slice none 0 0),.val (.int .i64 0),.val (.int .i64 0)]=tObj.part zgo [] (xs.length+1):=zvk (t:=tObj) (xs.length+1) zgo
 have hlen:=zau hr
 obtain⟨e,s',h1,_,rfl,rfl⟩:=yh4 (ext:=ext) h h' iv xs hr hb (s:=⟨0,[(0,.imm iv),(3,.osl 0 0 5 0 (some (xs.length+1))),(4,zaa 0)],[.flat (tObj.part zgo [] (xs.length+1)) false]⟩) (by simp -implicitDefEqProofs)
 have e1:IntKind.wrap .i64 ((xs.length:Int)+1)=(xs.length:Int)+1:=zaw (by omega) (by omega)
 have e2:(0:Int)<=(xs.length:Int)+1:=by omega
 have e3:(64:Int)*((xs.length:Int)+1)<=281474976710656:=by omega
 have e4:(xs.length:Int)+1<=9223372036854775807:=by omega
 have e6:(xs.length:Int)<=(xs.length:Int)+1:=by omega
 have e5:((xs.length:Int)+1).toNat=xs.length+1:=by omega
 have hset:=zrv tObj (by decide) zgo (xs.map zam) 0 zap
 have hfin:tObj.part zgo (xs.map zam++[zap]) 0=tObj.row (xs.map zam++[zap]):=by unfold Ty.part;simp
 have hfit:(xs.length+1)*5<=(tObj.part zgo (xs.map zam) (0+1)).length:=by rw[zru,xam];exact xap _
 rw[hfin,xam]at hset
 simp only[xaw]at hset hfit
 have henc:tObj.enc zap=[.val (.int .u8 0),.val (.string ⟨#[115,112,97,114,101]⟩),.val (.slice none 0 0),.val (.int .i64 0),.val (.int .i64 0)]:=rfl
 rw[henc,show tObj.sz=5 from rfl]at hset
 have hobjs:callW code ext 373 [.imm iv] []=some (.osl 0 0 5 xs.length (some (xs.length+1)),[.flat (tObj.row (xs.map zam++[zap])) false]):=by
  rw[zad code ext h2]
  simp -implicitDefEqProofs [zyb,hlen,e1,e2,e3,e4,e5,e6,hcp,h1,zaz,za0,elems,hset,hfit,zf6]
 rw[zad code ext h3]
 have hown:(tObj.row (xs.map zam++[zap])).all IV.plain=false\/(tObj.row (xs.map zam++[zap])).all IV.plain=true:=by cases (tObj.row (xs.map zam++[zap])).all IV.plain<;>simp
 simp -implicitDefEqProofs [zli,hobjs]
theorem zvb(h:code 487=some zt4)(h1:code 380=some zkb)(h2:code 338=some zj9)(h3:code 339=some znf)(h4:code 361=some zqf){iv:IV}{S:List Obj}(hr:zak tObj iv S):
  ∃m,callW code ext 487 [.imm iv] []=some (avb (decide (50000<zdq S.length S)),m):=by
 have hs:=yhi (ext:=ext) h1 h2 h3 h4 hr
 refine zga ?_
 rw[zad code ext h]
 simp -implicitDefEqProofs [zt4,hs]
theorem z33(h:code 490=some zqi)(h1:code 492=some zlk){av hv tv sv:IV}{k n w w':Int}{t:ByteArray}
  (hs:callW code ext 355 [.imm av,.imm hv] []=some (avb true,[])) (hl:callW code ext 334 [.imm tv,.imm sv] []=some (avb true,[])) (hw:w=if t=.empty then w' else 0):
  ∃m,callW code ext 490 [.agg [.imm av,.imm (.val (.int .u8 k)),zaa n,zaj t,zaa w],.imm (.ptr [hv] 0),za1 k n t w',.imm tv,.imm sv] []=some (avb true,m):=by
 obtain⟨m1,hr⟩:=ygt (ext:=ext) h1 k n t w'
 rw[<-hw]at hr
 refine zga ?_
 rw[zad code ext h]
 unfold za1 at *
 simp -implicitDefEqProofs [zqi,hs,hl,hr]
end
section
variable {ext:zac}
structure zhr (T:List Obj):Prop where
 wf:∀o∈T,tObj.wf o
 n:T.length<=50000
 s:∀o∈T,o.s.size<=50000
 l:∀o∈T,o.l.xs.length<=50000
 sum:zgk T<=50000
theorem zxx{T:List Obj}(h:zhr T):zak tObj (.slice (zxw T) 0 T.length (some (T.length+1))) T:=
 ⟨h.wf,by have:=h.n;omega,.inr ⟨_,0,_,rfl,fun c hc=>by cases hc;exact Nat.le_succ _,z7x T⟩⟩
section
variable {T:List Obj} (h:zhr T)
include h
end
end
section
variable {ext:zac}
theorem LikeObj.symm{a b:Obj}(h:LikeObj a b):LikeObj b a:=⟨h.1.symm,h.2.1.symm,h.2.2.1.symm,h.2.2.2.1.symm,h.2.2.2.2.symm⟩
theorem zx6{t:ByteArray}(ht:t.size<=4096):tObj.wf (zd8 t):=by
 have h3:(zcs .u8).wf (3:Int):=wfU8.2 ⟨by decide,by decide⟩
 have h0:(zcs .i64).wf (0:Int):=wfI64.2 ⟨by decide,by decide⟩
 refine⟨h3,?_,h0,h0⟩
 show t.size<=_
 exact xb1 ht (by decide)
end
section
variable {ext:zac}
theorem z9s{S:List Obj}(hw:∀o∈S,tObj.wf o)(h:zdq S.length S<=50000):zhr (S.map zam):=by
 obtain⟨h1,h2,h3,h4⟩:=z4d hw h
 refine⟨fun x hx=>?_,by rw[xam];omega,fun x hx=>?_,fun x hx=>?_,?_⟩
 ·obtain⟨o,ho,rfl⟩:=xbd.1 hx;exact hw o ho
 ·obtain⟨o,ho,rfl⟩:=xbd.1 hx;exact h3 o ho
 ·obtain⟨o,ho,rfl⟩:=xbd.1 hx;exact h4 o ho
 ·have:∀(l:List Obj),zgk (l.map zam)=zgk l:=by
   intro l
   induction l with
   |nil=>rfl
   |cons o l ih=>rw[xa4,zgk,zgk,ih];rfl
  rw[this];exact h1
end
section
variable {code:Nat->Option zab} {ext:zac}
structure zhs (code:Nat->Option zab):Prop where
 c490:code 490=some zqi
 c492:code 492=some zlk
 c355:code 355=some zqd
 c352:code 352=some zng
 c351:code 351=some zlg
 c357:code 357=some zka
 c334:code 334=some zqa
 c330:code 330=some zp9
 c329:code 329=some zne
 c336:code 336=some zlf
end
theorem zxt(T:List Obj)(a b:Val):zej (T.map zaf) a b=zej T a b:=by
 have e:∀v,zgl (T.map zaf) v=zgl T v:=by
  intro v
  unfold zgl zmo
  rw[z1z (z14 T)]
  cases za7 T v with
  |none=>rfl
  |some p=>
   simp only[xbe,xar]
   cases T[p]?<;>rfl
 unfold zej
 rw[e,e]
theorem zy6(T:List Obj)(xs:List Val)(k:Val):∃r,AtV T xs k r:=by
 have key:∀n:Nat,(∃r,AtV T xs k r)\/∀(j:Nat) a,j<n->xs[2*j]?=some a->zej T a k=false:=by
  intro n
  induction n with
  |zero=>exact .inr fun j a h=>absurd h (xcw _)
  |succ n ih=>
   rcases ih with h|h
   ·exact .inl h
   ·cases hx:xs[2*n]? with
    |none=>
     refine .inr fun j a hj ha=>?_
     by_cases hjn:j=n
     ·subst hjn;rw[hx]at ha;cases ha
     ·exact h j a (by omega) ha
    |some b=>
     cases hs:zej T b k with
     |true=>exact .inl ⟨_,.inr ⟨n,b,rfl,hx,hs,fun i c hi hc=>h i c hi hc⟩⟩
     |false=>
      refine .inr fun j a hj ha=>?_
      by_cases hjn:j=n
      ·subst hjn;rw[hx]at ha;cases ha;exact hs
      ·exact h j a (by omega) ha
 rcases key (xs.length+1)with h|h
 ·exact h
 ·refine⟨-1,.inl ⟨rfl,fun j a ha=>h j a ?_ ha⟩⟩
  have:=(xab.1 ha).1
  omega
section
variable {code:Nat->Option zab} {ext:zac}
end
def zik(M:Mem)(A:Nat)(mc:Mem):Prop:=∀(i:Nat) o,mc[i]?=some o->M[A+i]?=some (o.ren fun i=>some (A+i))
section
variable {code:Nat->Option zab} {ext:zac}
theorem yhc{fn:Nat}{rest:List AV}(hr1:AV.refs.refsL rest=[])(hr2:∀f,AV.ren.renL f rest=rest){A:Mem}{N c:Nat}{R:List IV}{r:AV}(hrr:∀f,r.ren f=r){mc:Mem}(hl:2<=mc.length)(hm0:((mc[0]?).getD AObj.dead).moved=false)(hm1:((mc[1]?).getD AObj.dead).moved=false)
  (h:callW code ext fn (.optr 0 0::rest) (za6 R N c)=some (r,mc)):
  ∀e,zb2 (callW code ext) ⟨0,e,A++[.rich [.osl (A.length+1) 0 5 N (some c)],.flat R false]⟩ fn (.optr A.length 0::rest)=some (r,⟨0,e,A++mc.map (AObj.ren fun i=>some (A.length+i))⟩):=by
 intro e
 generalize hM:A++[AObj.rich [.osl (A.length+1) 0 5 N (some c)],.flat R false]=M
 have g0:M[A.length]?=some (.rich [.osl (A.length+1) 0 5 N (some c)]):=by rw[<-hM];simp
 have g1:M[A.length+1]?=some (.flat R false):=by rw[<-hM,xag (by omega)];simp
 have gl:M.length=A.length+2:=by rw[<-hM];simp
 have ho:order 0 [A.length] M=[A.length,A.length+1]:=by
  unfold order
  simp only[xcr,Mem.refs,xas,List.range_zero]
  rw[show(1000000000000:Nat)=999999999997+1+1+1 from rfl,reach,if_neg (by simp),if_pos (by omega),g0]
  simp only[xa0,AObj.refs,AV.refs.refsL,AV.refs,xas,xa7]
  rw[reach,if_neg (by simp),if_pos (by omega),g1]
  simp only[xa0,AObj.refs,xas,xbo,xa7]
  rw[reach]
 have hro:AV.refs.refsL (.optr A.length 0::rest)=[A.length]:=by
  show(AV.optr A.length 0).refs++AV.refs.refsL rest=_
  rw[hr1];rfl
 have p0:place [A.length,A.length+1] A.length=some 0:=by simp[place]
 have p1:place [A.length,A.length+1] (A.length+1)=some 1:=by simp[place]
 have pn:∀id,id≠A.length->id≠A.length+1->place [A.length,A.length+1] id=none:=fun id h1 h2=>by
  simp[place,h1,h2]
 have hpk:M.pickAll [A.length,A.length+1]=za6 R N c:=by
  simp only[Mem.pickAll,xa4,List.map_nil,g0,g1,xa0,AObj.ren,AV.ren.renL,AV.ren,p1,za6]
 have hrn:AV.ren.renL (place [A.length,A.length+1]) (.optr A.length 0::rest)=.optr 0 0::rest:=by
  show(AV.optr A.length 0).ren _::AV.ren.renL _ rest=_
  rw[hr2]
  simp only[AV.ren,p0]
 have hok:zgh M [A.length,A.length+1]=true:=by
  simp[zgh,g0,g1,AObj.isFix]
 unfold zb2
 rw[hro]
 dsimp only
 rw[ho,hok,if_neg (by decide),hrn,hpk,h]
 dsimp only
 have hback:(fun i=>if i<[A.length,A.length+1].length then[A.length,A.length+1][i]? else some (M.length+(i-[A.length,A.length+1].length)))=fun i=>some (A.length+i):=by
  funext i
  have e2:[A.length,A.length+1].length=2:=rfl
  rw[e2,gl]
  match i with
  |0=>rfl
  |1=>rfl
  |i+2=>rw[if_neg (by omega)];congr 1;omega
 have hstay:(fun id=>match place [A.length,A.length+1] id with
   |some i=>if ((mc[i]?).getD AObj.dead).moved then none else some id
   |none=>some id)=some:=by
  funext id
  by_cases h1:id=A.length
  ·subst h1;rw[p0];dsimp only;rw[hm0];rfl
  ·by_cases h2:id=A.length+1
   ·subst h2;rw[p1];dsimp only;rw[hm1];rfl
   ·rw[pn id h1 h2]
 have key:∀(back stay:Nat->Option Nat),back=(fun i=>some (A.length+i))->stay=some->some (r.ren back,(⟨0,e.ren stay,(List.range (M.length+(mc.length-[A.length,A.length+1].length))).map (zd1 ⟨0,e,M⟩ [A.length,A.length+1] mc back stay)⟩:St))=some (r,⟨0,e,A++mc.map (AObj.ren fun i=>some (A.length+i))⟩):=by
  rintro back stay rfl rfl
  rw[hrr,zcf]
  congr 3
  have hll:M.length+(mc.length-[A.length,A.length+1].length)=A.length+mc.length:=by
   have e2:[A.length,A.length+1].length=2:=rfl
   rw[gl,e2];omega
  rw[hll]
  refine xbf fun id=>?_
  by_cases hid:id<A.length+mc.length
  ·rw[xar,xbx hid,xao]
   by_cases h0:id<A.length
   ·simp only[zd1,pn id (by omega) (by omega)]
    rw[if_pos (by rw[gl];omega),zmq,<-hM,xac h0,xac h0,xaa h0]
    rfl
   ·obtain⟨i,rfl⟩:∃i,id=A.length+i:=⟨id-A.length,by omega⟩
    rw[xag (by omega),xbq,xar,xaa (show i<mc.length by omega),xao]
    match i with
    |0=>
     simp only[xbi,zd1,p0,g0,xaa (show 0<mc.length by omega),xa0]
     congr 1
     exact zo4 _
    |1=>
     simp only[zd1,p1,g1,xaa (show 1<mc.length by omega),xa0]
     congr 1
     exact zo4 _
    |i+2=>
     simp only[zd1,pn (A.length+(i+2)) (by omega) (by omega)]
     rw[if_neg (by rw[gl];omega)]
     have e3:[A.length,A.length+1].length+(A.length+(i+2)-M.length)=i+2:=by
      have e2:[A.length,A.length+1].length=2:=rfl
      rw[e2,gl];omega
     rw[e3,xaa (show i+2<mc.length by omega)]
     rfl
  ·rw[xaq (by simp;omega),xaq (by simp;omega)]
 exact key _ _ hback hstay
theorem z9t(A:Mem)(mc:Mem):zik (A++mc.map (AObj.ren fun i=>some (A.length+i))) A.length mc:=fun i o ho=>by
 rw[xag (by omega),xbq,xar,ho];rfl
theorem zmd{M M':Mem}{A:Nat}{mc:Mem}(h:zik M A mc)(hs:∀id,id<M.length->M'[id]?=M[id]?):zik M' A mc:=fun i o ho=>by
 have:=h i o ho
 rw[hs _ (xab.1 this).1];exact this
def znv(mc:Mem)(hv:IV):Prop:=∀(M:Mem) (A:Nat),zik M A mc->frz M (.optr A 0)=some (.imm (.ptr [hv] 0))
theorem z0z{R:List IV}{N c:Nat}:znv (za6 R N c) (.slice R 0 N (some c)):=fun M A h=>by
 refine z9k (h0:=?_) (h1:=?_) (r:=A+1)
 ·exact h 0 _ rfl
 ·exact h 1 _ rfl
theorem z04(M:Mem)(n:Nat):∀W:List IV,(W.map AV.imm).mapM (za5 M (n+1))=some W
 |[]=>rfl
 |w::r=>by
  rw[xa4,xa5,z04 M n r]
  rfl
theorem z09{M:Mem}{n:Nat}{v:AV}{y:IV}(hv:za5 M (n+1) v=some y):∀(R:List IV) (p:Nat),p<R.length->((R.map AV.imm).set p v).mapM (za5 M (n+1))=some (R.set p y)
 |[],p,h=>by simp at h
 |w::r,0,h=>by
  rw[xa4,List.set_cons_zero,xa5,hv,z04 M n r]
  rfl
 |w::r,p+1,h=>by
  rw[xa4,xcg,xa5,z09 hv r p (by simpa using h)]
  rfl
end
end Go.EX

