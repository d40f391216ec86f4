import Derived.Test.YtjdfihnmpmckjaaGreatDoorK10
import Derived.Test.YtjdfihnmpmckjaaGreatDoorK9
import Derived.Test.YtjdfihnmpmckjaaGreatDoorK8
set_option linter.unusedVariables false
set_option linter.unusedSimpArgs false
namespace Go.EX
def zho:XCode:=
 (.seq (.region [3,8,9,10] [o0 10 (.bin .lss (.t 9) (.t 8))]) (.seq (.cond (.t 10) .skip (.exit 0)) (.seq (.block 1 (.seq (.region [3,4,8,9] [o3 11 9,o3 4 11]) (.region [3,8,9] [o3 12 3,o3 13 4,o3 14 3,o3 15 4,
 o0 16 (.idxA 5 (.t 14) (.t 15)),o5 17 2 16,o4 18 17,
 o0 19 (.call .own 742 [.t 18]),
 o0 20 (.call .whole 740 [.t 19]),
 o0 21 (.idxA 5 (.t 12) (.t 13)),o5 22 2 21,
 o2 (.store 1 (.t 22) (.t 20))]))) (.region [3,8,9] [o0 23 (.bin .add (.t 9) (.c (.int .i64 1))),o3 9 23]))))
def znq:zab:=
 ⟨[.whole,.tmp 2],(.seq (.region [0] [o0 2 (.mv (.c (.slice none 0 0)))]) (.seq (.region [3] [o3 5 0,
 o0 6 (.call .share 743 [.t 5]),o3 3 6]) (.seq (.seq (.region [3,8,9] [o3 7 3,o8 8 7,
 o0 9 (.mv (.c (.int .i64 0)))]) (.block 0 (.loop [1000000,3,8,9] zho))) (.seq (.region [2] [o3 24 3,
 o0 25 (.call .whole 741 [.t 24]),o3 2 25]) .ret))))⟩
def clO(j:Nat)(o:Obj):RO:=⟨.imm (.val (.int .u8 o.k)),.imm (.val (.string o.s)),if zbt o.l.iv=true then zae else .osl j 0 2 o.l.xs.length (some o.l.xs.length),zaa o.room,zaa o.fn⟩
def clL(o:Obj):Mem:=if zbt o.l.iv=true then[]else[.flat (tVal.row o.l.xs) false]
def clR:Nat->List Obj->List RO
 |_,[]=>[]
 |j,o::r=>clO j o::clR (j+(clL o).length) r
def clM(T:List Obj):Mem:=T.flatMap clL
def zjk(T:List Obj):List AV:=(tObj.row T).map .imm
theorem zod:∀(S:List Obj) (j:Nat),(clR j S).length=S.length
 |[],j=>rfl
 |o::r,j=>by simp[clR,zod r]
theorem zzk(S:List Obj)(o:Obj):clM (S++[o])=clM S++clL o:=by simp[clM]
theorem zvf:∀(S:List Obj) (j:Nat) (o:Obj),clR j (S++[o])=clR j S++[clO (j+(clM S).length) o]
 |[],j,o=>by simp[clR,clM]
 |g::r,j,o=>by
  have:j+(clL g).length+(clM r).length=j+(clM (g::r)).length:=by simp[clM];omega
  simp only[xbo,clR,zvf r,this]
theorem z9y(o:Obj)(r:List Obj):zjk (o::r)=[.imm (.val (.int .u8 o.k)),.imm (.val (.string o.s)),.imm o.l.iv,zaa o.room,zaa o.fn]++zjk r:=rfl
theorem z3l{M:Mem}{id off:Nat}{o:AObj}{cells:List AV}(hM:M[id]?=some o)(h:za3 cells o):loadAt M none (.optr id off)=cells[off]?:=by
 rcases h with rfl|⟨cs,rfl,rfl⟩
 ·simp only[loadAt,hM,zdw]
 ·simp only[loadAt,hM,zf9,xar]
section
variable {code:Nat->Option zab} {ext:zac}
theorem zzu(h2:code 740=some zes)(M:Mem)(id n:Nat){cap:Option Nat}(hc:cap=none\/cap=some n):callW code ext 740 [.osl id 0 2 n cap] M=some (.osl id 0 2 n (some n),M):=by
 rw[zad code ext h2]
 rcases hc with rfl|rfl<;>simp -implicitDefEqProofs [zes,zfj]
theorem zzv(h2:code 740=some zes)(M:Mem):callW code ext 740 [zae] M=some (zae,M):=by
 rw[zad code ext h2]
 simp -implicitDefEqProofs [zes,zfj]
theorem zvh(h2:code 741=some zgn)(M:Mem)(id n:Nat){cap:Option Nat}(hc:cap=none\/cap=some n):callW code ext 741 [.osl id 0 5 n cap] M=some (.osl id 0 5 n (some n),M):=by
 rw[zad code ext h2]
 rcases hc with rfl|rfl<;>simp -implicitDefEqProofs [zgn,zfj]
theorem zzw(h:code 742=some zda)(l:Sl tVal)(hb:l.xs.length<=1000000000):
  (zbt l.iv=true/\callW code ext 742 [.imm l.iv] []=some (zae,[]))\/
  (zbt l.iv=false/\∃cap:Option Nat,(cap=none\/cap=some l.xs.length)/\callW code ext 742 [.imm l.iv] []=some (.osl 0 0 2 l.xs.length cap,[.flat (tVal.row l.xs) false])):=by
 obtain⟨iv,xs,ok⟩:=l
 dsimp only at hb ⊢
 rcases ok.2.2 with⟨rfl,rfl⟩|⟨row,off,cap,rfl,hc,hcut⟩
 ·exact .inl ⟨rfl,zzy h⟩
 ·right
  refine⟨rfl,?_⟩
  by_cases h0:xs.length=0
  ·have hx:xs=[]:=xat h0
   subst hx
   exact⟨_,.inr rfl,zzx h row off cap⟩
  ·exact⟨_,.inl rfl,zvj h (R:=tVal.row xs) hcut (by omega) hb⟩
theorem z4s(h:code 742=some zda)(h2:code 740=some zes){T:List Obj}(hT:∀o∈T,o.l.xs.length<=1000000)(hn:T.length<=100000000){K:Nat}{Pm:Mem}{cap:Option Nat}{o0:AObj}(ho0:za3 (zjk T) o0){s:St}
  (hst:s.tidy [1000000,3,8,9]=⟨K,[(1000000,.junk),(3,.osl Pm.length 0 5 T.length cap),(8,zaa T.length),(9,zaa 0)],Pm++[o0]⟩):
  ∃e s',den code ext (.loop [1000000,3,8,9] zho) s=some (e,s')/\e≠ .normal/\
   (e=.exit 0/\∃o,za3 (zav (clR (Pm.length+1) T)) o/\s'=⟨K,[(3,.osl Pm.length 0 5 T.length cap),(8,zaa T.length),(9,zaa T.length),(10,avb false)],Pm++o::clM T⟩):=by
 refine zbu (fun m s=>∃(i:Nat) (o:AObj),i+m=T.length/\za3 (zav (clR (Pm.length+1) (T.take i))++zjk (T.drop i)) o/\s.tidy [1000000,3,8,9]=⟨K,[(1000000,.junk),(3,.osl Pm.length 0 5 T.length cap),(8,zaa T.length),(9,zaa (i:Nat))],Pm++o::clM (T.take i)⟩) _ ?_ T.length _
  ⟨0,o0,by simp,by simpa [clR,zav]using ho0,by simpa [clM]using hst⟩
 clear hst
 rintro m s ⟨i,o,hi,ho,hst⟩
 rw[hst]
 by_cases hlt:i<T.length
 ·have hx:=xaa hlt
  have hb:=hT _ (xa8 hlt)
  have e1:IntKind.wrap .i64 ((i:Int)+1)=(i:Int)+1:=zaw (by omega) (by omega)
  have hlt':(i:Int)<T.length:=by omega
  have htk:T.take (i+1)=T.take i++[T[i]]:=by rw[xbg,hx];rfl
  have hdr:T.drop i=T[i]::T.drop (i+1):=xbl hlt
  have hcc:=zzw (ext:=ext) h T[i].l (by omega)
  have hcl:(zav (clR (Pm.length+1) (T.take i))).length=i*5:=by rw[zi3,zod,xb7];omega
  rw[hdr,z9y]at ho
  have hR2:zav (clR (Pm.length+1) (T.take (i+1)))=zav (clR (Pm.length+1) (T.take i))++(clO (Pm.length+1+(clM (T.take i)).length) T[i]).cells:=by rw[htk,zvf,zxi]
  have hM2:clM (T.take (i+1))=clM (T.take i)++clL T[i]:=by rw[htk,zzk]
  generalize T[i]=w at *
  generalize zav (clR (Pm.length+1) (T.take i))=A at *
  generalize clM (T.take i)=C at *
  have hMq:(Pm++o::C)[Pm.length]?=some o:=by simp
  have hld:loadAt (Pm++o::C) none (.optr Pm.length (i*5+2))=some (.imm w.l.iv):=by
   rw[z3l hMq ho,xag (by omega),hcl,xbq];rfl
  have hset:∀v,setAll (A++([.imm (.val (.int .u8 w.k)),.imm (.val (.string w.s)),.imm w.l.iv,zaa w.room,zaa w.fn]++zjk (T.drop (i+1)))) (i*5+2) [v]=A++([.imm (.val (.int .u8 w.k)),.imm (.val (.string w.s)),v,zaa w.room,zaa w.fn]++zjk (T.drop (i+1))):=by
   intro v
   simp only[setAll]
   rw[xbb _ _ (by omega),hcl,xbq];rfl
  have hfit:∀v:AV,i*5+2+[v].length<=(A++([.imm (.val (.int .u8 w.k)),.imm (.val (.string w.s)),.imm w.l.iv,zaa w.room,zaa w.fn]++zjk (T.drop (i+1)))).length:=by
   intro v;simp[hcl];omega
  have hlen:(Pm++o::C).length=Pm.length+1+C.length:=by simp;omega
  rcases hcc with⟨hz,c1⟩|⟨hz,cp,hcp,c1⟩
  ·obtain⟨o',hr',hs'⟩:=zpm (vs:=[zae]) hMq ho (hfit _)
   rw[hset]at hr'
   have hs2:(Pm++o::C).set Pm.length o'=Pm++o'::C:=by rw[xbb _ _ (xap _)];simp
   rw[hs2]at hs'
   have c2:=zzv (ext:=ext) h2 (Pm++o::C)
   have hmo:=zi4 ho
   refine⟨.normal,⟨K,[(3,.osl Pm.length 0 5 T.length cap),(8,zaa T.length),(9,zaa ((i:Int)+1))],Pm++o'::C⟩,?_,.inl ⟨rfl,m-1,by omega,i+1,o',by omega,?_,?_⟩⟩
   ·generalize Pm++o::C=N at *
    generalize Pm.length=q at *
    simp -implicitDefEqProofs [zho,hlt',hld,-loadAt,c1,c2,hMq,hmo,-AObj.moved,hs',-storeAt,e1]
   ·rw[hR2]
    unfold clO RO.cells
    rw[if_pos hz]
    rw[xbj]
    exact hr'
   ·rw[hM2]
    simp -implicitDefEqProofs [clL,hz]
  ·have hMq2:((Pm++o::C)++[.flat (tVal.row w.l.xs) false])[Pm.length]?=some o:=by rw[xac (by simp)];exact hMq
   obtain⟨o',hr',hs'⟩:=zpm (vs:=[.osl (Pm++o::C).length 0 2 w.l.xs.length (some w.l.xs.length)]) hMq2 ho (hfit _)
   rw[hset]at hr'
   have hs2:((Pm++o::C)++[AObj.flat (tVal.row w.l.xs) false]).set Pm.length o'=Pm++o'::(C++[.flat (tVal.row w.l.xs) false]):=by
    rw[xbj,xbo,xbb _ _ (xap _)];simp
   rw[hs2]at hs'
   have c2:=zzu (ext:=ext) h2 ((Pm++o::C)++[.flat (tVal.row w.l.xs) false]) (Pm++o::C).length w.l.xs.length hcp
   have hmo:=zi4 ho
   have hmf:(AObj.flat (tVal.row w.l.xs) false).moved=false:=rfl
   have hgl:((Pm++o::C)++[AObj.flat (tVal.row w.l.xs) false])[(Pm++o::C).length]?=some (.flat (tVal.row w.l.xs) false):=ze2 _ _
   refine⟨.normal,⟨K,[(3,.osl Pm.length 0 5 T.length cap),(8,zaa T.length),(9,zaa ((i:Int)+1))],Pm++o'::(C++[.flat (tVal.row w.l.xs) false])⟩,?_,.inl ⟨rfl,m-1,by omega,i+1,o',by omega,?_,?_⟩⟩
   ·generalize Pm++o::C=N at *
    generalize Pm.length=q at *
    simp -implicitDefEqProofs [zho,hlt',hld,-loadAt,c1,c2,hMq2,hmo,hmf,-AObj.moved,hs',-storeAt,e1]
   ·rw[hR2]
    unfold clO RO.cells
    rw[if_neg (by rw[hz];decide),xbj,<-hlen]
    exact hr'
   ·rw[hM2]
    simp -implicitDefEqProofs [clL,hz]
 ·have:i=T.length:=by omega
  subst this
  rw[xbp,List.drop_length]at ho
  rw[xbp]
  refine⟨.exit 0,⟨K,[(3,.osl Pm.length 0 5 T.length cap),(8,zaa T.length),(9,zaa T.length),(10,avb false)],Pm++o::clM T⟩,?_,.inr ⟨by simp,rfl,o,by simpa [zjk,Ty.row]using ho,rfl⟩⟩
  simp -implicitDefEqProofs [zho]
end
structure zqw (code:Nat->Option zab):Prop where
 c643:code 643=some znq
 c740:code 740=some zes
 c741:code 741=some zgn
 c742:code 742=some zda
 c743:code 743=some zfr
section
variable {code:Nat->Option zab} {ext:zac}
theorem yib(c:zqw code){T:List Obj}(hT:∀o∈T,o.l.xs.length<=1000000)(hn:T.length<=100000000)(cap:Option Nat):
  ∃o,za3 (zav (clR 2 T)) o/\callW code ext 643 [.osl 0 0 5 T.length cap] [.flat (tObj.row T) false]=some (.osl 1 0 5 T.length (some T.length),.flat (tObj.row T) false::o::clM T):=by
 have h1:=z7m (ext:=ext) c.c743 hn false cap (zec tObj T)
 obtain⟨cp,hcp,hcp2⟩:∃cp:Option Nat,(if T.length=0 then some 0 else none)=cp/\(cp=none\/cp=some T.length):=by
  by_cases h0:T.length=0
  ·exact⟨some 0,if_pos h0,.inr (by rw[h0])⟩
  ·exact⟨none,if_neg h0,.inl rfl⟩
 rw[hcp]at h1
 obtain⟨e,s',h2,_,rfl,o,hr,rfl⟩:=z4s (ext:=ext) c.c742 c.c740 hT hn (K:=1) (Pm:=[.flat (tObj.row T) false]) (cap:=cp) (o0:=.flat (tObj.row T) false) (.inr ⟨_,rfl,rfl⟩)
  (s:=⟨1,[(3,.osl 1 0 5 T.length cp),(8,zaa T.length),(9,zaa 0)],[.flat (tObj.row T) false,.flat (tObj.row T) false]⟩) (by simp -implicitDefEqProofs [])
 refine⟨o,hr,?_⟩
 have h3:=zvh (ext:=ext) c.c741 ([.flat (tObj.row T) false]++o::clM T) 1 T.length hcp2
 have hmo:=zi4 hr
 rw[zad code ext c.c643]
 simp only[xax,xaz,xaw,xbo,xa7]at h2 h3
 generalize tObj.row T=R at *
 generalize clM T=C at *
 generalize T.length=N at *
 have hmf:(AObj.flat R false).moved=false:=rfl
 simp -implicitDefEqProofs [znq,h1,h2,h3,hmo,hmf,-AObj.moved]
theorem yic(c:zqw code){sv:IV}{S:List Obj}(hrd:zak tObj sv S)(hT:∀o∈S,o.l.xs.length<=1000000)(hn:S.length<=100000000):
  (sv=.val (.slice none 0 0)/\S=[]/\callW code ext 643 [.imm sv] []=some (zae,[]))\/
  (zbt sv=false/\∃o,za3 (zav (clR 1 S)) o/\callW code ext 643 [.imm sv] []=some (.osl 0 0 5 S.length (some S.length),o::clM S)):=by
 rcases zzz (ext:=ext) c.c743 hrd hn with⟨rfl,rfl,h1⟩|⟨hz,cp,hcp,h1⟩
 ·refine .inl ⟨rfl,rfl,?_⟩
  have h4:callW code ext 741 [zae] []=some (zae,[]):=by
   rw[zad code ext c.c741]
   simp -implicitDefEqProofs [zgn,zfj]
  have h2:den code ext (.loop [1000000,3,8,9] zho) ⟨0,[(3,zae),(8,zaa 0),(9,zaa 0)],[]⟩=some (.exit 0,⟨0,[(3,zae),(8,zaa 0),(9,zaa 0),(10,avb false)],[]⟩):=by
   rw[zfi]
   simp -implicitDefEqProofs [zho]
  rw[zad code ext c.c643]
  simp -implicitDefEqProofs [znq,h1,h2,h4]
 ·refine .inr ⟨hz,?_⟩
  obtain⟨e,s',h2,_,rfl,o,hr,rfl⟩:=z4s (ext:=ext) c.c742 c.c740 hT hn (K:=0) (Pm:=[]) (cap:=cp) (o0:=.flat (tObj.row S) false) (.inr ⟨_,rfl,rfl⟩)
   (s:=⟨0,[(3,.osl 0 0 5 S.length cp),(8,zaa S.length),(9,zaa 0)],[.flat (tObj.row S) false]⟩) (by simp -implicitDefEqProofs [])
  refine⟨o,hr,?_⟩
  have h3:=zvh (ext:=ext) c.c741 (o::clM S) 0 S.length hcp
  have hmo:=zi4 hr
  rw[zad code ext c.c643]
  simp only[xaz,xa7]at h2 h3
  generalize tObj.row S=R at *
  generalize clM S=C at *
  generalize S.length=N at *
  simp -implicitDefEqProofs [znq,h1,h2,h3,hmo,-AObj.moved]
end
def XM(b:Nat)(T:List Obj)(X:Mem):Prop:=∃ob,X=ob::clM T/\za3 (zav (clR (b+1) T)) ob
theorem z7f{o:Obj}:∀a∈clL o,∃cs,a=.flat cs false:=by
 intro a ha
 unfold clL at ha
 split at ha
 ·simp at ha
 ·simp at ha;exact⟨_,ha⟩
theorem zq1{T:List Obj}:∀a∈clM T,∃cs,a=.flat cs false:=by
 intro a ha
 obtain⟨o,_,ha⟩:=xa2.1 ha
 exact z7f a ha
theorem zq2:∀(T:List Obj) (j:Nat),AV.refs.refsL (zav (clR j T))=List.range' j (clM T).length
 |[],j=>rfl
 |o::r,j=>by
  have h:zav (clR j (o::r))=(clO j o).cells++zav (clR (j+(clL o).length) r):=rfl
  rw[h,zk5,zq2 r]
  have hm:clM (o::r)=clL o++clM r:=by simp[clM]
  rw[hm,xak,<-List.range'_append_1]
  congr 1
  unfold clO clL RO.cells
  split
  ·rfl
  ·rfl
theorem zzr{f:Nat->Option Nat}:∀(T:List Obj) (j j':Nat),(∀i,i<(clM T).length->f (j+i)=some (j'+i))->AV.ren.renL f (zav (clR j T))=zav (clR j' T)
 |[],j,j',_=>rfl
 |o::r,j,j',h=>by
  have hm:clM (o::r)=clL o++clM r:=by simp[clM]
  rw[hm,xak]at h
  have h1:∀j,zav (clR j (o::r))=(clO j o).cells++zav (clR (j+(clL o).length) r):=fun _=>rfl
  have h2:=zzr (f:=f) r (j+(clL o).length) (j'+(clL o).length) fun i hi=>by
   have:=h ((clL o).length+i) (by omega)
   rw[xb4,this,xb4]
  rw[h1,h1,zfm,xcj,<-zfm,<-zfm,h2]
  congr 1
  unfold clO RO.cells
  split
  ·rfl
  ·rename_i hz
   have h0:=h 0 (by
    unfold clL
    rw[if_neg hz];simp;omega)
   simp only[xbi]at h0
   simp only[AV.ren.renL,AV.ren,h0]
theorem z3m{f:Nat->Option Nat}{cells:List AV}{o:AObj}(h:za3 cells o):za3 (AV.ren.renL f cells) (o.ren f):=by
 rcases h with rfl|⟨cs,rfl,rfl⟩
 ·exact .inl rfl
 ·refine .inr ⟨cs,rfl,?_⟩
  rw[zfm,xc3]
  rfl
theorem z7g(f:Nat->Option Nat)(T:List Obj):(clM T).map (AObj.ren f)=clM T:=by
 have:∀l:Mem,(∀a∈l,∃cs,a=.flat cs false)->l.map (AObj.ren f)=l:=by
  intro l hl
  induction l with
  |nil=>rfl
  |cons a l ih=>
   obtain⟨cs,rfl⟩:=hl a (xbh ..)
   rw[xa4,ih fun b hb=>hl b (xbc _ hb)]
   rfl
 exact this _ zq1
theorem zhp{b:Nat}{T:List Obj}{X:Mem}(h:XM b T X):X.length=(clM T).length+1:=by
 obtain⟨ob,rfl,_⟩:=h;simp
theorem zkf{f:Nat->Option Nat}{b b':Nat}{T:List Obj}{X:Mem}(h:XM b T X)(hf:∀i,i<X.length->f (b+i)=some (b'+i)):XM b' T (X.map (AObj.ren f)):=by
 have hl:=zhp h
 obtain⟨ob,rfl,hr⟩:=h
 refine⟨ob.ren f,by rw[xa4,z7g],?_⟩
 have:=z3m (f:=f) hr
 rw[zzr T (b+1) (b'+1) fun i hi=>by
  have:=hf (1+i) (by omega)
  rw[<-Nat.add_assoc,<-Nat.add_assoc]at this
  exact this]at this
 exact this
theorem zlt{b:Nat}{T:List Obj}{X:Mem}(h:XM b T X):∀o∈X,∀r∈o.refs,b<r/\r<b+X.length:=by
 have hl:=zhp h
 obtain⟨ob,rfl,hr⟩:=h
 intro o ho r hrr
 rcases xca.1 ho with rfl|ho
 ·rw[zmz hr,zq2]at hrr
  rw[xc1]at hrr
  omega
 ·obtain⟨cs,rfl⟩:=zq1 o ho
  simp[AObj.refs]at hrr
theorem zzl(T:List Obj):(clM T).length<=T.length:=by
 induction T with
 |nil=>simp[clM]
 |cons o r ih=>
  have hm:clM (o::r)=clL o++clM r:=by simp[clM]
  rw[hm,xak,xax]
  have:(clL o).length<=1:=by unfold clL;split<;>simp
  omega
theorem z5g{b k:Nat}{P:Mem}{T:List Obj}{X:Mem}(h:XM b T X)(hP:P.length=b)(hk:k<=b)(hr:Mem.refs (P.take k)=[])(hT:T.length<=10000000):order k [b] (P++X)=List.range k++List.range' b X.length:=by
 have hl:=zhp h
 have hle:=zzl T
 obtain⟨ob,rfl,hro⟩:=h
 have htk:(P++ob::clM T).take k=P.take k:=by rw[List.take_append_of_le_length (by omega)]
 unfold order
 rw[htk,hr,xas]
 rw[show(1000000000000:Nat)=999999999999+1 from rfl,reach]
 have hbl:b<(P++ob::clM T).length:=by simp;omega
 have hgb:(P++ob::clM T)[b]?=some ob:=by rw[xag (by omega),hP,xcl];rfl
 rw[if_neg (by simp;omega),if_pos hbl,hgb,xa0,zmz hro,zq2,xa7]
 rw[zrz]
 ·rw[xbj,hl,List.range'_succ];rfl
 ·simp;omega
 ·intro t ht
  rw[xc1]at ht
  refine⟨by simp;omega,?_,by simp;omega⟩
  rw[xag (by omega),hP]
  have:t-b=(t-b-1)+1:=by omega
  rw[this,xba]
  have hlt:t-b-1<(clM T).length:=by omega
  rw[xaa hlt,xa0]
  obtain⟨cs,e⟩:=zq1 _ (xa8 hlt)
  rw[e];rfl
 ·exact List.nodup_range'
theorem zrw{k b n i:Nat}(hk:k<=b)(hi:i<n):place (List.range k++List.range' b n) (b+i)=some (k+i):=by
 refine zhg _ _ _ ?_ ?_
 ·rw[xco]
  refine⟨List.nodup_range,List.nodup_range',?_⟩
  intro a ha c hc
  rw[xa9]at ha
  rw[xc1]at hc
  omega
 ·rw[xag (by simp),List.length_range,xbq,List.getElem?_range' hi];simp
theorem zym{b k:Nat}{P:Mem}{T:List Obj}{X:Mem}(h:XM b T X)(hP:P.length=b)(hk:k<=b)(hr:∀o∈P.take k,o.refs=[]):
  ∃X',Mem.pickAll (P++X) (List.range k++List.range' b X.length)=P.take k++X'/\XM k T X':=by
 refine⟨X.map (AObj.ren (place (List.range k++List.range' b X.length))),?_,zkf h fun i hi=>zrw hk hi⟩
 unfold Mem.pickAll
 rw[xcj]
 congr 1
 ·refine xbf fun j=>?_
  by_cases hj:j<k
  ·rw[xar,xbx hj,xao,xce,if_pos hj,xac (by omega)]
   have hg:=xaa (show j<P.length by omega)
   rw[hg,xa0,zhe fun id hid=>?_]
   have:=hr P[j] (xah (i:=j) (by rw[xce,if_pos hj];exact hg))
   rw[this]at hid
   simp at hid
  ·rw[xaq (by simp;omega),xaq (by simp;omega)]
 ·refine xbf fun j=>?_
  by_cases hj:j<X.length
  ·rw[xar,List.getElem?_range' hj,xao,xar,xag (by omega)]
   have:b+1*j-P.length=j:=by omega
   rw[this,xaa hj]
   rfl
  ·rw[xaq (by simp;omega),xaq (by simp;omega)]
structure DoCode (code:Nat->Option zab) (idx:Nat):Prop extends PlainFns code,TwinCode code idx where
 c640:code 640=some z5c
 c641:code 641=some zkd
 c642:code 642=some zlp
 c639:code 639=some zlo
 c749:code 749=some zbf
 c759:code 759=some zbc
def zu4(code:Nat->Option zab)(ext:zac)(sv:IV)(vs:List Val):Prop:=∀v∈vs,callW code ext 646 [.imm sv,.agg [.imm (.val (.int .u8 v.k)),zaa v.n]] []=some (avb true,[])
section
variable {code:Nat->Option zab} {ext:zac}
end
theorem zkr{T:List Obj}(hT:∀o∈T,o.l.xs.length<=1000000):∀o∈T.map zaf,o.l.xs.length<=1000000:=by
 intro o ho
 obtain⟨q,hq,rfl⟩:=xbd.1 ho
 have:(zaf q).l.xs=q.l.xs:=by
  unfold zaf zfg
  dsimp only
  split<;>rfl
 rw[this]
 exact hT q hq
theorem zps(T:List Obj):(zdg T).all IV.plain=true:=by
 rw[xai]
 intro x hx
 unfold zdg at hx
 rw[xbd]at hx
 obtain⟨o,_,rfl⟩:=hx
 rfl
structure StoreN (nl:Bool) (sv:IV) (S:List Obj) (idx:Nat):Prop where
 rd:zak tObj sv S
 nil:nl=true->sv=.val (.slice none 0 0)/\S=[]
 some:nl=false->zbt sv=false
 lt:S.length+1<idx
 l:∀o∈S,o.l.xs.length<=1000000
 len:S.length<=10000000
section
variable {code:Nat->Option zab} {ext:zac}
theorem StoreN.none{nl:Bool}{sv:IV}{S:List Obj}{idx:Nat}(h:StoreN nl sv S idx):S[idx]?=none:=xaq (by have:=h.lt;omega)
theorem yhv{T:List Obj}{idx:Nat}(h:T[idx]?=none)(b:Bool)(R:List IV):zdr T idx b R=[.flat R false]:=by
 unfold zdr;rw[h]
end
def x640Q:zab:=
 ⟨[.cell 8 (some 5)],(.seq (.region [1,2,3,4,8] [o0 4 (.box 1 (.t 0)),
 o0 8 (.alloc [(.slice none 0 0),(.int .u8 0),(.int .i64 0),(.string .empty),(.int .i64 0)])]) (.seq (.region [1,2,3,4,8,9] [o4 13 4,
 o0 14 (.call .own 643 [.t 13]),o3 9 14]) (.seq (.seq (.region [1,2,3,8,9,17] [o3 15 3,
 o0 16 (.mkClo 641 [.t 4]),
 o0 17 (.call .peek 749 [(.t 15),(.t 16)])]) (.cond (.t 17) (.seq (.region [8] [o3 18 9,
 o0 19 (.build [(.slice none 0 0),(.int .u8 0),(.int .i64 0),(.string .empty),(.int .i64 0)] [(0,1,(.t 18)),(3,1,(.c (.string ⟨#[107,105,110,100]⟩)))]),
 o2 (.store 5 (.t 8) (.t 19))]) .ret) .skip)) (.seq (.region [1,2,3,8,9,10] [o3 20 9,
 o0 21 (.build [(.slice none 0 0),(.int .i64 0),(.int .i64 0)] [(0,1,(.t 20)),(1,1,(.c (.int .i64 1152921504606846976)))]),
 o0 22 (.box 3 (.t 21)),o3 10 22]) (.seq (.region [1,2,3,8,10,11] [o3 23 9,
 o0 24 (.call .own 642 [.t 23]),o3 11 24]) (.seq (.region [8,10,11,12] [o3 25 10,o3 26 1,o3 27 2,o3 28 3,
 o0 29 (.build [(.int .u8 0),(.int .i64 0),(.slice none 0 0),(.slice none 0 0)] [(0,1,(.t 26)),(1,1,(.t 27)),(2,1,(.t 28))]),
 o0 30 (.call .share 206 [(.t 25),(.t 29)]),
 o0 12 (.alloc [(.int .u8 0),(.int .i64 0),(.string .empty),(.bool false)]),
 o2 (.store 4 (.t 12) (.t 30))]) (.seq (.region [8] [o3 31 10,o7 32 31,o5 33 0 32,o4 34 33,
 o0 35 (.call .look 643 [.t 34]),o5 36 0 12,o6 37 2 36,o5 38 2 12,o4 39 38,o3 40 10,o7 41 40,o5 42 0 41,o4 43 42,o3 44 11,
 o0 45 (.call .view 639 [(.t 43),(.t 44)]),
 o0 46 (.build [(.slice none 0 0),(.int .u8 0),(.int .i64 0),(.string .empty),(.int .i64 0)] [(0,1,(.t 35)),(1,2,(.t 37)),(3,1,(.t 39)),(4,1,(.t 45))]),
 o2 (.store 5 (.t 8) (.t 46))]) .ret)))))))⟩
structure DoQ (code:Nat->Option zab):Prop extends PlainFns code where
 c640:code 640=some x640Q
 c641:code 641=some zkd
 c642:code 642=some zlp
 c639:code 639=some zlo
 c749:code 749=some zbf
 c759:code 759=some zbc
section
variable {code:Nat->Option zab} {ext:zac}
structure zkl (code:Nat->Option zab) (ext:zac):Prop where
 nil:callW code ext 643 [zae] []=some (zae,[])
 imm:∀{sv:IV} {S:List Obj},zak tObj sv S->zbt sv=false->(∀o∈S,o.l.xs.length<=1000000)->S.length<=10000000->callW code ext 643 [.imm sv] []=some (.osl 0 0 5 S.length (some S.length),[.flat (tObj.row (S.map zaf)) false])
 obj:∀{T:List Obj} (cap:Option Nat),(∀o∈T,o.l.xs.length<=1000000)->T.length<=100000000->∃X,XM 1 T X/\callW code ext 643 [.osl 0 0 5 T.length cap] [.flat (tObj.row T) false]=some (.osl 1 0 5 T.length (some T.length),.flat (tObj.row T) false::X)
theorem z2q{m:Mem}{rid:Nat}{R:List IV}{b:Bool}(h:m[rid]?=some (.flat R b)):order 0 [rid] m=[rid]:=by
 have hl:rid<m.length:=(xab.1 h).1
 unfold order
 simp only[xcr,Mem.refs,xas,List.range_zero]
 rw[show(1000000000000:Nat)=999999999998+1+1 from rfl,reach]
 simp only[List.not_mem_nil,if_false,hl,if_true,h,xa0,AObj.refs,xas,xa7]
 rw[reach]
theorem zot(k:zkl code ext){T:List Obj}(cap:Option Nat)(hT:∀o∈T,o.l.xs.length<=1000000)(hn:T.length<=100000000):
  ∃Xf:Nat->Mem,(∀n,XM n T (Xf n))/\∀(s:St) (rid:Nat),s.mem[rid]?=some (.flat (tObj.row T) false)->
   zbg (callW code ext) s 643 [.osl rid 0 5 T.length cap]=some (.osl s.mem.length 0 5 T.length (some T.length),{ s with mem:=s.mem++Xf s.mem.length }):=by
 obtain⟨X,hX,h⟩:=k.obj (T:=T) cap hT hn
 refine⟨fun n=>X.map (AObj.ren fun i=>some (n+(i-1))),fun n=>zkf hX fun i hi=>by simp,fun s rid hrid=>?_⟩
 have hrl:rid<s.mem.length:=(xab.1 hrid).1
 have ho:=z2q hrid
 have hro:AV.refs.refsL [.osl rid 0 5 T.length cap]=[rid]:=rfl
 have hpk:s.mem.pickAll [rid]=[.flat (tObj.row T) false]:=by simp[Mem.pickAll,hrid,AObj.ren]
 have hrn:AV.ren.renL (place [rid]) [.osl rid 0 5 T.length cap]=[.osl 0 0 5 T.length cap]:=by simp[AV.ren.renL,AV.ren,place]
 have hl1:0<X.length:=by obtain⟨ob,rfl,_⟩:=hX;simp
 have hmap:∀n,X.map (AObj.ren fun i=>if i<1 then[rid][i]? else some (n+(i-1)))=X.map (AObj.ren fun i=>some (n+(i-1))):=fun n=>by
  refine xbk fun o ho=>zh3 o fun id hid=>?_
  have:=zlt hX o ho id hid
  rw[if_neg (by omega)]
 have hall:(((AV.osl 1 0 5 T.length (some T.length)).refs.all fun j=>decide (j<(AObj.flat (tObj.row T) false::X).length))&&(AObj.flat (tObj.row T) false::X).all fun o=>o.refs.all fun j=>decide (j<(AObj.flat (tObj.row T) false::X).length))=true:=by
  rw[xae]
  refine⟨by simp[AV.refs,hl1],?_⟩
  rw[xcp,xae]
  refine⟨by simp[AObj.refs],?_⟩
  rw[xai]
  intro o ho
  rw[xai]
  intro r hr
  have:=zlt hX o ho r hr
  simp;omega
 unfold zbg
 rw[hro,ho]
 dsimp only
 rw[hpk,hrn,h]
 simp only[xax,xaz,xaw]at hmap hall ⊢
 rw[if_pos]
 ·simp only[List.drop_succ_cons,xc5,hmap]
  simp[AV.ren]
 ·refine⟨by simp,?_⟩
  rw[xae]
  refine⟨by simp[hrid,AObj.isFix,AObj.moved,AObj.refs],hall⟩
theorem zrj{P:Mem}{b q N:Nat}{T:List Obj}{X:Mem}(hX:XM b T X)(hP:P.length=b)(hb:1<=b)(hT:T.length<=10000000){L:List IV}(h0:P[0]?=some (.flat L false)){k n:Int}{t:ByteArray}{w:Int}
  (hq:P[q]?=some (.rich [.osl b 0 5 N (some N),.imm (.val (.int .u8 k)),zaa n,zaj t,zaa w])):
  ∃X',XM 1 T X'/\zha ⟨1,[(8,.optr q 0)],P++X⟩ x640Q=some (.agg [.osl 1 0 5 N (some N),.imm (.val (.int .u8 k)),zaa n,zaj t,zaa w],.flat L false::X'):=by
 have htk:P.take 1=[.flat L false]:=by
  cases P with
  |nil=>simp at h0
  |cons a r=>simp at h0;simp[h0]
 have ho:=z5g hX hP hb (by rw[htk];rfl) hT
 obtain⟨X',hp,hX'⟩:=zym hX hP hb (by rw[htk];intro o ho;simp at ho;subst ho;rfl)
 have hpl:=zrw (n:=X.length) (i:=0) hb (by rw[zhp hX];omega)
 refine⟨X',hX',?_⟩
 have hql:q<P.length:=(xab.1 hq).1
 have hq2:(P++X)[q]?=some (.rich [.osl b 0 5 N (some N),.imm (.val (.int .u8 k)),zaa n,zaj t,zaa w]):=by rw[xac hql];exact hq
 have hlen:¬(P++X).length=1:=by rw[xak,hP,zhp hX];omega
 have hld:loadAt (P++X) (some 5) (.optr q 0)=some (.agg [.osl b 0 5 N (some N),.imm (.val (.int .u8 k)),zaa n,zaj t,zaa w]):=by simp[loadAt,hq2,zdw]
 unfold zha
 simp only[x640Q,XRes.outs,XRes.asIs,xa5,List.mapM_nil,zgx,Env.get,if_true,hld,xch,xb0,xbe,xao,zhk,hlen,if_false,xan]
 simp only[AV.refs,AV.refs.refsL,xas,xa7,xbo,ho,hp,htk]
 simp only[AV.ren,AV.ren.renL]
 rw[xbi]at hpl
 rw[hpl]
def zii(code:Nat->Option zab)(ext:zac)(sv:IV)(xs:List Val)(r:Bool):Prop:=
 callW code ext 749 [.osl 0 0 2 xs.length (some xs.length),.clo 641 [.optr 1 0]] [.flat (tVal.row xs) false,.rich [.imm sv]]=some (avb r,[.flat (tVal.row xs) false,.rich [.imm sv]])
theorem z8c(c:DoQ code)(k:zkl code ext){sv:IV}{S:List Obj}(hr:zak tObj sv S)(hz:zbt sv=false)(hS:∀o∈S,o.l.xs.length<=1000000)(hn:S.length<=10000000){xs:List Val}(hl:xs.length<=1000)(ha:zii code ext sv xs false)(op n0 kk n:Int)(t:ByteArray)
  (hd:callW code ext 206 [.optr 0 0,.agg [.imm (.val (.int .u8 op)),zaa n0,.osl 1 0 2 xs.length (some xs.length),zae]] (sL false (S.map zaf) (tVal.row xs) 0)=some (zdb kk n t,sL false (S.map zaf) (tVal.row xs) 0)):
  ∃X,XM 1 (S.map zaf) X/\callW code ext 640 [.imm sv,.imm (.val (.int .u8 op)),zaa n0,.osl 0 0 2 xs.length (some xs.length)] [.flat (tVal.row xs) false]=
   some (.agg [.osl 1 0 5 S.length (some S.length),.imm (.val (.int .u8 kk)),zaa n,zaj t,zaa 0],.flat (tVal.row xs) false::X):=by
 unfold zii at ha
 have h1:=k.imm hr hz hS hn
 have hml:(S.map zaf).length=S.length:=xam ..
 obtain⟨Xf,hX,h2⟩:=zot k (T:=S.map zaf) (some S.length) (zkr hS) (by rw[hml];omega)
 have h3:=zpt (ext:=ext) (T:=S.map zaf) c.c642 c.c578 (some S.length) (zec tObj _) (by rw[hml];omega)
 have h4:=zn5 (ext:=ext) (T:=S.map zaf) (B:=[]) c.c639 c.c578 (some S.length) (by rw[xas];exact zec tObj _) (by rw[xas,hml];omega)
 rw[xas,show zdu []=0 from rfl]at h4
 unfold ze8 ze7 at h3
 unfold zd2 at h4
 rw[hml]at h2 h3 h4
 have hW:=zps (S.map zaf)
 rw[zad code ext c.c640]
 unfold sL at hd
 rw[hml]at hd
 simp only[xan,if_false]at hd ⊢
 have hTl:(S.map zaf).length<=10000000:=by rw[hml];exact hn
 generalize zdg (S.map zaf)=W at *
 generalize tObj.row (S.map zaf)=R1 at *
 generalize S.map zaf=T at *
 generalize tVal.row xs=L at *
 generalize xs.length=m at *
 by_cases h0:S.length=0
 ·rw[if_pos h0,if_pos h0]at h3
  rw[if_pos h0]at h4
  generalize S.length=N at *
  have hb:∃P b q,XM b T (Xf b)/\P.length=b/\1<=b/\P[0]?=some (.flat L false)/\P[q]?=some (.rich [.osl b 0 5 N (some N),.imm (.val (.int .u8 kk)),zaa n,zaj t,zaa 0])/\
    den code ext x640Q.body ⟨1,enter 0 [.imm sv,.imm (.val (.int .u8 op)),zaa n0,.osl 0 0 2 m (some m)],[.flat L false]⟩=some (.ret,⟨1,[(8,.optr q 0)],P++Xf b⟩):=by
   refine⟨[.flat L false,.rich [.imm sv],.rich [.osl 6 0 5 N (some N),.imm (.val (.int .u8 kk)),zaa n,zaj t,zaa 0],.flat R1 false,.rich [.osl 3 0 5 N (some N),zaa 1152921504606846976,zaa 0],.rich [.imm (.val (.int .u8 kk)),zaa n,zaj t,avb false]],6,2,hX 6,rfl,by decide,rfl,rfl,?_⟩
   simp -implicitDefEqProofs [-IV.plain,x640Q,-zbg,h1,h2,h3,h4,ha,hd]
  obtain⟨P,b,q,g1,g2,g3,g4,g5,g6⟩:=hb
  obtain⟨X',g7,g8⟩:=zrj g1 g2 g3 hTl g4 g5
  refine⟨X',g7,?_⟩
  simp only[xax,xaz,xaw]
  rw[g6]
  exact g8
 ·rw[if_neg h0,if_neg h0]at h3
  rw[if_neg h0]at h4
  generalize S.length=N at *
  have hb:∃P b q,XM b T (Xf b)/\P.length=b/\1<=b/\P[0]?=some (.flat L false)/\P[q]?=some (.rich [.osl b 0 5 N (some N),.imm (.val (.int .u8 kk)),zaa n,zaj t,zaa 0])/\
    den code ext x640Q.body ⟨1,enter 0 [.imm sv,.imm (.val (.int .u8 op)),zaa n0,.osl 0 0 2 m (some m)],[.flat L false]⟩=some (.ret,⟨1,[(8,.optr q 0)],P++Xf b⟩):=by
   refine⟨[.flat L false,.rich [.imm sv],.rich [.osl 7 0 5 N (some N),.imm (.val (.int .u8 kk)),zaa n,zaj t,zaa 0],.flat R1 false,.rich [.osl 3 0 5 N (some N),zaa 1152921504606846976,zaa 0],.flat W false,.rich [.imm (.val (.int .u8 kk)),zaa n,zaj t,avb false]],7,2,hX 7,rfl,by decide,rfl,rfl,?_⟩
   simp -implicitDefEqProofs [-IV.plain,x640Q,-zbg,h1,h2,h3,h4,ha,hd,hW]
  obtain⟨P,b,q,g1,g2,g3,g4,g5,g6⟩:=hb
  obtain⟨X',g7,g8⟩:=zrj g1 g2 g3 hTl g4 g5
  refine⟨X',g7,?_⟩
  simp only[xax,xaz,xaw]
  rw[g6]
  exact g8
end
section
variable {code:Nat->Option zab} {ext:zac}
theorem z8b(c:DoQ code){sv:IV}{S:List Obj}{X:Mem}(hX:XM 0 S X)(hn:S.length<=10000000)(h1:callW code ext 643 [.imm sv] []=some (.osl 0 0 5 S.length (some S.length),X)){xs:List Val}(ha:zii code ext sv xs true)(op n0:Int):
  ∃X',XM 1 S X'/\callW code ext 640 [.imm sv,.imm (.val (.int .u8 op)),zaa n0,.osl 0 0 2 xs.length (some xs.length)] [.flat (tVal.row xs) false]=
   some (.agg [.osl 1 0 5 S.length (some S.length),.imm (.val (.int .u8 0)),zaa 0,zaj ⟨#[107,105,110,100]⟩,zaa 0],.flat (tVal.row xs) false::X'):=by
 unfold zii at ha
 rw[zad code ext c.c640]
 generalize tVal.row xs=L at *
 generalize xs.length=m at *
 have hX3:XM 3 S (X.map (AObj.ren fun i=>some (3+i))):=zkf hX fun i hi=>by simp only[xaw]
 have hb:den code ext x640Q.body ⟨1,enter 0 [.imm sv,.imm (.val (.int .u8 op)),zaa n0,.osl 0 0 2 m (some m)],[.flat L false]⟩=some (.ret,⟨1,[(8,.optr 2 0)],[.flat L false,.rich [.imm sv],.rich [.osl 3 0 5 S.length (some S.length),.imm (.val (.int .u8 0)),zaa 0,zaj ⟨#[107,105,110,100]⟩,zaa 0]]++X.map (AObj.ren fun i=>some (3+i))⟩):=by
  generalize S.length=N at *
  simp -implicitDefEqProofs [-IV.plain,x640Q,h1,ha]
 obtain⟨X',g7,g8⟩:=zrj (q:=2) (P:=[.flat L false,.rich [.imm sv],.rich [.osl 3 0 5 S.length (some S.length),.imm (.val (.int .u8 0)),zaa 0,zaj ⟨#[107,105,110,100]⟩,zaa 0]]) hX3 rfl (by decide) hn rfl rfl
 refine⟨X',g7,?_⟩
 simp only[xax,xaz,xaw]
 rw[hb]
 exact g8
end
section
variable {code:Nat->Option zab} {ext:zac}
theorem ya3{N:Nat}{T:List Obj}{X:Mem}(hX:XM 1 T X){sv:IV}{op n0 kk n w:Int}{t:ByteArray}{L:List IV}{m:Nat}{cap:Option Nat}
  (h:callW code ext 640 [.imm sv,.imm (.val (.int .u8 op)),zaa n0,.osl 0 0 2 m cap] [.flat L false]=some (.agg [.osl 1 0 5 N (some N),.imm (.val (.int .u8 kk)),zaa n,zaj t,zaa w],.flat L false::X)):
  ∃Xf:Nat->Mem,(∀n,XM n T (Xf n))/\∀(s:St) (rid:Nat),s.mem[rid]?=some (.flat L false)->
   zbg (callW code ext) s 640 [.imm sv,.imm (.val (.int .u8 op)),zaa n0,.osl rid 0 2 m cap]=some (.agg [.osl s.mem.length 0 5 N (some N),.imm (.val (.int .u8 kk)),zaa n,zaj t,zaa w],{ s with mem:=s.mem++Xf s.mem.length }):=by
 refine⟨fun n=>X.map (AObj.ren fun i=>some (n+(i-1))),fun n=>zkf hX fun i hi=>by simp,fun s rid hrid=>?_⟩
 have hrl:rid<s.mem.length:=(xab.1 hrid).1
 have ho:=z2q hrid
 have hro:AV.refs.refsL [.imm sv,.imm (.val (.int .u8 op)),zaa n0,.osl rid 0 2 m cap]=[rid]:=rfl
 have hpk:s.mem.pickAll [rid]=[.flat L false]:=by simp[Mem.pickAll,hrid,AObj.ren]
 have hrn:AV.ren.renL (place [rid]) [.imm sv,.imm (.val (.int .u8 op)),zaa n0,.osl rid 0 2 m cap]=[.imm sv,.imm (.val (.int .u8 op)),zaa n0,.osl 0 0 2 m cap]:=by simp[AV.ren.renL,AV.ren,place]
 have hl1:0<X.length:=by obtain⟨ob,rfl,_⟩:=hX;simp
 have hmap:∀n,X.map (AObj.ren fun i=>if i<1 then[rid][i]? else some (n+(i-1)))=X.map (AObj.ren fun i=>some (n+(i-1))):=fun n=>by
  refine xbk fun o ho=>zh3 o fun id hid=>?_
  have:=zlt hX o ho id hid
  rw[if_neg (by omega)]
 have hall:(((AV.agg [.osl 1 0 5 N (some N),.imm (.val (.int .u8 kk)),zaa n,zaj t,zaa w]).refs.all fun j=>decide (j<(AObj.flat L false::X).length))&&(AObj.flat L false::X).all fun o=>o.refs.all fun j=>decide (j<(AObj.flat L false::X).length))=true:=by
  rw[xae]
  refine⟨by simp[AV.refs,AV.refs.refsL,hl1],?_⟩
  rw[xcp,xae]
  refine⟨by simp[AObj.refs],?_⟩
  rw[xai]
  intro o ho
  rw[xai]
  intro r hr
  have:=zlt hX o ho r hr
  simp;omega
 unfold zbg
 rw[hro,ho]
 dsimp only
 rw[hpk,hrn,h]
 simp only[xax,xaz,xaw]at hmap hall ⊢
 rw[if_pos]
 ·simp only[List.drop_succ_cons,xc5,hmap]
  simp[AV.ren,AV.ren.renL]
 ·refine⟨by simp,?_⟩
  rw[xae]
  refine⟨by simp[hrid,AObj.isFix,AObj.moved,AObj.refs],hall⟩
end
def zcd(S:List Obj)(v:Val):Bool:=if v.k=0 then decide (v.n=0)else if v.k=1 then decide (v.n=0\/v.n=1)else if v.k=2 then true else(za7 S v).isSome
section
variable {code:Nat->Option zab} {ext:zac}
theorem z3b(h:code 502=some zc9)(h':code 510=some zer){sv:IV}{S:List Obj}(hr:zak tObj sv S)(v:Val):callW code ext 510 [.imm sv,.agg [.imm (.val (.int .u8 v.k)),zaa v.n]] []=some (avb (zcd S v),[]):=by
 rw[zad code ext h']
 have hl:=zmk (ext:=ext) h hr v
 by_cases k0:v.k=0
 ·simp -implicitDefEqProofs [zer,zcd,k0]
 by_cases k1:v.k=1
 ·by_cases n0:v.n=0
  ·simp -implicitDefEqProofs [zer,zcd,k1,n0]
  ·simp -implicitDefEqProofs [zer,zcd,k1,n0]
 by_cases k2:v.k=2
 ·simp -implicitDefEqProofs [zer,zcd,k2]
 unfold zjn at hl
 cases hq:za7 S v with
 |none=>
  rw[hq]at hl
  simp -implicitDefEqProofs [zer,zcd,k0,k1,k2,hq,hl]
 |some q=>
  rw[hq]at hl
  have:(0:Int)<=q:=by omega
  simp -implicitDefEqProofs [zer,zcd,k0,k1,k2,hq,hl,this]
def zar(S:List Obj)(l:List Val)(c:Bool):Bool:=l.all fun v=>zcd S v&&(decide (v.k=7)==c)
theorem zr2(h:code 502=some zc9)(h':code 510=some zer)(h2:code 506=some zg1){sv lv:IV}{S:List Obj}{l:List Val}(hr:zak tObj sv S)(hl:zak tVal lv l)(c:Bool):
  callW code ext 506 [.imm sv,.imm lv,avb c] []=some (avb (zar S l c),[]):=by
 have hlen:=zau hl
 have hb:=hl.2.1
 have loop:∃e s',den code ext (.loop [0,1,2,7] znm) ⟨0,[(0,.imm sv),(1,.imm lv),(2,avb c),(7,zaa 0)],[]⟩=some (e,s')/\e≠ .normal/\
   ((e=.exit 0/\zar S l c=true/\s'=⟨0,[(0,.imm sv),(1,.imm lv),(2,avb c),(7,zaa l.length),(11,avb false)],[]⟩)\/(e=.ret/\zar S l c=false/\s'=⟨0,[(6,avb false)],[]⟩)):=by
  refine zbu (fun n s=>∃(i:Nat),i+n=l.length/\zar S (l.take i) c=true/\s=⟨0,[(0,.imm sv),(1,.imm lv),(2,avb c),(7,zaa (i:Nat))],[]⟩) _ ?_ l.length _ ⟨0,by simp,by simp[zar],rfl⟩
  rintro n _ ⟨i,hi,hall,rfl⟩
  by_cases hlt:i<l.length
  ·obtain⟨row,off,cap,rfl,hc,hcut,hget⟩:=zbv hl (xaa hlt)
   have e1:IntKind.wrap .i64 ((i:Int)+1)=(i:Int)+1:=zaw (by omega) (by omega)
   have htk:l.take (i+1)=l.take i++[l[i]]:=by rw[xbg,xaa hlt];rfl
   have hmem:=xa8 hlt
   generalize l[i]=v at hget htk hmem
   simp only[tVal]at hget
   have hv:=z3b (ext:=ext) h h' hr v
   have g0:row[off+i*2]?=some (.val (.int .u8 v.k)):=zai hget 0 (by omega)
   by_cases hvv:zcd S v=true
   ·by_cases hcc:decide (v.k=7)=c
    ·have g:(zcd S v&&(decide (v.k=7)==c))=true:=by rw[hvv,hcc];simp
     refine⟨.normal,⟨0,[(0,.imm sv),(1,.imm (.slice row off l.length cap)),(2,avb c),(7,zaa ((i:Int)+1))],[]⟩,?_,.inl ⟨rfl,n-1,by omega,i+1,by omega,?_,rfl⟩⟩
     ·simp -implicitDefEqProofs [znm,hlt,hget,g0,hv,hvv,hcc,e1]
     ·rw[htk];unfold zar at hall ⊢;rw[xc2,hall];simp[g]
    ·have g:(zcd S v&&(decide (v.k=7)==c))=false:=by rw[beq_eq_false_iff_ne.2 hcc];simp
     have hcb:(decide (v.k=7)==c)=false:=beq_eq_false_iff_ne.2 hcc
     refine⟨.ret,⟨0,[(6,avb false)],[]⟩,?_,.inr ⟨by simp,.inr ⟨rfl,?_,rfl⟩⟩⟩
     ·simp -implicitDefEqProofs [znm,hlt,hget,g0,hv,hvv,hcb]
     ·unfold zar;rw[List.all_eq_false];exact⟨v,hmem,by rw[g];simp⟩
   ·have hvf:zcd S v=false:=by simpa using hvv
    refine⟨.ret,⟨0,[(6,avb false)],[]⟩,?_,.inr ⟨by simp,.inr ⟨rfl,?_,rfl⟩⟩⟩
    ·simp -implicitDefEqProofs [znm,hlt,hget,hv,hvf]
    ·unfold zar;rw[List.all_eq_false];exact⟨v,hmem,by simp[hvf]⟩
  ·have:i=l.length:=by omega
   subst this
   rw[xbp]at hall
   refine⟨.exit 0,_,?_,.inr ⟨by simp,.inl ⟨rfl,hall,rfl⟩⟩⟩
   simp -implicitDefEqProofs [znm,hlen]
 obtain⟨e,s',l1,_,⟨rfl,hh,rfl⟩|⟨rfl,hh,rfl⟩⟩:=loop
 ·rw[zad code ext h2,hh]
  simp -implicitDefEqProofs [zg1,l1]
 ·rw[zad code ext h2,hh]
  simp -implicitDefEqProofs [zg1,l1]
end
def sAt(S:List Obj)(i:Nat):ByteArray:=match S[i]? with
 |some o=>o.s
 |none=>.empty
def zeq(S:List Obj)(a b:Val):Bool:=
  if a.k≠b.k then false else if a.k=0 then true else if a.n=b.n then true else if a.k=3 then
    match za7 S a,za7 S b with
    |some i,some j=>decide (sAt S i=sAt S j)
    |_,_=>false
  else false
def zf2(S:List Obj)(l:List Val):Prop:=∀(i k:Nat) (a b:Val),i%2=0->k%2=0->k<i->l[i]?=some a->l[k]?=some b->zeq S a b=false
section
variable {code:Nat->Option zab} {ext:zac}
theorem yg5(h:code 502=some zc9)(h':code 503=some zd3){sv:IV}{S:List Obj}(hr:zak tObj sv S)(a b:Val)(c3:a.k=3)(c3':b.k=3)(cn:¬a.n=b.n):
  callW code ext 503 [.imm sv,.agg [.imm (.val (.int .u8 3)),zaa a.n],.agg [.imm (.val (.int .u8 3)),zaa b.n]] []=some (avb (zeq S a b),[]):=by
 rw[zad code ext h']
 have ha:=zmk (ext:=ext) h hr a
 have hb:=zmk (ext:=ext) h hr b
 unfold zjn at ha hb
 rw[c3]at ha
 rw[c3']at hb
 have hso:zeq S a b=match za7 S a,za7 S b with
  |some i,some j=>decide (sAt S i=sAt S j)
  |_,_=>false:=by
  unfold zeq
  rw[if_neg (by rw[c3,c3'];simp),if_neg (by omega),if_neg cn,if_pos c3]
 rw[hso]
 clear hso
 cases hqa:za7 S a with
 |none=>
  rw[hqa]at ha
  cases hqb:za7 S b with
  |none=>rw[hqb]at hb;simp -implicitDefEqProofs [zd3,cn,ha,hb]
  |some j=>rw[hqb]at hb;simp -implicitDefEqProofs [zd3,cn,ha,hb]
 |some i=>
  rw[hqa]at ha
  have hi0:(0:Int)<=i:=by omega
  cases hqb:za7 S b with
  |none=>rw[hqb]at hb;simp -implicitDefEqProofs [zd3,cn,ha,hb,hi0]
  |some j=>
   rw[hqb]at hb
   have hj0:(0:Int)<=j:=by omega
   obtain⟨hil,_,_,_,o,ho,_⟩:=ze5 hqa
   obtain⟨hjl,_,_,_,p,hp,_⟩:=ze5 hqb
   obtain⟨row,off,cap,rfl,hc,hcut,hget⟩:=zbv hr ho
   obtain⟨row',off',cap',he,_,_,hget'⟩:=zbv hr hp
   cases he
   simp only[tObj]at hget hget'
   have g1:row[off+i*5+1]?=some (.val (.string o.s)):=zai hget 1 (by omega)
   have g1':row[off+j*5+1]?=some (.val (.string p.s)):=zai hget' 1 (by omega)
   have hsi:sAt S i=o.s:=by unfold sAt;rw[ho]
   have hsj:sAt S j=p.s:=by unfold sAt;rw[hp]
   simp -implicitDefEqProofs [zd3,cn,ha,hb,hi0,hj0,hil,hjl,g1,g1',hsi,hsj]
theorem yg4(h:code 502=some zc9)(h':code 503=some zd3){sv:IV}{S:List Obj}(hr:zak tObj sv S)(a b:Val):
  callW code ext 503 [.imm sv,.agg [.imm (.val (.int .u8 a.k)),zaa a.n],.agg [.imm (.val (.int .u8 b.k)),zaa b.n]] []=some (avb (zeq S a b),[]):=by
 by_cases c1:a.k=b.k
 case neg=>
  rw[zad code ext h']
  simp -implicitDefEqProofs [zd3,zeq,c1]
 by_cases c0:a.k=0
 ·have c0':b.k=0:=by omega
  rw[zad code ext h']
  simp -implicitDefEqProofs [zd3,zeq,c0,c0']
 have c0b:¬b.k=0:=by omega
 by_cases cn:a.n=b.n
 ·rw[zad code ext h']
  simp -implicitDefEqProofs [zd3,zeq,c1,cn,c0b]
 by_cases c3:a.k=3
 ·rw[c3,show b.k=3 by omega]
  exact yg5 h h' hr a b c3 (by omega) cn
 ·have c3':¬b.k=3:=by omega
  have ha:=zmk (ext:=ext) h hr a
  have hb:=zmk (ext:=ext) h hr b
  have hso:zeq S a b=false:=by
   unfold zeq
   rw[if_neg (by simp[c1]),if_neg c0,if_neg cn,if_neg c3]
  rw[hso,zad code ext h']
  rw[c1]at ha ⊢
  simp -implicitDefEqProofs [zd3,c0b,cn,c3',ha,hb]
theorem yfo(h:code 502=some zc9)(h':code 503=some zd3)(h2:code 507=some zg2){sv lv:IV}{S:List Obj}{l:List Val}(hr:zak tObj sv S)(hl:zak tVal lv l):
  ∃b:Bool,callW code ext 507 [.imm sv,.imm lv] []=some (avb b,[])/\(b=true↔zf2 S l):=by
 have hlen:=zau hl
 have hb:=hl.2.1
 have inner:∀i:Nat,i<l.length->i%2=0->∃e s',den code ext (.loop [0,1,5,6] zqj) ⟨0,[(0,.imm sv),(1,.imm lv),(5,zaa (i:Nat)),(6,zaa 0)],[]⟩=some (e,s')/\e≠ .normal/\
   ((e=.exit 2/\(∀k b,k%2=0->k<i->l[k]?=some b->zeq S (l[i]?.getD zu0) b=false)/\∃q:Nat,s'=⟨0,[(0,.imm sv),(1,.imm lv),(5,zaa (i:Nat)),(6,zaa (q:Nat)),(15,avb false)],[]⟩)\/
    (e=.ret/\(∃k b,k%2=0/\k<i/\l[k]?=some b/\zeq S (l[i]?.getD zu0) b=true)/\s'=⟨0,[(4,avb false)],[]⟩)):=by
  intro i hi hie
  refine zbu (fun n s=>∃(k:Nat),k%2=0/\n+k=l.length+2/\k<l.length+2/\(∀q b,q%2=0->q<k->l[q]?=some b->zeq S (l[i]?.getD zu0) b=false\/i<=q)/\s=⟨0,[(0,.imm sv),(1,.imm lv),(5,zaa (i:Nat)),(6,zaa (k:Nat))],[]⟩) _ ?_ (l.length+2) _ ⟨0,rfl,by omega,by omega,fun q b _ h=>by omega,rfl⟩
  rintro n _ ⟨k,hke,hn,hkl,hall,rfl⟩
  by_cases hlt:k<i
  ·have hlk:k<l.length:=by omega
   obtain⟨row,off,cap,rfl,hc,hcut,hget⟩:=zbv hl (xaa hlk)
   obtain⟨row',off',cap',he,_,_,hget'⟩:=zbv hl (xaa hi)
   cases he
   have e1:IntKind.wrap .i64 ((k:Int)+2)=(k:Int)+2:=zaw (by omega) (by omega)
   have hlt':(k:Int)<i:=by omega
   have hki:=xaa hi
   have hkk:=xaa hlk
   rw[hki]at hall ⊢
   simp only[xa0]at hall ⊢
   have hs:=yg4 (ext:=ext) h h' hr l[i] l[k]
   generalize l[i]=a at *
   generalize hbk:l[k]=b at *
   simp only[tVal]at hget hget'
   cases hsm:zeq S a b with
   |true=>
    rw[hsm]at hs
    refine⟨.ret,⟨0,[(4,avb false)],[]⟩,?_,.inr ⟨by simp,.inr ⟨rfl,⟨k,b,hke,hlt,hkk,hsm⟩,rfl⟩⟩⟩
    simp -implicitDefEqProofs [zqj,hlt,hi,hlk,hget,hget',hs]
   |false=>
    rw[hsm]at hs
    refine⟨.normal,⟨0,[(0,.imm sv),(1,.imm (.slice row off l.length cap)),(5,zaa (i:Nat)),(6,zaa ((k:Int)+2))],[]⟩,?_,.inl ⟨rfl,n-2,by omega,k+2,by omega,by omega,by omega,fun q c hq hqk hc=>?_,rfl⟩⟩
    ·simp -implicitDefEqProofs [zqj,hlt,hi,hlk,hget,hget',hs,e1]
    ·by_cases hqk':q<k
     ·exact hall q c hq hqk' hc
     ·have:q=k:=by omega
      subst this
      rw[hkk]at hc;cases hc
      exact .inl hsm
  ·refine⟨.exit 2,⟨0,[(0,.imm sv),(1,.imm lv),(5,zaa (i:Nat)),(6,zaa (k:Nat)),(15,avb false)],[]⟩,?_,.inr ⟨by simp,.inl ⟨rfl,fun q b hq hqi hb=>?_,k,rfl⟩⟩⟩
   ·have:¬((k:Int)<i):=by omega
    simp -implicitDefEqProofs [zqj,this]
   ·rcases hall q b hq (by omega) hb with h|h
    ·exact h
    ·omega
 have outer:∃e s',den code ext (.loop [0,1,5] zqk) ⟨0,[(0,.imm sv),(1,.imm lv),(5,zaa 0)],[]⟩=some (e,s')/\e≠ .normal/\
   ((e=.exit 0/\zf2 S l/\s'.k=0/\s'.mem=[])\/(e=.ret/\¬zf2 S l/\s'=⟨0,[(4,avb false)],[]⟩)):=by
  refine zbu (fun n s=>∃(i:Nat),i%2=0/\n+i=l.length+2/\i<l.length+2/\(∀(j k:Nat) (a b:Val),j%2=0->k%2=0->k<j->j<i->l[j]?=some a->l[k]?=some b->zeq S a b=false)/\s=⟨0,[(0,.imm sv),(1,.imm lv),(5,zaa (i:Nat))],[]⟩) _ ?_ (l.length+2) _ ⟨0,rfl,by omega,by omega,fun j k a b _ _ _ h=>by omega,rfl⟩
  rintro n _ ⟨i,hie,hn,hil,hall,rfl⟩
  by_cases hlt:i<l.length
  ·have e1:IntKind.wrap .i64 ((i:Int)+2)=(i:Int)+2:=zaw (by omega) (by omega)
   have hki:=xaa hlt
   obtain⟨e,s',g1,_,⟨rfl,hin,q,rfl⟩|⟨rfl,⟨k,b,hke,hk,hkb,hsm⟩,rfl⟩⟩:=inner i hlt hie
   ·rw[hki]at hin
    refine⟨.normal,⟨0,[(0,.imm sv),(1,.imm lv),(5,zaa ((i:Int)+2))],[]⟩,?_,.inl ⟨rfl,n-2,by omega,i+2,by omega,by omega,by omega,fun j k a b hj hk hkj hji ha hb=>?_,rfl⟩⟩
    ·simp -implicitDefEqProofs [zqk,hlen,hlt,g1,e1]
    ·by_cases hji':j<i
     ·exact hall j k a b hj hk hkj hji' ha hb
     ·have:j=i:=by omega
      subst this
      rw[hki]at ha;cases ha
      exact hin k b hk hkj hb
   ·rw[hki]at hsm
    refine⟨.ret,⟨0,[(4,avb false)],[]⟩,?_,.inr ⟨by simp,.inr ⟨rfl,fun hk'=>?_,rfl⟩⟩⟩
    ·simp -implicitDefEqProofs [zqk,hlen,hlt,g1]
    ·have:=hk' i k _ b hie hke hk hki hkb
     simp only[xa0]at hsm
     rw[this]at hsm;cases hsm
  ·refine⟨.exit 0,⟨0,[(0,.imm sv),(1,.imm lv),(5,zaa (i:Nat)),(10,avb false)],[]⟩,?_,.inr ⟨by simp,.inl ⟨rfl,fun j k a b hj hk hkj ha hb=>?_,rfl,rfl⟩⟩⟩
   ·have:¬((i:Int)<l.length):=by omega
    simp -implicitDefEqProofs [zqk,hlen,this]
   ·exact hall j k a b hj hk hkj (by have:=(xab.1 ha).1;omega) ha hb
 obtain⟨e,s',g1,_,⟨rfl,hk,h3,h4⟩|⟨rfl,hk,rfl⟩⟩:=outer
 ·refine⟨true,?_,by simp[hk]⟩
  rw[zad code ext h2]
  simp -implicitDefEqProofs [zg2,g1,h3,h4]
 ·refine⟨false,?_,by simp[hk]⟩
  rw[zad code ext h2]
  simp -implicitDefEqProofs [zg2,g1]
end
def zao(S:List Obj)(o:Obj):Prop:=
 if o.k=3 then o.s.size<=4096/\o.l.xs=[]/\o.room=0/\o.fn=0
 else if o.k=4 then o.s=.empty/\o.fn=0/\(o.l.xs.length:Int)<=65536/\(o.l.xs.length:Int)<=o.room/\o.room<=262144/\zar S o.l.xs false=true
 else if o.k=5 then o.s=.empty/\o.fn=0/\(o.l.xs.length:Int).tmod 2=0/\(o.l.xs.length:Int)<=131072/\(o.l.xs.length:Int)<=o.room/\o.room<=262144/\zar S o.l.xs false=true/\zf2 S o.l.xs
 else if o.k=6 then o.s=.empty/\o.room=0/\0<=o.fn/\o.fn<256/\zar S o.l.xs true=true
 else o.s=.empty/\o.room=0/\o.fn=0/\(o.l.xs.length:Int)=1/\zar S o.l.xs false=true
abbrev zmn(o:Obj):AV:=.agg [.imm (.val (.int .u8 o.k)),.imm (.val (.string o.s)),.imm o.l.iv,zaa o.room,zaa o.fn]
section
variable {code:Nat->Option zab} {ext:zac}
theorem yfp(h:code 502=some zc9)(h':code 510=some zer)(h2:code 506=some zg1)(h3:code 503=some zd3)(h4:code 507=some zg2)(h5:code 508=some zbx){sv:IV}{S:List Obj}(hr:zak tObj sv S)(o:Obj)(k3:o.k=3):∃b:Bool,callW code ext 508 [.imm sv,zmn o] []=some (avb b,[])/\(b=true↔zao S o):=by
 rw[zad code ext h5]
 have hlen:=zau o.l.ok
 have hok:zao S o↔(o.s.size<=4096/\o.l.xs=[]/\o.room=0/\o.fn=0):=by
  unfold zao
  rw[if_pos k3]
 rw[hok]
 clear hok
 by_cases c1:(o.s.size:Int)<=4096
 case neg=>exact⟨false,by simp -implicitDefEqProofs [zbx,k3,hlen,c1],by simp[show ¬o.s.size<=4096 by omega]⟩
 by_cases c2:o.l.xs=[]
 case neg=>exact⟨false,by simp -implicitDefEqProofs [zbx,k3,hlen,c1,c2],by simp[c2]⟩
 by_cases c3:o.room=0
 case neg=>exact⟨false,by simp -implicitDefEqProofs [zbx,k3,hlen,c1,c2,c3],by simp[c2,c3]⟩
 by_cases c4:o.fn=0
 case neg=>exact⟨false,by simp -implicitDefEqProofs [zbx,k3,hlen,c1,c2,c3,c4],by simp[c2,c3,c4]⟩
 exact⟨true,by simp -implicitDefEqProofs [zbx,k3,hlen,c1,c2,c3,c4],by simp[c2,c3,c4,show o.s.size<=4096 by omega]⟩
theorem yfq(h:code 502=some zc9)(h':code 510=some zer)(h2:code 506=some zg1)(h3:code 503=some zd3)(h4:code 507=some zg2)(h5:code 508=some zbx){sv:IV}{S:List Obj}(hr:zak tObj sv S)(o:Obj)(k4:o.k=4):∃b:Bool,callW code ext 508 [.imm sv,zmn o] []=some (avb b,[])/\(b=true↔zao S o):=by
 rw[zad code ext h5]
 have hlen:=zau o.l.ok
 have hok:zao S o↔(o.s=.empty/\o.fn=0/\(o.l.xs.length:Int)<=65536/\(o.l.xs.length:Int)<=o.room/\o.room<=262144/\zar S o.l.xs false=true):=by
  unfold zao
  rw[if_neg (by omega),if_pos k4]
 rw[hok]
 clear hok
 have hh:=zr2 (ext:=ext) h h' h2 hr o.l.ok false
 by_cases c1:o.s=.empty
 case neg=>exact⟨false,by simp -implicitDefEqProofs [zbx,k4,hlen,c1],by simp[c1]⟩
 by_cases c2:o.fn=0
 case neg=>exact⟨false,by simp -implicitDefEqProofs [zbx,k4,hlen,c1,c2],by simp[c1,c2]⟩
 by_cases c3:(o.l.xs.length:Int)<=65536
 case neg=>exact⟨false,by simp -implicitDefEqProofs [zbx,k4,hlen,c1,c2,c3],by simp[c1,c2,c3]⟩
 by_cases c4:(o.l.xs.length:Int)<=o.room
 case neg=>exact⟨false,by simp -implicitDefEqProofs [zbx,k4,hlen,c1,c2,c3,c4],by simp[c1,c2,c3,c4]⟩
 by_cases c5:o.room<=262144
 case neg=>exact⟨false,by simp -implicitDefEqProofs [zbx,k4,hlen,c1,c2,c3,c4,c5],by simp[c1,c2,c3,c4,c5]⟩
 by_cases c6:zar S o.l.xs false=true
 case neg=>
  have c6f:zar S o.l.xs false=false:=by simpa using c6
  exact⟨false,by simp -implicitDefEqProofs [zbx,k4,hlen,hh,c1,c2,c3,c4,c5,c6f],by simp[c1,c2,c3,c4,c5,c6f]⟩
 exact⟨true,by simp -implicitDefEqProofs [zbx,k4,hlen,hh,c1,c2,c3,c4,c5,c6],by simp[c1,c2,c3,c4,c5,c6]⟩
set_option maxHeartbeats 1000000 in
theorem yfr (h:code 502=some zc9) (h':code 510=some zer) (h2:code 506=some zg1) (h3:code 503=some zd3) (h4:code 507=some zg2) (h5:code 508=some zbx) {sv:IV} {S:List Obj} (hr:zak tObj sv S) (o:Obj) (k5:o.k=5):∃b:Bool,callW code ext 508 [.imm sv,zmn o] []=some (avb b,[])/\(b=true↔zao S o):=by
 rw[zad code ext h5]
 have hlen:=zau o.l.ok
 have hok:zao S o↔(o.s=.empty/\o.fn=0/\(o.l.xs.length:Int).tmod 2=0/\(o.l.xs.length:Int)<=131072/\(o.l.xs.length:Int)<=o.room/\o.room<=262144/\zar S o.l.xs false=true/\zf2 S o.l.xs):=by
  unfold zao
  rw[if_neg (by omega),if_neg (by omega),if_pos k5]
 rw[hok]
 clear hok
 have hh:=zr2 (ext:=ext) h h' h2 hr o.l.ok false
 obtain⟨bk,hkk,hkb⟩:=yfo (ext:=ext) h h3 h4 hr o.l.ok
 by_cases c1:o.s=.empty
 case neg=>exact⟨false,by simp -implicitDefEqProofs [zbx,k5,hlen,c1],by simp[c1]⟩
 by_cases c2:o.fn=0
 case neg=>exact⟨false,by simp -implicitDefEqProofs [zbx,k5,hlen,c1,c2],by simp[c1,c2]⟩
 by_cases c3:(o.l.xs.length:Int).tmod 2=0
 case neg=>exact⟨false,by simp -implicitDefEqProofs [zbx,k5,hlen,c1,c2,c3],by simp[c1,c2,c3]⟩
 by_cases c4:(o.l.xs.length:Int)<=131072
 case neg=>exact⟨false,by simp -implicitDefEqProofs [zbx,k5,hlen,c1,c2,c3,c4],by simp[c1,c2,c3,c4]⟩
 by_cases c5:(o.l.xs.length:Int)<=o.room
 case neg=>exact⟨false,by simp -implicitDefEqProofs [zbx,k5,hlen,c1,c2,c3,c4,c5],by simp[c1,c2,c3,c4,c5]⟩
 by_cases c6:o.room<=262144
 case neg=>exact⟨false,by simp -implicitDefEqProofs [zbx,k5,hlen,c1,c2,c3,c4,c5,c6],by simp[c1,c2,c3,c4,c5,c6]⟩
 by_cases c7:zar S o.l.xs false=true
 case neg=>
  have c7f:zar S o.l.xs false=false:=by simpa using c7
  exact⟨false,by simp -implicitDefEqProofs [zbx,k5,hlen,hh,c1,c2,c3,c4,c5,c6,c7f],by simp[c1,c2,c3,c4,c5,c6,c7f]⟩
 refine⟨bk,?_,by rw[hkb];simp[c1,c2,c3,c4,c5,c6,c7]⟩
 simp -implicitDefEqProofs [zbx,k5,hlen,hh,hkk,c1,c2,c3,c4,c5,c6,c7]
theorem yfs(h:code 502=some zc9)(h':code 510=some zer)(h2:code 506=some zg1)(h3:code 503=some zd3)(h4:code 507=some zg2)(h5:code 508=some zbx){sv:IV}{S:List Obj}(hr:zak tObj sv S)(o:Obj)(k6:o.k=6):∃b:Bool,callW code ext 508 [.imm sv,zmn o] []=some (avb b,[])/\(b=true↔zao S o):=by
 rw[zad code ext h5]
 have hlen:=zau o.l.ok
 have hok:zao S o↔(o.s=.empty/\o.room=0/\0<=o.fn/\o.fn<256/\zar S o.l.xs true=true):=by
  unfold zao
  rw[if_neg (by omega),if_neg (by omega),if_neg (by omega),if_pos k6]
 rw[hok]
 clear hok
 have hh:=zr2 (ext:=ext) h h' h2 hr o.l.ok true
 by_cases c1:o.s=.empty
 case neg=>exact⟨false,by simp -implicitDefEqProofs [zbx,k6,hlen,c1],by simp[c1]⟩
 by_cases c2:o.room=0
 case neg=>exact⟨false,by simp -implicitDefEqProofs [zbx,k6,hlen,c1,c2],by simp[c1,c2]⟩
 by_cases c3:0<=o.fn
 case neg=>exact⟨false,by simp -implicitDefEqProofs [zbx,k6,hlen,c1,c2,c3],by simp[c1,c2,c3]⟩
 by_cases c4:o.fn<256
 case neg=>exact⟨false,by simp -implicitDefEqProofs [zbx,k6,hlen,c1,c2,c3,c4],by simp[c1,c2,c3,c4]⟩
 by_cases c5:zar S o.l.xs true=true
 case neg=>
  have c5f:zar S o.l.xs true=false:=by simpa using c5
  exact⟨false,by simp -implicitDefEqProofs [zbx,k6,hlen,hh,c1,c2,c3,c4,c5f],by simp[c1,c2,c3,c4,c5f]⟩
 exact⟨true,by simp -implicitDefEqProofs [zbx,k6,hlen,hh,c1,c2,c3,c4,c5],by simp[c1,c2,c3,c4,c5]⟩
theorem yft(h:code 502=some zc9)(h':code 510=some zer)(h2:code 506=some zg1)(h3:code 503=some zd3)(h4:code 507=some zg2)(h5:code 508=some zbx){sv:IV}{S:List Obj}(hr:zak tObj sv S)(o:Obj)(k3:¬o.k=3)(k4:¬o.k=4)(k5:¬o.k=5)(k6:¬o.k=6):∃b:Bool,callW code ext 508 [.imm sv,zmn o] []=some (avb b,[])/\(b=true↔zao S o):=by
 rw[zad code ext h5]
 have hlen:=zau o.l.ok
 have hok:zao S o↔(o.s=.empty/\o.room=0/\o.fn=0/\(o.l.xs.length:Int)=1/\zar S o.l.xs false=true):=by
  unfold zao
  rw[if_neg k3,if_neg k4,if_neg k5,if_neg k6]
 rw[hok]
 clear hok
 have hh:=zr2 (ext:=ext) h h' h2 hr o.l.ok false
 by_cases c1:o.s=.empty
 case neg=>exact⟨false,by simp -implicitDefEqProofs [zbx,k3,k4,k5,k6,hlen,c1],by simp[c1]⟩
 by_cases c2:o.room=0
 case neg=>exact⟨false,by simp -implicitDefEqProofs [zbx,k3,k4,k5,k6,hlen,c1,c2],by simp[c1,c2]⟩
 by_cases c3:o.fn=0
 case neg=>exact⟨false,by simp -implicitDefEqProofs [zbx,k3,k4,k5,k6,hlen,c1,c2,c3],by simp[c1,c2,c3]⟩
 by_cases c4:(o.l.xs.length:Int)=1
 case neg=>exact⟨false,by simp -implicitDefEqProofs [zbx,k3,k4,k5,k6,hlen,c1,c2,c3,c4],by simp[c1,c2,c3,c4]⟩
 by_cases c5:zar S o.l.xs false=true
 case neg=>
  have c5f:zar S o.l.xs false=false:=by simpa using c5
  exact⟨false,by simp -implicitDefEqProofs [zbx,k3,k4,k5,k6,hlen,hh,c1,c2,c3,c4,c5f],by simp[c1,c2,c3,c4,c5f]⟩
 exact⟨true,by simp -implicitDefEqProofs [zbx,k3,k4,k5,k6,hlen,hh,c1,c2,c3,c4,c5],by simp[c1,c2,c3,c4,c5]⟩
theorem yfu(h:code 502=some zc9)(h':code 510=some zer)(h2:code 506=some zg1)(h3:code 503=some zd3)(h4:code 507=some zg2)(h5:code 508=some zbx){sv:IV}{S:List Obj}(hr:zak tObj sv S)(o:Obj):∃b:Bool,callW code ext 508 [.imm sv,zmn o] []=some (avb b,[])/\(b=true↔zao S o):=by
 by_cases k3:o.k=3
 ·exact yfp h h' h2 h3 h4 h5 hr o k3
 by_cases k4:o.k=4
 ·exact yfq h h' h2 h3 h4 h5 hr o k4
 by_cases k5:o.k=5
 ·exact yfr h h' h2 h3 h4 h5 hr o k5
 by_cases k6:o.k=6
 ·exact yfs h h' h2 h3 h4 h5 hr o k6
 exact yft h h' h2 h3 h4 h5 hr o k3 k4 k5 k6
end
def zft(S:List Obj)(v:Val):Prop:=zcd S v=true/\∀(k:Nat) (o:Obj),Reach S [v] k->S[k]?=some o->zao S o
section
variable {code:Nat->Option zab} {ext:zac}
theorem yfn(h:code 502=some zc9)(h':code 510=some zer)(h2:code 506=some zg1)(h3:code 503=some zd3)(h4:code 507=some zg2)(h5:code 508=some zbx)(h6:code 509=some znn)(h7:code 500=some znk)
  {sv:IV} {S:List Obj} (hr:zak tObj sv S) (v:Val) (hw:tVal.wf v) (hM:1+unm (List.replicate S.length false) S<=100000000) (hS:S.length<=1048576):
  ∃b:Bool,callW code ext 500 [.imm sv,.agg [.imm (.val (.int .u8 v.k)),zaa v.n]] []=some (avb b,[])/\(b=true↔zft S v):=by
 have hv:=z3b (ext:=ext) h h' hr v
 rw[zad code ext h7]
 cases hvv:zcd S v with
 |false=>
  rw[hvv]at hv
  exact⟨false,by simp -implicitDefEqProofs [znk,hv],by simp[zft,hvv]⟩
 |true=>
  rw[hvv]at hv
  have hq:zak tVal (.slice [.val (.int .u8 v.k),.val (.int .i64 v.n)] 0 1 (some 1)) [v]:=zi0 tVal [v] (cap:=some 1) (by simpa using hw) (by simp) (by simp)
  obtain⟨F,hI,hre⟩:=yfl (ext:=ext) h h6 hr hq (by simpa using hM) hS
  have hFl:=hI.len
  have hpl:(tBool.row F).all IV.plain=true:=by simp[Ty.row,tBool,List.all_flatMap,IV.plain]
  have loop:∀s0:St,s0.tidy [0,5,6]=⟨0,[(0,.imm sv),(5,.osl 0 0 1 S.length (some S.length)),(6,zaa 0)],[.flat (tBool.row F) false]⟩->∃e s',den code ext (.loop [0,5,6] znl) s0=some (e,s')/\e≠ .normal/\
    ((e=.exit 0/\(∀(k:Nat) (o:Obj),F[k]?=some true->S[k]?=some o->zao S o)/\s'=⟨0,[(0,.imm sv),(5,.osl 0 0 1 S.length (some S.length)),(6,zaa S.length),(18,avb false)],[.flat (tBool.row F) false]⟩)\/(e=.ret/\(¬∀(k:Nat) (o:Obj),F[k]?=some true->S[k]?=some o->zao S o)/\s'=⟨0,[(4,avb false)],[.flat (tBool.row F) false]⟩)):=by
   intro s0 hst0
   refine zbu (fun n s=>∃(i:Nat),i+n=S.length/\(∀(k:Nat) (o:Obj),k<i->F[k]?=some true->S[k]?=some o->zao S o)/\s.tidy [0,5,6]=⟨0,[(0,.imm sv),(5,.osl 0 0 1 S.length (some S.length)),(6,zaa (i:Nat))],[.flat (tBool.row F) false]⟩) _ ?_ S.length _ ⟨0,by simp,fun k o h=>by omega,hst0⟩
   clear hst0 s0
   rintro n s ⟨i,hi,hall,hst⟩
   rw[hst]
   by_cases hlt:i<S.length
   ·have hif:i<F.length:=by omega
    obtain⟨row,off,cap,hsv,hc,hcut,hget⟩:=zbv hr (xaa hlt)
    have hqf:(tBool.row F)[i]?=some (.val (.bool F[i])):=by
     have:=zz5 (ze1 (t:=tBool) (xaa hif))
     rwa [show tBool.sz=1 from rfl,Nat.mul_one]at this
    have e1:IntKind.wrap .i64 ((i:Int)+1)=(i:Int)+1:=zaw (by omega) (by omega)
    have hFi:=xaa hif
    have hSi:=xaa hlt
    obtain⟨b,hob,hbo⟩:=yfu (ext:=ext) h h' h2 h3 h4 h5 hr S[i]
    generalize S[i]=o at hget hSi hob hbo
    simp only[tObj]at hget
    have next:(F[i]=true->zao S o)->∀(k:Nat) (o:Obj),k<i+1->F[k]?=some true->S[k]?=some o->zao S o:=by
     intro hn k p hk hFk hSk
     by_cases hki:k<i
     ·exact hall k p hki hFk hSk
     ·have:k=i:=by omega
      subst this
      rw[hSi]at hSk;cases hSk
      exact hn (by rw[hFi]at hFk;simpa using hFk)
    cases hb:F[i]with
    |false=>
     rw[hb]at hqf
     refine⟨.normal,⟨0,[(0,.imm sv),(5,.osl 0 0 1 S.length (some S.length)),(6,zaa ((i:Int)+1))],[.flat (tBool.row F) false]⟩,?_,.inl ⟨rfl,n-1,by omega,i+1,by omega,next (by rw[hb];simp),by simp -implicitDefEqProofs⟩⟩
     subst hsv
     simp -implicitDefEqProofs [znl,hqf,hlt,e1]
    |true=>
     rw[hb]at hqf hFi
     cases hbb:b with
     |true=>
      rw[hbb]at hob hbo
      refine⟨.normal,⟨0,[(0,.imm sv),(5,.osl 0 0 1 S.length (some S.length)),(6,zaa ((i:Int)+1))],[.flat (tBool.row F) false]⟩,?_,.inl ⟨rfl,n-1,by omega,i+1,by omega,next (fun _=>hbo.1 rfl),by simp -implicitDefEqProofs⟩⟩
      subst hsv
      simp -implicitDefEqProofs [znl,hqf,e1,hlt,hget,hob]
     |false=>
      rw[hbb]at hob hbo
      refine⟨.ret,⟨0,[(4,avb false)],[.flat (tBool.row F) false]⟩,?_,.inr ⟨by simp,.inr ⟨rfl,fun hc=>?_,rfl⟩⟩⟩
      ·subst hsv
       simp -implicitDefEqProofs [znl,hqf,hlt,hget,hob]
      ·have:=hbo.2 (hc i o hFi hSi)
       cases this
   ·have:i=S.length:=by omega
    subst this
    refine⟨.exit 0,_,?_,.inr ⟨by simp,.inl ⟨rfl,fun k o hF hSo=>hall k o (xab.1 hSo).1 hF hSo,rfl⟩⟩⟩
    simp -implicitDefEqProofs [znl]
  obtain⟨e,s',l1,_,⟨rfl,hall,rfl⟩|⟨rfl,hall,rfl⟩⟩:=loop ⟨0,[(0,.imm sv),(5,.osl 2 0 1 S.length (some S.length)),(6,zaa 0)],[.rich [.imm (.val (.int .u8 v.k)),zaa v.n],.flat [.val (.int .u8 v.k),.val (.int .i64 v.n)] false,.flat (tBool.row F) false]⟩ (by simp -implicitDefEqProofs)
  ·refine⟨true,?_,?_⟩
   ·simp -implicitDefEqProofs [znk,hv,hre,hpl,l1]
   ·simp only[zft,hvv,true_and,true_iff]
    exact fun k o hk ho=>hall k o ((hI.done k).2 hk) ho
  ·refine⟨false,?_,?_⟩
   ·simp -implicitDefEqProofs [znk,hv,hre,hpl,l1]
   ·simp only[xan,zft,hvv,true_and,false_iff]
    exact fun hc=>hall fun k o hF ho=>hc k o ((hI.done k).1 hF) ho
end
section
variable {code:Nat->Option zab} {ext:zac}
def za1(k n:Int)(t:ByteArray)(w:Int):AV:=.agg [.imm (.val (.int .u8 k)),zaa n,zaj t,zaa w]
theorem zm6(h:code 562=some zll)(t:ByteArray):∃m,callW code ext 562 [zaj t] []=some (za1 0 0 t 0,m):=by
 refine zga ?_
 rw[zad code ext h]
 simp -implicitDefEqProofs [zll,za1]
end
section
variable {code:Nat->Option zab} {ext:zac}
theorem z9r(h:code 641=some zkd)(sv:IV)(v:Val){b:Bool}(hc:callW code ext 646 [.imm sv,.agg [.imm (.val (.int .u8 v.k)),zaa v.n]] []=some (avb b,[])):
  callW code ext 641 [.agg [.imm (.val (.int .u8 v.k)),zaa v.n],.optr 0 0] [.rich [.imm sv]]=some (avb (!b),[.rich [.imm sv]]):=by
 rw[zad code ext h]
 simp -implicitDefEqProofs [zkd,hc]
theorem z57(c:DoQ code)(sv:IV)(vs:List Val)(ck:Val->Bool)(hl:vs.length<=1000)(h:∀v∈vs,callW code ext 646 [.imm sv,.agg [.imm (.val (.int .u8 v.k)),zaa v.n]] []=some (avb (ck v),[])):
  zii code ext sv vs (vs.any fun v=> !ck v):=by
 have loop:∃e s',den code ext (.loop [0,1,7,8] zet) ⟨2,[(0,.osl 0 0 2 vs.length (some vs.length)),(1,.clo 641 [.optr 1 0]),(7,zaa vs.length),(8,zaa 0)],[.flat (tVal.row vs) false,.rich [.imm sv]]⟩=some (e,s')/\e≠ .normal/\
   ((e=.exit 0/\(vs.any fun v=> !ck v)=false/\s'=⟨2,[(0,.osl 0 0 2 vs.length (some vs.length)),(1,.clo 641 [.optr 1 0]),(7,zaa vs.length),(8,zaa vs.length),(9,avb false)],[.flat (tVal.row vs) false,.rich [.imm sv]]⟩)\/
    (e=.ret/\(vs.any fun v=> !ck v)=true/\∃i:Nat,i<vs.length/\s'=⟨2,[(4,zaa (i:Nat))],[.flat (tVal.row vs) false,.rich [.imm sv]]⟩)):=by
  refine zbu (fun n s=>∃(i:Nat),i+n=vs.length/\(∀v∈vs.take i,ck v=true)/\s=⟨2,[(0,.osl 0 0 2 vs.length (some vs.length)),(1,.clo 641 [.optr 1 0]),(7,zaa vs.length),(8,zaa (i:Nat))],[.flat (tVal.row vs) false,.rich [.imm sv]]⟩) _ ?_ vs.length _ ⟨0,by simp,by simp,rfl⟩
  rintro n _ ⟨i,hi,hok,rfl⟩
  by_cases hlt:i<vs.length
  ·have e1:IntKind.wrap .i64 ((i:Int)+1)=(i:Int)+1:=zaw (by omega) (by omega)
   have hx:=xaa hlt
   have hget:=ze1 (t:=tVal) hx
   have hs:=z9r (ext:=ext) c.c641 sv _ (h _ (xa8 hlt))
   have hmem:=xa8 hlt
   have htk:vs.take (i+1)=vs.take i++[vs[i]]:=by rw[xbg,hx];rfl
   simp only[tVal]at hget
   generalize vs[i]=v at *
   have hget':cut (tVal.row vs) (i*2) 2=some [.val (.int .u8 v.k),.val (.int .i64 v.n)]:=hget
   cases hck:ck v with
   |true=>
    refine⟨.normal,⟨2,[(0,.osl 0 0 2 vs.length (some vs.length)),(1,.clo 641 [.optr 1 0]),(7,zaa vs.length),(8,zaa ((i:Int)+1))],[.flat (tVal.row vs) false,.rich [.imm sv]]⟩,?_,.inl ⟨rfl,n-1,by omega,i+1,by omega,?_,rfl⟩⟩
    ·rw[hck]at hs
     clear hget h hok htk
     generalize tVal.row vs=R at *
     generalize vs.length=n at *
     simp only[Bool.not_true]at hs
     simp -implicitDefEqProofs [zet,hlt,hget',hs,e1]
    ·intro u hu
     rw[htk]at hu
     rcases xaj.1 hu with hu|hu
     ·exact hok u hu
     ·rw[xav.1 hu];exact hck
   |false=>
    refine⟨.ret,⟨2,[(4,zaa (i:Nat))],[.flat (tVal.row vs) false,.rich [.imm sv]]⟩,?_,.inr ⟨by simp,.inr ⟨rfl,xcc.2 ⟨v,hmem,by simp[hck]⟩,i,hlt,rfl⟩⟩⟩
    rw[hck]at hs
    clear hget h hok htk
    generalize tVal.row vs=R at *
    generalize vs.length=n at *
    simp only[Bool.not_false]at hs
    simp -implicitDefEqProofs [zet,hlt,hget',hs]
  ·have:i=vs.length:=by omega
   subst this
   refine⟨.exit 0,_,?_,.inr ⟨by simp,.inl ⟨rfl,?_,rfl⟩⟩⟩
   ·clear hok
    generalize tVal.row vs=R at *
    generalize vs.length=n at *
    simp -implicitDefEqProofs [zet]
   ·rw[xb3]
    intro v hv
    rw[xbp]at hok
    simp[hok v hv]
 obtain⟨e,s',g1,_,hq⟩:=loop
 unfold zii
 rcases hq with⟨rfl,hr,rfl⟩|⟨rfl,hr,i,hi,rfl⟩
 ·rw[hr]
  have h759:callW code ext 759 [.osl 0 0 2 vs.length (some vs.length),.clo 641 [.optr 1 0]] [.flat (tVal.row vs) false,.rich [.imm sv]]=some (zaa (-1),[.flat (tVal.row vs) false,.rich [.imm sv]]):=by
   rw[zad code ext c.c759]
   clear h hr
   generalize tVal.row vs=R at *
   generalize vs.length=n at *
   simp -implicitDefEqProofs [zbc,g1]
  rw[zad code ext c.c749]
  clear h g1 hr
  generalize tVal.row vs=R at *
  generalize vs.length=n at *
  simp -implicitDefEqProofs [zbf,h759]
 ·rw[hr]
  have h759:callW code ext 759 [.osl 0 0 2 vs.length (some vs.length),.clo 641 [.optr 1 0]] [.flat (tVal.row vs) false,.rich [.imm sv]]=some (zaa (i:Nat),[.flat (tVal.row vs) false,.rich [.imm sv]]):=by
   rw[zad code ext c.c759]
   clear h hr hi
   generalize tVal.row vs=R at *
   generalize vs.length=n at *
   simp -implicitDefEqProofs [zbc,g1]
  have h0:(0:Int)<=i:=by omega
  rw[zad code ext c.c749]
  clear h g1 hr hi
  generalize tVal.row vs=R at *
  generalize vs.length=n at *
  simp -implicitDefEqProofs [zbf,h759,h0]
theorem z84(h:code 152=some zj2){sv lv:IV}{vs:List Val}(hr:zak tVal lv vs)(hl:vs.length<=60000){ck:Val->Bool}(h5:∀v∈vs,callW code ext 500 [.imm sv,.agg [.imm (.val (.int .u8 v.k)),zaa v.n]] []=some (avb (ck v),[])):
  ∃m,callW code ext 152 [.imm (.ptr [sv] 0),.imm lv] []=some (avb (vs.all fun v=>decide (v.k≠7)&&ck v),m):=by
 have elen:=zau hr
 have loop:∃e s',den code ext (.loop [0,1,5] zle) ⟨0,[(0,.imm (.ptr [sv] 0)),(1,.imm lv),(5,zaa 0)],[]⟩=some (e,s')/\e≠ .normal/\
   (((vs.all fun v=>decide (v.k≠7)&&ck v)=true/\e=.exit 0/\∃x y z,s'=⟨0,[(0,x),(1,y),(5,z),(9,avb false)],[]⟩)\/((vs.all fun v=>decide (v.k≠7)&&ck v)=false/\e=.ret/\s'=⟨0,[(4,avb false)],[]⟩)):=by
  refine zbu (fun n s=>∃i:Nat,i+n=vs.length/\(∀v∈vs.take i,(decide (v.k≠7)&&ck v)=true)/\s=⟨0,[(0,.imm (.ptr [sv] 0)),(1,.imm lv),(5,zaa (i:Nat))],[]⟩) _ ?_ vs.length _ ⟨0,by simp,by simp,rfl⟩
  rintro n _ ⟨i,hi,hok,rfl⟩
  by_cases hlt:i<vs.length
  ·have e1:IntKind.wrap .i64 ((i:Int)+1)=(i:Int)+1:=zaw (by omega) (by omega)
   obtain⟨v,hv⟩:∃v,vs[i]?=some v:=⟨_,xaa hlt⟩
   have hmem:=xah hv
   have htk:vs.take (i+1)=vs.take i++[v]:=by rw[xbg,hv];rfl
   obtain⟨row,off,cap,rfl,_,_,hcut⟩:=zbv hr hv
   have hs:=h5 v hmem
   have hcut':cut row (off+i*2) 2=some [.val (.int .u8 v.k),.val (.int .i64 v.n)]:=hcut
   have hg:row[off+i*2]?=some (.val (.int .u8 v.k)):=by simpa using zai hcut' 0 (by decide)
   cases hx:(decide (v.k≠7)&&ck v)with
   |true=>
    refine⟨.normal,⟨0,[(0,.imm (.ptr [sv] 0)),(1,.imm (.slice row off vs.length cap)),(5,zaa ((i:Int)+1))],[]⟩,?_,.inl ⟨rfl,n-1,by omega,i+1,by omega,?_,rfl⟩⟩
    ·rw[xae,decide_eq_true_eq]at hx
     rw[hx.2]at hs
     have k7:=hx.1
     clear h5 hok htk
     generalize vs.length=n at *
     simp -implicitDefEqProofs [zle,k7,hs,hcut',hg,hlt,e1]
    ·intro u hu
     rw[htk]at hu
     rcases xaj.1 hu with hu|hu
     ·exact hok u hu
     ·rw[xav.1 hu];exact hx
   |false=>
    refine⟨.ret,⟨0,[(4,avb false)],[]⟩,?_,.inr ⟨by simp,.inr ⟨List.all_eq_false.2 ⟨v,hmem,by rw[hx];decide⟩,rfl,rfl⟩⟩⟩
    clear h5 hok htk
    by_cases k7:v.k=7
    ·generalize vs.length=n at *
     simp -implicitDefEqProofs [zle,k7,hg,hlt]
    ·have hc:ck v=false:=by simpa [k7]using hx
     rw[hc]at hs
     generalize vs.length=n at *
     simp -implicitDefEqProofs [zle,k7,hs,hcut',hg,hlt]
  ·have:i=vs.length:=by omega
   subst this
   refine⟨.exit 0,⟨0,[(0,.imm (.ptr [sv] 0)),(1,.imm lv),(5,zaa vs.length),(9,avb false)],[]⟩,?_,.inr ⟨by simp,.inl ⟨?_,rfl,_,_,_,rfl⟩⟩⟩
   ·clear hok h5
    generalize vs.length=n at *
    simp -implicitDefEqProofs [zle,elen]
   ·rw[xai]
    intro v hv
    rw[xbp]at hok
    exact hok v hv
 refine zga ?_
 rw[zad code ext h]
 unfold zj2
 generalize zle=L at *
 obtain⟨e,s',l1,_,⟨hb,rfl,x,y,z,rfl⟩|⟨hb,rfl,rfl⟩⟩:=loop
 ·rw[hb]
  simp -implicitDefEqProofs [l1]
 ·rw[hb]
  simp -implicitDefEqProofs [l1]
end
section
variable {code:Nat->Option zab} {ext:zac}
theorem z3k(h:code 166=some zhm){sv:IV}{S:List Obj}(hr:zak tObj sv S){v:Val}{k:Nat}{o:Obj}(hk:(k:Int)=v.n-1)(ho:S[k]?=some o):
  ∃m,callW code ext 166 [.imm (.ptr [sv] 0),.agg [.imm (.val (.int .u8 v.k)),zaa v.n]] []=some (.agg [.imm (.val (.int .u8 o.k)),zaj o.s,.imm o.l.iv,zaa o.room,zaa o.fn],m):=by
 obtain⟨row,off,cap,rfl,hc,hcut,hget⟩:=zbv hr ho
 simp only[tObj]at hget
 have hks:=(xab.1 ho).1
 have hb:=hr.2.1
 have e1:IntKind.wrap .i64 (v.n-1)=(k:Nat):=by rw[<-hk];exact zaw (by omega) (by omega)
 have h2:(k:Int)<S.length:=by omega
 refine zga ?_
 rw[zad code ext h]
 simp -implicitDefEqProofs [zhm,e1,h2,hget]
theorem z9v(h:code 488=some zyc){iv:IV}{S:List Obj}(ht:callW code ext 377 [.imm iv] []=some (.osl 0 0 5 S.length (some (S.length+1)),[.flat (tObj.row (S.map zam++[zap])) false])):
  callW code ext 488 [.imm iv] []=some (.optr 0 0,[.rich [.osl 1 0 5 S.length (some (S.length+1))],.flat (tObj.row (S.map zam++[zap])) false]):=by
 rw[zad code ext h]
 generalize tObj.row (S.map zam++[zap])=R at *
 have hown:(R.all IV.plain=true)\/¬(R.all IV.plain=true):=by cases R.all IV.plain<;>simp
 simp -implicitDefEqProofs [zyc,ht]
end
section
variable {code:Nat->Option zab} {ext:zac}
theorem yg2(h:code 357=some zka){iv jv:IV}{xs:List Val}(hr:zak tVal iv xs)(hs:zak tVal jv xs):callW code ext 357 [.imm iv,.imm jv] []=some (avb true,[]):=by
 have hl:=zau hr
 have hl2:=zau hs
 have hb:=hr.2.1
 have loop:∃e s',den code ext (.loop [0,1,5] zqe) ⟨0,[(0,.imm iv),(1,.imm jv),(5,zaa 0)],[]⟩=some (e,s')/\e≠ .normal/\(e=.exit 0/\s'=⟨0,[(0,.imm iv),(1,.imm jv),(5,zaa xs.length),(14,avb false)],[]⟩):=by
  refine zbu (fun n s=>∃i,i+n=xs.length/\s=⟨0,[(0,.imm iv),(1,.imm jv),(5,zaa (i:Nat))],[]⟩) _ ?_ xs.length _ ⟨0,by simp,rfl⟩
  rintro n _ ⟨i,hi,rfl⟩
  by_cases hlt:i<xs.length
  ·have hx:=xaa hlt
   obtain⟨r1,o1,c1,rfl,_,_,g1⟩:=zbv hr hx
   obtain⟨r2,o2,c2,rfl,_,_,g2⟩:=zbv hs hx
   generalize xs[i]=v at g1 g2
   simp only[tVal]at g1 g2
   have e1:IntKind.wrap .i64 ((i:Int)+1)=(i:Int)+1:=zaw (by omega) (by omega)
   have hlt':(i:Int)<xs.length:=by omega
   refine⟨.normal,⟨0,[(0,.imm (.slice r1 o1 xs.length c1)),(1,.imm (.slice r2 o2 xs.length c2)),(5,zaa ((i:Int)+1))],[]⟩,?_,.inl ⟨rfl,n-1,by omega,i+1,by omega,rfl⟩⟩
   simp -implicitDefEqProofs [zqe,hlt',g1,g2,e1]
  ·have:i=xs.length:=by omega
   subst this
   refine⟨.exit 0,⟨0,[(0,.imm iv),(1,.imm jv),(5,zaa xs.length),(14,avb false)],[]⟩,?_,.inr ⟨by simp,rfl,rfl⟩⟩
   simp -implicitDefEqProofs [zqe,hl]
 obtain⟨e,s',l1,_,rfl,rfl⟩:=loop
 rw[zad code ext h]
 unfold zka
 generalize zqe=L at *
 simp -implicitDefEqProofs [hl,hl2,l1]
def LikeObj(a b:Obj):Prop:=a.k=b.k/\a.s=b.s/\a.l.xs=b.l.xs/\a.room=b.room/\a.fn=b.fn
theorem ygx(h:code 351=some zlg)(h1:code 357=some zka){a b:Obj}(hab:LikeObj a b):
  ∃m,callW code ext 351 [.agg [.imm (.val (.int .u8 a.k)),.imm (.val (.string a.s)),.imm a.l.iv,zaa a.room,zaa a.fn],.agg [.imm (.val (.int .u8 b.k)),.imm (.val (.string b.s)),.imm b.l.iv,zaa b.room,zaa b.fn]] []=some (avb true,m):=by
 obtain⟨e1,e2,e3,e4,e5⟩:=hab
 have hb:=b.l.ok
 rw[<-e3]at hb
 have hv:=yg2 (ext:=ext) h1 a.l.ok hb
 refine zga ?_
 rw[zad code ext h,<-e1,<-e2,<-e4,<-e5]
 simp -implicitDefEqProofs [zlg,hv]
theorem ygy(h:code 352=some zng)(h1:code 351=some zlg)(h2:code 357=some zka){iv jv:IV}{A B:List Obj}(hr:zak tObj iv A)(hs:zak tObj jv B)(hl:A.length=B.length)(hab:∀(i:Nat) (a b:Obj),A[i]?=some a->B[i]?=some b->LikeObj a b):callW code ext 352 [.imm iv,.imm jv] []=some (avb true,[]):=by
 have hlA:=zau hr
 have hlB:=zau hs
 rw[<-hl]at hlB
 have hb:=hr.2.1
 have loop:∃e s',den code ext (.loop [0,1,5] zqc) ⟨0,[(0,.imm iv),(1,.imm jv),(5,zaa 0)],[]⟩=some (e,s')/\e≠ .normal/\(e=.exit 0/\s'=⟨0,[(0,.imm iv),(1,.imm jv),(5,zaa A.length),(14,avb false)],[]⟩):=by
  refine zbu (fun n s=>∃i,i+n=A.length/\s=⟨0,[(0,.imm iv),(1,.imm jv),(5,zaa (i:Nat))],[]⟩) _ ?_ A.length _ ⟨0,by simp,rfl⟩
  rintro n _ ⟨i,hi,rfl⟩
  by_cases hlt:i<A.length
  ·have hx:=xaa hlt
   have hy:=xaa (l:=B) (i:=i) (by omega)
   obtain⟨r1,o1,c1,rfl,_,_,g1⟩:=zbv hr hx
   obtain⟨r2,o2,c2,rfl,_,_,g2⟩:=zbv hs hy
   obtain⟨m,hso⟩:=ygx (ext:=ext) h1 h2 (hab i _ _ hx hy)
   generalize A[i]=a at *
   generalize B[i]'(by omega)=b at *
   simp only[tObj]at g1 g2
   rw[<-hl]
   have e1:IntKind.wrap .i64 ((i:Int)+1)=(i:Int)+1:=zaw (by omega) (by omega)
   have hlt':(i:Int)<A.length:=by omega
   refine⟨.normal,⟨0,[(0,.imm (.slice r1 o1 A.length c1)),(1,.imm (.slice r2 o2 A.length c2)),(5,zaa ((i:Int)+1))],[]⟩,?_,.inl ⟨rfl,n-1,by omega,i+1,by omega,rfl⟩⟩
   simp -implicitDefEqProofs [zqc,hlt',g1,g2,e1,hso]
  ·have:i=A.length:=by omega
   subst this
   refine⟨.exit 0,⟨0,[(0,.imm iv),(1,.imm jv),(5,zaa A.length),(14,avb false)],[]⟩,?_,.inr ⟨by simp,rfl,rfl⟩⟩
   simp -implicitDefEqProofs [zqc,hlA]
 obtain⟨e,s',l1,_,rfl,rfl⟩:=loop
 rw[zad code ext h]
 unfold zng
 generalize zqc=L at *
 simp -implicitDefEqProofs [hlA,hlB,l1]
theorem ygz(h0:code 355=some zqd)(h:code 352=some zng)(h1:code 351=some zlg)(h2:code 357=some zka){iv jv:IV}{A B:List Obj}(hr:zak tObj iv A)(hs:zak tObj jv B)(hl:A.length=B.length)(hab:∀(i:Nat) (a b:Obj),A[i]?=some a->B[i]?=some b->LikeObj a b):callW code ext 355 [.imm iv,.imm jv] []=some (avb true,[]):=by
 have hv:=ygy (ext:=ext) h h1 h2 hr hs hl hab
 rw[zad code ext h0]
 simp -implicitDefEqProofs [zqd,hv]
end
section
variable {code:Nat->Option zab} {ext:zac}
def zez(T:List Obj)(o:Obj)(v:Val):Bool:= !zcd T v||(decide (v.k=7) != decide (o.k=6))
theorem zc0(T:List Obj)(o:Obj)(l:List Val):l.any (zez T o)= !zar T l (decide (o.k=6)):=by
 unfold zar
 induction l with
 |nil=>rfl
 |cons v l ih=>
  rw[List.any_cons,xcp,ih,Bool.not_and]
  congr 1
  unfold zez
  cases zcd T v<;>cases decide (v.k=7)<;>cases decide (o.k=6)<;>rfl
end
end Go.EX

namespace Go.EX
def zdo(T:List Obj)(v:Val):Int×Int×ByteArray:=
 if v.k=3 then match za7 T v with
  |some i=>(3,0,sAt T i)
  |none=>(v.k,v.n,.empty)
 else(v.k,v.n,.empty)
def zdm(x:Int×Int×ByteArray):AV:=.agg [.imm (.val (.int .u8 x.1)),zaa x.2.1,.imm (.val (.string x.2.2))]
def zb5(acc:List (Int×Int×ByteArray)):List (AV×AV):=acc.map fun x=>(zdm x,avb true)
open Classical in
noncomputable def zea (acc:List (Int×Int×ByteArray)) (x:Int×Int×ByteArray):List (Int×Int×ByteArray):=if x∈acc then acc else acc++[x]
@[simp] theorem ylv(acc:List (Int×Int×ByteArray)):AV.refs.refsL (List.map (fun x=>x.1) (zb5 acc))=[]:=by
 unfold zb5
 induction acc with
 |nil=>rfl
 |cons x r ih=>
  have hk:(zdm x).refs=[]:=rfl
  simp only[xa4,AV.refs.refsL,ih,hk,xas]
@[simp] theorem ylw(acc:List (Int×Int×ByteArray)):AV.refs.refsL (List.map (fun x=>x.2) (zb5 acc))=[]:=by
 unfold zb5
 induction acc with
 |nil=>rfl
 |cons x r ih=>simp only[xa4,AV.refs.refsL,ih,AV.refs];rfl
@[simp] theorem ylr(f:Nat->Option Nat)(acc:List (Int×Int×ByteArray)):List.map (fun p=>(AV.ren f p.1,AV.ren f p.2)) (zb5 acc)=zb5 acc:=by
 simp[zb5,zdm,AV.ren,AV.ren.renL]
theorem z96(x:Int×Int×ByteArray):zg9 57 (zdm x)=true:=by
 have e:zg9 57 (zdm x)=(zcy [0,0,2] [.imm (.val (.int .u8 x.1)),zaa x.2.1,.imm (.val (.string x.2.2))] [.imm (.val (.int .u8 x.1)),zaa x.2.1,.imm (.val (.string x.2.2))]).isSome:=rfl
 rw[e];simp[zcy]
theorem z63(a b:ByteArray):(a==b)=decide (a=b):=by rw[Go.beq_toListBytes,bytes_beq]
theorem z97(m:Mem)(x y:Int×Int×ByteArray):zeo m 57 (zdm x) (zdm y)=some (decide (x=y)):=by
 obtain⟨a,b,c⟩:=x
 obtain⟨a',b',c'⟩:=y
 have e:zeo m 57 (zdm (a,b,c)) (zdm (a',b',c'))=zcy [0,0,2] [.imm (.val (.int .u8 a)),zaa b,.imm (.val (.string c))] [.imm (.val (.int .u8 a')),zaa b',.imm (.val (.string c'))]:=rfl
 rw[e]
 simp only[zcy,if_true,xao,xcv,xaf,z63]
 by_cases h1:a=a'<;>by_cases h2:b=b'<;>by_cases h3:c=c'<;>simp[h1,h2,h3]
theorem zq8(x:Int×Int×ByteArray):∀(acc:List (Int×Int×ByteArray)) (i:Nat),
  (x ∉ acc/\∀m,zcp m 57 (zdm x) (zb5 acc) i=some none)\/(x∈acc/\∃j,(∀m,zcp m 57 (zdm x) (zb5 acc) i=some (some (i+j)))/\acc[j]?=some x)
 |[],i=>.inl ⟨by simp,fun _=>rfl⟩
 |y::r,i=>by
  have hk:=fun m=>z97 m x y
  by_cases h:x=y
  ·subst h
   refine .inr ⟨by simp,0,fun m=>?_,rfl⟩
   simp only[zb5,xa4,zcp,hk,decide_true,xbi]
  ·have hf:∀m,zcp m 57 (zdm x) (zb5 (y::r)) i=zcp m 57 (zdm x) (zb5 r) (i+1):=fun m=>by simp only[zb5,xa4,zcp,hk,h,decide_false]
   rcases zq8 x r (i+1)with⟨h1,h2⟩|⟨h1,j,h2,h3⟩
   ·exact .inl ⟨by simp[h,h1],fun m=>by rw[hf,h2]⟩
   ·refine .inr ⟨by simp[h1],j+1,fun m=>?_,h3⟩
    rw[hf,h2];congr 2;omega
theorem zws(acc:List (Int×Int×ByteArray))(j:Nat)(x:Int×Int×ByteArray)(h:acc[j]?=some x):(zb5 acc).set j (zdm x,avb true)=zb5 acc:=by
 refine xbf fun i=>?_
 rw[List.getElem?_set]
 split
 ·rename_i hij;subst hij
  split
  ·simp[zb5,h]
  ·rename_i hl
   rw[xaq (by omega)]
 ·rfl
theorem zwt(acc:List (Int×Int×ByteArray))(x:Int×Int×ByteArray):zb5 acc++[(zdm x,avb true)]=zb5 (acc++[x]):=by simp[zb5]
section
variable {code:Nat->Option zab} {ext:zac}
noncomputable def zc2(T:List Obj)(l:List Val):Nat->List (Int×Int×ByteArray)
 |0=>[]
 |i+1=>if i%2=0 then(match l[i]? with|some v=>zea (zc2 T l i) (zdo T v)|none=>zc2 T l i)else zc2 T l i
theorem zwu(T:List Obj)(l:List Val)(i:Nat)(v:Val)(hi:i%2=0)(hv:l[i]?=some v):zc2 T l (i+2)=zea (zc2 T l i) (zdo T v):=by
 rw[zc2,if_neg (by omega),zc2,if_pos hi,hv]
end
end Go.EX


namespace Go.EX
theorem yd3(acc:List (Int×Int×ByteArray)):(zb5 acc).length=acc.length:=by simp[zb5]
section
variable {code:Nat->Option zab} {ext:zac}
end
end Go.EX

namespace Go.EX
theorem z2c(T:List Obj)(v:Val):(zdo T v).1=v.k:=by
 unfold zdo
 split
 ·split
  ·simp_all
  ·rfl
 ·rfl
theorem z2d(T:List Obj)(a b:Val)(ha:zcd T a=true)(hb:zcd T b=true):zdo T a=zdo T b↔zeq T a b=true:=by
 unfold zdo zeq
 by_cases hk:a.k=b.k
 ·rw[if_neg (show ¬(a.k≠b.k)from fun c=>c hk)]
  by_cases h0:a.k=0
  ·have hb0:b.k=0:=by omega
   unfold zcd at ha hb
   rw[if_pos h0]at ha
   rw[if_pos hb0]at hb
   simp at ha hb
   simp[h0,hb0,ha,hb]
  ·rw[if_neg h0]
   by_cases h3:a.k=3
   ·have hb3:b.k=3:=by omega
    rw[if_pos h3,if_pos hb3,if_pos h3]
    have ga:(za7 T a).isSome=true:=by
     unfold zcd at ha
     rw[if_neg (by omega),if_neg (by omega),if_neg (by omega)]at ha;exact ha
    have gb:(za7 T b).isSome=true:=by
     unfold zcd at hb
     rw[if_neg (by omega),if_neg (by omega),if_neg (by omega)]at hb;exact hb
    obtain⟨i,hi⟩:=xbm.1 ga
    obtain⟨j,hj⟩:=xbm.1 gb
    rw[hi,hj]
    by_cases hn:a.n=b.n
    ·rw[if_pos hn]
     have hij:i=j:=by
      have h1:=(ze5 hi).2.1
      have h2:=(ze5 hj).2.1
      omega
     subst hij;simp
    ·rw[if_neg hn];simp
   ·have hb3:¬b.k=3:=by omega
    rw[if_neg h3,if_neg hb3,if_neg h3]
    by_cases hn:a.n=b.n
    ·simp[hn,hk]
    ·simp[hn]
 ·rw[if_pos hk]
  refine⟨fun h=>?_,fun h=>by cases h⟩
  have h1:=z2c T a
  have h2:=z2c T b
  unfold zdo at h1 h2
  rw[h,h2]at h1
  exact absurd h1.symm hk
theorem z2f(T:List Obj)(l:List Val):∀(j:Nat),2*j<=l.length->∀x,x∈zc2 T l (2*j)↔ ∃p v,p<j/\l[2*p]?=some v/\zdo T v=x
 |0,_,x=>by
  refine⟨fun h=>by simp[zc2]at h,?_⟩
  rintro⟨p,v,h,_⟩;omega
 |j+1,hj,x=>by
  have hlt:2*j<l.length:=by omega
  have ih:=z2f T l j (by omega) x
  have hg:=xaa hlt
  have e:=zwu T l (2*j) l[2*j] (by omega) hg
  have e':2*(j+1)=2*j+2:=by omega
  rw[e',e]
  have hadd:x∈zea (zc2 T l (2*j)) (zdo T l[2*j])↔x∈zc2 T l (2*j)\/zdo T l[2*j]=x:=by
   unfold zea
   split
   ·rename_i hm
    refine⟨.inl,?_⟩
    rintro(h|h)
    ·exact h
    ·rw[<-h];exact hm
   ·simp[eq_comm]
  rw[hadd,ih]
  constructor
  ·rintro(⟨p,v,h1,h2,h3⟩|h)
   ·exact⟨p,v,by omega,h2,h3⟩
   ·exact⟨j,_,by omega,hg,h⟩
  ·rintro⟨p,v,h1,h2,h3⟩
   by_cases hp:p=j
   ·subst hp;rw[hg]at h2;cases h2;exact .inr h3
   ·exact .inl ⟨p,v,by omega,h2,h3⟩
theorem z2e(T:List Obj)(l:List Val):∀(j:Nat),2*j<=l.length->(zc2 T l (2*j)).length<=j/\
  ((zc2 T l (2*j)).length=j↔ ∀(p q:Nat) (a b:Val),q<p->p<j->l[2*p]?=some a->l[2*q]?=some b->zdo T a≠zdo T b)
 |0,_=>by
  refine⟨by simp[zc2],fun _ p q a b h1 h2=>by omega,fun _=>by simp[zc2]⟩
 |j+1,hj=>by
  have hlt:2*j<l.length:=by omega
  obtain⟨ih1,ih2⟩:=z2e T l j (by omega)
  have hm:=z2f T l j (by omega) (zdo T l[2*j])
  have hg:=xaa hlt
  have e:=zwu T l (2*j) l[2*j] (by omega) hg
  have e':2*(j+1)=2*j+2:=by omega
  rw[e',e]
  unfold zea
  split
  ·rename_i hx
   refine⟨by omega,fun h=>by omega,fun h=>?_⟩
   obtain⟨p,v,h1,h2,h3⟩:=hm.1 hx
   exact absurd h3.symm (h j p _ v h1 (by omega) hg h2)
  ·rename_i hx
   refine⟨by simp;omega,?_⟩
   rw[xak,List.length_singleton]
   constructor
   ·intro h p q a b h1 h2 h3 h4
    by_cases hp:p=j
    ·subst hp
     rw[hg]at h3;cases h3
     intro hc
     exact hx (hm.2 ⟨q,b,h1,h4,hc.symm⟩)
    ·exact ih2.1 (by omega) p q a b h1 (by omega) h3 h4
   ·intro h
    have:=ih2.2 fun p q a b h1 h2 h3 h4=>h p q a b h1 (by omega) h3 h4
    omega
theorem yac(T:List Obj)(l:List Val)(hev:l.length%2=0)(hv:∀v∈l,zcd T v=true):(zc2 T l l.length).length=l.length / 2↔zf2 T l:=by
 have hl:l.length=2*(l.length / 2):=by omega
 have h:=(z2e T l (l.length / 2) (by omega)).2
 rw[<-hl]at h
 rw[h]
 unfold zf2
 constructor
 ·intro h i k a b hi hk hlt h1 h2
  have ha:=hv a (xah h1)
  have hb:=hv b (xah h2)
  have hil:=(xab.1 h1).1
  have:=h (i / 2) (k / 2) a b (by omega) (by omega) (by rw[show 2*(i / 2)=i by omega];exact h1) (by rw[show 2*(k / 2)=k by omega];exact h2)
  rw[Ne,z2d T a b ha hb]at this
  simpa using this
 ·intro h p q a b h1 h2 h3 h4
  have ha:=hv a (xah h3)
  have hb:=hv b (xah h4)
  rw[Ne,z2d T a b ha hb,h (2*p) (2*q) a b (by omega) (by omega) (by omega) h3 h4]
  simp
section
variable {code:Nat->Option zab} {ext:zac}
theorem z7x(T:List Obj):cut (zxw T) 0 (T.length*5)=some (tObj.row T):=by
 unfold zxw
 have hr:tObj.row (T++[zap])=tObj.row T++tObj.row [zap]:=by unfold Ty.row;simp
 have hl:(tObj.row T).length=T.length*5:=zca tObj T
 rw[hr]
 refine zvm ?_ hl
 rw[xc5,<-hl,List.take_left]
end
section
variable {code:Nat->Option zab} {ext:zac}
theorem ygt(h:code 492=some zlk)(k n:Int)(t:ByteArray)(w:Int):∃m,callW code ext 492 [za1 k n t w] []=some (zaa (if t=.empty then w else 0),m):=by
 refine zga ?_
 rw[zad code ext h]
 unfold za1
 by_cases ht:t=.empty
 ·simp -implicitDefEqProofs [zlk,ht]
 ·simp -implicitDefEqProofs [zlk,ht]
end
section
variable {code:Nat->Option zab} {ext:zac}
theorem zxn(h:code 559=some zfa)(o:Obj)(h0:0<=o.room):
  ∃m,callW code ext 559 [.agg [.imm (.val (.int .u8 o.k)),.imm (.val (.string o.s)),.imm o.l.iv,zaa o.room,zaa o.fn]] []=some (zaa (zay o),m):=by
 refine zga ?_
 rw[zad code ext h]
 have hlen:=zau o.l.ok
 unfold zay
 by_cases k3:o.k=3
 ·simp -implicitDefEqProofs [zfa,k3]
 by_cases k6:o.k=6
 ·simp -implicitDefEqProofs [zfa,k6,hlen]
 by_cases k4:o.k=4
 ·by_cases hr:o.room=0
  ·simp -implicitDefEqProofs [zfa,k4,hr]
  ·have hp:0<o.room:=by omega
   simp -implicitDefEqProofs [zfa,k4,hr,hp]
 by_cases k5:o.k=5
 ·by_cases hr:o.room=0
  ·simp -implicitDefEqProofs [zfa,k5,hr]
  ·have hp:0<o.room:=by omega
   simp -implicitDefEqProofs [zfa,k5,hr,hp]
 ·simp -implicitDefEqProofs [zfa,k3,k4,k5,k6]
end
section
variable {code:Nat->Option zab} {ext:zac}
def zd8(t:ByteArray):Obj:=⟨3,t,⟨.val (.slice none 0 0),[],⟨by simp,by simp,.inl ⟨rfl,rfl⟩⟩⟩,0,0⟩
def za6(R:List IV)(n c:Nat):Mem:=[.rich [.osl 1 0 5 n (some c)],.flat R false]
theorem yga(h:code 165=some zhl)(h1:code 559=some zfa){T:List Obj}(hn:T.length<=100000000)(t:ByteArray):
  callW code ext 165 [.optr 0 0,.agg [.imm (.val (.int .u8 3)),zaj t,zae,zaa 0,zaa 0],avb false] (za6 (tObj.row (T++[zap])) T.length (T.length+1))=
   some (za1 3 ((T.length+1:Nat):Int) .empty (zay (zd8 t)),za6 (tObj.row (T++[zd8 t])) (T.length+1) (T.length+1)):=by
 obtain⟨m,hs⟩:=zxn (ext:=ext) h1 (zd8 t) (Int.le_refl 0)
 have hset:=zsc (t:=tObj) (xs:=T++[zap]) (by decide) (i:=T.length) (by simp) (zd8 t)
 have hst:(T++[zap]).set T.length (zd8 t)=T++[zd8 t]:=by simp
 rw[hst]at hset
 have henc:tObj.enc (zd8 t)=[.val (.int .u8 3),.val (.string t),.val (.slice none 0 0),.val (.int .i64 0),.val (.int .i64 0)]:=rfl
 have hz:tObj.sz=5:=rfl
 rw[henc,hz]at hset
 have hfit:(T.length+1)*5<=(tObj.row (T++[zap])).length:=by rw[zca,hz];simp
 generalize zay (zd8 t)=w at *
 simp only[zd8]at hs
 rw[zad code ext h]
 unfold za6 za1
 generalize tObj.row (T++[zd8 t])=R2 at *
 generalize tObj.row (T++[zap])=R at *
 simp -implicitDefEqProofs [zhl,hs,zaz,za0,elems,hset,hfit]
end
section
variable {code:Nat->Option zab} {ext:zac}
abbrev zv8:ByteArray:=⟨#[103,114,101,97,116]⟩
theorem ygn(h0:code 163=some zj5)(h:code 165=some zhl)(h1:code 559=some zfa){T:List Obj}(hn:T.length<=100000000)(t:ByteArray)(ht:t.size<=4096):
  callW code ext 163 [.optr 0 0,zaj t,avb false] (za6 (tObj.row (T++[zap])) T.length (T.length+1))=
   some (za1 3 ((T.length+1:Nat):Int) .empty (zay (zd8 t)),za6 (tObj.row (T++[zd8 t])) (T.length+1) (T.length+1)):=by
 have hm:=yga (ext:=ext) h h1 hn t
 generalize zay (zd8 t)=w at *
 have ht':¬(4096:Int)<t.size:=by omega
 rw[zad code ext h0]
 unfold za6 za1 at *
 generalize tObj.row (T++[zd8 t])=R2 at *
 generalize tObj.row (T++[zap])=R at *
 generalize ((T.length+1:Nat):Int)=N at *
 simp -implicitDefEqProofs [zj5,hm,ht']
end
section
variable {code:Nat->Option zab} {ext:zac}
theorem ygm(h:code 161=some zie)(h1:code 166=some zhm){sv:IV}{S:List Obj}(hr:zak tObj sv S){a b:Val}(ha:zch S a)(hb:zch S b):
  ∃m,callW code ext 161 [.imm (.ptr [sv] 0),.agg [.imm (.val (.int .u8 a.k)),zaa a.n],.agg [.imm (.val (.int .u8 b.k)),zaa b.n]] []=some (avb (zej S a b),m):=by
 refine zga ?_
 unfold zej
 by_cases hk:a.k=b.k
 ·rw[if_neg (by simpa using hk)]
  by_cases h3:a.k=3
  ·rw[if_pos h3]
   obtain⟨q,hq⟩:=ha h3
   obtain⟨p,hp⟩:=hb (by omega)
   obtain⟨q1,q2,_,_,o,q3,q4⟩:=ze5 hq
   obtain⟨p1,p2,_,_,u,p3,p4⟩:=ze5 hp
   have t1:zgl S a=o.s:=by unfold zgl zmo;rw[hq];simp[q3]
   have t2:zgl S b=u.s:=by unfold zgl zmo;rw[hp];simp[p3]
   rw[t1,t2]
   obtain⟨m1,f1⟩:=z3k (ext:=ext) h1 hr q2 q3
   obtain⟨m2,f2⟩:=z3k (ext:=ext) h1 hr p2 p3
   have hb3:b.k=3:=by omega
   rw[h3]at f1 ⊢
   rw[hb3]at f2 ⊢
   rw[zad code ext h]
   simp -implicitDefEqProofs [zie,f1,f2]
  ·rw[if_neg h3,zad code ext h,<-hk]
   by_cases h0:a.k=0
   ·simp -implicitDefEqProofs [zie,h0]
   ·simp -implicitDefEqProofs [zie,h0,h3]
 ·rw[if_pos hk,zad code ext h]
  simp -implicitDefEqProofs [zie,hk]
end
abbrev z5w:=Int×Int×ByteArray×List ByteArray
def zla(n:Nat)(t:ByteArray):z5w:=if t.size<=4096 then(3,((n+1:Nat):Int),.empty,[t])else(0,0,zv8,[])
def zwa(T:List Obj):List ByteArray->Mem
 |[]=>za6 (tObj.row (T++[zap])) T.length (T.length+1)
 |t::_=>za6 (tObj.row (T++[zd8 t])) (T.length+1) (T.length+1)
def zx7:List ByteArray->Int
 |[]=>0
 |t::_=>zay (zd8 t)
def TextAt(T:List Obj)(v:Val):Prop:=v.k=3->∃p o,za7 T v=some p/\T[p]?=some o/\o.s.size<=4096
theorem TextAt.ok{T:List Obj}{v:Val}(h:TextAt T v):zch T v:=fun h3=>by
 obtain⟨p,_,hp,_⟩:=h h3
 exact⟨p,hp⟩
def yiw:zab:=
 ⟨[.cell 10 (some 4)],(.seq (.region [0,1,4,7,8,10] [o0 7 (.box 2 (.t 2)),
 o0 8 (.box 2 (.t 3)),
 o0 10 (.alloc [(.int .u8 0),(.int .i64 0),(.string .empty),(.int .i64 0)])]) (.seq (.seq (.region [0,1,4,7,8,10,18] [o3 13 0,o6 14 2 7,o6 15 2 8,
 o0 16 (.buildSlice 2 [(.int .u8 0),(.int .i64 0)] 2 [(0,2,(.t 14)),(2,2,(.t 15))]),
 o0 17 (.call .view 152 [(.t 13),(.t 16)]),
 o0 18 (.un .not (.t 17))]) (.cond (.t 18) (.seq (.region [10] [o0 19 (.call .view 562 [(.c (.string ⟨#[107,105,110,100]⟩))]),
 o2 (.store 4 (.t 10) (.t 19))]) .ret) .skip)) (.seq (.seq (.region [0,1,4,7,8,10,25] [o3 20 1,
 o0 21 (.bin .eql (.t 20) (.c (.int .u8 8))),o3 22 21,
 o1 23 22 false (.mv (.t 1)),
 o1 24 22 false (.bin .eql (.t 23) (.c (.int .u8 9))),
 o0 25 (.pick (.t 22) (.c (.bool true)) (.t 24))]) (.cond (.t 25) (.seq (.region [10] [o3 26 0,o6 27 2 7,o6 28 2 8,
 o0 29 (.call .view 161 [(.t 26),(.t 27),(.t 28)]),o3 30 1,
 o0 31 (.bin .eql (.t 30) (.c (.int .u8 8))),
 o0 32 (.binB .eql (.t 29) (.t 31)),
 o0 33 (.call .view 557 [.t 32]),
 o0 34 (.build [(.int .u8 0),(.int .i64 0),(.string .empty),(.int .i64 0)] [(0,2,(.t 33))]),
 o2 (.store 4 (.t 10) (.t 34))]) .ret) .skip)) (.seq (.seq (.region [0,1,4,7,8,10,42] [o5 35 0 7,o4 36 35,
 o0 37 (.bin .eql (.t 36) (.c (.int .u8 2))),o3 38 37,
 o1 39 38 true (.fieldA 0 (.t 8)),
 o1 40 38 true (.load none (.t 39)),
 o1 41 38 true (.bin .eql (.t 40) (.c (.int .u8 2))),
 o0 42 (.pick (.t 38) (.t 41) (.c (.bool false)))]) (.cond (.t 42) (.seq (.region [10] [o3 43 1,o5 44 1 7,o4 45 44,o5 46 1 8,o4 47 46,
 o0 48 (.call .view 561 [(.t 43),(.t 45),(.t 47)]),
 o2 (.store 4 (.t 10) (.t 48))]) .ret) .skip)) (.seq (.seq (.region [0,1,4,7,8,10,56] [o5 49 0 7,o4 50 49,
 o0 51 (.bin .neq (.t 50) (.c (.int .u8 3))),o3 52 51,
 o1 53 52 false (.fieldA 0 (.t 8)),
 o1 54 52 false (.load none (.t 53)),
 o1 55 52 false (.bin .neq (.t 54) (.c (.int .u8 3))),
 o0 56 (.pick (.t 52) (.c (.bool true)) (.t 55))]) (.cond (.t 56) (.seq (.region [10] [o0 57 (.call .view 562 [(.c (.string ⟨#[107,105,110,100]⟩))]),
 o2 (.store 4 (.t 10) (.t 57))]) .ret) .skip)) (.seq (.region [0,1,4,8,10,11] [o3 58 0,o6 59 2 7,
 o0 60 (.call .look 166 [(.t 58),(.t 59)]),
 o0 61 (.field 1 none (.t 60)),o3 11 61]) (.seq (.region [0,1,4,10,11,12] [o3 62 0,o6 63 2 8,
 o0 64 (.call .look 166 [(.t 62),(.t 63)]),
 o0 65 (.field 1 none (.t 64)),o3 12 65]) (.seq (.seq (.region [0,4,10,11,12,66] [o3 66 1]) (.block 0 (.seq (.region [0,4,10,11,12,66,67] [o0 68 (.bin .eql (.t 66) (.c (.int .u8 1))),o3 67 68]) (.cond (.t 67) (.seq (.region [10] [o3 69 0,o3 70 11,o3 71 12,
 o0 72 (.bin .add (.t 70) (.t 71)),o3 73 4,
 o0 74 (.call .share 163 [(.t 69),(.t 72),(.t 73)]),
 o2 (.store 4 (.t 10) (.t 74))]) .ret) (.seq (.region [10,11,12,66,75] [o0 76 (.bin .eql (.t 66) (.c (.int .u8 6))),o3 75 76]) (.cond (.t 75) (.seq (.region [10] [o3 77 11,o3 78 12,
 o0 79 (.bin .lss (.t 77) (.t 78)),
 o0 80 (.call .view 557 [.t 79]),
 o0 81 (.build [(.int .u8 0),(.int .i64 0),(.string .empty),(.int .i64 0)] [(0,2,(.t 80))]),
 o2 (.store 4 (.t 10) (.t 81))]) .ret) (.seq (.region [10,11,12,82] [o0 83 (.bin .eql (.t 66) (.c (.int .u8 7))),o3 82 83]) (.cond (.t 82) (.seq (.region [10] [o3 84 11,o3 85 12,
 o0 86 (.bin .leq (.t 84) (.t 85)),
 o0 87 (.call .view 557 [.t 86]),
 o0 88 (.build [(.int .u8 0),(.int .i64 0),(.string .empty),(.int .i64 0)] [(0,2,(.t 87))]),
 o2 (.store 4 (.t 10) (.t 88))]) .ret) .skip)))))))) (.seq (.region [10] [o0 89 (.call .view 562 [(.c (.string ⟨#[107,105,110,100]⟩))]),
 o2 (.store 4 (.t 10) (.t 89))]) .ret)))))))))⟩
section
variable {code:Nat->Option zab} {ext:zac}
theorem ygg(h:code 166=some zhm){R:List IV}{N c q:Nat}{S:List Obj}(hR:∀i o,S[i]?=some o->cut R (i*5) 5=some (tObj.enc o))(hN:S.length=N)(hb:N<=100000000){v:Val}{o:Obj}(hk:(q:Int)=v.n-1)(ho:S[q]?=some o):
  callW code ext 166 [.optr 0 0,.agg [.imm (.val (.int .u8 v.k)),zaa v.n]] (za6 R N c)=some (.agg [.imm (.val (.int .u8 o.k)),zaj o.s,.imm o.l.iv,zaa o.room,zaa o.fn],za6 R N c):=by
 have hget:=hR q o ho
 simp only[tObj]at hget
 have hks:=(xab.1 ho).1
 have e1:IntKind.wrap .i64 (v.n-1)=(q:Nat):=by rw[<-hk];exact zaw (by omega) (by omega)
 have h2:(q:Int)<N:=by omega
 have h3:q<N:=by omega
 rw[zad code ext h]
 unfold za6
 simp -implicitDefEqProofs [zhm,e1,h2,hget]
theorem yf1(h0:code 163=some zj5)(h2:code 562=some zll){T:List Obj}(t:ByteArray)(ht:¬t.size<=4096):
  callW code ext 163 [.optr 0 0,zaj t,avb false] (za6 (tObj.row (T++[zap])) T.length (T.length+1))=
   some (za1 0 0 zv8 0,za6 (tObj.row (T++[zap])) T.length (T.length+1)):=by
 obtain⟨m,hg⟩:=zm6 (ext:=ext) h2 zv8
 have ht':(4096:Int)<t.size:=by omega
 rw[zad code ext h0]
 unfold za6 za1 at *
 generalize tObj.row (T++[zap])=R at *
 simp -implicitDefEqProofs [zj5,hg,ht']
theorem ygl(h0:code 163=some zj5)(h:code 165=some zhl)(h1:code 559=some zfa)(h2:code 562=some zll){T:List Obj}(hn:T.length<=100000000)(t:ByteArray):
  callW code ext 163 [.optr 0 0,zaj t,avb false] (za6 (tObj.row (T++[zap])) T.length (T.length+1))=
   some (za1 (zla T.length t).1 (zla T.length t).2.1 (zla T.length t).2.2.1 (zx7 (zla T.length t).2.2.2),zwa T (zla T.length t).2.2.2):=by
 unfold zla
 by_cases ht:t.size<=4096
 ·rw[if_pos ht];exact ygn h0 h h1 hn t ht
 ·rw[if_neg ht];exact yf1 h0 h2 t ht
end
theorem z1l:∀(R:List IV) (p:Nat) (a b c d:Nat) (e:Option Nat),p<R.length->zdx (zax R p (.osl a b c d e))=none
 |[],p,a,b,c,d,e,h=>absurd h (xcw _)
 |x::r,0,a,b,c,d,e,h=>rfl
 |x::r,p+1,a,b,c,d,e,h=>by
  have ih:=z1l r p a b c d e (by simpa using h)
  unfold zax at ih ⊢
  rw[xa4,xcg]
  show(zdx _).map _=none
  rw[ih]
  rfl
section
variable {code:Nat->Option zab} {ext:zac}
theorem z7j(h:code 743=some zfr){T:List Obj}(h0:T.length≠0)(hn:T.length<=100000000)(cap:Option Nat)(p:Nat)(hp:p<T.length*5)(n:Nat)(cp:Option Nat)(W:List IV):
  callW code ext 743 [.osl 0 0 5 T.length cap] [.rich (zax (tObj.row T) p (.osl 1 0 2 n cp)),.flat W false]=
   some (.osl 2 0 5 T.length none,[.rich (zax (tObj.row T) p (.osl 1 0 2 n cp)),.flat W false,.rich (zax (tObj.row T) p (.osl 1 0 2 n cp))]):=by
 have hrl:(tObj.row T).length=T.length*5:=zca tObj T
 have p1:=zd0
 have hrf:=zdz (R:=tObj.row T) (p:=p) (v:=.osl 1 0 2 n cp) (by omega)
 have hrl2:=z3h (tObj.row T) p (.osl 1 0 2 n cp)
 have hno:=z1l (tObj.row T) p 1 0 2 n cp (by omega)
 rw[hrl]at hrl2
 have hcut:=zdv _ hrl2
 generalize tObj.row T=R0 at *
 have h2:T.length*64<=140737488355328:=by omega
 generalize T.length=N at *
 rw[zad code ext h]
 simp -implicitDefEqProofs [zfr,zaz,za0,zb8,elems,zbr,h0,h2,hrf,p1,hcut,hno]
end
theorem z00(m:Mem)(k:Nat):∀R:List IV,(R.map AV.imm).mapM (za5 m k)=some R
 |[]=>rfl
 |x::r=>by
  rw[xa4,xa5,zol,z00 m k r]
  rfl
theorem z06(m:Mem)(k:Nat){id n:Nat}{cap:Option Nat}{W:List IV}(hm:m[id]?=some (.flat W false)):∀(R:List IV) (p:Nat),R[p]?=some (.slice W 0 n cap)->(zax R p (.osl id 0 2 n cap)).mapM (za5 m (k+1))=some R
 |[],p,h=>by simp at h
 |x::r,0,h=>by
  simp only[xbw,xaf]at h
  subst h
  unfold zax
  rw[xa4,List.set_cons_zero,xa5,z00]
  simp only[za5,hm]
  rfl
 |x::r,p+1,h=>by
  have ih:=z06 m k hm r p (by simpa using h)
  unfold zax at ih ⊢
  rw[xa4,xcg,xa5,zol,ih]
  rfl
theorem z07(m:Mem){id n:Nat}{cap:Option Nat}{W R:List IV}{p:Nat}(h:R[p]?=some (.slice W 0 n cap))(hm:m[id]?=some (.flat W false)):(zax R p (.osl id 0 2 n cap)).mapM (za5 m 19)=some R:=z06 m 18 hm R p h
section
variable {code:Nat->Option zab} {ext:zac}
end
abbrev yeo(x:IV)(k n:Int)(t:ByteArray)(w:Int):AV:=.agg [.imm x,.imm (.val (.int .u8 k)),zaa n,zaj t,zaa w]
section
variable {code:Nat->Option zab} {ext:zac}
end
def rV(R:List IV)(N q:Nat)(W W2:List IV)(n:Nat)(cap:Option Nat)(u:Int):Mem:=[.rich [.osl 1 0 5 N (some N),zaa 1152921504606846976,zaa u],.rich (zax R (q*5+2) (.osl 3 0 2 n cap)),.flat W false,.flat W2 false]
structure zyv (code:Nat->Option zab):Prop where
 c206:code 206=some zfq
 c209:code 209=some zif
 c213:code 213=some znb
 c215:code 215=some z5b
 c216:code 216=some zj8
 c218:code 218=some znc
 c580:code 580=some zlm
 c581:code 581=some zud
theorem zxm:∀(xs:List Val) (i:Nat) (x:Val),i<xs.length->setAll (tVal.row xs) (i*2) [.val (.int .u8 x.k),.val (.int .i64 x.n)]=tVal.row (xs.set i x)
 |[],i,x,h=>absurd h (xcw _)
 |y::r,0,x,h=>by simp[Ty.row,tVal,setAll]
 |y::r,i+1,x,h=>by
  have ih:=zxm r i x (by simpa using h)
  have e:(i+1)*2=i*2+1+1:=by omega
  have c1:tVal.row (y::r)=.val (.int .u8 y.k):: .val (.int .i64 y.n)::tVal.row r:=by simp[Ty.row,tVal]
  have c2:tVal.row (y::r.set i x)=.val (.int .u8 y.k):: .val (.int .i64 y.n)::tVal.row (r.set i x):=by simp[Ty.row,tVal]
  rw[xcg,c1,c2,<-ih,e]
  simp[setAll]
section
variable {code:Nat->Option zab} {ext:zac}
abbrev zc7(v:Val):AV:=.agg [.imm (.val (.int .u8 v.k)),zaa v.n]
end
theorem zqy{T:List Obj}{xs:List Val}{k:Val}{r r':Int}(h:AtV T xs k r)(h':AtV T xs k r'):r=r':=by
 rcases h with⟨rfl,h⟩|⟨j,a,rfl,h1,h2,h3⟩
 ·rcases h' with⟨rfl,_⟩|⟨j,a,rfl,h1,h2,h3⟩
  ·rfl
  ·rw[h j a h1]at h2;cases h2
 ·rcases h' with⟨rfl,h⟩|⟨j',a',rfl,h1',h2',h3'⟩
  ·rw[h j a h1]at h2;cases h2
  ·rcases Nat.lt_trichotomy j j' with hlt|rfl|hlt
   ·rw[h3' j a hlt h1]at h2;cases h2
   ·rfl
   ·rw[h3 j' a' hlt h1']at h2';cases h2'
section
variable {code:Nat->Option zab} {ext:zac}
theorem yf6(c161:code 161=some zie)(c166:code 166=some zhm){sv:IV}{T:List Obj}(hrd:zak tObj sv T){iv:IV}{xs:List Val}(hr:zak tVal iv xs)(hl:xs.length<=1000000){k:Val}(hk:zch T k)(hx:∀(j:Nat) a,xs[2*j]?=some a->zch T a):
  ∀(m:Nat) (st:St),(∃j,m+2*j=xs.length+2/\(∀(i:Nat) b,i<j->xs[2*i]?=some b->zej T b k=false)/\st.tidy [0,1,5,7]=⟨0,[(0,.imm (.ptr [sv] 0)),(1,.imm iv),(5,.optr 0 0),(7,zaa (2*j:Nat))],[.rich [.imm (.val (.int .u8 k.k)),zaa k.n]]⟩)->
   ∃x s',den code ext (.loop [0,1,5,7] zna) st=some (x,s')/\x≠ .normal/\∃r,AtV T xs k r/\((x=.exit 0/\r= -1/\∃env,s'=⟨0,env,[.rich [.imm (.val (.int .u8 k.k)),zaa k.n]]⟩)\/(x=.ret/\s'=⟨0,[(6,zaa r)],[.rich [.imm (.val (.int .u8 k.k)),zaa k.n]]⟩)):=by
 have elen:=zau hr
 refine zbu _ _ ?_
 rintro m st ⟨j,hm,hno,hst⟩
 rw[hst]
 by_cases hlt:2*j<xs.length
 ·obtain⟨a,ha⟩:∃a,xs[2*j]?=some a:=⟨_,xaa hlt⟩
  obtain⟨row,off,cap,rfl,_,_,hcut⟩:=zbv hr ha
  have hcut':cut row (off+(2*j)*2) 2=some [.val (.int .u8 a.k),.val (.int .i64 a.n)]:=hcut
  obtain⟨m1,f1⟩:=ygm (ext:=ext) c161 c166 hrd (hx j a ha) hk
  obtain⟨i,hi⟩:∃i,i=2*j:=⟨_,rfl⟩
  obtain⟨i2,hi2⟩:∃i2,i2=2*j+2:=⟨_,rfl⟩
  rw[<-hi]at hcut' hlt ⊢
  have e1:(i:Int)<xs.length:=by omega
  have e2:IntKind.wrap .i64 ((i:Int)+2)=(i2:Int):=by rw[zaw (by omega) (by omega)];omega
  cases hs:zej T a k with
  |true=>
   rw[hs]at f1
   refine⟨.ret,⟨0,[(6,zaa i)],[.rich [.imm (.val (.int .u8 k.k)),zaa k.n]]⟩,?_,.inr ⟨by simp,(i:Int),.inr ⟨j,a,by omega,ha,hs,hno⟩,.inr ⟨rfl,rfl⟩⟩⟩
   generalize xs.length=n at *
   simp -implicitDefEqProofs [zna,f1,hcut',e1]
  |false=>
   rw[hs]at f1
   refine⟨.normal,⟨0,[(0,.imm (.ptr [sv] 0)),(1,.imm (.slice row off xs.length cap)),(5,.optr 0 0),(7,zaa i2)],[.rich [.imm (.val (.int .u8 k.k)),zaa k.n]]⟩,?_,.inl ⟨rfl,m-2,by omega,j+1,by omega,?_,?_⟩⟩
   ·generalize xs.length=n at *
    simp -implicitDefEqProofs [zna,f1,hcut',e1,e2]
   ·intro q b hq hb
    by_cases hqj:q=j
    ·subst hqj
     rw[ha]at hb
     cases hb
     exact hs
    ·exact hno q b (by omega) hb
   ·have hjj:2*(j+1)=i2:=by omega
    rw[hjj]
    generalize xs.length=n at *
    simp -implicitDefEqProofs []
 ·refine⟨.exit 0,⟨0,[(0,.imm (.ptr [sv] 0)),(1,.imm iv),(5,.optr 0 0),(7,zaa (2*j:Nat)),(11,avb false)],[.rich [.imm (.val (.int .u8 k.k)),zaa k.n]]⟩,?_,.inr ⟨by simp,-1,.inl ⟨rfl,fun q b hb=>?_⟩,.inl ⟨rfl,rfl,_,rfl⟩⟩⟩
  ·obtain⟨i,hi⟩:∃i,i=2*j:=⟨_,rfl⟩
   rw[<-hi]at hlt ⊢
   have e1:¬(i:Int)<xs.length:=by omega
   generalize xs.length=n at *
   simp -implicitDefEqProofs [zna,elen,e1]
  ·have:=(xab.1 hb).1
   exact hno q b (by omega) hb
theorem yf7(h:code 164=some zsy)(c161:code 161=some zie)(c166:code 166=some zhm){sv:IV}{T:List Obj}(hrd:zak tObj sv T){iv:IV}{xs:List Val}(hr:zak tVal iv xs)(hl:xs.length<=1000000){k:Val}(hk:zch T k)(hx:∀(j:Nat) a,xs[2*j]?=some a->zch T a){r:Int}(hat:AtV T xs k r):
  ∃m,callW code ext 164 [.imm (.ptr [sv] 0),.imm iv,.agg [.imm (.val (.int .u8 k.k)),zaa k.n]] []=some (zaa r,m):=by
 obtain⟨x,s',h1,_,r',hr',hq⟩:=yf6 (code:=code) (ext:=ext) c161 c166 hrd hr hl hk hx (xs.length+2) ⟨0,[(0,.imm (.ptr [sv] 0)),(1,.imm iv),(5,.optr 0 0),(7,zaa 0)],[.rich [.imm (.val (.int .u8 k.k)),zaa k.n]]⟩ ⟨0,by omega,fun i b hi=>absurd hi (xcw i),by simp -implicitDefEqProofs []⟩
 have e:=zqy hat hr'
 subst e
 refine zga ?_
 rw[zad code ext h]
 unfold zsy
 generalize zna=L at *
 rcases hq with⟨rfl,rfl,env,rfl⟩|⟨rfl,rfl⟩
 ·simp -implicitDefEqProofs [h1]
 ·simp -implicitDefEqProofs [h1]
end
structure HeapK (T:List Obj):Prop where
 rd:zak tObj (.slice (tObj.row (T++[zap])) 0 T.length (some (T.length+1))) T
 n:T.length<=1000000
 l:∀o∈T,o.l.xs.length<=60000
section
variable {code:Nat->Option zab} {ext:zac} {T:List Obj}
theorem HeapK.cut(h:HeapK T):∀i o,T[i]?=some o->cut (tObj.row (T++[zap])) (i*5) 5=some (tObj.enc o):=fun i o ho=>ze1 (t:=tObj) (xs:=T++[zap]) (by rw[xac (xab.1 ho).1];exact ho)
theorem HeapK.obj(h:HeapK T)(c166:code 166=some zhm){v:Val}{q:Nat}{o:Obj}(hq:za7 T v=some q)(ho:T[q]?=some o):
  callW code ext 166 [.optr 0 0,.agg [.imm (.val (.int .u8 v.k)),zaa v.n]] (za6 (tObj.row (T++[zap])) T.length (T.length+1))=some (.agg [.imm (.val (.int .u8 o.k)),zaj o.s,.imm o.l.iv,zaa o.room,zaa o.fn],za6 (tObj.row (T++[zap])) T.length (T.length+1)):=by
 obtain⟨l1,l2,_⟩:=ze5 hq
 have hn:=h.n
 exact ygg c166 h.cut rfl (by omega) l2 ho
end
section
variable {code:Nat->Option zab} {ext:zac}
theorem ycf(c:PlainFns code){T:List Obj}(hn:T.length<=100000000){iv:IV}{xs:List Val}(hr:zak tVal iv xs)(hl:xs.length<=1000000){k:Val}(hk:zch T k)(hx:∀(j:Nat) a,xs[2*j]?=some a->zch T a){r:Int}(hat:AtV T xs k r):
  callW code ext 209 [.optr 0 0,.imm iv,.agg [.imm (.val (.int .u8 k.k)),zaa k.n]] (sM false T)=some (zaa r,sM false T):=by
 obtain⟨r',h1,h2⟩:=ych (ext:=ext) c (nl:=false) (T:=T) (fun e=>by cases e) hn hr hl hk hx
 rw[zqy hat h1];exact h2
end
end Go.EX

