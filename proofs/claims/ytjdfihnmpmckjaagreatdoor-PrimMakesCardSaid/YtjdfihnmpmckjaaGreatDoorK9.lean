import Derived.Test.YtjdfihnmpmckjaaGreatDoorK8
import Derived.Test.YtjdfihnmpmckjaaGreatDoorK7
import Derived.Shelf.Strings.Builder1
import Derived.Test.YtjdfihnmpmckjaaGreatDoorFmt
import Derived.Lib.ItoaLen
set_option linter.unusedVariables false
set_option linter.unusedSimpArgs false
namespace Go.EX
section
variable {code:Nat->Option zab} {ext:zac}
def Ty.part{α:Type}(t:Ty α)(z:α)(xs:List α)(n:Nat):List IV:=t.row (xs++List.replicate n z)
theorem zru{α:Type}(t:Ty α)(z:α)(xs:List α)(n:Nat):(t.part z xs n).length=(xs.length+n)*t.sz:=by
 unfold Ty.part;rw[zca];simp
theorem zrv{α:Type}(t:Ty α)(h0:0<t.sz)(z:α)(xs:List α)(n:Nat)(x:α):setAll (t.part z xs (n+1)) (xs.length*t.sz) (t.enc x)=t.part z (xs++[x]) n:=by
 unfold Ty.part
 rw[zsc h0 (by simp)]
 congr 1
 rw[xbb _ _ (xap _)]
 simp[List.replicate_succ]
def zss(sz bytes:Nat)(zs:List Value):XCode:=
 (.seq (.seq (.region [0,3,4,12] [⟨(some 9),.mv (.t 4),none⟩,
  ⟨(some 10),.mv (.t 0),none⟩,
  ⟨(some 11),.len (.t 10),none⟩,
  ⟨(some 12),.bin .lss (.t 9) (.t 11),none⟩])
 (.cond (.t 12)
  .skip
  (.exit 0)))
 (.seq (.block 1 (.region [0,3,4] [⟨(some 15),.mv (.t 3),none⟩,
  ⟨(some 16),.mv (.t 0),none⟩,
  ⟨(some 17),.mv (.t 4),none⟩,
  ⟨(some 18),.idxA sz (.t 16) (.t 17),none⟩,
  ⟨(some 19),.load (some sz) (.t 18),none⟩,
  ⟨(some 20),.buildSlice sz zs 1 [(0,sz,(.t 19))],none⟩,
  ⟨(some 21),.append sz bytes (.t 15) (.t 20),none⟩,
  ⟨(some 3),.mv (.t 21),none⟩]))
 (.region [0,3,4] [⟨(some 13),.mv (.t 4),none⟩,
  ⟨(some 14),.bin .add (.t 13) (.c (.int .i64 1)),none⟩,
  ⟨(some 4),.mv (.t 14),none⟩])))
def z4q(sz bytes:Nat)(zs:List Value)(k:Nat)(v:Value):zab:=⟨[.tmp 2],
 (.seq (.region [0] [⟨(some 2),.mv (.c (.slice none 0 0)),none⟩])
 (.seq (.region [0,3] [⟨(some 5),.mv (.t 0),none⟩,
  ⟨(some 6),.len (.t 5),none⟩,
  ⟨(some 7),.bin .add (.t 6) (.c (.int .i64 1)),none⟩,
  ⟨(some 8),.makeSlice sz bytes zs (.c (.int .i64 0)) (.t 7),none⟩,
  ⟨(some 3),.mv (.t 8),none⟩])
 (.seq (.seq (.region [0,3,4] [⟨(some 4),.mv (.c (.int .i64 0)),none⟩])
 (.block 0 (.loop [0,3,4] (zss sz bytes zs))))
 (.seq (.region [2] [⟨(some 22),.mv (.t 3),none⟩,
  ⟨(some 23),(.build zs [(k,1,(.c v))]),none⟩,
  ⟨(some 24),.buildSlice sz zs 1 [(0,sz,(.t 23))],none⟩,
  ⟨(some 25),.append sz bytes (.t 22) (.t 24),none⟩,
  ⟨(some 26),.mv (.t 0),none⟩,
  ⟨(some 27),.len (.t 26),none⟩,
  ⟨(some 28),.slice sz (.t 25) none (some (.t 27)),none⟩,
  ⟨(some 2),.mv (.t 28),none⟩])
 .ret))))⟩
section
variable {α:Type} (t:Ty α) (z sp:α) (bytes:Nat) (zs:List Value)
theorem z2n(hz:zs.map IV.val=t.enc z)(x:α):zdx (setAll (zs.map fun z=>AV.imm (.val z)) 0 ((t.enc x).map AV.imm))=some (t.enc x):=by
 have h1:zs.length=t.sz:=by rw[<-t.len z,<-hz];simp
 rw[z38 _ _ (by simp[h1,t.len])]
 simp
theorem yih(h0:0<t.sz)(hz:zs.map IV.val=t.enc z)(iv:IV)(xs:List α)(h:zak t iv xs){s:St}(hb:xs.length<9223372036854775807)
  (hst:s.tidy [0,3,4]=⟨0,[(0,.imm iv),(3,.osl 0 0 t.sz 0 (some (xs.length+1))),(4,zaa 0)],[.flat (t.part z [] (xs.length+1)) false]⟩):
  ∃e s',den code ext (.loop [0,3,4] (zss t.sz bytes zs)) s=some (e,s')/\e≠ .normal/\
   (e=.exit 0/\s'=⟨0,[(0,.imm iv),(3,.osl 0 0 t.sz xs.length (some (xs.length+1))),(4,zaa xs.length),(12,avb false)],[.flat (t.part z xs 1) false]⟩):=by
 refine zbu (fun n s=>∃i,i+n=xs.length/\s.tidy [0,3,4]=⟨0,[(0,.imm iv),(3,.osl 0 0 t.sz i (some (xs.length+1))),(4,zaa (i:Nat))],[.flat (t.part z (xs.take i) (n+1)) false]⟩) _ ?_ xs.length _ ⟨0,by simp,by simpa using hst⟩
 clear hst
 rintro n s ⟨i,hi,hst⟩
 rw[hst]
 have hlen:=zau h
 by_cases hlt:i<xs.length
 ·obtain⟨row,off,cap,rfl,hc,hcut,hget⟩:=zbv h (xaa hlt)
  have e1:IntKind.wrap .i64 ((i:Int)+1)=(i:Int)+1:=zaw (by omega) (by omega)
  obtain⟨m,rfl⟩:∃m,n=m+1:=⟨n-1,by omega⟩
  have hlt':(i:Int)<xs.length:=by omega
  have hle:((t.enc xs[i]).map AV.imm).length=t.sz:=by rw[xam,t.len]
  have hzl:(imZ (zaq 1 zs)).length=t.sz:=by rw[<-t.len z,<-hz];simp[imZ]
  have hel:∀(A B:List IV),elems [.flat A false,.flat (t.enc xs[i]) false] t.sz (.osl 1 0 t.sz 1 (some 1))=some (1,t.enc xs[i]):=by
   intro A B
   simp only[elems,xba,xbw,xc4]
   rw[zdv _ (t.len _)];rfl
  have htk:xs.take (i+1)=xs.take i++[xs[i]]:=by rw[xbg,xaa hlt];rfl
  have hset:=zrv t h0 z (xs.take i) (m+1) xs[i]
  have hti:(xs.take i).length=i:=by rw[xb7];omega
  rw[hti,<-htk]at hset
  have hfit:(i+1)*t.sz<=(t.part z (xs.take i) (m+1+1)).length:=by
   rw[zru,hti];exact xb6 _ (by omega)
  have hap:zaz ⟨0,[(20,.osl 1 0 t.sz 1 (some 1)),(19,.agg ((t.enc xs[i]).map AV.imm)),(18,.imm (.ptr row (off+i*t.sz))),(17,zaa (i:Nat)),(16,.imm (.slice row off xs.length cap)),(15,.osl 0 0 t.sz i (some (xs.length+1))),
    (0,.imm (.slice row off xs.length cap)),(3,.osl 0 0 t.sz i (some (xs.length+1))),(4,zaa (i:Nat)),(12,avb true)],[.flat (t.part z (xs.take i) (m+1+1)) false,.flat (t.enc xs[i]) false]⟩ t.sz bytes (.osl 0 0 t.sz i (some (xs.length+1))) (.osl 1 0 t.sz 1 (some 1))=
    some (.osl 0 0 t.sz (i+1) (some (xs.length+1)),⟨0,[(20,.osl 1 0 t.sz 1 (some 1)),(19,.agg ((t.enc xs[i]).map AV.imm)),(18,.imm (.ptr row (off+i*t.sz))),(17,zaa (i:Nat)),(16,.imm (.slice row off xs.length cap)),(15,.osl 0 0 t.sz i (some (xs.length+1))),
    (0,.imm (.slice row off xs.length cap)),(3,.osl 0 0 t.sz i (some (xs.length+1))),(4,zaa (i:Nat)),(12,avb true)],[.flat (t.part z (xs.take (i+1)) (m+1)) false,.flat (t.enc xs[i]) false]⟩):=by
   simp only[zaz,za0,hel _ []]
   simp[hset,hfit,show i+1<=xs.length+1 by omega]
  refine⟨.normal,⟨0,[(0,.imm (.slice row off xs.length cap)),(3,.osl 0 0 t.sz (i+1) (some (xs.length+1))),(4,zaa ((i:Int)+1))],[.flat (t.part z (xs.take (i+1)) (m+1)) false,.flat (t.enc xs[i]) false]⟩,?_,.inl ⟨rfl,m,by omega,i+1,by omega,?_⟩⟩
  ·have hone':=z2n t z zs hz xs[i]
   have hzs:zs.length=t.sz:=by rw[<-t.len z,<-hz];simp
   have hl2:=t.len xs[i]
   simp -implicitDefEqProofs [zss,hlt',hget,hl2,hzs,hone',hap,e1]
  ·simp -implicitDefEqProofs
 ·have:i=xs.length:=by omega
  subst this
  refine⟨.exit 0,⟨0,[(0,.imm iv),(3,.osl 0 0 t.sz xs.length (some (xs.length+1))),(4,zaa xs.length),(12,avb false)],[.flat (t.part z xs 1) false]⟩,?_,.inr ⟨by simp,rfl,rfl⟩⟩
  have:n=0:=by omega
  subst this
  simp -implicitDefEqProofs [zss,hlen]
theorem yii(h0:0<t.sz)(hz:zs.map IV.val=t.enc z)(hzs:∀v∈zs,v.oneCell'=true)(k:Nat)(v:Value)(hk:k+1<=t.sz)(hp:setAll (zs.map fun z=>AV.imm (.val z)) k [.imm (.val v)]=(t.enc sp).map .imm)
  {g:Nat} (hg:code g=some (z4q t.sz bytes zs k v)) {iv:IV} {xs:List α} (h:zak t iv xs) (hb1:xs.length<9223372036854775807) (hb2:bytes*(xs.length+1)<=281474976710656):
  callW code ext g [.imm iv] []=some (.osl 0 0 t.sz xs.length (some (xs.length+1)),[.flat (t.row (xs++[sp])) false]):=by
 rw[zad code ext hg]
 have hcp:zaq (xs.length+1) (zs.map IV.val)=t.part z [] (xs.length+1):=by rw[hz,zvk];rfl
 obtain⟨e,s',h1,_,rfl,rfl⟩:=yih (code:=code) (ext:=ext) t z bytes zs h0 hz iv xs h (s:=⟨0,[(0,.imm iv),(3,.osl 0 0 t.sz 0 (some (xs.length+1))),(4,zaa 0)],[.flat (t.part z [] (xs.length+1)) false]⟩) hb1 (by simp -implicitDefEqProofs)
 have hlen:=zau h
 have e1:IntKind.wrap .i64 ((xs.length:Int)+1)=(xs.length:Int)+1:=zaw (by omega) (by omega)
 have e2:(0:Int)<=(xs.length:Int)+1:=by omega
 have e3:(bytes:Int)*((xs.length:Int)+1)<=281474976710656:=by
  have:((bytes*(xs.length+1):Nat):Int)<=281474976710656:=by omega
  simpa using this
 have e4:(xs.length:Int)+1<=9223372036854775807:=by omega
 have e6:(xs.length:Int)<=(xs.length:Int)+1:=by omega
 have e5:((xs.length:Int)+1).toNat=xs.length+1:=by omega
 have hzl:zs.length=t.sz:=by rw[<-t.len z,<-hz];simp
 have hone':=z2n t z zs hz sp
 have hl2:=t.len sp
 have hel:∀(A B:List IV),elems [.flat A false,.flat (t.enc sp) false] t.sz (.osl 1 0 t.sz 1 (some 1))=some (1,t.enc sp):=by
  intro A B
  simp only[elems,xba,xbw,xc4]
  rw[zdv _ (t.len _)];rfl
 have hset:=zrv t h0 z xs 0 sp
 have hfin:t.part z (xs++[sp]) 0=t.row (xs++[sp]):=by unfold Ty.part;simp
 have hfit:(xs.length+1)*t.sz<=(t.part z xs (0+1)).length:=by rw[zru];exact xap _
 rw[hfin]at hset
 simp only[xaw]at hset hfit
 simp -implicitDefEqProofs [z4q,hlen,e6,e1,e2,e3,e4,e5,hcp,h1,hp,hk,hzl,hl2,hone',zaz,za0,hel _ [],hset,hfit,zf6]
end
end
structure Val where
 k:Int
 n:Int
 deriving DecidableEq
def tVal:Ty Val:=⟨2,true,fun v=>[.val (.int .u8 v.k),.val (.int .i64 v.n)],fun v=>(zcs .u8).wf v.k/\(zcs .i64).wf v.n,fun _=>rfl⟩
abbrev zu0:Val:=⟨0,0⟩
structure Obj where
 k:Int
 s:ByteArray
 l:Sl tVal
 room:Int
 fn:Int
def tObj:Ty Obj:=⟨5,true,fun o=>[.val (.int .u8 o.k),.val (.string o.s),o.l.iv,.val (.int .i64 o.room),.val (.int .i64 o.fn)],
 fun o=>(zcs .u8).wf o.k/\tStr.wf o.s/\(zcs .i64).wf o.room/\(zcs .i64).wf o.fn,fun _=>rfl⟩
section
variable {code:Nat->Option zab} {ext:zac}
theorem yil(h:code 380=some zkb){iv:IV}{xs:List Val}(hr:zak tVal iv xs):callW code ext 380 [.imm iv] []=some (zaa xs.length,[]):=by
 rw[zad code ext h]
 simp -implicitDefEqProofs [zkb,zau hr]
def zei(o:Obj):Int:=if (1+o.s.size:Int)<=1048576 then 1+o.s.size+o.l.xs.length else 1+o.s.size
theorem yea(h:code 380=some zkb)(h':code 338=some zj9)(o:Obj)(hw:tObj.wf o):
  callW code ext 338 [.agg [.imm (.val (.int .u8 o.k)),.imm (.val (.string o.s)),.imm o.l.iv,zaa o.room,zaa o.fn]] []=some (zaa (zei o),[]):=by
 rw[zad code ext h']
 have hs:o.s.size<=140737488355328:=hw.2.1
 have hl:=o.l.ok.2.1
 have e1:IntKind.wrap .i64 (1+(o.s.size:Int))=1+o.s.size:=zaw (by omega) (by omega)
 have e2:IntKind.wrap .i64 (1+(o.s.size:Int)+o.l.xs.length)=1+o.s.size+o.l.xs.length:=zaw (by omega) (by omega)
 have hv:=yil (ext:=ext) h o.l.ok
 by_cases hc:(1+o.s.size:Int)<=1048576
 ·simp -implicitDefEqProofs [zj9,e1,e2,hc,hv,zei]
 ·simp -implicitDefEqProofs [zj9,e1,hc,zei]
def zdq:Int->List Obj->Int
 |n,[]=>n
 |n,o::r=>if n<=1048576 then zdq (n+zei o) r else n
theorem zwx(o:Obj)(hw:tObj.wf o):1<=zei o/\zei o<=281474976710658:=by
 have hs:o.s.size<=140737488355328:=hw.2.1
 have hl:=o.l.ok.2.1
 unfold zei
 split<;>omega
theorem yed(h:code 380=some zkb)(h':code 338=some zj9)(h2:code 339=some znf){iv:IV}{xs:List Obj}(hr:zak tObj iv xs):callW code ext 339 [.imm iv] []=some (zaa (zdq xs.length xs),[]):=by
 have hlen:=zau hr
 have hb:=hr.2.1
 have loop:∃e s',den code ext (.loop [0,3,4] zqb) ⟨0,[(0,.imm iv),(3,zaa xs.length),(4,zaa 0)],[]⟩=some (e,s')/\e≠ .normal/\
   (e=.exit 0/\s'.k=0/\s'.mem=[]/\s'.env.get 3=zaa (zdq xs.length xs)):=by
  refine zbu (fun n s=>∃(i:Nat) (m:Int),i+n=xs.length/\0<=m/\m<=1000000000000000/\zdq xs.length xs=zdq m (xs.drop i)/\s=⟨0,[(0,.imm iv),(3,zaa m),(4,zaa (i:Nat))],[]⟩) _ ?_ xs.length _ ⟨0,xs.length,by simp,by omega,by omega,by simp,rfl⟩
  rintro n _ ⟨i,m,hi,hm0,hm1,hg,rfl⟩
  by_cases hlt:i<xs.length
  ·obtain⟨row,off,cap,rfl,hc,hcut,hget⟩:=zbv hr (xaa hlt)
   have e1:IntKind.wrap .i64 ((i:Int)+1)=(i:Int)+1:=zaw (by omega) (by omega)
   rw[xbl hlt,zdq]at hg
   have hw:=hr.1 _ (xa8 hlt)
   generalize xs[i]=o at hget hg hw
   have hbd:=zwx o hw
   have hs:=yea (ext:=ext) h h' o hw
   simp only[tObj]at hget
   by_cases hc2:m<=1048576
   ·rw[if_pos hc2]at hg
    have e2:IntKind.wrap .i64 (m+zei o)=m+zei o:=zaw (by omega) (by omega)
    refine⟨.normal,⟨0,[(0,.imm (.slice row off xs.length cap)),(3,zaa (m+zei o)),(4,zaa ((i:Int)+1))],[]⟩,?_,.inl ⟨rfl,n-1,by omega,i+1,_,by omega,by omega,by omega,hg,rfl⟩⟩
    simp -implicitDefEqProofs [zqb,hlt,hget,hc2,hs,e1,e2]
   ·rw[if_neg hc2]at hg
    refine⟨.exit 0,⟨0,[(0,.imm (.slice row off xs.length cap)),(3,zaa m),(4,zaa (i:Int)),(14,avb false)],[]⟩,?_,.inr ⟨by simp,rfl,rfl,rfl,by rw[hg];simp⟩⟩
    simp -implicitDefEqProofs [zqb,hlt,hc2]
  ·have:¬((i:Int)<xs.length):=by omega
   refine⟨.exit 0,⟨0,[(0,.imm iv),(3,zaa m),(4,zaa (i:Int)),(14,avb false)],[]⟩,?_,.inr ⟨by simp,rfl,rfl,rfl,?_⟩⟩
   ·simp -implicitDefEqProofs [zqb,hlen,this]
   ·rw[hg,xcs (by omega)];simp[zdq]
 obtain⟨e,s',h1,_,rfl,h3,h4,h5⟩:=loop
 rw[zad code ext h2]
 simp -implicitDefEqProofs [znf,hlen,h1,h3,h4,h5]
theorem yhi(h:code 380=some zkb)(h':code 338=some zj9)(h2:code 339=some znf)(h3:code 361=some zqf){iv:IV}{xs:List Obj}(hr:zak tObj iv xs):callW code ext 361 [.imm iv] []=some (zaa (zdq xs.length xs),[]):=by
 rw[zad code ext h3]
 simp -implicitDefEqProofs [zqf,yed h h' h2 hr]
end
section
variable {code:Nat->Option zab} {ext:zac}
def zgk:List Obj->Int
 |[]=>0
 |o::r=>o.l.xs.length+zgk r
theorem z4c:∀(l:List Obj) (m:Int),(∀o∈l,tObj.wf o)->0<=m->m<=1000000000000000->m<=zdq m l/\zdq m l<=1000000000000000
 |[],m,_,h0,h1=>⟨Int.le_refl _,h1⟩
 |o::r,m,hw,h0,h1=>by
  have hb:=zwx o (hw o (xbh ..))
  rw[zdq]
  split
  ·have:=z4c r (m+zei o) (fun x hx=>hw x (xbc _ hx)) (by omega) (by omega)
   omega
  ·omega
def zby:Val:=⟨0,7777⟩
theorem zx4(h:code 379=some zhn){iv:IV}{xs:List Val}(hr:zak tVal iv xs)(hb:xs.length<=1000000000):
  callW code ext 379 [.imm iv] []=some (.osl 0 0 2 xs.length (some (xs.length+1)),[.flat (tVal.row (xs++[zby])) false]):=
 yii tVal zu0 zby 16 [.int .u8 0,.int .i64 0] (by decide) rfl (by simp[Value.oneCell']) 1 (.int .i64 7777) (by decide) rfl (h.trans rfl) hr (by omega) (by omega)
end
section
variable {code:Nat->Option zab} {ext:zac}
theorem zz4{α:Type}(t:Ty α)(xs ys:List α):cut (t.row (xs++ys)) 0 (xs.length*t.sz)=some (t.row xs):=by
 rw[z3o]
 refine zvm ?_ (zca t xs)
 rw[xc5,<-zca t xs,List.take_left]
def zfp{α:Type}(t:Ty α)(sp:α)(xs:List α):IV:=.slice (t.row (xs++[sp])) 0 xs.length (some (xs.length+1))
theorem yh1{α:Type}(t:Ty α)(sp:α){iv:IV}{xs:List α}(h:zak t iv xs):zak t (zfp t sp xs) xs:=
 ⟨h.1,h.2.1,.inr ⟨_,0,_,rfl,fun c hc=>by cases hc;omega,zz4 t xs [sp]⟩⟩
def yie(l:Sl tVal):Sl tVal:=⟨zfp tVal zby l.xs,l.xs,yh1 tVal zby l.ok⟩
def zam(o:Obj):Obj:={ o with l:=yie o.l }
def zap:Obj:=⟨0,⟨#[115,112,97,114,101]⟩,⟨.val (.slice none 0 0),[],⟨by simp,by simp,.inl ⟨rfl,rfl⟩⟩⟩,0,0⟩
def zgo:Obj:=⟨0,.empty,⟨.val (.slice none 0 0),[],⟨by simp,by simp,.inl ⟨rfl,rfl⟩⟩⟩,0,0⟩
theorem yh3(h:code 379=some zhn)(h':code 372=some zqg)(o:Obj)(hb:o.l.xs.length<=1000000000):
  callW code ext 372 [.agg [.imm (.val (.int .u8 o.k)),.imm (.val (.string o.s)),.imm o.l.iv,zaa o.room,zaa o.fn]] []=
   some (.agg [.imm (.val (.int .u8 o.k)),.imm (.val (.string o.s)),.imm (zfp tVal zby o.l.xs),zaa o.room,zaa o.fn],[]):=by
 rw[zad code ext h']
 have ht:=zx4 (ext:=ext) h o.l.ok hb
 simp -implicitDefEqProofs [zqg,ht,zfp]
end
section
variable {code:Nat->Option zab} {ext:zac}
theorem z13(h:code 336=some zlf){iv:IV}{xs:List Val}(hr:zak tVal iv xs):callW code ext 336 [.imm (zfp tVal zby xs),.imm iv] []=some (avb true,[]):=by
 have hlen:=zau hr
 have hb:=hr.2.1
 have loop:∃e s',den code ext (.loop [0,1,5] zth) ⟨0,[(0,.imm (zfp tVal zby xs)),(1,.imm iv),(5,zaa 0)],[]⟩=some (e,s')/\e≠ .normal/\
   (e=.exit 0/\s'=⟨0,[(0,.imm (zfp tVal zby xs)),(1,.imm iv),(5,zaa xs.length),(22,avb false)],[]⟩):=by
  refine zbu (fun n s=>∃(i:Nat),i+n=xs.length/\s=⟨0,[(0,.imm (zfp tVal zby xs)),(1,.imm iv),(5,zaa (i:Nat))],[]⟩) _ ?_ xs.length _ ⟨0,by simp,rfl⟩
  rintro n _ ⟨i,hi,rfl⟩
  by_cases hlt:i<xs.length
  ·obtain⟨row,off,cap,rfl,hc,hcut,hget⟩:=zbv hr (xaa hlt)
   have e1:IntKind.wrap .i64 ((i:Int)+1)=(i:Int)+1:=zaw (by omega) (by omega)
   have hget2:=ze1 (t:=tVal) (xs:=xs++[zby]) (i:=i) (x:=xs[i]) (by rw[xac hlt];exact xaa hlt)
   generalize xs[i]=v at hget hget2
   simp only[tVal]at hget
   rw[show tVal.enc v=[.val (.int .u8 v.k),.val (.int .i64 v.n)]from rfl,show tVal.sz=2 from rfl]at hget2
   refine⟨.normal,⟨0,[(0,.imm (zfp tVal zby xs)),(1,.imm (.slice row off xs.length cap)),(5,zaa ((i:Int)+1))],[]⟩,?_,.inl ⟨rfl,n-1,by omega,i+1,by omega,rfl⟩⟩
   simp -implicitDefEqProofs [zth,hlt,hget,hget2,e1,zfp]
  ·have:i=xs.length:=by omega
   subst this
   refine⟨.exit 0,_,?_,.inr ⟨by simp,rfl,rfl⟩⟩
   simp -implicitDefEqProofs [zth,hlen]
 obtain⟨e,s',h1,_,rfl,rfl⟩:=loop
 rw[zad code ext h]
 have e1:IntKind.wrap .i64 ((xs.length:Int)+1)=(xs.length:Int)+1:=zaw (by omega) (by omega)
 have e2:(0:Int)<=(xs.length:Int)+1:=by omega
 have e5:((xs.length:Int)+1).toNat=xs.length+1:=by omega
 have e6:(xs.length:Int)<(xs.length:Int)+1:=by omega
 have e7:¬((xs.length:Int)+1<=(xs.length:Int)):=by omega
 have hget2:=ze1 (t:=tVal) (xs:=xs++[zby]) (i:=xs.length) (x:=zby) (by simp)
 rw[show tVal.enc zby=[.val (.int .u8 0),.val (.int .i64 7777)]from rfl,show tVal.sz=2 from rfl]at hget2
 simp only[zfp]at h1 ⊢
 simp -implicitDefEqProofs [zlf,hlen,h1,e1,e2,e5,e6,e7,zf6,hget2]
theorem yaq(h:code 336=some zlf)(h':code 329=some zne)(o:Obj):
  callW code ext 329 [.agg [.imm (.val (.int .u8 o.k)),.imm (.val (.string o.s)),.imm (zfp tVal zby o.l.xs),zaa o.room,zaa o.fn],.agg [.imm (.val (.int .u8 o.k)),.imm (.val (.string o.s)),.imm o.l.iv,zaa o.room,zaa o.fn]] []=some (avb true,[]):=by
 rw[zad code ext h']
 have ht:=z13 (ext:=ext) h o.l.ok
 simp -implicitDefEqProofs [zne,ht]
theorem z12(h:code 336=some zlf)(h':code 329=some zne)(h2:code 330=some zp9)(h3:code 334=some zqa){iv:IV}{xs:List Obj}(hr:zak tObj iv xs):
  callW code ext 334 [.imm (.slice (tObj.row (xs.map zam++[zap])) 0 xs.length (some (xs.length+1))),.imm iv] []=some (avb true,[]):=by
 have hlen:=zau hr
 have hb:=hr.2.1
 generalize hT:IV.slice (tObj.row (xs.map zam++[zap])) 0 xs.length (some (xs.length+1))=T
 have loop:∃e s',den code ext (.loop [0,1,5] ztg) ⟨0,[(0,.imm T),(1,.imm iv),(5,zaa 0)],[]⟩=some (e,s')/\e≠ .normal/\
   (e=.exit 0/\s'=⟨0,[(0,.imm T),(1,.imm iv),(5,zaa xs.length),(22,avb false)],[]⟩):=by
  refine zbu (fun n s=>∃(i:Nat),i+n=xs.length/\s=⟨0,[(0,.imm T),(1,.imm iv),(5,zaa (i:Nat))],[]⟩) _ ?_ xs.length _ ⟨0,by simp,rfl⟩
  rintro n _ ⟨i,hi,rfl⟩
  by_cases hlt:i<xs.length
  ·obtain⟨row,off,cap,rfl,hc,hcut,hget⟩:=zbv hr (xaa hlt)
   have e1:IntKind.wrap .i64 ((i:Int)+1)=(i:Int)+1:=zaw (by omega) (by omega)
   have hget2:=ze1 (t:=tObj) (xs:=xs.map zam++[zap]) (i:=i) (x:=zam xs[i]) (by rw[xac (by simpa using hlt),xar,xaa hlt];rfl)
   have hlo:=yaq (ext:=ext) h h' xs[i]
   generalize xs[i]=o at hget hget2 hlo
   simp only[tObj]at hget
   rw[show tObj.enc (zam o)=[.val (.int .u8 o.k),.val (.string o.s),zfp tVal zby o.l.xs,.val (.int .i64 o.room),.val (.int .i64 o.fn)]from rfl,show tObj.sz=5 from rfl]at hget2
   refine⟨.normal,⟨0,[(0,.imm T),(1,.imm (.slice row off xs.length cap)),(5,zaa ((i:Int)+1))],[]⟩,?_,.inl ⟨rfl,n-1,by omega,i+1,by omega,rfl⟩⟩
   subst hT
   simp -implicitDefEqProofs [ztg,hlt,hget,hget2,e1,hlo]
  ·have:i=xs.length:=by omega
   subst this
   refine⟨.exit 0,_,?_,.inr ⟨by simp,rfl,rfl⟩⟩
   simp -implicitDefEqProofs [ztg,hlen]
 obtain⟨e,s',h1,_,rfl,rfl⟩:=loop
 have e1:IntKind.wrap .i64 ((xs.length:Int)+1)=(xs.length:Int)+1:=zaw (by omega) (by omega)
 have e2:(0:Int)<=(xs.length:Int)+1:=by omega
 have e5:((xs.length:Int)+1).toNat=xs.length+1:=by omega
 have e6:(xs.length:Int)<(xs.length:Int)+1:=by omega
 have e7:¬((xs.length:Int)+1<=(xs.length:Int)):=by omega
 have hget2:=ze1 (t:=tObj) (xs:=xs.map zam++[zap]) (i:=xs.length) (x:=zap) (by rw[xag (by simp)];simp)
 rw[show tObj.enc zap=[.val (.int .u8 0),.val (.string ⟨#[115,112,97,114,101]⟩),.val (.slice none 0 0),.val (.int .i64 0),.val (.int .i64 0)]from rfl,show tObj.sz=5 from rfl]at hget2
 have hobjs:callW code ext 330 [.imm T,.imm iv] []=some (avb true,[]):=by
  rw[zad code ext h2]
  subst hT
  simp -implicitDefEqProofs [zp9,hlen,h1,e1,e2,e5,e6,e7,zf6,hget2]
 rw[zad code ext h3]
 simp -implicitDefEqProofs [zqa,hobjs]
end
def za7(S:List Obj)(v:Val):Option Nat:=
 if v.k<3 then none else if 7<v.k then none else if v.n<1 then none else if (S.length:Int)<v.n then none else
 match S[(v.n-1).toNat]? with
 |some o=>if o.k=v.k then some (v.n-1).toNat else none
 |none=>none
theorem ze5{S:List Obj}{v:Val}{k:Nat}(h:za7 S v=some k):k<S.length/\(k:Int)=v.n-1/\3<=v.k/\v.k<=7/\∃o,S[k]?=some o/\o.k=v.k:=by
 unfold za7 at h
 split at h
 ·cases h
 split at h
 ·cases h
 split at h
 ·cases h
 split at h
 ·cases h
 split at h
 ·rename_i o ho
  split at h
  ·rename_i hk
   cases h
   have:=(xab.1 ho).1
   exact⟨this,by omega,by omega,by omega,o,ho,hk⟩
  ·cases h
 ·cases h
inductive Reach (S:List Obj) (roots:List Val):Nat->Prop
 |root {v:Val} {j:Nat} (hv:v∈roots) (h:za7 S v=some j):Reach S roots j
 |step {k j:Nat} {o:Obj} {v:Val} (hk:Reach S roots k) (ho:S[k]?=some o) (hv:v∈o.l.xs) (h:za7 S v=some j):Reach S roots j
theorem Reach.lt{S:List Obj}{roots:List Val}{k:Nat}(h:Reach S roots k):k<S.length:=by
 cases h with
 |root _ h=>exact(ze5 h).1
 |step _ _ _ h=>exact(ze5 h).1
def unm:List Bool->List Obj->Nat
 |false::F,o::S=>o.l.xs.length+1+unm F S
 |true::F,_::S=>unm F S
 |_,_=>0
theorem z4u:∀(F:List Bool) (S:List Obj) (k:Nat) (o:Obj),F[k]?=some false->S[k]?=some o->unm (F.set k true) S+(o.l.xs.length+1)=unm F S
 |[],S,k,o,h,_=>by simp at h
 |b::F,[],k,o,_,h=>by simp at h
 |b::F,p::S,0,o,h,h'=>by simp at h h';subst h;subst h';simp[unm];omega
 |b::F,p::S,k+1,o,h,h'=>by
  simp only[xcg]
  have:=z4u F S k o (by simpa using h) (by simpa using h')
  cases b<;>simp only[unm]<;>omega
structure Marks (S:List Obj) (roots:List Val) (F:List Bool) (T:List Val):Prop where
 len:F.length=S.length
 mark:∀k,F[k]?=some true->Reach S roots k
 todo:∀v∈T,∀j,za7 S v=some j->Reach S roots j
 roots:∀v∈roots,∀j,za7 S v=some j->F[j]?=some true\/v∈T
 step:∀(k:Nat) (o:Obj),F[k]?=some true->S[k]?=some o->∀v∈o.l.xs,∀j:Nat,za7 S v=some j->F[j]?=some true\/v∈T
theorem Marks.start(S:List Obj)(roots:List Val):Marks S roots (List.replicate S.length false) roots:=
 ⟨by simp,fun k h=>by simp[List.getElem?_replicate]at h,fun v hv j h=>.root hv h,fun v hv j h=>.inr hv,fun k o h=>by simp[List.getElem?_replicate]at h⟩
theorem Marks.drop{S:List Obj}{roots:List Val}{F:List Bool}{T:List Val}{v:Val}(h:Marks S roots F (T++[v]))(hv:∀j,za7 S v=some j->F[j]?=some true):Marks S roots F T:=by
 have key:∀u j,za7 S u=some j->(F[j]?=some true\/u∈T++[v])->F[j]?=some true\/u∈T:=by
  intro u j hu h1
  rcases h1 with h1|h1
  ·exact .inl h1
  ·rw[xaj,xav]at h1
   rcases h1 with h1|rfl
   ·exact .inr h1
   ·exact .inl (hv j hu)
 exact⟨h.len,h.mark,fun u hu j hj=>h.todo u (xc0 _ hu) j hj,fun u hu j hj=>key u j hj (h.roots u hu j hj),fun k o hk ho u hu j hj=>key u j hj (h.step k o hk ho u hu j hj)⟩
theorem Marks.take{S:List Obj}{roots:List Val}{F:List Bool}{T:List Val}{v:Val}{k:Nat}{o:Obj}(h:Marks S roots F (T++[v]))(hv:za7 S v=some k)(hF:F[k]?=some false)(ho:S[k]?=some o):Marks S roots (F.set k true) (T++o.l.xs):=by
 have hkl:k<F.length:=(xab.1 hF).1
 have hk:=h.todo v (by simp) k hv
 have hset:∀j,(F.set k true)[j]?=some true↔j=k\/F[j]?=some true:=by
  intro j
  rw[List.getElem?_set]
  by_cases e:k=j
  ·subst e;simp[hkl]
  ·rw[if_neg e];simp[Ne.symm e]
 have key:∀u j,za7 S u=some j->(F[j]?=some true\/u∈T++[v])->(F.set k true)[j]?=some true\/u∈T++o.l.xs:=by
  intro u j hu h1
  rcases h1 with h1|h1
  ·exact .inl ((hset j).2 (.inr h1))
  ·rw[xaj,xav]at h1
   rcases h1 with h1|rfl
   ·exact .inr (xc0 _ h1)
   ·rw[hv]at hu;cases hu;exact .inl ((hset k).2 (.inl rfl))
 refine⟨by simp[h.len],fun j hj=>?_,fun u hu j hj=>?_,fun u hu j hj=>key u j hj (h.roots u hu j hj),fun q p hq hp u hu j hj=>?_⟩
 ·rcases(hset j).1 hj with rfl|hj
  ·exact hk
  ·exact h.mark j hj
 ·rw[xaj]at hu
  rcases hu with hu|hu
  ·exact h.todo u (xc0 _ hu) j hj
  ·exact .step hk ho hu hj
 ·rcases(hset q).1 hq with rfl|hq
  ·rw[ho]at hp;cases hp
   exact .inr (List.mem_append_right _ hu)
  ·exact key u j hj (h.step q p hq hp u hu j hj)
theorem Marks.done{S:List Obj}{roots:List Val}{F:List Bool}(h:Marks S roots F [])(k:Nat):F[k]?=some true↔Reach S roots k:=by
 refine⟨h.mark k,fun hk=>?_⟩
 induction hk with
 |root hv hl=>rcases h.roots _ hv _ hl with h|h;exact h;cases h
 |step _ ho hv hl ih=>rcases h.step _ _ ih ho _ hv _ hl with h|h;exact h;cases h
def zb4(S:List Obj):List Nat->List Val->List Nat
 |out,[]=>out
 |out,v::l=>match za7 S v with
  |some o=>if o∈out then zb4 S out l else zb4 S (out++[o]) l
  |none=>zb4 S out l
theorem zn0(S:List Obj):∀(l:List Val) (out:List Nat),∃r,zb4 S out l=out++r
 |[],out=>⟨[],by simp[zb4]⟩
 |v::l,out=>by
  rw[zb4]
  split
  ·rename_i o ho
   split
   ·exact zn0 S l out
   ·obtain⟨r,hr⟩:=zn0 S l (out++[o])
    exact⟨o::r,by rw[hr];simp⟩
  ·exact zn0 S l out
theorem znz(S:List Obj):∀(l:List Val) (out:List Nat),out.Nodup->(zb4 S out l).Nodup
 |[],out,h=>h
 |v::l,out,h=>by
  rw[zb4]
  split
  ·rename_i o ho
   split
   ·exact znz S l out h
   ·rename_i hn
    refine znz S l _ ?_
    rw[xco]
    exact⟨h,by simp,fun a ha b hb=>by simp at hb;subst hb;exact fun e=>hn (e▸ha)⟩
  ·exact znz S l out h
theorem zim(S:List Obj):∀(l:List Val) (out:List Nat) (j:Nat),j∈zb4 S out l↔j∈out\/∃v∈l,za7 S v=some j
 |[],out,j=>by simp[zb4]
 |v::l,out,j=>by
  rw[zb4]
  split
  ·rename_i o ho
   split
   ·rename_i hm
    rw[zim S l out j]
    constructor
    ·rintro(h|⟨u,hu,h⟩)
     ·exact .inl h
     ·exact .inr ⟨u,xbc _ hu,h⟩
    ·rintro(h|⟨u,hu,h⟩)
     ·exact .inl h
     ·rcases xca.1 hu with rfl|hu
      ·rw[ho]at h;cases h;exact .inl hm
      ·exact .inr ⟨u,hu,h⟩
   ·rw[zim S l _ j,xaj,xav]
    constructor
    ·rintro((h|rfl)|⟨u,hu,h⟩)
     ·exact .inl h
     ·exact .inr ⟨v,xbh ..,ho⟩
     ·exact .inr ⟨u,xbc _ hu,h⟩
    ·rintro(h|⟨u,hu,h⟩)
     ·exact .inl (.inl h)
     ·rcases xca.1 hu with rfl|hu
      ·rw[ho]at h;cases h;exact .inl (.inr rfl)
      ·exact .inr ⟨u,hu,h⟩
  ·rename_i hn
   rw[zim S l out j]
   constructor
   ·rintro(h|⟨u,hu,h⟩)
    ·exact .inl h
    ·exact .inr ⟨u,xbc _ hu,h⟩
   ·rintro(h|⟨u,hu,h⟩)
    ·exact .inl h
    ·rcases xca.1 hu with rfl|hu
     ·rw[hn]at h;cases h
     ·exact .inr ⟨u,hu,h⟩
structure Grown (S:List Obj) (roots:List Val) (out:List Nat) (i:Nat):Prop where
 nodup:out.Nodup
 reach:∀k∈out,Reach S roots k
 roots:∀v∈roots,∀j,za7 S v=some j->j∈out
 step:∀k∈out.take i,∀o:Obj,S[k]?=some o->∀v∈o.l.xs,∀j,za7 S v=some j->j∈out
theorem Grown.start(S:List Obj)(roots:List Val):Grown S roots (zb4 S [] roots) 0:=
 ⟨znz S roots [] (by simp),fun k hk=>by
  rcases(zim S roots [] k).1 hk with h|⟨v,hv,h⟩
  ·cases h
  ·exact .root hv h,fun v hv j hj=>(zim S roots [] j).2 (.inr ⟨v,hv,hj⟩),fun k hk=>by simp at hk⟩
theorem Grown.next{S:List Obj}{roots:List Val}{out:List Nat}{i k:Nat}{o:Obj}(h:Grown S roots out i)(hk:out[i]?=some k)(ho:S[k]?=some o):Grown S roots (zb4 S out o.l.xs) (i+1):=by
 have hi:=(xab.1 hk).1
 refine⟨znz S _ _ h.nodup,fun j hj=>?_,fun v hv j hj=>(zim S _ _ j).2 (.inl (h.roots v hv j hj)),fun q hq p hp v hv j hj=>?_⟩
 ·rcases(zim S _ _ j).1 hj with hj|⟨v,hv,hj⟩
  ·exact h.reach j hj
  ·exact .step (h.reach k (xah hk)) ho hv hj
 ·obtain⟨r,hr⟩:=zn0 S o.l.xs out
  rw[hr,List.take_append_of_le_length (by omega),xbg,hk,xaj]at hq
  rcases hq with hq|hq
  ·exact(zim S _ _ j).2 (.inl (h.step q hq p hp v hv j hj))
  ·simp at hq;subst hq
   rw[ho]at hp;cases hp
   exact(zim S _ _ j).2 (.inr ⟨v,hv,hj⟩)
theorem Grown.done{S:List Obj}{roots:List Val}{out:List Nat}{i:Nat}(h:Grown S roots out i)(hi:out.length<=i)(k:Nat):k∈out↔Reach S roots k:=by
 refine⟨h.reach k,fun hk=>?_⟩
 have hs:=h.step
 rw[List.take_of_length_le hi]at hs
 induction hk with
 |root hv hl=>exact h.roots _ hv _ hl
 |step _ ho hv hl ih=>exact hs _ ih _ ho _ hv _ hl
theorem Grown.short{S:List Obj}{roots:List Val}{out:List Nat}{i:Nat}(h:Grown S roots out i):out.length<=S.length:=by
 have hp:out.Perm ((List.range S.length).filter fun k=>decide (k∈out)):=(List.perm_ext_iff_of_nodup h.nodup (List.nodup_range.filter _)).2 fun k=>by
  rw[List.mem_filter,xa9]
  exact⟨fun hk=>⟨(h.reach k hk).lt,by simpa using hk⟩,fun hk=>by simpa using hk.2⟩
 rw[hp.length_eq]
 exact xb1 (List.length_filter_le _ _) (by simp)
def yit(o:Obj):Nat:=
 if o.k=3 then 2+(o.s.size+7) / 8 else if o.k=4\/o.k=5 then(if 0<o.room then 4+2*o.room.toNat else 3)else if o.k=6 then 2+2*o.l.xs.length else 3
def yis(S:List Obj)(k:Nat):Nat:=match S[k]? with
 |some o=>yit o
 |none=>0
section
variable {code:Nat->Option zab} {ext:zac}
def zjn(S:List Obj)(v:Val):Int:=match za7 S v with
 |some k=>(k:Nat)
 |none=> -1
theorem zmk(h:code 502=some zc9){sv:IV}{S:List Obj}(hr:zak tObj sv S)(v:Val):callW code ext 502 [.imm sv,.agg [.imm (.val (.int .u8 v.k)),zaa v.n]] []=some (zaa (zjn S v),[]):=by
 rw[zad code ext h]
 have hlen:=zau hr
 have hb:=hr.2.1
 unfold zjn za7
 by_cases c1:v.k<3
 ·simp -implicitDefEqProofs [zc9,c1]
 by_cases c2:7<v.k
 ·simp -implicitDefEqProofs [zc9,c1,c2]
 by_cases c3:v.n<1
 ·simp -implicitDefEqProofs [zc9,c1,c2,c3]
 by_cases c4:(S.length:Int)<v.n
 ·simp -implicitDefEqProofs [zc9,c1,c2,c3,c4,hlen]
 obtain⟨vk,vn⟩:=v
 simp only at c1 c2 c3 c4 ⊢
 obtain⟨p,rfl⟩:∃p:Nat,vn=(p:Int)+1:=⟨(vn-1).toNat,by omega⟩
 have hlt:p<S.length:=by omega
 obtain⟨row,off,cap,rfl,hc,hcut,hget⟩:=zbv hr (xaa hlt)
 have ep:((p:Int)+1-1).toNat=p:=by omega
 rw[if_neg c1,if_neg c2,if_neg c3,if_neg c4,ep,xaa hlt]
 generalize S[p]=o at hget
 simp only[tObj]at hget
 have g0:row[off+p*5]?=some (.val (.int .u8 o.k)):=zai hget 0 (by omega)
 have e1:IntKind.wrap .i64 (p:Int)=p:=zaw (by omega) (by omega)
 by_cases c5:o.k=vk
 ·simp -implicitDefEqProofs [zc9,c1,c2,c3,c4,hlen,e1,g0,c5,hlt]
 ·simp -implicitDefEqProofs [zc9,c1,c2,c3,c4,hlen,e1,g0,c5,hlt]
theorem yfk(h:code 502=some zc9)(sv:IV)(S:List Obj)(roots:List Val)(hr:zak tObj sv S)(hM:roots.length+unm (List.replicate S.length false) S<=100000000){s:St}(C:List IV)(mv:Bool)(hC:cut C 0 (roots.length*2)=some (tVal.row roots))
  (hst:s.tidy [0,5,6]=⟨0,[(0,.imm sv),(5,.osl 0 0 1 S.length (some S.length)),(6,.osl 1 0 2 roots.length none)],[.flat (tBool.row (List.replicate S.length false)) false,.flat C mv]⟩):
  ∃e s',den code ext (.loop [0,5,6] zkc) s=some (e,s')/\e≠ .normal/\
   (e=.exit 0/\∃F C' mv',Marks S roots F []/\s'=⟨0,[(0,.imm sv),(5,.osl 0 0 1 S.length (some S.length)),(6,.osl 1 0 2 0 none),(16,avb false)],[.flat (tBool.row F) false,.flat C' mv']⟩):=by
 refine zbu (fun n s=>∃(F:List Bool) (T:List Val) (C:List IV) (mv:Bool),n=T.length+unm F S/\n<=100000000/\Marks S roots F T/\cut C 0 (T.length*2)=some (tVal.row T)/\
  s.tidy [0,5,6]=⟨0,[(0,.imm sv),(5,.osl 0 0 1 S.length (some S.length)),(6,.osl 1 0 2 T.length none)],[.flat (tBool.row F) false,.flat C mv]⟩) _ ?_ _ _ ⟨_,roots,C,mv,rfl,hM,.start S roots,hC,hst⟩
 clear hst hC C mv s hM
 rintro n s ⟨F,T,C,mv,hn,hnb,hI,hC,hst⟩
 rw[hst]
 have hFl:=hI.len
 rcases List.eq_nil_or_concat T with rfl|⟨T0,v,rfl⟩
 ·refine⟨.exit 0,⟨0,[(0,.imm sv),(5,.osl 0 0 1 S.length (some S.length)),(6,.osl 1 0 2 0 none),(16,avb false)],[.flat (tBool.row F) false,.flat C mv]⟩,?_,.inr ⟨by simp,rfl,F,C,mv,hI,rfl⟩⟩
  simp -implicitDefEqProofs [zkc]
 ·have hlv:=zmk (ext:=ext) h hr v
  have e0:(0:Int)<(T0.length:Int)+1:=by omega
  simp only[xak,xax,xaz,xaw,List.concat_eq_append]at hn hC hI ⊢
  have e1:IntKind.wrap .i64 (T0.length:Int)=T0.length:=zaw (by omega) (by omega)
  have e2:((T0.length:Int)+1-1)=T0.length:=by omega
  have e3:(T0.length:Int)<(T0.length:Int)+1:=by omega
  have e4:(T0.length:Int)<=(T0.length:Int)+1:=by omega
  have hcv:cut C (T0.length*2) 2=some [.val (.int .u8 v.k),.val (.int .i64 v.n)]:=by
   have:=zoe hC (a:=T0.length*2) (b:=2) (by omega)
   rw[xaw]at this
   rw[this]
   exact ze1 (t:=tVal) (i:=T0.length) (x:=v) (by simp)
  have hc0:cut C 0 (T0.length*2)=some (tVal.row T0):=by
   have:=zoe hC (a:=0) (b:=T0.length*2) (by omega)
   rw[xaw]at this
   rw[this]
   exact zz4 tVal T0 [v]
  cases hl:za7 S v with
  |none=>
   have hli:zjn S v= -1:=by simp[zjn,hl]
   rw[hli]at hlv
   refine⟨.normal,⟨0,[(0,.imm sv),(5,.osl 0 0 1 S.length (some S.length)),(6,.osl 1 0 2 T0.length none),(7,zaa (-1)),(38,avb false)],[.flat (tBool.row F) false,.flat C mv]⟩,?_,.inl ⟨rfl,T0.length+unm F S,by omega,F,T0,C,mv,rfl,by omega,hI.drop (fun j hj=>by rw[hl]at hj;cases hj),hc0,?_⟩⟩
   ·simp -implicitDefEqProofs [zkc,e0,e1,e2,e3,e4,hcv,hlv,zf6]
   ·simp -implicitDefEqProofs
  |some k=>
   have hli:zjn S v=(k:Nat):=by simp[zjn,hl]
   rw[hli]at hlv
   obtain⟨hks,_,_,_,o,ho,_⟩:=ze5 hl
   have hkF:k<F.length:=by omega
   have hF:=xaa hkF
   have hks':(k:Int)<S.length:=by omega
   have hfe:(tBool.row F)[k]?=some (.val (.bool F[k])):=by
    have:=zz5 (ze1 (t:=tBool) hF)
    rwa [show tBool.sz=1 from rfl,Nat.mul_one]at this
   cases hb:F[k]with
   |true=>
    rw[hb]at hF hfe
    refine⟨.normal,⟨0,[(0,.imm sv),(5,.osl 0 0 1 S.length (some S.length)),(6,.osl 1 0 2 T0.length none),(7,zaa k),(38,avb false)],[.flat (tBool.row F) false,.flat C mv]⟩,?_,.inl ⟨rfl,T0.length+unm F S,by omega,F,T0,C,mv,rfl,by omega,hI.drop (fun j hj=>by rw[hl]at hj;cases hj;exact hF),hc0,?_⟩⟩
    ·simp -implicitDefEqProofs [zkc,e0,e1,e2,e3,e4,hcv,hlv,zf6,hks',hfe]
    ·simp -implicitDefEqProofs
   |false=>
    rw[hb]at hF hfe
    obtain⟨row,off,cap,rfl,hc,hcut,hget⟩:=zbv hr ho
    simp only[tObj]at hget
    have g2:row[off+k*5+2]?=some o.l.iv:=zai hget 2 (by omega)
    have hset:=zsc (t:=tBool) (xs:=F) (by decide) (i:=k) (by omega) true
    have hset':setAll (tBool.row F) k [.val (.bool true)]=tBool.row (F.set k true):=by rw[show tBool.sz=1 from rfl,Nat.mul_one]at hset;exact hset
    have hle:k+1<=(tBool.row F).length:=by rw[zca];simp only[tBool];omega
    have hel:=fun m=>zq5 (t:=tVal) m o.l.ok
    rw[show tVal.sz=2 from rfl]at hel
    have hum:=z4u F S k o hF ho
    have hbd:(T0.length+o.l.xs.length)*16<=140737488355328:=by omega
    refine⟨.normal,⟨0,[(0,.imm (.slice row off S.length cap)),(5,.osl 0 0 1 S.length (some S.length)),(6,.osl 1 0 2 (T0.length+o.l.xs.length) none)],[.flat (tBool.row (F.set k true)) false,.flat (tVal.row (T0++o.l.xs)) false]⟩,?_,.inl ⟨rfl,(T0++o.l.xs).length+unm (F.set k true) S,by rw[xak];omega,F.set k true,T0++o.l.xs,tVal.row (T0++o.l.xs),false,rfl,by rw[xak];omega,hI.take hl hF ho,zec tVal _,?_⟩⟩
    ·simp -implicitDefEqProofs [zkc,e0,e1,e2,e3,e4,hcv,hlv,zf6,hks',hfe,g2,hset',hle,zaz,za0,hel,hc0,hbd,z3o]
    ·simp -implicitDefEqProofs
theorem yfl(h:code 502=some zc9)(h':code 509=some znn){sv rv:IV}{S:List Obj}{roots:List Val}(hr:zak tObj sv S)(hq:zak tVal rv roots)(hM:roots.length+unm (List.replicate S.length false) S<=100000000)(hS:S.length<=1048576):
  ∃F,Marks S roots F []/\callW code ext 509 [.imm sv,.imm rv] []=some (.osl 0 0 1 S.length (some S.length),[.flat (tBool.row F) false]):=by
 have hlen:=zau hr
 have hlen2:=zau hq
 have hz:zaq S.length [IV.val (.bool false)]=tBool.row (List.replicate S.length false):=zvk (t:=tBool) S.length false
 have e1:(S.length:Int)<=281474976710656:=by omega
 have e2:(S.length:Int)<=9223372036854775807:=by omega
 have hel:=fun m=>zq5 (t:=tVal) m hq
 rw[show tVal.sz=2 from rfl]at hel
 have hbd:roots.length*16<=140737488355328:=by omega
 rw[zad code ext h']
 by_cases h0:roots=[]
 ·subst h0
  refine⟨List.replicate S.length false,.start S [],?_⟩
  have hl:den code ext (.loop [0,5,6] zkc) ⟨0,[(0,.imm sv),(5,.osl 0 0 1 S.length (some S.length)),(6,zae)],[.flat (tBool.row (List.replicate S.length false)) false]⟩=some (.exit 0,⟨0,[(0,.imm sv),(5,.osl 0 0 1 S.length (some S.length)),(6,zae),(16,avb false)],[.flat (tBool.row (List.replicate S.length false)) false]⟩):=by
   rw[zfi]
   simp -implicitDefEqProofs [zkc]
  simp -implicitDefEqProofs [znn,hlen,hz,e1,e2,zaz,za0,hel,hl]
 ·have hne:¬roots.length=0:=fun e=>h0 (xat e)
  obtain⟨e,s',h1,_,rfl,F,C',mv',hI,rfl⟩:=yfk (ext:=ext) h sv S roots hr hM (tVal.row roots) false (zec tVal roots)
   (s:=⟨0,[(0,.imm sv),(5,.osl 0 0 1 S.length (some S.length)),(6,.osl 1 0 2 roots.length none)],[.flat (tBool.row (List.replicate S.length false)) false,.flat (tVal.row roots) false]⟩) (by simp -implicitDefEqProofs)
  refine⟨F,hI,?_⟩
  simp -implicitDefEqProofs [znn,hlen,hz,e1,e2,zaz,za0,hel,hbd,h0,h1]
end
def zo8(s:Nat)(out:List Nat):List AV:=out.map fun k=>.optr s (k*5)
def zk8(s:Nat)(out:List Nat):List (AV×AV):=out.map fun k=>(.optr s (k*5),avb true)
@[simp] theorem yl3(f:Nat->Option Nat)(s:Nat)(out:List Nat)(h:(f s).isSome=true):AV.ren.renL f (zo8 s out)=zo8 ((f s).getD 0) out:=by
 obtain⟨j,hj⟩:=xbm.1 h
 rw[zfm]
 simp[zo8,AV.ren,hj]
@[simp] theorem ymi(f:Nat->Option Nat)(s:Nat)(out:List Nat)(h:(f s).isSome=true):List.map (fun p=>(AV.ren f p.1,AV.ren f p.2)) (zk8 s out)=zk8 ((f s).getD 0) out:=by
 obtain⟨j,hj⟩:=xbm.1 h
 simp[zk8,AV.ren,hj]
@[simp] theorem ylx(s:Nat)(out:List Nat):AV.refs.refsL (zo8 s out)=List.replicate out.length s:=by
 unfold zo8
 induction out with
 |nil=>rfl
 |cons x r ih=>simp only[xa4,AV.refs.refsL,ih,AV.refs,xax,List.replicate_succ];rfl
@[simp] theorem ylz(s:Nat)(out:List Nat):AV.refs.refsL (List.map (fun x=>x.1) (zk8 s out))=List.replicate out.length s:=by
 unfold zk8
 induction out with
 |nil=>rfl
 |cons x r ih=>simp only[xa4,AV.refs.refsL,ih,AV.refs,xax,List.replicate_succ];rfl
@[simp] theorem yl0(s:Nat)(out:List Nat):AV.refs.refsL (List.map (fun x=>x.2) (zk8 s out))=[]:=by
 unfold zk8
 induction out with
 |nil=>rfl
 |cons x r ih=>simp only[xa4,AV.refs.refsL,ih,AV.refs];rfl
theorem zr0(m:Mem):∀(n:Nat) (todo acc:List Nat),(∀x∈todo,x∈acc)->reach m n todo acc=acc
 |0,_,_,_=>rfl
 |n+1,[],_,_=>rfl
 |n+1,x::todo,acc,h=>by
  rw[reach,if_pos (h x (xbh ..))]
  exact zr0 m n todo acc fun y hy=>h y (xbc _ hy)
@[simp] theorem yls(m:Mem)(n a s:Nat)(acc:List Nat)(h:s∈acc):reach m n (List.replicate a s) acc=acc:=
 zr0 m n _ acc fun x hx=>by rw[xby hx];exact h
@[simp] theorem ylt(m:Mem)(n a b s t:Nat)(acc:List Nat)(h:s∈acc)(h':t∈acc):reach m n (List.replicate a s++List.replicate b t) acc=acc:=
 zr0 m n _ acc fun x hx=>by
  rcases xaj.1 hx with hx|hx
  ·rw[xby hx];exact h
  ·rw[xby hx];exact h'
@[simp] theorem ylu(m:Mem)(n a b c s t u:Nat)(acc:List Nat)(h:s∈acc)(h':t∈acc)(h2:u∈acc):reach m n (List.replicate a s++(List.replicate b t++List.replicate c u)) acc=acc:=
 zr0 m n _ acc fun x hx=>by
  rcases xaj.1 hx with hx|hx
  ·rw[xby hx];exact h
  ·rcases xaj.1 hx with hx|hx
   ·rw[xby hx];exact h'
   ·rw[xby hx];exact h2
section
variable {code:Nat->Option zab} {ext:zac}
def zxw(T:List Obj):List IV:=tObj.row (T++[zap])
end
abbrev zaj(b:ByteArray):AV:=.imm (.val (.string b))
section
variable {code:Nat->Option zab} {ext:zac}
end
def dig(n:Int):ByteArray:=⟨(Go.Lib.itoa n).toArray⟩
def zmo(S:List Obj)(v:Val):Option Obj:=(za7 S v).bind fun k=>S[k]?
section
variable {code:Nat->Option zab} {ext:zac}
end
theorem z78{n:Int}(h:(zcs .i64).wf n):(dig n).size<=21:=by
 obtain⟨h0,h1⟩:=wfI64.1 h
 have:=Go.Lib.itoa_length_le n h0 h1
 show(Go.Lib.itoa n).toArray.size<=21
 simpa using this
section
variable {code:Nat->Option zab} {ext:zac}
end
theorem zga{x:Option (AV×Mem)}{r:AV}(h:x.map Prod.fst=some r):∃m,x=some (r,m):=by
 cases x with
 |none=>cases h
 |some p=>obtain⟨a,m⟩:=p;cases h;exact⟨m,rfl⟩
section
variable {code:Nat->Option zab} {ext:zac}
end
def zay(o:Obj):Int:=
 if o.k=3 then IntKind.wrap .i64 (2+IntKind.wrap .i64 ((IntKind.wrap .i64 ((o.s.size:Int)+7)).tdiv 8))
 else if o.k=6 then IntKind.wrap .i64 (2+IntKind.wrap .i64 (2*(o.l.xs.length:Int)))
 else if (o.k=4\/o.k=5)/\0<o.room then IntKind.wrap .i64 (4+IntKind.wrap .i64 (2*o.room))
 else 3
section
variable {code:Nat->Option zab} {ext:zac}
theorem zm4(h:code 578=some zfb)(o:Obj):
  ∃m,callW code ext 578 [.agg [.imm (.val (.int .u8 o.k)),.imm (.val (.string o.s)),.imm o.l.iv,zaa o.room,zaa o.fn]] []=some (zaa (zay o),m):=by
 refine zga ?_
 rw[zad code ext h]
 have hlen:=zau o.l.ok
 unfold zay
 by_cases k3:o.k=3
 ·simp -implicitDefEqProofs [zfb,k3]
 by_cases k6:o.k=6
 ·simp -implicitDefEqProofs [zfb,k6,hlen]
 by_cases k4:o.k=4
 ·by_cases hr:0<o.room
  ·simp -implicitDefEqProofs [zfb,k4,hr]
  ·simp -implicitDefEqProofs [zfb,k4,hr]
 by_cases k5:o.k=5
 ·by_cases hr:0<o.room
  ·simp -implicitDefEqProofs [zfb,k5,hr]
  ·simp -implicitDefEqProofs [zfb,k5,hr]
 ·simp -implicitDefEqProofs [zfb,k3,k4,k5,k6]
theorem zzy(h:code 742=some zda):callW code ext 742 [zae] []=some (zae,[]):=by
 rw[zad code ext h]
 simp -implicitDefEqProofs [zda]
theorem zzx(h:code 742=some zda)(row:List IV)(off:Nat)(cap:Option Nat):callW code ext 742 [.imm (.slice row off 0 cap)] []=some (.osl 0 0 2 0 (some 0),[.flat [] false]):=by
 rw[zad code ext h]
 have hc:cut row off 0=some []:=by simp[cut]
 simp -implicitDefEqProofs [zda,zaz,za0,elems,hc]
theorem zvj(h:code 742=some zda){row:List IV}{off n:Nat}{cap:Option Nat}{R:List IV}(hc:cut row off (n*2)=some R)(h0:0<n)(hn:n<=1000000000):callW code ext 742 [.imm (.slice row off n cap)] []=some (.osl 0 0 2 n none,[.flat R false]):=by
 rw[zad code ext h]
 have h1:¬n=0:=by omega
 have h2:n*16<=140737488355328:=by omega
 simp -implicitDefEqProofs [zda,zaz,za0,elems,hc,h1,h2]
theorem z7i(h:code 740=some zes):callW code ext 740 [zae] []=some (zae,[]):=by
 rw[zad code ext h]
 simp -implicitDefEqProofs [zes,zfj]
def zbt:IV->Bool
 |.val _=>true
 |_=>false
def zfg(l:Sl tVal):Sl tVal:=
 if zbt l.iv=true then l else⟨.slice (tVal.row l.xs) 0 l.xs.length (some l.xs.length),l.xs,⟨l.ok.1,l.ok.2.1,.inr ⟨_,0,_,rfl,fun c h=>by cases h;exact xap _,zec tVal l.xs⟩⟩⟩
def zaf(o:Obj):Obj:={ o with l:=zfg o.l }
theorem z3p:∀(xs:List Obj) (i:Nat) (o:Obj) (l:Sl tVal),xs[i]?=some o->(tObj.row xs).set (i*5+2) l.iv=tObj.row (xs.set i { o with l:=l })
 |[],i,o,l,h=>by cases h
 |x::r,0,o,l,h=>by
  cases h
  simp[Ty.row,tObj]
 |x::r,i+1,o,l,h=>by
  have ih:=z3p r i o l (by simpa using h)
  have e:(i+1)*5+2=(i*5+2)+1+1+1+1+1:=by omega
  have er:∀(y:Obj) (q:List Obj),tObj.row (y::q)=.val (.int .u8 y.k):: .val (.string y.s)::y.l.iv:: .val (.int .i64 y.room):: .val (.int .i64 y.fn)::tObj.row q:=fun y q=>rfl
  rw[xcg,er,er,e]
  simp only[xcg]
  rw[ih]
end
section
variable {code:Nat->Option zab} {ext:zac}
theorem z7m(h:code 743=some zfr){T:List Obj}(hn:T.length<=100000000){C:List IV}(mv:Bool)(cap:Option Nat)(hc:cut C 0 (T.length*5)=some (tObj.row T)):
  callW code ext 743 [.osl 0 0 5 T.length cap] [.flat C mv]=some (.osl 1 0 5 T.length (if T.length=0 then some 0 else none),[.flat C mv,.flat (tObj.row T) false]):=by
 rw[zad code ext h]
 by_cases h0:T.length=0
 ·have hx:T=[]:=xat h0
  subst hx
  have hr:tObj.row ([]:List Obj)=[]:=rfl
  rw[hr]
  simp -implicitDefEqProofs [zfr,zaz,za0,elems]
 ·have h2:T.length*64<=140737488355328:=by omega
  rw[if_neg h0]
  simp -implicitDefEqProofs [zfr,zaz,za0,elems,hc,h0,h2]
def zdg(T:List Obj):List IV:=T.map fun o=>.val (.int .i64 (zay o))
def ze8(n:Nat):AV:=if n=0 then zae else .osl 0 0 1 n none
def ze7(T:List Obj):Mem:=if T.length=0 then[]else[.flat (zdg T) false]
theorem yhd(h:code 578=some zfb){T:List Obj}{C:List IV}(cap:Option Nat)(hC:cut C 0 (T.length*5)=some (tObj.row T))(hn:T.length<=100000000)(s0:St)
  (hs0:s0.tidy [2,5,6,7]=⟨0,[(2,zae),(5,.imm (.slice C 0 T.length cap)),(6,zaa T.length),(7,zaa 0)],[]⟩):
  ∃e s',den code ext (.loop [2,5,6,7] zlq) s0=some (e,s')/\e≠ .normal/\(e=.exit 0/\
   s'=⟨0,[(2,ze8 T.length),(5,.imm (.slice C 0 T.length cap)),(6,zaa T.length),(7,zaa T.length),(8,avb false)],ze7 T⟩):=by
 refine zbu (fun n s=>∃i,i+n=T.length/\s.tidy [2,5,6,7]=⟨0,[(2,ze8 i),(5,.imm (.slice C 0 T.length cap)),(6,zaa T.length),(7,zaa (i:Nat))],ze7 (T.take i)⟩) _ ?_ T.length _ ⟨0,by simp,by simpa [ze8,ze7]using hs0⟩
 rintro n s ⟨i,hi,hst⟩
 rw[hst]
 by_cases hlt:i<T.length
 ·have hx:=xaa hlt
  have hel:cut C (i*5) 5=some (tObj.enc T[i]):=by
   have:=zoe hC (a:=i*5) (b:=5) (by omega)
   rw[xaw]at this
   rw[this]
   exact ze1 (t:=tObj) hx
  have htk:T.take (i+1)=T.take i++[T[i]]:=by rw[xbg,hx];rfl
  have hsr:zdg (T.take (i+1))=zdg (T.take i)++[.val (.int .i64 (zay T[i]))]:=by rw[htk];unfold zdg;rw[xcj];rfl
  obtain⟨m,hs⟩:=zm4 (ext:=ext) h T[i]
  simp only[tObj]at hel
  generalize T[i]=o at *
  generalize zay o=w at *
  have e1:IntKind.wrap .i64 ((i:Int)+1)=(i:Int)+1:=zaw (by omega) (by omega)
  have hlt':(i:Int)<T.length:=by omega
  have hti:(T.take i).length=i:=by rw[xb7];omega
  have hti1:(T.take (i+1)).length=i+1:=by rw[xb7];omega
  by_cases h0:i=0
  ·subst h0
   simp only[Nat.zero_mul]at hel
   have e10:IntKind.wrap .i64 1=1:=rfl
   refine⟨.normal,⟨0,[(2,.osl 2 0 1 1 none),(5,.imm (.slice C 0 T.length cap)),(6,zaa T.length),(7,zaa 1)],[.rich [.imm (.val (.int .u8 o.k)),zaj o.s,.imm o.l.iv,zaa o.room,zaa o.fn],.flat [.val (.int .i64 w)] false,.flat [.val (.int .i64 w)] false]⟩,?_,.inl ⟨rfl,n-1,by omega,1,by omega,?_⟩⟩
   ·simp only[ze8,ze7,hti,if_true]
    simp -implicitDefEqProofs [zlq,hlt,hel,hs,zaz,za0,elems,e10]
   ·have hsr1:zdg (T.take 1)=[.val (.int .i64 w)]:=by simpa [zdg]using hsr
    simp -implicitDefEqProofs [ze8,ze7,hti1,hsr1]
  ·refine⟨.normal,⟨0,[(2,.osl 0 0 1 (i+1) none),(5,.imm (.slice C 0 T.length cap)),(6,zaa T.length),(7,zaa ((i:Int)+1))],[.flat (zdg (T.take (i+1))) false,.rich [.imm (.val (.int .u8 o.k)),zaj o.s,.imm o.l.iv,zaa o.room,zaa o.fn],.flat [.val (.int .i64 w)] false]⟩,?_,.inl ⟨rfl,n-1,by omega,i+1,by omega,?_⟩⟩
   ·have hcut:cut (zdg (T.take i)) 0 i=some (zdg (T.take i)):=zdv _ (by unfold zdg;rw[xam,hti])
    have hle:(i+1)*8<=140737488355328:=by omega
    simp only[ze8,ze7,hti,h0,if_false]
    simp -implicitDefEqProofs [zlq,hlt',hel,hs,zaz,za0,elems,hcut,hle,e1,hsr]
   ·simp -implicitDefEqProofs [ze8,ze7,hti1]
 ·have:i=T.length:=by omega
  subst this
  rw[xbp]
  refine⟨.exit 0,⟨0,[(2,ze8 T.length),(5,.imm (.slice C 0 T.length cap)),(6,zaa T.length),(7,zaa T.length),(8,avb false)],ze7 T⟩,?_,.inr ⟨by simp,rfl,rfl⟩⟩
  unfold ze8 ze7
  by_cases h0:T.length=0
  ·simp -implicitDefEqProofs [zlq,h0]
  ·simp -implicitDefEqProofs [zlq,h0]
theorem zpt(h:code 642=some zlp)(h1:code 578=some zfb){T:List Obj}{C:List IV}(cap:Option Nat)(hC:cut C 0 (T.length*5)=some (tObj.row T))(hn:T.length<=100000000):
  callW code ext 642 [.imm (.slice C 0 T.length cap)] []=some (ze8 T.length,ze7 T):=by
 obtain⟨e,s',l1,_,rfl,rfl⟩:=yhd (ext:=ext) h1 cap hC hn ⟨0,[(2,zae),(5,.imm (.slice C 0 T.length cap)),(6,zaa T.length),(7,zaa 0)],[]⟩ (by simp -implicitDefEqProofs)
 rw[zad code ext h]
 unfold zlp
 generalize zlq=L at *
 unfold ze8 ze7 at *
 by_cases h0:T.length=0
 ·simp only[h0,if_true,xcm]at *
  simp -implicitDefEqProofs [l1]
 ·simp only[h0,if_false]at *
  simp -implicitDefEqProofs [l1]
end
def zax(R:List IV)(p:Nat)(v:AV):List AV:=(R.map AV.imm).set p v
theorem zsi{p:Option (XExit×St)}{k:List Nat}{X:St}(h:p.map (fun q=>(q.1,q.2.tidy k))=some (.normal,X)):∃s',p=some (.normal,s')/\s'.tidy k=X:=by
 cases p with
 |none=>cases h
 |some q=>
  obtain⟨e,s'⟩:=q
  simp only[xao,xaf,xay]at h
  obtain⟨rfl,h⟩:=h
  exact⟨s',rfl,h⟩
theorem z3h(R:List IV)(p:Nat)(v:AV):(zax R p v).length=R.length:=by simp[zax]
theorem yf2{R:List IV}{p q:Nat}{v:AV}{x:IV}(h:R[q]?=some x)(hq:q≠p):(zax R p v)[q]?=some (.imm x):=by
 unfold zax
 rw[xa6 (Ne.symm hq),xar,h];rfl
theorem yf4{R:List IV}{p q:Nat}{v:AV}{x:IV}(hq:q≠p):(zax R p v).set q (.imm x)=zax (R.set q x) p v:=by
 unfold zax
 rw[List.set_comm _ _ (Ne.symm hq),List.map_set]
theorem yf5{R:List IV}{p q:Nat}{v:AV}{x:IV}(hq:q≠p):setAll (zax R p v) q [.imm x]=zax (R.set q x) p v:=yf4 hq
theorem yf3(R:List IV)(p:Nat)(v:AV):setAll (R.map AV.imm) p [v]=zax R p v:=rfl
theorem z3d:∀(R:List IV),AV.refs.refsL (R.map AV.imm)=[]
 |[]=>rfl
 |x::r=>by simp[AV.refs.refsL,AV.refs,z3d r]
theorem z3e:∀(R:List IV) (p:Nat) (v:AV),p<R.length->AV.refs.refsL ((R.map AV.imm).set p v)=v.refs
 |[],p,v,h=>absurd h (xcw p)
 |x::r,0,v,h=>by simp[AV.refs.refsL,z3d]
 |x::r,p+1,v,h=>by
  have:=z3e r p v (by simpa using h)
  simp[AV.refs.refsL,AV.refs,this]
theorem zdz{R:List IV}{p:Nat}{v:AV}(h:p<R.length):AV.refs.refsL (zax R p v)=v.refs:=z3e R p v h
theorem zd0(f:Nat->Option Nat)(R:List IV)(p:Nat)(v:AV):AV.ren.renL f (zax R p v)=zax R p (v.ren f):=by
 rw[zfm]
 unfold zax
 rw[List.map_set,xc3]
 congr 1
section
variable {code:Nat->Option zab} {ext:zac}
theorem zzz(h:code 743=some zfr){sv:IV}{S:List Obj}(hr:zak tObj sv S)(hn:S.length<=100000000):
  (sv=.val (.slice none 0 0)/\S=[]/\callW code ext 743 [.imm sv] []=some (zae,[]))\/
  (zbt sv=false/\∃cp:Option Nat,(cp=none\/cp=some S.length)/\callW code ext 743 [.imm sv] []=some (.osl 0 0 5 S.length cp,[.flat (tObj.row S) false])):=by
 rcases hr.2.2 with⟨rfl,rfl⟩|⟨row,off,cap,rfl,hc,hcut⟩
 ·left
  refine⟨rfl,rfl,?_⟩
  rw[zad code ext h]
  simp -implicitDefEqProofs [zfr]
 ·right
  refine⟨rfl,?_⟩
  rw[zad code ext h]
  by_cases h0:S.length=0
  ·have hx:S=[]:=xat h0
   subst hx
   have hr0:tObj.row ([]:List Obj)=[]:=rfl
   have hc0:cut row off 0=some []:=by simp[cut]
   refine⟨some 0,.inr rfl,?_⟩
   rw[hr0]
   simp -implicitDefEqProofs [zfr,zaz,za0,elems,hc0]
  ·have h2:S.length*64<=140737488355328:=by omega
   have hcut:cut row off (S.length*5)=some (tObj.row S):=hcut
   refine⟨none,.inl rfl,?_⟩
   simp -implicitDefEqProofs [zfr,zaz,za0,elems,hcut,h0,h2]
theorem z7k(h:code 742=some zda)(h2:code 740=some zes)(l:Sl tVal)(hb:l.xs.length<=1000000000):
  (l.iv=.val (.slice none 0 0)/\l.xs=[]/\callW code ext 742 [.imm l.iv] []=some (zae,[])/\callW code ext 740 [zae] []=some (zae,[])/\(zfg l).iv=.val (.slice none 0 0))\/
  (zbt l.iv=false/\∃(cap:Option Nat),callW code ext 742 [.imm l.iv] []=some (.osl 0 0 2 l.xs.length cap,[.flat (tVal.row l.xs) false])/\callW code ext 740 [.osl 0 0 2 l.xs.length cap] [.flat (tVal.row l.xs) false]=some (.osl 0 0 2 l.xs.length (some l.xs.length),[.flat (tVal.row l.xs) false])/\(zfg l).iv=.slice (tVal.row l.xs) 0 l.xs.length (some l.xs.length)):=by
 obtain⟨iv,xs,ok⟩:=l
 dsimp only at hb ⊢
 have hclip:∀cap:Option Nat,(cap=none\/cap=some xs.length)->callW code ext 740 [.osl 0 0 2 xs.length cap] [.flat (tVal.row xs) false]=some (.osl 0 0 2 xs.length (some xs.length),[.flat (tVal.row xs) false]):=by
  intro cap hcap
  rw[zad code ext h2]
  generalize tVal.row xs=R
  rcases hcap with rfl|rfl<;>simp -implicitDefEqProofs [zes,zfj]
 rcases ok.2.2 with⟨rfl,rfl⟩|⟨row,off,cap,rfl,hc,hcut⟩
 ·exact .inl ⟨rfl,rfl,zzy h,z7i h2,rfl⟩
 ·right
  refine⟨rfl,?_⟩
  have hr:zfg ⟨.slice row off xs.length cap,xs,ok⟩=⟨.slice (tVal.row xs) 0 xs.length (some xs.length),xs,⟨ok.1,ok.2.1,.inr ⟨_,0,_,rfl,fun c h=>by cases h;exact xap _,zec tVal xs⟩⟩⟩:=by
   unfold zfg
   rw[if_neg (by simp[zbt])]
  rw[hr]
  by_cases h0:xs.length=0
  ·have hx:xs=[]:=xat h0
   subst hx
   exact⟨_,zzx h row off cap,hclip _ (.inr rfl),rfl⟩
  ·exact⟨_,zvj h (R:=tVal.row xs) hcut (by omega) hb,hclip _ (.inl rfl),rfl⟩
end
def zdr(T:List Obj)(idx:Nat)(b:Bool)(R:List IV):Mem:=match T[idx]? with
 |some o=>if b=true/\zbt o.l.iv=false then[.rich (zax R (idx*5+2) (.osl 1 0 2 o.l.xs.length (some o.l.xs.length))),.flat (tVal.row o.l.xs) false]else[.flat R false]
 |none=>[.flat R false]
section
variable {code:Nat->Option zab} {ext:zac}
set_option maxHeartbeats 4000000 in
theorem yh9 (h:code 742=some zda) (h2:code 740=some zes) {T:List Obj} (hT:∀o∈T,o.l.xs.length<=1000000) (hn:T.length<=100000000) (idx:Nat) (cp:Option Nat) {i:Nat} (hlt:i<T.length):
  ∃s',den code ext (zf1 (idx*5+2)) ⟨0,[(3,.osl 0 0 5 T.length cp),(8,zaa T.length),(9,zaa i)],zdr T idx (decide (idx<i)) (tObj.row ((T.take i).map zaf++T.drop i))⟩=some (.normal,s')/\
   s'.tidy [3,8,9]=⟨0,[(3,.osl 0 0 5 T.length cp),(8,zaa T.length),(9,zaa ((i:Int)+1))],zdr T idx (decide (idx<i+1)) (tObj.row ((T.take (i+1)).map zaf++T.drop (i+1)))⟩:=by
 have hx:=xaa hlt
 have hmem:=xa8 hlt
 have hb:=hT _ hmem
 have hti:((T.take i).map zaf).length=i:=by rw[xam,xb7];omega
 have hgo:((T.take i).map zaf++T.drop i)[i]?=some T[i]:=by
  rw[xag (by omega),hti,xcl,xbv,xbi];exact hx
 have hset:=z3p _ i _ (zfg T[i].l) hgo
 have hcell:=zai (ze1 (t:=tObj) hgo) 2 (by decide)
 have hnew:((T.take i).map zaf++T.drop i).set i { T[i]with l:=zfg T[i].l }=(T.take (i+1)).map zaf++T.drop (i+1):=by
  rw[xbl hlt,xbb _ _ (by omega),hti,xcl,List.set_cons_zero,xbg,hx,Option.toList_some,xcj,xbj]
  rfl
 rw[hnew]at hset
 have hlen:((T.take i).map zaf++T.drop i).length=T.length:=by rw[xak,hti,List.length_drop];omega
 have hrl:=zca tObj ((T.take i).map zaf++T.drop i)
 rw[hlen]at hrl
 have hcc:=z7k (ext:=ext) h h2 T[i].l (by omega)
 have e1:IntKind.wrap .i64 ((i:Int)+1)=(i:Int)+1:=zaw (by omega) (by omega)
 have hlt':(i:Int)<T.length:=by omega
 have hcl:(tObj.row ((T.take i).map zaf++T.drop i))[i*5+2]?=some T[i].l.iv:=hcell
 generalize tObj.row ((T.take i).map zaf++T.drop i)=R at *
 generalize tObj.row ((T.take (i+1)).map zaf++T.drop (i+1))=R' at *
 have hR:i*5+2+1<=R.length:=by rw[hrl];simp only[tObj];omega
 have hR1:i*5+2<R.length:=by omega
 have hsa:setAll R (i*5+2) [(zfg T[i].l).iv]=R':=hset
 have p1:=zd0
 refine zsi ?_
 by_cases hidx:i=idx
 ·
  subst hidx
  have d1:decide (i<i)=false:=by simp
  have d2:decide (i<i+1)=true:=by simp
  rw[d1,d2]
  unfold zdr
  rw[hx]
  simp only[xan,false_and,if_false,true_and]
  generalize T[i]=o at *
  rcases hcc with⟨c0,cx,c1,c2,c3⟩|⟨c0,cap,c1,c2,c3⟩
  ·have hn0:¬zbt o.l.iv=false:=by rw[c0];simp[zbt]
   rw[if_neg hn0]
   rw[c3]at hsa
   rw[c0]at c1 hcl
   simp -implicitDefEqProofs [zf1,zen,zbg,hlt',hcl,c1,c2,e1,hR,hsa]
  ·rw[if_pos c0]
   have hmk:=yf3 R (i*5+2)
   have hrr:zax R (i*5+2) (.osl 1 0 2 o.l.xs.length (some o.l.xs.length))=zax R' (i*5+2) (.osl 1 0 2 o.l.xs.length (some o.l.xs.length)):=by
    rw[<-hset]
    unfold zax
    rw[List.map_set,List.set_set]
   have hrf:=zdz (R:=R) (p:=i*5+2) (v:=.osl 1 0 2 o.l.xs.length (some o.l.xs.length)) hR1
   rw[<-hrr]
   generalize tVal.row o.l.xs=W at *
   generalize o.l.xs.length=n at *
   simp -implicitDefEqProofs [zf1,zen,zbg,hlt',hcl,c1,c2,e1,hR,hmk,hrf,p1]
 ·have hoff:¬i*5+2=idx*5+2:=by omega
  have hoff2:¬i*5=idx*5:=by omega
  by_cases hi:idx<i
  ·
   have d1:decide (idx<i)=true:=by simpa using hi
   have d2:decide (idx<i+1)=true:=by simp;omega
   rw[d1,d2]
   unfold zdr
   have hxi:T[idx]?=some T[idx]:=xaa (by omega)
   rw[hxi]
   have hpR:idx*5+2<R.length:=by omega
   have hpR':idx*5+2<R'.length:=by rw[<-hset,xb8];omega
   generalize T[idx]=q at *
   by_cases hq:zbt q.l.iv=false
   ·simp only[hq,and_self,if_true]
    have hrf:=zdz (R:=R') (p:=idx*5+2) (v:=.osl 1 0 2 q.l.xs.length (some q.l.xs.length)) hpR'
    have hgt:=yf2 (v:=.osl 1 0 2 q.l.xs.length (some q.l.xs.length)) hcl hoff
    have hrs:=yf5 (R:=R) (p:=idx*5+2) (q:=i*5+2) (v:=.osl 1 0 2 q.l.xs.length (some q.l.xs.length)) (x:=(zfg T[i].l).iv) hoff
    have hset':R.set (i*5+2) (zfg T[i].l).iv=R':=hset
    rw[hset']at hrs
    have hll:=z3h R (idx*5+2) (.osl 1 0 2 q.l.xs.length (some q.l.xs.length))
    generalize T[i]=o at *
    generalize tVal.row q.l.xs=W at *
    generalize q.l.xs.length=n at *
    rcases hcc with⟨c0,cx,c1,c2,c3⟩|⟨c0,cap,c1,c2,c3⟩
    ·rw[c3]at hrs
     rw[c0]at c1 hcl hgt
     simp -implicitDefEqProofs [zf1,zen,zbg,hlt',hgt,c1,c2,e1,hR,hrs,hrf,hll,p1]
    ·rw[c3]at hrs
     generalize tVal.row o.l.xs=W2 at *
     generalize o.l.xs.length=n2 at *
     simp -implicitDefEqProofs [zf1,zen,zbg,hlt',hgt,c1,c2,e1,hR,hrs,hrf,hll,hoff2,p1]
   ·simp only[hq]
    generalize T[i]=o at *
    rcases hcc with⟨c0,cx,c1,c2,c3⟩|⟨c0,cap,c1,c2,c3⟩
    ·rw[c3]at hsa
     rw[c0]at c1 hcl
     simp -implicitDefEqProofs [zf1,zen,zbg,hlt',hcl,c1,c2,e1,hR,hsa]
    ·rw[c3]at hsa
     generalize tVal.row o.l.xs=W2 at *
     generalize o.l.xs.length=n2 at *
     simp -implicitDefEqProofs [zf1,zen,zbg,hlt',hcl,c1,c2,e1,hR,hsa,hoff2]
  ·have d1:decide (idx<i)=false:=by simpa using hi
   have d2:decide (idx<i+1)=false:=by simp;omega
   rw[d1,d2]
   have hf:∀Q:List IV,zdr T idx false Q=[.flat Q false]:=fun Q=>by
    unfold zdr
    cases T[idx]? with
    |none=>rfl
    |some o=>simp
   rw[hf,hf]
   generalize T[i]=o at *
   rcases hcc with⟨c0,cx,c1,c2,c3⟩|⟨c0,cap,c1,c2,c3⟩
   ·rw[c3]at hsa
    rw[c0]at c1 hcl
    simp -implicitDefEqProofs [zf1,zen,zbg,hlt',hcl,c1,c2,e1,hR,hsa]
   ·rw[c3]at hsa
    generalize tVal.row o.l.xs=W2 at *
    generalize o.l.xs.length=n2 at *
    simp -implicitDefEqProofs [zf1,zen,zbg,hlt',hcl,c1,c2,e1,hR,hsa,hoff2]
end
section
variable {code:Nat->Option zab} {ext:zac}
theorem yh7(h:code 742=some zda)(h2:code 740=some zes){T:List Obj}(hT:∀o∈T,o.l.xs.length<=1000000)(hn:T.length<=100000000)(idx:Nat)(cp:Option Nat)(s0:St)
  (hs0:s0.tidy [3,8,9]=⟨0,[(3,.osl 0 0 5 T.length cp),(8,zaa T.length),(9,zaa 0)],[.flat (tObj.row T) false]⟩):
  ∃e s',den code ext (.loop [3,8,9] (zf1 (idx*5+2))) s0=some (e,s')/\e≠ .normal/\(e=.exit 0/\s'=⟨0,[(3,.osl 0 0 5 T.length cp),(8,zaa T.length),(9,zaa T.length),(10,avb false)],zdr T idx (decide (idx<T.length)) (tObj.row (T.map zaf))⟩):=by
 have h0:zdr T idx (decide (idx<0)) (tObj.row ((T.take 0).map zaf++T.drop 0))=[.flat (tObj.row T) false]:=by
  unfold zdr
  cases T[idx]? with
  |none=>rfl
  |some o=>simp
 refine zbu (fun n s=>∃i,i+n=T.length/\s.tidy [3,8,9]=⟨0,[(3,.osl 0 0 5 T.length cp),(8,zaa T.length),(9,zaa (i:Nat))],zdr T idx (decide (idx<i)) (tObj.row ((T.take i).map zaf++T.drop i))⟩) _ ?_ T.length _ ⟨0,by simp,by rw[h0];exact hs0⟩
 rintro n s ⟨i,hi,hst⟩
 rw[hst]
 by_cases hlt:i<T.length
 ·obtain⟨s',g1,g2⟩:=yh9 (ext:=ext) h h2 hT hn idx cp hlt
  exact⟨.normal,s',g1,.inl ⟨rfl,n-1,by omega,i+1,by omega,by rw[g2,Int.natCast_add];rfl⟩⟩
 ·have:i=T.length:=by omega
  subst this
  rw[xbp,List.drop_length,xas]
  refine⟨.exit 0,_,?_,.inr ⟨by simp,rfl,rfl⟩⟩
  generalize zdr T idx (decide (idx<T.length)) (tObj.row (T.map zaf))=M
  simp -implicitDefEqProofs [zf1]
theorem z7h(h:code 741=some zgn)(n:Nat)(cp:Option Nat)(hc:cp=none\/cp=some n)(T:List Obj)(idx:Nat)(b:Bool)(R:List IV)(hp:∀o,T[idx]?=some o->idx*5+2<R.length):
  callW code ext 741 [.osl 0 0 5 n cp] (zdr T idx b R)=some (.osl 0 0 5 n (some n),zdr T idx b R):=by
 have p1:=zd0
 rw[zad code ext h]
 unfold zdr
 split
 ·rename_i o ho
  have hrf:=zdz (R:=R) (p:=idx*5+2) (v:=.osl 1 0 2 o.l.xs.length (some o.l.xs.length)) (hp o ho)
  split
  ·generalize tVal.row o.l.xs=W at *
   generalize o.l.xs.length=n2 at *
   rcases hc with rfl|rfl<;>simp -implicitDefEqProofs [zgn,zfj]
  ·rcases hc with rfl|rfl<;>simp -implicitDefEqProofs [zgn,zfj]
 ·rcases hc with rfl|rfl<;>simp -implicitDefEqProofs [zgn,zfj]
structure TwinCode (code:Nat->Option zab) (idx:Nat):Prop where
 c643:code 643=some (zue (idx*5+2))
 c740:code 740=some zes
 c741:code 741=some zgn
 c742:code 742=some zda
 c743:code 743=some zfr
theorem yh8{idx:Nat}(c:TwinCode code idx):callW code ext 643 [zae] []=some (zae,[]):=by
 have g1:callW code ext 743 [zae] []=some (zae,[]):=by
  rw[zad code ext c.c743]
  simp -implicitDefEqProofs [zfr]
 have g2:callW code ext 741 [zae] []=some (zae,[]):=by
  rw[zad code ext c.c741]
  simp -implicitDefEqProofs [zgn,zfj]
 rw[zad code ext c.c643]
 simp -implicitDefEqProofs [zue,g1]
 rw[zfi]
 simp -implicitDefEqProofs [zf1,g2]
theorem z4r{idx:Nat}(c:TwinCode code idx){sv:IV}{S:List Obj}(hr:zak tObj sv S)(hz:zbt sv=false)(hT:∀o∈S,o.l.xs.length<=1000000)(hn:S.length<=100000000):
  callW code ext 643 [.imm sv] []=some (.osl 0 0 5 S.length (some S.length),zdr S idx (decide (idx<S.length)) (tObj.row (S.map zaf))):=by
 rcases zzz (ext:=ext) c.c743 hr hn with⟨rfl,_⟩|⟨_,cp,hcp,g1⟩
 ·simp[zbt]at hz
 ·obtain⟨e,s',l1,_,rfl,rfl⟩:=yh7 (ext:=ext) c.c742 c.c740 hT hn idx cp ⟨0,[(3,.osl 0 0 5 S.length cp),(8,zaa S.length),(9,zaa 0)],[.flat (tObj.row S) false]⟩ (by generalize tObj.row S=R;simp -implicitDefEqProofs [])
  have hrl:=zca tObj (S.map zaf)
  rw[xam]at hrl
  have g2:=z7h (ext:=ext) c.c741 S.length cp hcp S idx (decide (idx<S.length)) (tObj.row (S.map zaf)) (fun o ho=>by
   have:=(xab.1 ho).1
   rw[hrl];simp only[tObj];omega)
  have p1:=zd0
  rw[zad code ext c.c643]
  have hpl:∀o,S[idx]?=some o->idx*5+2<(tObj.row (S.map zaf)).length:=fun o ho=>by
   have:=(xab.1 ho).1
   rw[hrl];simp only[tObj];omega
  generalize tObj.row (S.map zaf)=R at *
  generalize tObj.row S=R0 at *
  unfold zue
  generalize zf1 (idx*5+2)=L at *
  unfold zdr at *
  cases hS:S[idx]? with
  |none=>
   simp only[hS]at l1 g2 ⊢
   generalize S.length=n at *
   simp -implicitDefEqProofs [g1,g2,l1]
  |some o=>
   simp only[hS]at l1 g2 ⊢
   have hrf:=zdz (R:=R) (p:=idx*5+2) (v:=.osl 1 0 2 o.l.xs.length (some o.l.xs.length)) (hpl o hS)
   generalize decide (idx<S.length)=b at *
   generalize tVal.row o.l.xs=W at *
   generalize o.l.xs.length=n2 at *
   generalize S.length=n at *
   by_cases hb:b=true/\zbt o.l.iv=false
   ·rw[if_pos hb]at l1 g2 ⊢
    simp -implicitDefEqProofs [g1,g2,l1,hrf,p1]
   ·rw[if_neg hb]at l1 g2 ⊢
    simp -implicitDefEqProofs [g1,g2,l1]
end
section
variable {code:Nat->Option zab} {ext:zac}
def zd2(T:List Obj):AV:=if T.length=0 then zae else .imm (.slice (zdg T) 0 T.length none)
def zdu(B:List Obj):Int:=B.foldl (fun n o=>IntKind.wrap .i64 (n+zay o)) 0
theorem z6l(h:code 578=some zfb){T B:List Obj}{C:List IV}(cap:Option Nat)(hC:cut C 0 ((T++B).length*5)=some (tObj.row (T++B)))(hn:(T++B).length<=100000000)(s0:St)
  (hs0:s0.tidy [1,4,7,8,9]=⟨0,[(1,zd2 T),(4,zaa 0),(7,.imm (.slice C 0 (T++B).length cap)),(8,zaa (T++B).length),(9,zaa 0)],[]⟩):
  ∃e s',den code ext (.loop [1,4,7,8,9] znp) s0=some (e,s')/\e≠ .normal/\(e=.exit 0/\
   s'=⟨0,[(1,zd2 T),(4,zaa (zdu B)),(7,.imm (.slice C 0 (T++B).length cap)),(8,zaa (T++B).length),(9,zaa (T++B).length),(10,avb false)],[]⟩):=by
 refine zbu (fun n s=>∃i,i+n=(T++B).length/\s.tidy [1,4,7,8,9]=⟨0,[(1,zd2 T),(4,zaa (zdu (B.take (i-T.length)))),(7,.imm (.slice C 0 (T++B).length cap)),(8,zaa (T++B).length),(9,zaa (i:Nat))],[]⟩) _ ?_ (T++B).length _ ⟨0,by simp,by simpa [zdu]using hs0⟩
 rintro n s ⟨i,hi,hst⟩
 rw[hst]
 have hL:(T++B).length=T.length+B.length:=xak
 by_cases hlt:i<(T++B).length
 ·have hx:=xaa hlt
  have hel:cut C (i*5) 5=some (tObj.enc (T++B)[i]):=by
   have:=zoe hC (a:=i*5) (b:=5) (by omega)
   rw[xaw]at this
   rw[this]
   exact ze1 (t:=tObj) hx
  obtain⟨m,hs⟩:=zm4 (ext:=ext) h (T++B)[i]
  simp only[tObj]at hel
  have e1:IntKind.wrap .i64 ((i:Int)+1)=(i:Int)+1:=zaw (by omega) (by omega)
  have hlt':(i:Int)<(T++B).length:=by omega
  by_cases hold:i<T.length
  ·have hT:=xaa hold
   have hgt:(T++B)[i]=T[i]:=by rw[List.getElem_append_left hold]
   rw[hgt]at hel hs hx
   have hw:(zdg T)[i]?=some (.val (.int .i64 (zay T[i]))):=by unfold zdg;rw[xar,hT];rfl
   have hwv:zd2 T=.imm (.slice (zdg T) 0 T.length none):=by unfold zd2;rw[if_neg (by omega)]
   have hz:i-T.length=0:=by omega
   have hz1:i+1-T.length=0:=by omega
   have h1:¬(T.length:Int)<=i:=by omega
   have h2:(i:Int)<T.length:=by omega
   have ha:zdu (B.take 0)=0:=rfl
   generalize T[i]=o at *
   generalize zay o=w at *
   rw[hwv,hz,ha]
   clear hgt
   generalize (T++B).length=N at *
   refine⟨.normal,⟨0,[(1,.imm (.slice (zdg T) 0 T.length none)),(4,zaa 0),(7,.imm (.slice C 0 N cap)),(8,zaa N),(9,zaa ((i:Int)+1))],[.rich [.imm (.val (.int .u8 o.k)),zaj o.s,.imm o.l.iv,zaa o.room,zaa o.fn]]⟩,?_,.inl ⟨rfl,n-1,by omega,i+1,by omega,?_⟩⟩
   ·simp -implicitDefEqProofs [znp,hlt',hel,hs,hw,h1,h2,e1]
   ·rw[hz1,ha]
    simp -implicitDefEqProofs
  ·have hB:i-T.length<B.length:=by omega
   have hBx:=xaa hB
   have hgt:(T++B)[i]=B[i-T.length]:=by rw[List.getElem_append_right (by omega)]
   rw[hgt]at hel hs hx
   have hz1:i+1-T.length=(i-T.length)+1:=by omega
   have htk:B.take (i-T.length+1)=B.take (i-T.length)++[B[i-T.length]]:=by rw[xbg,hBx];rfl
   have ha:zdu (B.take (i-T.length+1))=IntKind.wrap .i64 (zdu (B.take (i-T.length))+zay B[i-T.length]):=by rw[htk];unfold zdu;rw[List.foldl_append];rfl
   have h1:(T.length:Int)<=i:=by omega
   generalize B[i-T.length]=o at *
   generalize zay o=w at *
   generalize zdu (B.take (i-T.length))=a at *
   have hwv:lenOf (zd2 T)=some T.length:=by
    unfold zd2
    by_cases h0:T.length=0
    ·rw[if_pos h0,h0];rfl
    ·rw[if_neg h0];rfl
   have hws:∃x,zd2 T=.imm x:=by
    unfold zd2
    split
    ·exact⟨_,rfl⟩
    ·exact⟨_,rfl⟩
   obtain⟨x,hws⟩:=hws
   rw[hws]at hwv ⊢
   clear hgt
   generalize (T++B).length=N at *
   refine⟨.normal,⟨0,[(1,.imm x),(4,zaa (IntKind.wrap .i64 (a+w))),(7,.imm (.slice C 0 N cap)),(8,zaa N),(9,zaa ((i:Int)+1))],[.rich [.imm (.val (.int .u8 o.k)),zaj o.s,.imm o.l.iv,zaa o.room,zaa o.fn]]⟩,?_,.inl ⟨rfl,n-1,by omega,i+1,by omega,?_⟩⟩
   ·simp -implicitDefEqProofs [znp,hlt',hel,hs,hwv,h1,e1]
   ·rw[hz1,ha]
    simp -implicitDefEqProofs
 ·have:i=(T++B).length:=by omega
  subst this
  have hz:(T++B).length-T.length=B.length:=by omega
  rw[hz,xbp]
  have hws:∃x,zd2 T=.imm x:=by
   unfold zd2
   split
   ·exact⟨_,rfl⟩
   ·exact⟨_,rfl⟩
  obtain⟨x,hws⟩:=hws
  rw[hws]
  refine⟨.exit 0,⟨0,[(1,.imm x),(4,zaa (zdu B)),(7,.imm (.slice C 0 (T++B).length cap)),(8,zaa (T++B).length),(9,zaa (T++B).length),(10,avb false)],[]⟩,?_,.inr ⟨by simp,rfl,rfl⟩⟩
  generalize (T++B).length=N at *
  simp -implicitDefEqProofs [znp]
theorem zn5(h:code 639=some zlo)(h1:code 578=some zfb){T B:List Obj}{C:List IV}(cap:Option Nat)(hC:cut C 0 ((T++B).length*5)=some (tObj.row (T++B)))(hn:(T++B).length<=100000000):
  callW code ext 639 [.imm (.slice C 0 (T++B).length cap),zd2 T] []=some (zaa (zdu B),[]):=by
 have hws:∃x,zd2 T=.imm x:=by
  unfold zd2
  split
  ·exact⟨_,rfl⟩
  ·exact⟨_,rfl⟩
 obtain⟨x,hws⟩:=hws
 obtain⟨e,s',l1,_,rfl,rfl⟩:=z6l (ext:=ext) h1 cap hC hn ⟨0,[(1,zd2 T),(4,zaa 0),(7,.imm (.slice C 0 (T++B).length cap)),(8,zaa (T++B).length),(9,zaa 0)],[]⟩ (by rw[hws];generalize (T++B).length=N;simp -implicitDefEqProofs)
 rw[hws]at l1 ⊢
 rw[zad code ext h]
 unfold zlo
 generalize znp=L at *
 generalize (T++B).length=N at *
 simp -implicitDefEqProofs [l1]
end
abbrev zcg:ByteArray:=⟨#[107,105,110,100]⟩
section
variable {code:Nat->Option zab} {ext:zac}
structure z5z (code:Nat->Option zab):Prop where
 c579:code 579=some zyd
 c582:code 582=some zye
 c583:code 583=some zyf
 c584:code 584=some zyg
 c585:code 585=some zyh
 c586:code 586=some zyi
 c587:code 587=some zyj
 c588:code 588=some zyk
 c589:code 589=some zyl
end
abbrev zdb(k n:Int)(t:ByteArray):AV:=.agg [.imm (.val (.int .u8 k)),zaa n,zaj t,avb false]
abbrev zhy:ByteArray:=⟨#[103,114,101,97,116]⟩
def sM(nl:Bool)(T:List Obj):Mem:=if nl=true then[.rich [zae,zaa 1152921504606846976,zaa 0]]else[.rich [.osl 1 0 5 T.length (some T.length),zaa 1152921504606846976,zaa 0],.flat (tObj.row T) false]
def sK(nl:Bool)(T:List Obj)(o:Obj)(w:Int):Mem:=if nl=true then[.rich [.osl 1 0 5 1 none,zaa 1152921504606846976,zaa w],.flat (tObj.row (T++[o])) false]else[.rich [.osl 2 0 5 (T.length+1) none,zaa 1152921504606846976,zaa w],.flat (tObj.row T) false,.flat (tObj.row (T++[o])) false]
structure PlainFns (code:Nat->Option zab):Prop where
 whole:z5z code
 c206:code 206=some zfq
 c209:code 209=some zif
 c210:code 210=some zx9
 c211:code 211=some zya
 c212:code 212=some zi8
 c213:code 213=some znb
 c214:code 214=some zp8
 c216:code 216=some zj8
 c218:code 218=some znc
 c219:code 219=some znd
 c208:code 208=some z5a
 c578:code 578=some zfb
 c580:code 580=some zlm
 c581:code 581=some zud
 c742:code 742=some zda
def zb0(t:ByteArray):Obj:=⟨3,t,⟨.val (.slice none 0 0),[],⟨by simp,by simp,.inl ⟨rfl,rfl⟩⟩⟩,0,0⟩
section
variable {code:Nat->Option zab} {ext:zac}
theorem z2b(h:code 213=some znb){T:List Obj}{q:Nat}(k n:Int)(hq:(q:Int)=n-1)(hN:q<T.length)(hb:T.length<=1000000000):
  callW code ext 213 [.optr 0 0,.agg [.imm (.val (.int .u8 k)),zaa n]] (sM false T)=some (.optr 1 (q*5),sM false T):=by
 have e1:IntKind.wrap .i64 (n-1)=(q:Nat):=by rw[<-hq];exact zaw (by omega) (by omega)
 have h2:(q:Int)<T.length:=by omega
 rw[zad code ext h]
 unfold sM
 generalize tObj.row T=R
 generalize T.length=N at *
 simp -implicitDefEqProofs [znb,e1,h2]
theorem zwv(h:code 218=some znc)(nl:Bool)(T:List Obj){w:Int}(h0:0<=w)(h1:w<=1000000):
  callW code ext 218 [.optr 0 0,zaa w] (sM nl T)=some (avb true,if nl=true then[.rich [zae,zaa 1152921504606846976,zaa w]]else[.rich [.osl 1 0 5 T.length (some T.length),zaa 1152921504606846976,zaa w],.flat (tObj.row T) false]):=by
 have e1:IntKind.wrap .i64 w=w:=zaw (by omega) (by omega)
 have h2:¬(1152921504606846976:Int)<w:=by omega
 rw[zad code ext h]
 unfold sM
 generalize tObj.row T=R
 cases nl<;>simp -implicitDefEqProofs [znc,e1,h2]
theorem yd9(t:ByteArray)(ht:t.size<=4096):0<=zay (zb0 t)/\zay (zb0 t)<=1000:=by
 have e1:IntKind.wrap .i64 ((t.size:Int)+7)=(t.size:Int)+7:=zaw (by omega) (by omega)
 have e2:((t.size:Int)+7).tdiv 8=((t.size:Int)+7) / 8:=Int.tdiv_eq_ediv_of_nonneg (by omega)
 have e3:IntKind.wrap .i64 (((t.size:Int)+7) / 8)=((t.size:Int)+7) / 8:=zaw (by omega) (by omega)
 have e4:IntKind.wrap .i64 (2+((t.size:Int)+7) / 8)=2+((t.size:Int)+7) / 8:=zaw (by omega) (by omega)
 have:zay (zb0 t)=2+((t.size:Int)+7) / 8:=by
  unfold zay
  rw[if_pos (show(zb0 t).k=3 from rfl)]
  show IntKind.wrap .i64 (2+IntKind.wrap .i64 ((IntKind.wrap .i64 ((t.size:Int)+7)).tdiv 8))=_
  rw[e1,e2,e3,e4]
 rw[this]
 omega
theorem yd1(c:PlainFns code){nl:Bool}{T:List Obj}(hnl:nl=true->T=[])(hn:T.length<=100000000)(t:ByteArray)(ht:t.size<=4096):
  callW code ext 212 [.optr 0 0,.agg [.imm (.val (.int .u8 3)),zaj t,zae,zaa 0,zaa 0]] (sM nl T)=
   some (zdb 3 ((T.length+1:Nat):Int) .empty,sK nl T (zb0 t) (zay (zb0 t))):=by
 obtain⟨m,hs⟩:=zm4 (ext:=ext) c.c578 (zb0 t)
 obtain⟨w0,w1⟩:=yd9 t ht
 have hr:tObj.row (T++[zb0 t])=tObj.row T++[.val (.int .u8 3),.val (.string t),.val (.slice none 0 0),.val (.int .i64 0),.val (.int .i64 0)]:=by unfold Ty.row;simp[tObj,zb0]
 have hc:cut (tObj.row T) 0 (T.length*5)=some (tObj.row T):=zec tObj T
 generalize zay (zb0 t)=w at *
 have htk:=zwv (ext:=ext) c.c218 nl T w0 (by omega)
 simp only[zb0]at hs
 cases nl with
 |true=>
  have hT:=hnl rfl
  subst hT
  have hr0:tObj.row ([]:List Obj)=[]:=rfl
  rw[hr0]at hr
  simp only[xa7]at hr
  rw[zad code ext c.c212]
  unfold sM sK at *
  simp only[if_true,xa7]at htk ⊢
  rw[hr]
  simp -implicitDefEqProofs [zi8,hs,htk,zaz,za0,elems]
 |false=>
  rw[zad code ext c.c212]
  unfold sM sK at *
  rw[hr]
  simp only[xan,if_false]at htk
  generalize tObj.row T=R at *
  have hle:(T.length+1)*64<=140737488355328:=by omega
  have hno:¬(T.length+1<=T.length):=by omega
  generalize T.length=N at *
  simp -implicitDefEqProofs [zi8,hs,htk,zaz,za0,elems,hc,hle,hno]
theorem yd7(c:PlainFns code){nl:Bool}{T:List Obj}(hnl:nl=true->T=[])(hn:T.length<=100000000)(t:ByteArray):
  callW code ext 219 [.optr 0 0,zaj t] (sM nl T)=if t.size<=4096 then some (zdb 3 ((T.length+1:Nat):Int) .empty,sK nl T (zb0 t) (zay (zb0 t)))else some (zdb 0 0 zhy,sM nl T):=by
 by_cases ht:t.size<=4096
 ·rw[if_pos ht]
  have hm:=yd1 (ext:=ext) c hnl hn t ht
  generalize zay (zb0 t)=w at *
  have ht':¬(4096:Int)<t.size:=by omega
  have ht'':¬4096<t.size:=by omega
  rw[zad code ext c.c219]
  unfold sM sK at *
  generalize tObj.row (T++[zb0 t])=R2 at *
  generalize tObj.row T=R at *
  generalize ((T.length+1:Nat):Int)=N at *
  cases nl
  ·simp only[xan,if_false]at hm ⊢
   simp -implicitDefEqProofs [znd,hm,ht']
  ·simp only[if_true]at hm ⊢
   simp -implicitDefEqProofs [znd,hm,ht']
 ·rw[if_neg ht]
  have ht':(4096:Int)<t.size:=by omega
  have ht'':4096<t.size:=by omega
  rw[zad code ext c.c219]
  unfold sM
  generalize tObj.row T=R at *
  cases nl<;>simp -implicitDefEqProofs [znd,ht']
end
def zgl(T:List Obj)(v:Val):ByteArray:=match zmo T v with
 |some o=>o.s
 |none=>.empty
def zej(T:List Obj)(a b:Val):Bool:=
  if a.k≠b.k then false else if a.k=3 then decide (zgl T a=zgl T b)else decide (a.k=0)||decide (a.n=b.n)
def zch(T:List Obj)(v:Val):Prop:=v.k=3->∃k,za7 T v=some k
def AtV(T:List Obj)(xs:List Val)(k:Val)(r:Int):Prop:=
 (r= -1/\∀(j:Nat) a,xs[2*j]?=some a->zej T a k=false)\/∃(j:Nat) (a:Val),r=(2*j:Nat)/\xs[2*j]?=some a/\zej T a k=true/\∀(i:Nat) b,i<j->xs[2*i]?=some b->zej T b k=false
theorem yao{v:Val}{k:Nat}(h:za7 [] v=some k):False:=by
 have:=(ze5 h).1
 simp at this
section
variable {code:Nat->Option zab} {ext:zac}
theorem z3q{T:List Obj}{q:Nat}{o:Obj}(h:T[q]?=some o):(tObj.row T)[q*5+1]?=some (.val (.string o.s)):=by
 have:=zai (ze1 (t:=tObj) h) 1 (by decide)
 simpa [tObj]using this
theorem z2i(c:PlainFns code){nl:Bool}{T:List Obj}(hnl:nl=true->T=[])(hn:T.length<=100000000){a b:Val}(ha:zch T a)(hb:zch T b):
  callW code ext 216 [.optr 0 0,.agg [.imm (.val (.int .u8 a.k)),zaa a.n],.agg [.imm (.val (.int .u8 b.k)),zaa b.n]] (sM nl T)=some (avb (zej T a b),sM nl T):=by
 unfold zej
 by_cases hk:a.k=b.k
 ·rw[if_neg (by simpa using hk)]
  by_cases h3:a.k=3
  ·rw[if_pos h3]
   obtain⟨q,hq⟩:=ha h3
   obtain⟨p,hp⟩:=hb (by omega)
   cases nl with
   |true=>
    have:=hnl rfl
    subst this
    exact absurd hq (fun h=>yao h)
   |false=>
    obtain⟨q1,q2,_,_,o,q3,q4⟩:=ze5 hq
    obtain⟨p1,p2,_,_,u,p3,p4⟩:=ze5 hp
    have t1:zgl T a=o.s:=by unfold zgl zmo;rw[hq];simp[q3]
    have t2:zgl T b=u.s:=by unfold zgl zmo;rw[hp];simp[p3]
    rw[t1,t2]
    have f1:=z2b (ext:=ext) c.c213 a.k a.n q2 q1 (by omega)
    have f2:=z2b (ext:=ext) c.c213 b.k b.n p2 p1 (by omega)
    have g1:=z3q q3
    have g2:=z3q p3
    have hb3:b.k=3:=by omega
    rw[zad code ext c.c216]
    unfold sM at *
    simp only[xan,if_false]at f1 f2 ⊢
    rw[h3]at f1
    rw[hb3]at f2
    generalize tObj.row T=R at *
    generalize T.length=N at *
    simp -implicitDefEqProofs [zj8,h3,hb3,f1,f2,g1,g2,zbg]
  ·rw[if_neg h3]
   rw[zad code ext c.c216]
   unfold sM
   generalize tObj.row T=R at *
   have h3':¬b.k=3:=by omega
   rw[hk]at h3 ⊢
   by_cases h0:b.k=0
   ·cases nl<;>simp -implicitDefEqProofs [zj8,h0]
   ·cases nl<;>simp -implicitDefEqProofs [zj8,h3',h0]
 ·rw[if_pos hk]
  rw[zad code ext c.c216]
  unfold sM
  generalize tObj.row T=R at *
  cases nl<;>simp -implicitDefEqProofs [zj8,hk]
abbrev zd5(nl:Bool)(T:List Obj)(k:Val):Mem:=if nl=true then[.rich [zae,zaa 1152921504606846976,zaa 0],.rich [.imm (.val (.int .u8 k.k)),zaa k.n]]else[.rich [.osl 1 0 5 T.length (some T.length),zaa 1152921504606846976,zaa 0],.flat (tObj.row T) false,.rich [.imm (.val (.int .u8 k.k)),zaa k.n]]
abbrev zey(nl:Bool)(iv:IV)(i:Nat):Env:=[(0,.optr 0 0),(1,.imm iv),(5,.optr (if nl=true then 1 else 2) 0),(7,zaa i)]
theorem ycg(c:PlainFns code){nl:Bool}{T:List Obj}(hnl:nl=true->T=[])(hn:T.length<=100000000){iv:IV}{xs:List Val}(hr:zak tVal iv xs)(hl:xs.length<=1000000){k:Val}(hk:zch T k)(hx:∀(j:Nat) a,xs[2*j]?=some a->zch T a):
  ∀(m:Nat) (st:St),(∃j,m+2*j=xs.length+2/\(∀(i:Nat) b,i<j->xs[2*i]?=some b->zej T b k=false)/\st.tidy [0,1,5,7]=⟨if nl=true then 1 else 2,zey nl iv (2*j),zd5 nl T k⟩)->
   ∃x s',den code ext (.loop [0,1,5,7] zg0) st=some (x,s')/\x≠ .normal/\∃r,AtV T xs k r/\((x=.exit 0/\r= -1/\∃env,s'=⟨if nl=true then 1 else 2,env,zd5 nl T k⟩)\/(x=.ret/\s'=⟨if nl=true then 1 else 2,[(6,zaa r)],zd5 nl T k⟩)):=by
 have elen:=zau hr
 refine zbu _ _ ?_
 rintro m st ⟨j,hm,hno,hst⟩
 rw[hst]
 by_cases hlt:2*j<xs.length
 ·obtain⟨a,ha⟩:∃a,xs[2*j]?=some a:=⟨_,xaa hlt⟩
  obtain⟨row,off,cap,rfl,_,_,hcut⟩:=zbv hr ha
  have hcut':cut row (off+(2*j)*2) 2=some [.val (.int .u8 a.k),.val (.int .i64 a.n)]:=hcut
  have f1:=z2i (ext:=ext) c hnl hn (hx j a ha) hk
  obtain⟨i,hi⟩:∃i,i=2*j:=⟨_,rfl⟩
  obtain⟨i2,hi2⟩:∃i2,i2=2*j+2:=⟨_,rfl⟩
  rw[<-hi]at hcut' hlt ⊢
  have e1:(i:Int)<xs.length:=by omega
  have e2:IntKind.wrap .i64 ((i:Int)+2)=(i2:Int):=by rw[zaw (by omega) (by omega)];omega
  cases hs:zej T a k with
  |true=>
   rw[hs]at f1
   refine⟨.ret,⟨if nl=true then 1 else 2,[(6,zaa i)],zd5 nl T k⟩,?_,.inr ⟨by simp,(i:Int),.inr ⟨j,a,by omega,ha,hs,hno⟩,.inr ⟨rfl,rfl⟩⟩⟩
   unfold sM at f1
   cases nl
   ·simp only[zd5,zey,xan,if_false]at f1 ⊢
    generalize tObj.row T=R at *
    generalize T.length=N at *
    generalize xs.length=n at *
    simp -implicitDefEqProofs [zg0,f1,hcut',e1,zdc]
   ·simp only[zd5,zey,if_true]at f1 ⊢
    generalize tObj.row T=R at *
    generalize T.length=N at *
    generalize xs.length=n at *
    simp -implicitDefEqProofs [zg0,f1,hcut',e1,zdc]
  |false=>
   rw[hs]at f1
   refine⟨.normal,⟨if nl=true then 1 else 2,zey nl (.slice row off xs.length cap) i2,zd5 nl T k⟩,?_,.inl ⟨rfl,m-2,by omega,j+1,by omega,?_,?_⟩⟩
   ·unfold sM at f1
    cases nl
    ·simp only[zd5,zey,xan,if_false]at f1 ⊢
     generalize tObj.row T=R at *
     generalize T.length=N at *
     generalize xs.length=n at *
     simp -implicitDefEqProofs [zg0,f1,hcut',e1,e2,zdc]
    ·simp only[zd5,zey,if_true]at f1 ⊢
     generalize tObj.row T=R at *
     generalize T.length=N at *
     generalize xs.length=n at *
     simp -implicitDefEqProofs [zg0,f1,hcut',e1,e2,zdc]
   ·intro q b hq hb
    by_cases hqj:q=j
    ·subst hqj
     rw[ha]at hb
     cases hb
     exact hs
    ·exact hno q b (by omega) hb
   ·have hjj:2*(j+1)=i2:=by omega
    rw[hjj]
    cases nl
    ·simp only[zd5,zey,xan,if_false]
     generalize tObj.row T=R at *
     generalize T.length=N at *
     generalize xs.length=n at *
     simp -implicitDefEqProofs []
    ·simp only[zd5,zey,if_true]
     generalize tObj.row T=R at *
     generalize T.length=N at *
     generalize xs.length=n at *
     simp -implicitDefEqProofs []
 ·refine⟨.exit 0,⟨if nl=true then 1 else 2,zey nl iv (2*j)++[(11,avb false)],zd5 nl T k⟩,?_,.inr ⟨by simp,-1,.inl ⟨rfl,fun q b hb=>?_⟩,.inl ⟨rfl,rfl,_,rfl⟩⟩⟩
  ·obtain⟨i,hi⟩:∃i,i=2*j:=⟨_,rfl⟩
   rw[<-hi]at hlt ⊢
   have e1:¬(i:Int)<xs.length:=by omega
   cases nl
   ·simp only[zd5,zey,xan,if_false]
    generalize tObj.row T=R at *
    generalize T.length=N at *
    generalize xs.length=n at *
    simp -implicitDefEqProofs [zg0,elen,e1]
   ·simp only[zd5,zey,if_true]
    generalize tObj.row T=R at *
    generalize T.length=N at *
    generalize xs.length=n at *
    simp -implicitDefEqProofs [zg0,elen,e1]
  ·have:=(xab.1 hb).1
   exact hno q b (by omega) hb
theorem ych(c:PlainFns code){nl:Bool}{T:List Obj}(hnl:nl=true->T=[])(hn:T.length<=100000000){iv:IV}{xs:List Val}(hr:zak tVal iv xs)(hl:xs.length<=1000000){k:Val}(hk:zch T k)(hx:∀(j:Nat) a,xs[2*j]?=some a->zch T a):
  ∃r,AtV T xs k r/\callW code ext 209 [.optr 0 0,.imm iv,.agg [.imm (.val (.int .u8 k.k)),zaa k.n]] (sM nl T)=some (zaa r,sM nl T):=by
 obtain⟨x,s',h1,_,r,hr1,hq⟩:=ycg (code:=code) (ext:=ext) c hnl hn hr hl hk hx (xs.length+2) ⟨if nl=true then 1 else 2,zey nl iv 0,zd5 nl T k⟩ ⟨0,by omega,fun i b hi=>absurd hi (xcw i),by
  cases nl
  ·simp only[zd5,zey,xan,if_false]
   generalize tObj.row T=R at *
   generalize T.length=N at *
   simp -implicitDefEqProofs []
  ·simp only[zd5,zey,if_true]
   generalize tObj.row T=R at *
   generalize T.length=N at *
   simp -implicitDefEqProofs []⟩
 refine⟨r,hr1,?_⟩
 rw[zad code ext c.c209]
 unfold sM
 cases nl
 ·simp only[zd5,zey,xan,if_false,xcm]at *
  generalize tObj.row T=R at *
  generalize T.length=N at *
  rcases hq with⟨rfl,rfl,env,rfl⟩|⟨rfl,rfl⟩
  ·simp -implicitDefEqProofs [zif,h1]
  ·simp -implicitDefEqProofs [zif,h1]
 ·simp only[zd5,zey,if_true,xcm]at *
  generalize tObj.row T=R at *
  generalize T.length=N at *
  rcases hq with⟨rfl,rfl,env,rfl⟩|⟨rfl,rfl⟩
  ·simp -implicitDefEqProofs [zif,h1]
  ·simp -implicitDefEqProofs [zif,h1]
end
section
variable {code:Nat->Option zab} {ext:zac}
theorem zxl{T:List Obj}{q:Nat}{o:Obj}(h:T[q]?=some o):(tObj.row T)[q*5+2]?=some o.l.iv:=by
 have:=zai (ze1 (t:=tObj) h) 2 (by decide)
 simpa [tObj]using this
end
def sL(nl:Bool)(T:List Obj)(W:List IV)(u:Int):Mem:=if nl=true then[.rich [zae,zaa 1152921504606846976,zaa u],.flat W false]else[.rich [.osl 2 0 5 T.length (some T.length),zaa 1152921504606846976,zaa u],.flat W false,.flat (tObj.row T) false]
theorem z3i{R:List IV}{p:Nat}(h:R.length=p)(a b x d e:IV)(v:AV):R.map AV.imm++[.imm a,.imm b,v,.imm d,.imm e]=zax (R++[a,b,x,d,e]) (p+2) v:=by
 subst h
 unfold zax
 rw[xcj,xbb _ _ (by simp)]
 simp
def sKL(nl:Bool)(T:List Obj)(o:Obj)(W:List IV)(v:AV)(w:Int):Mem:=
 if nl=true then[.rich [.osl 2 0 5 1 none,zaa 1152921504606846976,zaa w],.flat W false,.rich (zax (tObj.row [o]) 2 v)]
 else[.rich [.osl 3 0 5 (T.length+1) none,zaa 1152921504606846976,zaa w],.flat W false,.flat (tObj.row T) false,.rich (zax (tObj.row (T++[o])) (T.length*5+2) v)]
section
variable {code:Nat->Option zab} {ext:zac}
end
def sKP(nl:Bool)(T:List Obj)(o:Obj)(W:List IV)(n:Nat)(cap:Option Nat)(w:Int):Mem:=
 if nl=true then[.rich [.osl 1 0 5 1 none,zaa 1152921504606846976,zaa w],.rich (zax (tObj.row [o]) 2 (.osl 2 0 2 n cap)),.flat W false]
 else[.rich [.osl 2 0 5 (T.length+1) none,zaa 1152921504606846976,zaa w],.flat (tObj.row T) false,.rich (zax (tObj.row (T++[o])) (T.length*5+2) (.osl 3 0 2 n cap)),.flat W false]
section
variable {code:Nat->Option zab} {ext:zac}
end
def sKM(nl:Bool)(T:List Obj)(L:List IV)(o:Obj)(w:Int):Mem:=
 if nl=true then[.rich [.osl 2 0 5 1 none,zaa 1152921504606846976,zaa w],.flat L false,.flat (tObj.row (T++[o])) false]
 else[.rich [.osl 3 0 5 (T.length+1) none,zaa 1152921504606846976,zaa w],.flat L false,.flat (tObj.row T) false,.flat (tObj.row (T++[o])) false]
section
variable {code:Nat->Option zab} {ext:zac}
theorem zoc(h:code 580=some zlm){lv:IV}{xs:List Val}(hr:zak tVal lv xs)(hl:xs.length<=100000000):
  ∃m,callW code ext 580 [.imm lv] []=some (avb (xs.any fun v=>decide (v.k=7)),m):=by
 have elen:=zau hr
 have loop:∃e s',den code ext (.loop [5,6,7] zno) ⟨0,[(5,.imm lv),(6,zaa xs.length),(7,zaa 0)],[]⟩=some (e,s')/\e≠ .normal/\((e=.exit 0/\(xs.any fun v=>decide (v.k=7))=false/\∃env m,s'=⟨0,env,m⟩)\/(e=.ret/\(xs.any fun v=>decide (v.k=7))=true/\∃m,s'=⟨0,[(2,avb true)],m⟩)):=by
  refine zbu (fun n s=>∃i,n+i=xs.length/\(∀(j:Nat) v,j<i->xs[j]?=some v->v.k≠7)/\s.tidy [5,6,7]=⟨0,[(5,.imm lv),(6,zaa xs.length),(7,zaa i)],[]⟩) _ ?_ xs.length _ ⟨0,by omega,fun j v hj=>absurd hj (xcw j),by simp -implicitDefEqProofs []⟩
  rintro n s ⟨i,hi,hno,hst⟩
  rw[hst]
  by_cases hlt:i<xs.length
  ·obtain⟨v,hv⟩:∃v,xs[i]?=some v:=⟨_,xaa hlt⟩
   obtain⟨row,off,cap,rfl,_,_,hcut⟩:=zbv hr hv
   have hcut':cut row (off+i*2) 2=some [.val (.int .u8 v.k),.val (.int .i64 v.n)]:=hcut
   obtain⟨i1,hi1⟩:∃i1,i1=i+1:=⟨_,rfl⟩
   have e1:(i:Int)<xs.length:=by omega
   have e3:IntKind.wrap .i64 ((i:Int)+1)=(i1:Int):=by rw[zaw (by omega) (by omega)];omega
   by_cases h7:v.k=7
   ·have ha:(xs.any fun v=>decide (v.k=7))=true:=xcc.2 ⟨v,xah hv,by simpa using h7⟩
    refine⟨.ret,⟨0,[(2,avb true)],[.rich [.imm (.val (.int .u8 v.k)),zaa v.n]]⟩,?_,.inr ⟨by simp,.inr ⟨rfl,ha,_,rfl⟩⟩⟩
    rw[h7]at hcut' ⊢
    generalize xs.length=n at *
    simp -implicitDefEqProofs [zno,hcut',e1]
   ·have key:∃s',den code ext zno ⟨0,[(5,.imm (.slice row off xs.length cap)),(6,zaa xs.length),(7,zaa i)],[]⟩=some (.normal,s')/\s'.tidy [5,6,7]=⟨0,[(5,.imm (.slice row off xs.length cap)),(6,zaa xs.length),(7,zaa i1)],[]⟩:=by
     refine zsi ?_
     generalize xs.length=n at *
     simp -implicitDefEqProofs [zno,hcut',e1,e3,h7]
    obtain⟨s',g1,g2⟩:=key
    refine⟨.normal,s',g1,.inl ⟨rfl,n-1,by omega,i1,by omega,fun j u hj hu=>?_,g2⟩⟩
    by_cases hji:j=i
    ·subst hji;rw[hv]at hu;cases hu;exact h7
    ·exact hno j u (by omega) hu
  ·have hie:i=xs.length:=by omega
   subst hie
   have ha:(xs.any fun v=>decide (v.k=7))=false:=by
    rw[xb3]
    intro v hv
    obtain⟨j,hj⟩:=xa3 hv
    have:=(xab.1 hj).1
    simpa using hno j v this hj
   refine⟨.exit 0,⟨0,[(5,.imm lv),(6,zaa xs.length),(7,zaa xs.length),(8,avb false)],[]⟩,?_,.inr ⟨by simp,.inl ⟨rfl,ha,_,_,rfl⟩⟩⟩
   generalize xs.length=n at *
   simp -implicitDefEqProofs [zno]
 refine zga ?_
 obtain⟨e,s',h1,_,hq⟩:=loop
 rw[zad code ext h]
 rcases hq with⟨rfl,ha,env,m,rfl⟩|⟨rfl,ha,m,rfl⟩
 ·rw[ha]
  generalize xs.length=n at *
  simp -implicitDefEqProofs [zlm,elen,h1]
  split<;>rfl
 ·rw[ha]
  generalize xs.length=n at *
  simp -implicitDefEqProofs [zlm,elen,h1]
  split<;>rfl
theorem z8f(c:PlainFns code)(nl:Bool)(T:List Obj)(op n:Int)(h1:op≠1)(h26:op≠26){xs:List Val}(hl:xs.length<=1000)(hw:∀x∈xs,tVal.wf x)(h7:(xs.any fun v=>decide (v.k=7))=true):
  callW code ext 206 [.optr 0 0,.agg [.imm (.val (.int .u8 op)),zaa n,.osl 1 0 2 xs.length (some xs.length),zae]] (sL nl T (tVal.row xs) 0)=some (zdb 0 0 zcg,sL nl T (tVal.row xs) 0):=by
 obtain⟨m,f1⟩:=zoc (ext:=ext) c.c580 (lv:=.slice (tVal.row xs) 0 xs.length (some xs.length)) (zi0 _ _ hw (by omega) (fun c h=>by cases h;exact xap _)) (by omega)
 rw[h7]at f1
 rw[zad code ext c.c206]
 unfold sL
 generalize tVal.row xs=L at *
 generalize tObj.row T=R at *
 generalize xs.length=k at *
 cases nl<;>simp -implicitDefEqProofs [zfq,f1,h1,h26]
end
end Go.EX

