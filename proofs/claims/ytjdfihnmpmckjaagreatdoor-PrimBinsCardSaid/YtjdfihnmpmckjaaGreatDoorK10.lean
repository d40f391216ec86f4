import Derived.Test.YtjdfihnmpmckjaaGreatDoorK8
import Derived.Test.YtjdfihnmpmckjaaGreatDoorK9
import Derived.Test.YtjdfihnmpmckjaaGreatDoorK7
import Derived.Shelf.Strings.Builder1
import Derived.Test.YtjdfihnmpmckjaaGreatDoorFmt
import Derived.Lib.ItoaLen
import Derived.Test.YtjdfihnmpmckjaaGreatDoorK5
set_option linter.unusedVariables false
set_option linter.unusedSimpArgs false
namespace Go.EX
abbrev strV(b:ByteArray):AV:=.imm (.val (.string b))
section
variable {code:Nat→Option XFun} {ext:Calls'}
end
end Go.EX


namespace Go.EX
def dig(n:Int):ByteArray:=⟨(Go.Lib.itoa n).toArray⟩
def objOf(S:List Obj)(v:Val):Option Obj:=(leadsOf S v).bind fun k=>S[k]?
section
variable {code:Nat→Option XFun} {ext:Calls'}
end
end Go.EX


namespace Go.EX
theorem zek{n:Int}(h:(tInt .i64).wf n):(dig n).size≤21:=by
 obtain⟨h0,h1⟩:=wfI64.1 h
 have:=Go.Lib.itoa_length_le n h0 h1
 show(Go.Lib.itoa n).toArray.size≤21
 simpa using this
section
variable {code:Nat→Option XFun} {ext:Calls'}
end
end Go.EX


namespace Go.EX
def miV(n:Int):List IV:=[.val (.int .u8 0),.val (.int .i64 (IntKind.wrap .i64 (-1000-n)))]
def miO(n:Int):List IV:=[.val (.int .u8 0),.val (.string (⟨#[35]⟩++dig n)),.val (.slice none 0 0),.val (.int .i64 0),.val (.int .i64 0)]
structure ItoaFns (code:Nat→Option XFun) (ext:Calls'):Prop where
 c786:code 786=some x786
 c709:code 709=some x709
 n708:code 708=none
 e708:∀a m,ext 708 a m=extItoa 708 708 a m
structure MarkFns (code:Nat→Option XFun):Prop where
 c420:code 420=some x420
 c400:code 400=some x400
 c414:code 414=some x414
 c394:code 394=some x394
 c422:code 422=some x422
section
variable {code:Nat→Option XFun} {ext:Calls'}
theorem marksV(c:MarkFns code):MarksK code ext 2 420 400 miV:=by
 refine⟨fun n=>rfl,fun s n hn=>?_,fun s n hn=>?_⟩
 ·have h:callW code ext 420 [int64 n] []=some (.agg ((miV n).map .imm),[]):=by
   rw[zb5 code ext c.c420]
   unfold miV
   simp -implicitDefEqProofs [x420]
  simp only[exView]
  simp -implicitDefEqProofs [h,miV]
 ·have h:callW code ext 400 [.agg ((miV n).map .imm),int64 n] []=some (avb true,[]):=by
   rw[zb5 code ext c.c400]
   unfold miV
   simp -implicitDefEqProofs [x400]
  unfold miV at h ⊢
  simp -implicitDefEqProofs at h
  simp -implicitDefEqProofs [exView,h]
theorem zh9(c:ItoaFns code ext)(n:Int)(hn:(tInt .i64).wf n):callW code ext 786 [int64 n] []=some (strV (dig n),[]):=by
 obtain⟨h0,h1⟩:=wfI64.1 hn
 have h:callW code ext 708 [int64 n,int64 10] []=some (strV (dig n),[]):=by
  rw[zb4 code ext c.n708 (by decide),c.e708]
  simp[extItoa,h0,h1,dig]
 have h2:callW code ext 709 [int64 n] []=some (strV (dig n),[]):=by
  rw[zb5 code ext c.c709]
  simp -implicitDefEqProofs [x709,h]
 rw[zb5 code ext c.c786]
 simp -implicitDefEqProofs [x786,h2]
theorem zwf(c:MarkFns code)(t:ItoaFns code ext){n:Int}(hn:0≤n∧n≤1000000000):callW code ext 422 [int64 n] []=some (strV (⟨#[35]⟩++dig n),[]):=by
 have hw:(tInt .i64).wf n:=wfI64.2 ⟨by omega,by omega⟩
 have h1:=zh9 (ext:=ext) t n hw
 have hs:=zek hw
 have hsz:(ByteArray.mk #[35]).size+(dig n).size≤9223372036854775807:=by
  have:(ByteArray.mk #[35]).size=1:=rfl
  omega
 rw[zb5 code ext c.c422]
 generalize dig n=d at *
 simp -implicitDefEqProofs [x422,h1,hsz]
theorem marksO(c:MarkFns code)(t:ItoaFns code ext):MarksK code ext 5 414 394 miO:=by
 refine⟨fun n=>rfl,fun s n hn=>?_,fun s n hn=>?_⟩
 ·have h1:=zwf c t hn
  have h:callW code ext 414 [int64 n] []=some (.agg ((miO n).map .imm),[]):=by
   rw[zb5 code ext c.c414]
   unfold miO
   generalize (⟨#[35]⟩++dig n:ByteArray)=d at *
   simp -implicitDefEqProofs [x414,h1]
  unfold miO at h ⊢
  generalize (⟨#[35]⟩++dig n:ByteArray)=d at *
  simp -implicitDefEqProofs [exView,h]
 ·have h1:=zwf c t hn
  have h:callW code ext 394 [.agg ((miO n).map .imm),int64 n] []=some (avb true,[]):=by
   rw[zb5 code ext c.c394]
   unfold miO
   generalize (⟨#[35]⟩++dig n:ByteArray)=d at *
   simp -implicitDefEqProofs [x394,h1]
  unfold miO at h ⊢
  generalize (⟨#[35]⟩++dig n:ByteArray)=d at *
  simp -implicitDefEqProofs at h
  simp -implicitDefEqProofs [exView,h]
structure StoreK (M:Mem) (sid N:Nat) (cp:Nat) (P:List KL):Prop where
 row:∃o L rest,M[sid]?=some o∧RowO (roRow L++rest) o∧L.map (·.l)=P.map (·.x)∧L.length=N∧(roRow L++rest).length=cp*5∧(∀w∈L,w.l.cells=some [w.l])
 cap:N≤cp∧cp≤N+1
 n:N≤10000000
 kx:∀p∈P,KX M 2 p.x p.len p.cells∧p.len≤1000000000
theorem zbw(M:Mem):Bk (M++[.rich [int64 0,nilS,nilS,nilS,nilS,nilS,nilS,nilS,nilS,nilS,nilS,nilS,nilS,nilS,nilS,nilS,nilS,nilS,nilS,nilS,nilS]]) M.length 0 nilS [] 0 nilS [] 0:=by
 refine⟨⟨_,zg7 M _,rfl,rfl,rfl,rfl,fun j h1 h2 _ _=>?_⟩,.inl ⟨rfl,rfl,rfl⟩,.inl ⟨rfl,rfl,rfl⟩,by simp[AV.refs],by simp[AV.refs],by simp[AV.refs]⟩
 obtain⟨i,rfl⟩:∃i,j=i+1:=⟨j-1,by omega⟩
 show(int64 0::List.replicate 20 nilS)[i+1]?=some nilS
 rw[List.getElem?_cons_succ,List.getElem?_replicate,if_pos (by omega)]
theorem zay(c:BookFns code)(h486:code 486=some x486W)(mV:MarksK code ext 2 420 400 miV)(mO:MarksK code ext 5 414 394 miO){M:Mem}{s1 N1 c1 s2 N2 c2:Nat}{P1 P2:List KL}(k1:StoreK M s1 N1 c1 P1)(k2:StoreK M s2 N2 c2 P2)(hnd:(refsL P1++refsL P2).Nodup)(hs:s1≠s2)(hd1:s1 ∉ refsL P1++refsL P2)(hd2:s2 ∉ refsL P1++refsL P2):
  ∃M',callW code ext 486 [.osl s1 0 5 N1 (some c1),.osl s2 0 5 N2 (some c2)] M=some (avb true,M')∧M.length<M'.length:=by
 obtain⟨o1,L1,rest1,r1,r2,r3,r4,r5,r6⟩:=k1.row
 obtain⟨o2,L2,rest2,t1,t2,t3,t4,t5,t6⟩:=k2.row
 have hs1l:s1<M.length:=(List.getElem?_eq_some_iff.1 r1).1
 have hs2l:s2<M.length:=(List.getElem?_eq_some_iff.1 t1).1
 have n1:=k1.n
 have n2:=k2.n
 have pl1:P1.length=N1:=by
  have:=congrArg List.length r3
  simp only[List.length_map]at this
  omega
 have pl2:P2.length=N2:=by
  have:=congrArg List.length t3
  simp only[List.length_map]at this
  omega
 have kb:=zbw M
 generalize hBK:AObj.rich [int64 0,nilS,nilS,nilS,nilS,nilS,nilS,nilS,nilS,nilS,nilS,nilS,nilS,nilS,nilS,nilS,nilS,nilS,nilS,nilS,nilS]=BK at kb
 have hold:∀id,id<M.length→(M++[BK])[id]?=M[id]?:=fun id h=>List.getElem?_append_left h
 obtain⟨M1,v1,id1,q1,q2,q3,q4,q5,q6⟩:=zbv (ext:=ext) c.c12 c.c10 c.c62 c.c9 c.c14 c.c64 kb (L:=L1) (by omega) (by omega) (by omega) (by omega) (by omega) r6 (cap:=some c1) (by rw[hold s1 hs1l];exact r1) r2 (by omega) (by simp[AV.refs]) (by simp[AV.refs])
 simp only[List.length_append,List.length_cons,List.length_nil,Nat.zero_add,Int.zero_add,List.nil_append]at q2 q3 q4 q5 q6
 have v1r:∀id∈v1.refs,M.length+1≤id:=fun id h=>by
  rcases q5 id h with h|h
  ·simp[AV.refs]at h
  ·exact h
 have old1:∀id,id<M.length→M1[id]?=M[id]?:=fun id h=>by
  rw[q6 id (by omega) (by omega) (by simp[AV.refs]) (by simp[AV.refs])];exact hold id h
 obtain⟨M2,v2,id2,w1,w2,w3,w4,w5,w6⟩:=zbv (ext:=ext) c.c12 c.c10 c.c62 c.c9 c.c14 c.c64 q2 (L:=L2) (by omega) (by omega) (by omega) (by omega) (by omega) t6 (cap:=some c2) (by rw[old1 s2 hs2l];exact t1) t2 (by omega) (fun h=>by have:=v1r s2 h;omega) (by simp[AV.refs];omega)
 have v2r:∀id∈v2.refs,M.length+1≤id:=fun id h=>by
  rcases w5 id h with h|h
  ·exact v1r id h
  ·omega
 have old2:∀id,id<M.length→M2[id]?=M[id]?:=fun id h=>by
  rw[w6 id (by omega) (by omega) (fun hm=>by have:=v1r id hm;omega) (by simp[AV.refs];omega)];exact old1 id h
 obtain⟨B1,hB1,_⟩:=q2.B
 obtain⟨B2,hB2,_⟩:=w2.B
 generalize hEV:entE 0 P1++entE (L1.length+1:Int) P2=EV
 generalize hEO:[KE.mk (.osl s1 0 5 N1 (some c1)) nilS (L1.length+1) N1 (roRow L1++rest1),KE.mk (.osl s2 0 5 N2 (some c2)) nilS (L1.length+1+L2.length+1) N2 (roRow L2++rest2)]=EO
 have eV:entC EV=heldC 0 (L1.map (·.l))++heldC (L1.length+1) (L2.map (·.l)):=by rw[←hEV,zex,entE_c,entE_c,r3,t3]
 have lV:EV.length=L1.length+L2.length:=by rw[←hEV,List.length_append,ze1,ze1];omega
 have eO:entC EO=[.osl s1 0 5 N1 (some c1),nilS,int64 (L1.length+1)]++[.osl s2 0 5 N2 (some c2),nilS,int64 (L1.length+1+L2.length+1)]:=by rw[←hEO];rfl
 have lO:EO.length=2:=by rw[←hEO];rfl
 have rV:refsE EV=refsL P1++refsL P2:=by rw[←hEV,zp1,ze3,ze3]
 have rO:refsE EO=[s1,s2]:=by rw[←hEO];rfl
 have mV':∀e∈EV,(∃p,(p∈P1∨p∈P2)∧e.x=p.x∧e.len=p.len∧e.cells=p.cells)∧0≤e.n∧e.n≤1000000000:=fun e he=>by
  rw[←hEV]at he
  rcases List.mem_append.1 he with he|he
  ·obtain⟨⟨p,hp,h⟩,h2,h3⟩:=ze2 _ _ _ he
   exact⟨⟨p,.inl hp,h⟩,by omega,by omega⟩
  ·obtain⟨⟨p,hp,h⟩,h2,h3⟩:=ze2 _ _ _ he
   exact⟨⟨p,.inr hp,h⟩,by omega,by omega⟩
 have xV:∀e∈EV,KX M 2 e.x e.len e.cells∧e.len≤1000000000:=fun e he=>by
  obtain⟨⟨p,hp,g1,g2,g3⟩,_⟩:=mV' e he
  rw[g1,g2,g3]
  rcases hp with hp|hp
  ·exact k1.kx p hp
  ·exact k2.kx p hp
 have ltV:∀id∈refsE EV,id<M.length:=fun id hid=>by
  obtain⟨e,he,hid⟩:=List.mem_flatMap.1 hid
  exact kx_lt (xV e he).1 id hid
 have xO:∀e∈EO,KX M 5 e.x e.len e.cells∧e.len≤1000000000:=fun e he=>by
  rw[←hEO]at he
  simp only[List.mem_cons,List.not_mem_nil,or_false]at he
  rcases he with rfl|rfl
  ·exact⟨.inl ⟨s1,c1,o1,rfl,r1,r2,r5,k1.cap.1,k1.cap.2⟩,by dsimp only;omega⟩
  ·exact⟨.inl ⟨s2,c2,o2,rfl,t1,t2,t5,k2.cap.1,k2.cap.2⟩,by dsimp only;omega⟩
 have nO:∀e∈EO,0≤e.n∧e.n≤1000000000:=fun e he=>by
  rw[←hEO]at he
  simp only[List.mem_cons,List.not_mem_nil,or_false]at he
  rcases he with rfl|rfl
  ·exact⟨by dsimp only;omega,by dsimp only;omega⟩
  ·exact⟨by dsimp only;omega,by dsimp only;omega⟩
 have kb2:Bk M2 M.length (L1.length+1+L2.length+1) v2 (entC EV) EV.length (.osl id2 0 3 (1+1) none) (entC EO) EO.length:=by
  rw[eV,lV,eO,lO,←r4,←t4]
  exact w2
 have mono:∀{sz:Nat} (e:KE),KX M sz e.x e.len e.cells→KX M2 sz e.x e.len e.cells:=fun e h=>zis h fun id hid=>old2 id (kx_lt h id hid)
 obtain⟨M3,c3,l3⟩:=zav (ext:=ext) c mV mO kb2 (by omega) (by omega) (fun e he=>(mV' e he).2) nO (fun e he=>⟨mono e (xV e he).1,(xV e he).2⟩) (fun e he=>⟨mono e (xO e he).1,(xO e he).2⟩) (by rw[rV];exact hnd) (by rw[rO];simp[hs]) (fun id hid=>by
   rw[rO]
   rw[rV]at hid
   simp only[List.mem_cons,List.not_mem_nil,or_false]
   rintro(rfl|rfl)
   ·exact hd1 hid
   ·exact hd2 hid) (fun id hid=>by
   have:=ltV id hid
   exact⟨by omega,fun hm=>by have:=v2r id hm;omega,by simp[AV.refs];omega⟩) (fun id hid=>by
   rw[rO]at hid
   simp only[List.mem_cons,List.not_mem_nil,or_false]at hid
   rcases hid with rfl|rfl
   ·exact⟨by omega,fun hm=>by have:=v2r _ hm;omega,by simp[AV.refs];omega⟩
   ·exact⟨by omega,fun hm=>by have:=v2r _ hm;omega,by simp[AV.refs];omega⟩)
 refine⟨M3,?_,by omega⟩
 have hmb:∀B,(AObj.rich B).moved=false:=fun _=>rfl
 have g1:M1[s2]?=some o2:=by rw[old1 s2 hs2l];exact t1
 have gm2:=zrg t2
 rw[←hBK]at q1
 rw[r4]at q1
 rw[t4]at w1
 rw[zb5 code ext h486]
 simp -implicitDefEqProofs [x486W,-AObj.moved,q1,hB1,hmb,g1,gm2,w1,hB2,c3]
end
end Go.EX


namespace Go.EX
section
variable {code:Nat→Option XFun} {ext:Calls'}
theorem zvv(h:code 380=some x380){iv:IV}{xs:List Val}(hr:Reads tVal iv xs):callW code ext 380 [.imm iv] []=some (int64 xs.length,[]):=by
 rw[zb5 code ext h]
 simp -implicitDefEqProofs [x380,zpr hr]
def objSize(o:Obj):Int:=if (1+o.s.size:Int)≤1048576 then 1+o.s.size+o.l.xs.length else 1+o.s.size
theorem zm5(h:code 380=some x380)(h':code 338=some x338)(o:Obj)(hw:tObj.wf o):
  callW code ext 338 [.agg [.imm (.val (.int .u8 o.k)),.imm (.val (.string o.s)),.imm o.l.iv,int64 o.room,int64 o.fn]] []=some (int64 (objSize o),[]):=by
 rw[zb5 code ext h']
 have hs:o.s.size≤140737488355328:=hw.2.1
 have hl:=o.l.ok.2.1
 have e1:IntKind.wrap .i64 (1+(o.s.size:Int))=1+o.s.size:=wrapI64 (by omega) (by omega)
 have e2:IntKind.wrap .i64 (1+(o.s.size:Int)+o.l.xs.length)=1+o.s.size+o.l.xs.length:=wrapI64 (by omega) (by omega)
 have hv:=zvv (ext:=ext) h o.l.ok
 by_cases hc:(1+o.s.size:Int)≤1048576
 ·simp -implicitDefEqProofs [x338,e1,e2,hc,hv,objSize]
 ·simp -implicitDefEqProofs [x338,e1,hc,objSize]
def sizeGo:Int→List Obj→Int
 |n,[]=>n
 |n,o::r=>if n≤1048576 then sizeGo (n+objSize o) r else n
theorem zm4(o:Obj)(hw:tObj.wf o):1≤objSize o∧objSize o≤281474976710658:=by
 have hs:o.s.size≤140737488355328:=hw.2.1
 have hl:=o.l.ok.2.1
 unfold objSize
 split<;>omega
theorem znd(h:code 380=some x380)(h':code 338=some x338)(h2:code 339=some x339){iv:IV}{xs:List Obj}(hr:Reads tObj iv xs):callW code ext 339 [.imm iv] []=some (int64 (sizeGo xs.length xs),[]):=by
 have hlen:=zpr hr
 have hb:=hr.2.1
 have loop:∃e s',den code ext (.loop [0,3,4] x339L1) ⟨0,[(0,.imm iv),(3,int64 xs.length),(4,int64 0)],[]⟩=some (e,s')∧e≠ .normal∧
   (e=.exit 0∧s'.k=0∧s'.mem=[]∧s'.env.get 3=int64 (sizeGo xs.length xs)):=by
  refine zjp (fun n s=>∃(i:Nat) (m:Int),i+n=xs.length∧0≤m∧m≤1000000000000000∧sizeGo xs.length xs=sizeGo m (xs.drop i)∧s=⟨0,[(0,.imm iv),(3,int64 m),(4,int64 (i:Nat))],[]⟩) _ ?_ xs.length _ ⟨0,xs.length,by simp,by omega,by omega,by simp,rfl⟩
  rintro n _ ⟨i,m,hi,hm0,hm1,hg,rfl⟩
  by_cases hlt:i<xs.length
  ·obtain⟨row,off,cap,rfl,hc,hcut,hget⟩:=zps hr (List.getElem?_eq_getElem hlt)
   have e1:IntKind.wrap .i64 ((i:Int)+1)=(i:Int)+1:=wrapI64 (by omega) (by omega)
   rw[List.drop_eq_getElem_cons hlt,sizeGo]at hg
   have hw:=hr.1 _ (List.getElem_mem hlt)
   generalize xs[i]=o at hget hg hw
   have hbd:=zm4 o hw
   have hs:=zm5 (ext:=ext) h h' o hw
   simp only[tObj]at hget
   by_cases hc2:m≤1048576
   ·rw[if_pos hc2]at hg
    have e2:IntKind.wrap .i64 (m+objSize o)=m+objSize o:=wrapI64 (by omega) (by omega)
    refine⟨.normal,⟨0,[(0,.imm (.slice row off xs.length cap)),(3,int64 (m+objSize o)),(4,int64 ((i:Int)+1))],[]⟩,?_,.inl ⟨rfl,n-1,by omega,i+1,_,by omega,by omega,by omega,hg,rfl⟩⟩
    simp -implicitDefEqProofs [x339L1,hlt,hget,hc2,hs,e1,e2]
   ·rw[if_neg hc2]at hg
    refine⟨.exit 0,⟨0,[(0,.imm (.slice row off xs.length cap)),(3,int64 m),(4,int64 (i:Int)),(14,avb false)],[]⟩,?_,.inr ⟨by simp,rfl,rfl,rfl,by rw[hg];simp⟩⟩
    simp -implicitDefEqProofs [x339L1,hlt,hc2]
  ·have:¬((i:Int)<xs.length):=by omega
   refine⟨.exit 0,⟨0,[(0,.imm iv),(3,int64 m),(4,int64 (i:Int)),(14,avb false)],[]⟩,?_,.inr ⟨by simp,rfl,rfl,rfl,?_⟩⟩
   ·simp -implicitDefEqProofs [x339L1,hlen,this]
   ·rw[hg,List.drop_eq_nil_of_le (by omega)];simp[sizeGo]
 obtain⟨e,s',h1,_,rfl,h3,h4,h5⟩:=loop
 rw[zb5 code ext h2]
 simp -implicitDefEqProofs [x339,hlen,h1,h3,h4,h5]
theorem zt4(h:code 380=some x380)(h':code 338=some x338)(h2:code 339=some x339)(h3:code 361=some x361){iv:IV}{xs:List Obj}(hr:Reads tObj iv xs):callW code ext 361 [.imm iv] []=some (int64 (sizeGo xs.length xs),[]):=by
 rw[zb5 code ext h3]
 simp -implicitDefEqProofs [x361,znd h h' h2 hr]
end
end Go.EX


namespace Go.EX
section
variable {code:Nat→Option XFun} {ext:Calls'}
def sumL:List Obj→Int
 |[]=>0
 |o::r=>o.l.xs.length+sumL r
theorem ztm:∀(l:List Obj) (m:Int),(∀o∈l,tObj.wf o)→0≤m→m≤1000000000000000→m≤sizeGo m l∧sizeGo m l≤1000000000000000
 |[],m,_,h0,h1=>⟨Int.le_refl _,h1⟩
 |o::r,m,hw,h0,h1=>by
  have hb:=zm4 o (hw o (List.mem_cons_self ..))
  rw[sizeGo]
  split
  ·have:=ztm r (m+objSize o) (fun x hx=>hw x (List.mem_cons_of_mem _ hx)) (by omega) (by omega)
   omega
  ·omega
def spVal:Val:=⟨0,7777⟩
theorem zvj(h:code 379=some x379){iv:IV}{xs:List Val}(hr:Reads tVal iv xs)(hb:xs.length≤1000000000):
  callW code ext 379 [.imm iv] []=some (.osl 0 0 2 xs.length (some (xs.length+1)),[.flat (tVal.row (xs++[spVal])) false]):=
 zvo tVal zVal spVal 16 [.int .u8 0,.int .i64 0] (by decide) rfl (by simp[Value.oneCell']) 1 (.int .i64 7777) (by decide) rfl (h.trans rfl) hr (by omega) (by omega)
end
end Go.EX


namespace Go.EX
section
variable {code:Nat→Option XFun} {ext:Calls'}
theorem zdy{α:Type}(t:Ty α)(xs ys:List α):cut (t.row (xs++ys)) 0 (xs.length*t.sz)=some (t.row xs):=by
 rw[zrm]
 refine cut_mk ?_ (zrn t xs)
 rw[List.drop_zero,←zrn t xs,List.take_left]
def twinIV{α:Type}(t:Ty α)(sp:α)(xs:List α):IV:=.slice (t.row (xs++[sp])) 0 xs.length (some (xs.length+1))
theorem zu7{α:Type}(t:Ty α)(sp:α){iv:IV}{xs:List α}(h:Reads t iv xs):Reads t (twinIV t sp xs) xs:=
 ⟨h.1,h.2.1,.inr ⟨_,0,_,rfl,fun c hc=>by cases hc;omega,zdy t xs [sp]⟩⟩
def twinVals(l:Sl tVal):Sl tVal:=⟨twinIV tVal spVal l.xs,l.xs,zu7 tVal spVal l.ok⟩
def twinObj(o:Obj):Obj:={ o with l:=twinVals o.l }
def spObj:Obj:=⟨0,⟨#[115,112,97,114,101]⟩,⟨.val (.slice none 0 0),[],⟨by simp,by simp,.inl ⟨rfl,rfl⟩⟩⟩,0,0⟩
def zObj:Obj:=⟨0,.empty,⟨.val (.slice none 0 0),[],⟨by simp,by simp,.inl ⟨rfl,rfl⟩⟩⟩,0,0⟩
theorem zu9(h:code 379=some x379)(h':code 372=some x372)(o:Obj)(hb:o.l.xs.length≤1000000000):
  callW code ext 372 [.agg [.imm (.val (.int .u8 o.k)),.imm (.val (.string o.s)),.imm o.l.iv,int64 o.room,int64 o.fn]] []=
   some (.agg [.imm (.val (.int .u8 o.k)),.imm (.val (.string o.s)),.imm (twinIV tVal spVal o.l.xs),int64 o.room,int64 o.fn],[]):=by
 rw[zb5 code ext h']
 have ht:=zvj (ext:=ext) h o.l.ok hb
 simp -implicitDefEqProofs [x372,ht,twinIV]
end
end Go.EX


namespace Go.EX
section
variable {num:Names} {P:Program}
variable {call:Calls'} {N:Nat} {ops:Array Oper} {xs:List XO} {n:Nat} {s0 sF:St} {S:Nat→St} {sp:Nat→Bool}
structure Box (C0:Cx) (m0:Mem) (D:Cx) (m:Mem) (b:Nat) (es:List (Value×Value)):Prop where
 own0:C0.w.heap.size≤b∨Own C0 m0 b
 lt:b<D.w.heap.size
 row:∃(es':Array MapEntry) (clk:Nat),D.w.heap[b]?=some (.map es' clk)∧es'.size=es.length∧∀(j:Nat) p x,es[j]?=some p→es'[j]?=some x→x.key=p.1∧x.val=p.2
 imm:¬D.I b
 no:¬Own D m b
 one:∀p∈es,p.1.oneCell'=true∧p.2.oneCell'=true
theorem Box.keep{C0 D E:Cx}{m0 m m':Mem}{b k:Nat}{es:List (Value×Value)}(B:Box C0 m0 D m b es)(h:Step num k D m E m'):Box C0 m0 E m' b es:=by
 refine⟨B.own0,Nat.lt_of_lt_of_le B.lt h.size,?_,fun hI=>?_,fun ho=>?_,B.one⟩
 ·obtain⟨es',clk,h1,h2⟩:=B.row
  exact⟨es',clk,by rw[h.keep b B.lt B.no];exact h1,h2⟩
 ·rcases h.imm' b hI with h1|h1|h1
  ·exact B.imm h1
  ·have:=B.lt;omega
  ·exact B.no h1
 ·rcases h.own b ho with h1|h1
  ·have:=B.lt;omega
  ·exact B.no h1
theorem zos{n id:Nat}(h:id<n):place (List.range n) id=some id:=zoq _ _ _ List.nodup_range (by simp[h])
end
end Go.EX


set_option maxRecDepth 100000
namespace Go.EX
def x372R:XFun:=⟨[.cell 2 (some 5)],
 (.seq (.region [1,2] [⟨(some 1),.box 5 (.t 0),none⟩,
  ⟨(some 2),.alloc [(.int .u8 0),(.string .empty),(.slice none 0 0),(.int .i64 0),(.int .i64 0)],none⟩])
 (.seq (.region [2] [⟨(some 3),.fieldA 0 (.t 1),none⟩,
  ⟨(some 4),.load none (.t 3),none⟩,
  ⟨(some 5),.fieldA 1 (.t 1),none⟩,
  ⟨(some 6),.load none (.t 5),none⟩,
  ⟨(some 7),.fieldA 2 (.t 1),none⟩,
  ⟨(some 8),.load none (.t 7),none⟩,
  ⟨(some 9),.call .own 379 [(.t 8)],none⟩,
  ⟨(some 10),.fieldA 3 (.t 1),none⟩,
  ⟨(some 11),.load none (.t 10),none⟩,
  ⟨(some 12),.fieldA 4 (.t 1),none⟩,
  ⟨(some 13),.load none (.t 12),none⟩,
  ⟨(some 14),.build [(.int .u8 0),(.string .empty),(.slice none 0 0),(.int .i64 0),(.int .i64 0)] [(0,1,(.t 4)),(1,1,(.t 6)),(2,1,(.t 9)),(3,1,(.t 11)),(4,1,(.t 13))],none⟩,
  ⟨none,.store 5 (.t 2) (.t 14),none⟩])
 .ret))⟩
def x373RL1:XCode:=
 (.seq (.seq (.region [0,3,4,12] [⟨(some 9),.mv (.t 4),none⟩,
  ⟨(some 10),.mv (.t 0),none⟩,
  ⟨(some 11),.len (.t 10),none⟩,
  ⟨(some 12),.bin .lss (.t 9) (.t 11),none⟩])
 (.cond (.t 12)
  .skip
  (.exit 0)))
 (.seq (.block 1 (.region [0,3,4] [⟨(some 15),.mv (.t 3),none⟩,
  ⟨(some 16),.mv (.t 0),none⟩,
  ⟨(some 17),.mv (.t 4),none⟩,
  ⟨(some 18),.idxA 5 (.t 16) (.t 17),none⟩,
  ⟨(some 19),.load (some 5) (.t 18),none⟩,
  ⟨(some 20),.call .own 372 [(.t 19)],none⟩,
  ⟨(some 21),.buildSlice 5 [(.int .u8 0),(.string .empty),(.slice none 0 0),(.int .i64 0),(.int .i64 0)] 1 [(0,5,(.t 20))],none⟩,
  ⟨(some 22),.append 5 64 (.t 15) (.t 21),none⟩,
  ⟨(some 3),.mv (.t 22),none⟩]))
 (.region [0,3,4] [⟨(some 13),.mv (.t 4),none⟩,
  ⟨(some 14),.bin .add (.t 13) (.c (.int .i64 1)),none⟩,
  ⟨(some 4),.mv (.t 14),none⟩])))
def x373R:XFun:=⟨[.tmp 2],
 (.seq (.region [0] [⟨(some 2),.mv (.c (.slice none 0 0)),none⟩])
 (.seq (.region [0,3] [⟨(some 5),.mv (.t 0),none⟩,
  ⟨(some 6),.len (.t 5),none⟩,
  ⟨(some 7),.bin .add (.t 6) (.c (.int .i64 1)),none⟩,
  ⟨(some 8),.makeSlice 5 64 [(.int .u8 0),(.string .empty),(.slice none 0 0),(.int .i64 0),(.int .i64 0)] (.c (.int .i64 0)) (.t 7),none⟩,
  ⟨(some 3),.mv (.t 8),none⟩])
 (.seq (.seq (.region [0,3,4] [⟨(some 4),.mv (.c (.int .i64 0)),none⟩])
 (.block 0 (.loop [0,3,4] x373RL1)))
 (.seq (.region [2] [⟨(some 23),.mv (.t 3),none⟩,
  ⟨(some 24),.build [(.int .u8 0),(.string .empty),(.slice none 0 0),(.int .i64 0),(.int .i64 0)] [(1,1,(.c (.string ⟨#[115,112,97,114,101]⟩)))],none⟩,
  ⟨(some 25),.buildSlice 5 [(.int .u8 0),(.string .empty),(.slice none 0 0),(.int .i64 0),(.int .i64 0)] 1 [(0,5,(.t 24))],none⟩,
  ⟨(some 26),.append 5 64 (.t 23) (.t 25),none⟩,
  ⟨(some 27),.mv (.t 0),none⟩,
  ⟨(some 28),.len (.t 27),none⟩,
  ⟨(some 29),.slice 5 (.t 26) none (some (.t 28)),none⟩,
  ⟨(some 2),.mv (.t 29),none⟩])
 .ret))))⟩
theorem zpj(m:Mem):∀(todo:List Nat) (fuel:Nat) (acc:List Nat),todo.length≤fuel→(∀t∈todo,t<m.length∧((m[t]?).getD .dead).refs=[]∧t ∉ acc)→todo.Nodup→reach m fuel todo acc=acc++todo
 |[],fuel,acc,_,_,_=>by cases fuel<;>simp[reach]
 |t::r,0,acc,h,_,_=>by simp at h
 |t::r,fuel+1,acc,h,h1,h2=>by
  obtain⟨a,b,c⟩:=h1 t (List.mem_cons_self ..)
  rw[List.nodup_cons]at h2
  rw[reach,if_neg c,if_pos a,b,List.append_nil,zpj m r fuel (acc++[t]) (by simpa using h) (fun x hx=>?_) h2.2]
  ·simp
  ·obtain⟨d,e,f⟩:=h1 x (List.mem_cons_of_mem _ hx)
   refine⟨d,e,fun hm=>?_⟩
   rw[List.mem_append,List.mem_singleton]at hm
   rcases hm with hm|rfl
   ·exact f hm
   ·exact h2.1 hx
structure RowsQ (o:AObj) (los:List AObj):Prop where
 refs:o.refs=(List.range los.length).map (· +1)
 flat:∀l∈los,∃cs mv,l=.flat cs mv
theorem zrs{o:AObj}{los junk:List AObj}(h:RowsQ o los)(hl:los.length≤10000000):order 0 [0] (o::(los++junk))=List.range (los.length+1):=by
 have h1:List.range (los.length+1)=0::(List.range los.length).map (· +1):=by
  rw[List.range_succ_eq_map]
 unfold order
 rw[h1]
 simp only[List.take_zero,Mem.refs,List.append_nil,List.range_zero]
 rw[show(1000000000000:Nat)=999999999999+1 from rfl,reach]
 simp only[List.not_mem_nil,if_false,List.length_cons,Nat.zero_lt_succ,if_true,List.getElem?_cons_zero,Option.getD_some,h.refs,List.nil_append]
 rw[zpj]
 ·rfl
 ·simp;omega
 ·intro t ht
  simp only[List.mem_map,List.mem_range]at ht
  obtain⟨i,hi,rfl⟩:=ht
  refine⟨by simp;omega,?_,by simp⟩
  rw[List.getElem?_cons_succ,List.getElem?_append_left hi,List.getElem?_eq_getElem hi]
  obtain⟨cs,mv,e⟩:=h.flat _ (List.getElem_mem hi)
  rw[Option.getD_some,e];rfl
 ·refine(List.pairwise_map.2 ?_)
  exact List.nodup_range.imp fun h e=>h (by omega)
theorem zrr{o:AObj}{los junk:List AObj}(h:RowsQ o los):Mem.pickAll (o::(los++junk)) (List.range (los.length+1))=o::los:=by
 have hp:∀id,id<los.length+1→place (List.range (los.length+1)) id=some id:=fun id hid=>zos hid
 unfold Mem.pickAll
 rw[List.range_succ_eq_map,List.map_cons,←List.range_succ_eq_map]
 simp only[List.getElem?_cons_zero,Option.getD_some,List.map_map]
 congr 1
 ·refine zm7 fun id hid=>hp id ?_
  rw[h.refs]at hid
  simp only[List.mem_map,List.mem_range]at hid
  obtain⟨i,hi,rfl⟩:=hid
  omega
 ·refine List.ext_getElem (by simp) fun j h1 h2=>?_
  simp only[List.getElem_map,List.getElem_range,Function.comp,List.getElem?_cons_succ]
  rw[List.getElem?_append_left h2,List.getElem?_eq_getElem h2,Option.getD_some]
  obtain⟨cs,mv,e⟩:=h.flat _ (List.getElem_mem h2)
  rw[e];rfl
theorem zup{o:AObj}{los junk:List AObj}(h:RowsQ o los)(hl:los.length≤10000000)(e:Env)(keep:List Nat)(hka:keepAll keep=false)(hr:(e.keep keep).roots=[0])(hren:∀f:Nat→Option Nat,f 0=some 0→(e.keep keep).ren f=e.keep keep):
  St.tidy ⟨0,e,o::(los++junk)⟩ keep=⟨0,e.keep keep,o::los⟩:=by
 unfold St.tidy
 simp only[List.length_cons]
 rw[if_neg (by omega),if_neg (by rw[hka];decide),hr,zrs h hl,zrr h,hren _ (zos (by omega))]
theorem zi5{o:AObj}{los junk:List AObj}(h:RowsQ o los)(hl:los.length≤10000000):order 0 [0] (o::(los++junk))=List.range (los.length+1)∧Mem.pickAll (o::(los++junk)) (List.range (los.length+1))=o::los:=
 ⟨zrs h hl,zrr h⟩
def twRO(j:Nat)(o:Obj):RO:=⟨.imm (.val (.int .u8 o.k)),.imm (.val (.string o.s)),.osl j 0 2 o.l.xs.length (some (o.l.xs.length+1)),int64 o.room,int64 o.fn⟩
def twR:Nat→List Obj→List RO
 |_,[]=>[]
 |j,o::r=>twRO j o::twR (j+1) r
def zeroO:List AV:=[.imm (.val (.int .u8 0)),.imm (.val (.string .empty)),nilS,int64 0,int64 0]
def spareO:List AV:=[.imm (.val (.int .u8 0)),.imm (.val (.string ⟨#[115,112,97,114,101]⟩)),nilS,int64 0,int64 0]
def lobjO(o:Obj):AObj:=.flat (tVal.row (o.l.xs++[spVal])) false
theorem zu1:∀(S:List Obj) (j:Nat),(twR j S).length=S.length
 |[],j=>rfl
 |o::r,j=>by simp[twR,zu1 r]
theorem zuy:∀(S:List Obj) (j:Nat) (o:Obj),twR j (S++[o])=twR j S++[twRO (j+S.length) o]
 |[],j,o=>by simp[twR]
 |g::r,j,o=>by
  simp only[List.cons_append,twR,zuy r,List.length_cons]
  have:j+1+r.length=j+(r.length+1):=by omega
  rw[this]
theorem zq3(L:List RO)(o:RO):roRow (L++[o])=roRow L++o.cells:=by simp[roRow]
theorem zp2:∀(a b:List AV),AV.refs.refsL (a++b)=AV.refs.refsL a++AV.refs.refsL b
 |[],b=>rfl
 |x::a,b=>by simp only[List.cons_append,AV.refs.refsL,zp2 a b,List.append_assoc]
theorem zu2:∀(S:List Obj) (j:Nat),AV.refs.refsL (roRow (twR j S))=(List.range S.length).map (· +j)
 |[],j=>rfl
 |f::r,j=>by
  have h:roRow (twR j (f::r))=(twRO j f).cells++roRow (twR (j+1) r):=rfl
  rw[h,zp2,zu2 r]
  rw[List.length_cons,List.range_succ_eq_map,List.map_cons,List.map_map]
  simp only[twRO,RO.cells,AV.refs.refsL,AV.refs,List.nil_append,List.append_nil,List.cons_append,Nat.zero_add]
  congr 1
  refine List.map_congr_left fun x _=>?_
  simp only[Function.comp];omega
theorem zxr:∀n,AV.refs.refsL (copies n zeroO)=[]
 |0=>rfl
 |n+1=>by rw[copies,zp2,zxr n];rfl
theorem zrh{cells:List AV}{o:AObj}(h:RowO cells o):o.refs=AV.refs.refsL cells:=by
 rcases h with rfl|⟨cs,rfl,rfl⟩
 ·rfl
 ·have:∀l:List IV,AV.refs.refsL (l.map .imm)=[]:=by
   intro l;induction l with
   |nil=>rfl
   |cons x l ih=>simp only[List.map_cons,AV.refs.refsL,AV.refs,ih,List.append_nil]
  rw[this];rfl
theorem zrj{cells:List AV}{o:AObj}(h:RowO cells o)(r:Mem):richOf (o::r) 0=some cells:=by
 rcases h with rfl|⟨cs,rfl,rfl⟩<;>rfl
theorem zat(e:Env){o a:AObj}{los:List AObj}{cells one:List AV}(i c:Nat)(ho:RowO cells o)(h1:imms one=none)(h2:one.length=5)(h3:i+1≤c)(h4:(i+1)*5≤cells.length):
  exAppendX ⟨0,e,o::(los++[a,.rich one])⟩ 5 64 (.osl 0 0 5 i (some c)) (.osl (los.length+2) 0 5 1 (some 1))=some (.osl 0 0 5 (i+1) (some c),⟨0,e,.rich (setAll cells (i*5) one)::(los++[a,.rich one])⟩):=by
 have hg:(o::(los++[a,.rich one]))[los.length+2]?=some (.rich one):=by
  rw[List.getElem?_cons_succ,List.getElem?_append_right (by omega)]
  simp
 have hcut:cut one 0 (1*5)=some one:=zdv _ (by omega)
 have hel:elems (o::(los++[a,.rich one])) 5 (.osl (los.length+2) 0 5 1 (some 1))=none:=by
  simp only[elems,hg,hcut,h1,Option.map_none]
 have hel2:elemsR (o::(los++[a,.rich one])) 5 (.osl (los.length+2) 0 5 1 (some 1))=some (1,one):=by
  simp only[elemsR,hg,hcut,Option.map_some]
 simp only[exAppendX,exAppend,hel,exAppendR,hel2,zrj ho]
 simp[h3,h4]
theorem zau{o:AObj}{los:List AObj}{cells:List AV}(i c:Nat)(sp:List IV)(ho:RowO cells o)(h2:sp.length=5)(h3:i+1≤c)(h4:(i+1)*5≤cells.length):
  ∃o2,RowO (setAll cells (i*5) (sp.map .imm)) o2∧∀e,exAppendX ⟨0,e,o::(los++[.flat sp false])⟩ 5 64 (.osl 0 0 5 i (some c)) (.osl (los.length+1) 0 5 1 (some 1))=some (.osl 0 0 5 (i+1) (some c),⟨0,e,o2::(los++[.flat sp false])⟩):=by
 have hg:(o::(los++[.flat sp false]))[los.length+1]?=some (.flat sp false):=by
  rw[List.getElem?_cons_succ,List.getElem?_append_right (by omega)]
  simp
 have hcut:cut sp 0 (1*5)=some sp:=zdv _ (by omega)
 have hel:elems (o::(los++[.flat sp false])) 5 (.osl (los.length+1) 0 5 1 (some 1))=some (1,sp):=by
  simp only[elems,hg,hcut,Option.map_some]
 have hel2:elemsR (o::(los++[.flat sp false])) 5 (.osl (los.length+1) 0 5 1 (some 1))=some (1,sp.map .imm):=by
  simp only[elemsR,hg,hcut,Option.map_some]
 rcases ho with rfl|⟨cs,rfl,rfl⟩
 ·refine⟨_,.inl rfl,fun e=>?_⟩
  simp only[exAppendX,exAppend,hel,List.getElem?_cons_zero,if_true,exAppendR,hel2,richOf]
  simp[h3,h4]
 ·refine⟨.flat (setAll cs (i*5) sp) false,.inr ⟨_,rfl,zs6 sp cs _⟩,fun e=>?_⟩
  rw[List.length_map]at h4
  simp only[exAppendX,exAppend,hel,List.getElem?_cons_zero,if_true]
  simp[h3,h4]
theorem zrq{o:AObj}{S:List Obj}{n:Nat}(h:RowO (roRow (twR 1 S)++copies n zeroO) o):RowsQ o (S.map lobjO):=by
 refine⟨?_,fun l hl=>?_⟩
 ·rw[zrh h,zp2,zu2,zxr,List.append_nil,List.length_map]
 ·obtain⟨f,_,rfl⟩:=List.mem_map.1 hl
  exact⟨_,_,rfl⟩
section
variable {code:Nat→Option XFun} {ext:Calls'}
theorem zu8(h:code 379=some x379)(h':code 372=some x372R)(o:Obj)(hb:o.l.xs.length≤1000000000):
  callW code ext 372 [.agg [.imm (.val (.int .u8 o.k)),.imm (.val (.string o.s)),.imm o.l.iv,int64 o.room,int64 o.fn]] []=
   some (.agg (twRO 0 o).cells,[lobjO o]):=by
 rw[zb5 code ext h']
 have ht:=zvj (ext:=ext) h o.l.ok hb
 simp -implicitDefEqProofs [x372R,ht,twRO,RO.cells,lobjO]
theorem znc (h:code 379=some x379) (h':code 372=some x372R) {iv:IV} {xs:List Obj} (hr:Reads tObj iv xs) (hl:xs.length≤1048576) (hs:∀o∈xs,o.l.xs.length≤1000000):
  ∃e s',den code ext (.loop [0,3,4] x373RL1) ⟨0,[(0,.imm iv),(3,.osl 0 0 5 0 (some (xs.length+1))),(4,int64 0)],[.flat (copies (xs.length+1) [.val (.int .u8 0),.val (.string .empty),.val (.slice none 0 0),.val (.int .i64 0),.val (.int .i64 0)]) false]⟩=some (e,s')∧e≠ .normal∧
   (e=.exit 0∧∃o,RowO (roRow (twR 1 xs)++copies 1 zeroO) o∧s'=⟨0,[(0,.imm iv),(3,.osl 0 0 5 xs.length (some (xs.length+1))),(4,int64 xs.length),(12,avb false)],o::xs.map lobjO⟩):=by
 have hlen:=zpr hr
 have hcm:∀n,(copies n zeroO)=(copies n [IV.val (.int .u8 0),.val (.string .empty),.val (.slice none 0 0),.val (.int .i64 0),.val (.int .i64 0)]).map .imm:=by
  intro n;induction n with
  |zero=>rfl
  |succ n ih=>rw[copies,copies,List.map_append,←ih];rfl
 refine zjp (fun n s=>∃i o,i+n=xs.length∧RowO (roRow (twR 1 (xs.take i))++copies (n+1) zeroO) o∧s.tidy [0,3,4]=⟨0,[(0,.imm iv),(3,.osl 0 0 5 i (some (xs.length+1))),(4,int64 (i:Nat))],o::(xs.take i).map lobjO⟩) _ ?_ xs.length _
  ⟨0,.flat (copies (xs.length+1) [.val (.int .u8 0),.val (.string .empty),.val (.slice none 0 0),.val (.int .i64 0),.val (.int .i64 0)]) false,by simp,.inr ⟨_,rfl,by rw[hcm];rfl⟩,by simp -implicitDefEqProofs []⟩
 rintro n s ⟨i,o,hi,ho,hst⟩
 rw[hst]
 by_cases hlt:i<xs.length
 ·have hsm:=hs _ (List.getElem_mem hlt)
  obtain⟨row,off,cap,rfl,hc,hcut,hget⟩:=zps hr (List.getElem?_eq_getElem hlt)
  have e1:IntKind.wrap .i64 ((i:Int)+1)=(i:Int)+1:=wrapI64 (by omega) (by omega)
  obtain⟨m,rfl⟩:∃m,n=m+1:=⟨n-1,by omega⟩
  have hlt':(i:Int)<xs.length:=by omega
  have htk:xs.take (i+1)=xs.take i++[xs[i]]:=by rw[List.take_add_one,List.getElem?_eq_getElem hlt];rfl
  have hti:(xs.take i).length=i:=by rw[List.length_take];omega
  generalize xs[i]=f at hget htk hsm
  generalize hF:xs.take i=F at ho htk hti hst ⊢
  simp only[tObj]at hget
  have ht:=zu8 (ext:=ext) h h' f (by omega)
  have hlos:(F.map lobjO).length=i:=by simp[hti]
  have hap:=fun e=>zat e (a:=lobjO f) (los:=F.map lobjO) (one:=(twRO (i+1) f).cells) i (xs.length+1) ho rfl rfl (by omega) (by simp only[List.length_append,zq6,zu1,zdr,hti];simp[zeroO];omega)
  have hset:setAll (roRow (twR 1 F)++copies (m+1+1) zeroO) (i*5) (twRO (i+1) f).cells=roRow (twR 1 (F++[f]))++copies (m+1) zeroO:=by
   rw[copies,ztc _ zeroO _ (twRO (i+1) f).cells (by simp[zeroO,RO.cells]) (by rw[zq6,zu1,hti]),zuy,hti,zq3,Nat.add_comm 1 i,List.append_assoc]
  rw[hset,hlos]at hap
  have hrows:RowsQ (.rich (roRow (twR 1 (F++[f]))++copies (m+1) zeroO)) ((F++[f]).map lobjO):=zrq (n:=m+1) (.inl rfl)
  refine⟨.normal,⟨0,[(0,.imm (.slice row off xs.length cap)),(3,.osl 0 0 5 (i+1) (some (xs.length+1))),(4,int64 ((i:Int)+1))],.rich (roRow (twR 1 (F++[f]))++copies (m+1) zeroO)::(((F++[f]).map lobjO)++[.rich (twRO (i+1) f).cells])⟩,?_,.inl ⟨rfl,m,by omega,i+1,.rich (roRow (twR 1 (F++[f]))++copies (m+1) zeroO),by omega,?_,?_⟩⟩
  rotate_left
  ·rw[htk];exact .inl rfl
  ·rw[zup hrows (by simp;omega) _ _ rfl (by simp) (fun f hf=>by simp[hf]),htk]
   simp
  simp only[twRO,RO.cells,lobjO]at hap ht ⊢
  simp -implicitDefEqProofs [x373RL1,hlt',hlt,hget,e1,ht,hap,hlos,hti,mkObj,lobjO]
 ·have:i=xs.length:=by omega
  subst this
  have:n=0:=by omega
  subst this
  rw[List.take_length]at ho ⊢
  refine⟨.exit 0,⟨0,[(0,.imm iv),(3,.osl 0 0 5 xs.length (some (xs.length+1))),(4,int64 xs.length),(12,avb false)],o::xs.map lobjO⟩,?_,.inr ⟨by simp,rfl,o,ho,rfl⟩⟩
  simp -implicitDefEqProofs [x373RL1,hlen]
theorem zjx(l:List AObj):l.map (AObj.ren fun i=>some i)=l:=by
 induction l with
 |nil=>rfl
 |cons o l ih=>rw[List.map_cons,ih];congr 1;exact zna o
theorem twin373R (h:code 379=some x379) (h':code 372=some x372R) (h2:code 373=some x373R) {iv:IV} {xs:List Obj} (hr:Reads tObj iv xs) (hl:xs.length≤1048576) (hs:∀o∈xs,o.l.xs.length≤1000000):
  ∃o,RowO (roRow (twR 1 xs)++spareO) o∧callW code ext 373 [.imm iv] []=some (.osl 0 0 5 xs.length (some (xs.length+1)),o::xs.map lobjO):=by
 have hlen:=zpr hr
 obtain⟨e,s',h1,_,rfl,o,ho,rfl⟩:=znc (ext:=ext) h h' hr hl hs
 obtain⟨o2,ho2,hap⟩:=zau (los:=xs.map lobjO) xs.length (xs.length+1) [.val (.int .u8 0),.val (.string ⟨#[115,112,97,114,101]⟩),.val (.slice none 0 0),.val (.int .i64 0),.val (.int .i64 0)] ho rfl (by omega) (by simp only[List.length_append,zq6,zu1,zdr];simp[zeroO];omega)
 have hset:setAll (roRow (twR 1 xs)++copies 1 zeroO) (xs.length*5) spareO=roRow (twR 1 xs)++spareO:=by
  rw[copies,copies,ztc _ zeroO _ spareO (by simp[zeroO,spareO]) (by rw[zq6,zu1]),List.append_nil]
 have hsp:List.map AV.imm [IV.val (.int .u8 0),.val (.string ⟨#[115,112,97,114,101]⟩),.val (.slice none 0 0),.val (.int .i64 0),.val (.int .i64 0)]=spareO:=rfl
 rw[hsp,hset]at ho2
 rw[List.length_map]at hap
 have hrows:RowsQ o2 (xs.map lobjO):=by
  refine⟨?_,fun l hl=>?_⟩
  ·rw[zrh ho2,zp2,zu2,List.length_map];simp[spareO,AV.refs.refsL,AV.refs]
  ·obtain⟨f,_,rfl⟩:=List.mem_map.1 hl
   exact⟨_,_,rfl⟩
 obtain⟨hord,hpick⟩:=zi5 (junk:=[.flat [.val (.int .u8 0),.val (.string ⟨#[115,112,97,114,101]⟩),.val (.slice none 0 0),.val (.int .i64 0),.val (.int .i64 0)] false]) hrows (by simp;omega)
 rw[List.length_map]at hord hpick
 have hplace:place (List.range (xs.length+1)) 0=some 0:=zos (by omega)
 have e1:IntKind.wrap .i64 ((xs.length:Int)+1)=(xs.length:Int)+1:=wrapI64 (by omega) (by omega)
 have e2:(0:Int)≤(xs.length:Int)+1:=by omega
 have e3:(64:Int)*((xs.length:Int)+1)≤281474976710656:=by omega
 have e4:(xs.length:Int)+1≤9223372036854775807:=by omega
 have e6:(xs.length:Int)≤(xs.length:Int)+1:=by omega
 have e5:((xs.length:Int)+1).toNat=xs.length+1:=by omega
 refine⟨o2,ho2,?_⟩
 rw[zb5 code ext h2]
 simp -implicitDefEqProofs [x373R,hlen,e1,e2,e3,e4,e5,e6,h1,hap,exSlice,mkObj,hord,hpick,hplace,-order,-reach,-Mem.pickAll,-List.range_succ]
theorem twin377R (h:code 379=some x379) (h':code 372=some x372R) (h2:code 373=some x373R) (h3:code 377=some x377) {iv:IV} {xs:List Obj} (hr:Reads tObj iv xs) (hl:xs.length≤1048576) (hs:∀o∈xs,o.l.xs.length≤1000000):
  ∃o,RowO (roRow (twR 1 xs)++spareO) o∧callW code ext 377 [.imm iv] []=some (.osl 0 0 5 xs.length (some (xs.length+1)),o::xs.map lobjO):=by
 obtain⟨o,ho,h1⟩:=twin373R (ext:=ext) h h' h2 hr hl hs
 have hrows:RowsQ o (xs.map lobjO):=by
  refine⟨?_,fun l hl=>?_⟩
  ·rw[zrh ho,zp2,zu2,List.length_map];simp[spareO,AV.refs.refsL,AV.refs]
  ·obtain⟨f,_,rfl⟩:=List.mem_map.1 hl
   exact⟨_,_,rfl⟩
 obtain⟨hord,hpick⟩:=zi5 (junk:=[]) hrows (by simp;omega)
 rw[List.length_map,List.append_nil]at hord hpick
 have hplace:place (List.range (xs.length+1)) 0=some 0:=zos (by omega)
 have hmap:=zjx (xs.map lobjO)
 have ho2:AObj.ren (fun i=>some i) o=o:=zna o
 refine⟨o,ho,?_⟩
 rw[zb5 code ext h3]
 simp -implicitDefEqProofs [x377,h1,hord,hpick,hplace,hmap,ho2,-order,-reach,-Mem.pickAll,-List.range_succ,-List.map_map,-AObj.ren]
end
end Go.EX


namespace Go.EX
def x643PL1(c:Nat):XCode:=
 (.seq (.region [3,8,9,10] [⟨(some 10),.bin .lss (.t 9) (.t 8),none⟩])
 (.seq (.cond (.t 10)
  .skip
  (.exit 0))
 (.seq (.block 1 (.seq (.region [3,4,8,9] [⟨(some 11),.mv (.t 9),none⟩,
  ⟨(some 4),.mv (.t 11),none⟩])
 (.region [3,8,9] [⟨(some 12),.mv (.t 3),none⟩,
  ⟨(some 13),.mv (.t 4),none⟩,
  ⟨(some 14),.mv (.t 3),none⟩,
  ⟨(some 15),.mv (.t 4),none⟩,
  ⟨(some 16),.idxA 5 (.t 14) (.t 15),none⟩,
  ⟨(some 17),.fieldA 2 (.t 16),none⟩,
  ⟨(some 18),.load none (.t 17),none⟩,
  ⟨(some 19),.call .look 742 [(.t 18)],none⟩,
  ⟨(some 20),.call .share 740 [(.t 19)],none⟩,
  ⟨(some 21),.idxA 5 (.t 12) (.t 13),none⟩,
  ⟨(some 22),.fieldA 2 (.t 21),none⟩,
  ⟨none,.storeF c 1 (.t 22) (.t 20),none⟩])))
 (.region [3,8,9] [⟨(some 23),.bin .add (.t 9) (.c (.int .i64 1)),none⟩,
  ⟨(some 9),.mv (.t 23),none⟩]))))
def x643P(c:Nat):XFun:=⟨[.tmp 2],
 (.seq (.region [0] [⟨(some 2),.mv (.c (.slice none 0 0)),none⟩])
 (.seq (.region [3] [⟨(some 5),.mv (.t 0),none⟩,
  ⟨(some 6),.call .share 743 [(.t 5)],none⟩,
  ⟨(some 3),.mv (.t 6),none⟩])
 (.seq (.seq (.region [3,8,9] [⟨(some 7),.mv (.t 3),none⟩,
  ⟨(some 8),.len (.t 7),none⟩,
  ⟨(some 9),.mv (.c (.int .i64 0)),none⟩])
 (.block 0 (.loop [3,8,9] (x643PL1 c))))
 (.seq (.region [2] [⟨(some 24),.mv (.t 3),none⟩,
  ⟨(some 25),.call .share 741 [(.t 24)],none⟩,
  ⟨(some 2),.mv (.t 25),none⟩])
 .ret))))⟩
def x641V:XFun:=⟨[.tmp 3],
 (.seq (.region [1,2] [⟨(some 2),.box 2 (.t 0),none⟩,
  ⟨(some 3),.mv (.c (.bool false)),none⟩])
 (.seq (.region [3] [⟨(some 4),.load none (.t 1),none⟩,
  ⟨(some 5),.load (some 2) (.t 2),none⟩,
  ⟨(some 6),.call .view 646 [(.t 4),(.t 5)],none⟩,
  ⟨(some 7),.un .not (.t 6),none⟩,
  ⟨(some 3),.mv (.t 7),none⟩])
 .ret))⟩
end Go.EX


namespace Go.EX
section
variable {code:Nat→Option XFun} {ext:Calls'}
theorem zjb(h:code 336=some x336){iv:IV}{xs:List Val}(hr:Reads tVal iv xs):callW code ext 336 [.imm (twinIV tVal spVal xs),.imm iv] []=some (avb true,[]):=by
 have hlen:=zpr hr
 have hb:=hr.2.1
 have loop:∃e s',den code ext (.loop [0,1,5] x336L1) ⟨0,[(0,.imm (twinIV tVal spVal xs)),(1,.imm iv),(5,int64 0)],[]⟩=some (e,s')∧e≠ .normal∧
   (e=.exit 0∧s'=⟨0,[(0,.imm (twinIV tVal spVal xs)),(1,.imm iv),(5,int64 xs.length),(22,avb false)],[]⟩):=by
  refine zjp (fun n s=>∃(i:Nat),i+n=xs.length∧s=⟨0,[(0,.imm (twinIV tVal spVal xs)),(1,.imm iv),(5,int64 (i:Nat))],[]⟩) _ ?_ xs.length _ ⟨0,by simp,rfl⟩
  rintro n _ ⟨i,hi,rfl⟩
  by_cases hlt:i<xs.length
  ·obtain⟨row,off,cap,rfl,hc,hcut,hget⟩:=zps hr (List.getElem?_eq_getElem hlt)
   have e1:IntKind.wrap .i64 ((i:Int)+1)=(i:Int)+1:=wrapI64 (by omega) (by omega)
   have hget2:=zgi (t:=tVal) (xs:=xs++[spVal]) (i:=i) (x:=xs[i]) (by rw[List.getElem?_append_left hlt];exact List.getElem?_eq_getElem hlt)
   generalize xs[i]=v at hget hget2
   simp only[tVal]at hget
   rw[show tVal.enc v=[.val (.int .u8 v.k),.val (.int .i64 v.n)]from rfl,show tVal.sz=2 from rfl]at hget2
   refine⟨.normal,⟨0,[(0,.imm (twinIV tVal spVal xs)),(1,.imm (.slice row off xs.length cap)),(5,int64 ((i:Int)+1))],[]⟩,?_,.inl ⟨rfl,n-1,by omega,i+1,by omega,rfl⟩⟩
   simp -implicitDefEqProofs [x336L1,hlt,hget,hget2,e1,twinIV]
  ·have:i=xs.length:=by omega
   subst this
   refine⟨.exit 0,_,?_,.inr ⟨by simp,rfl,rfl⟩⟩
   simp -implicitDefEqProofs [x336L1,hlen]
 obtain⟨e,s',h1,_,rfl,rfl⟩:=loop
 rw[zb5 code ext h]
 have e1:IntKind.wrap .i64 ((xs.length:Int)+1)=(xs.length:Int)+1:=wrapI64 (by omega) (by omega)
 have e2:(0:Int)≤(xs.length:Int)+1:=by omega
 have e5:((xs.length:Int)+1).toNat=xs.length+1:=by omega
 have e6:(xs.length:Int)<(xs.length:Int)+1:=by omega
 have e7:¬((xs.length:Int)+1≤(xs.length:Int)):=by omega
 have hget2:=zgi (t:=tVal) (xs:=xs++[spVal]) (i:=xs.length) (x:=spVal) (by simp)
 rw[show tVal.enc spVal=[.val (.int .u8 0),.val (.int .i64 7777)]from rfl,show tVal.sz=2 from rfl]at hget2
 simp only[twinIV]at h1 ⊢
 simp -implicitDefEqProofs [x336,hlen,h1,e1,e2,e5,e6,e7,exSlice,hget2]
theorem zi9(h:code 336=some x336)(h':code 329=some x329)(o:Obj):
  callW code ext 329 [.agg [.imm (.val (.int .u8 o.k)),.imm (.val (.string o.s)),.imm (twinIV tVal spVal o.l.xs),int64 o.room,int64 o.fn],.agg [.imm (.val (.int .u8 o.k)),.imm (.val (.string o.s)),.imm o.l.iv,int64 o.room,int64 o.fn]] []=some (avb true,[]):=by
 rw[zb5 code ext h']
 have ht:=zjb (ext:=ext) h o.l.ok
 simp -implicitDefEqProofs [x329,ht]
theorem zja(h:code 336=some x336)(h':code 329=some x329)(h2:code 330=some x330)(h3:code 334=some x334){iv:IV}{xs:List Obj}(hr:Reads tObj iv xs):
  callW code ext 334 [.imm (.slice (tObj.row (xs.map twinObj++[spObj])) 0 xs.length (some (xs.length+1))),.imm iv] []=some (avb true,[]):=by
 have hlen:=zpr hr
 have hb:=hr.2.1
 generalize hT:IV.slice (tObj.row (xs.map twinObj++[spObj])) 0 xs.length (some (xs.length+1))=T
 have loop:∃e s',den code ext (.loop [0,1,5] x330L1) ⟨0,[(0,.imm T),(1,.imm iv),(5,int64 0)],[]⟩=some (e,s')∧e≠ .normal∧
   (e=.exit 0∧s'=⟨0,[(0,.imm T),(1,.imm iv),(5,int64 xs.length),(22,avb false)],[]⟩):=by
  refine zjp (fun n s=>∃(i:Nat),i+n=xs.length∧s=⟨0,[(0,.imm T),(1,.imm iv),(5,int64 (i:Nat))],[]⟩) _ ?_ xs.length _ ⟨0,by simp,rfl⟩
  rintro n _ ⟨i,hi,rfl⟩
  by_cases hlt:i<xs.length
  ·obtain⟨row,off,cap,rfl,hc,hcut,hget⟩:=zps hr (List.getElem?_eq_getElem hlt)
   have e1:IntKind.wrap .i64 ((i:Int)+1)=(i:Int)+1:=wrapI64 (by omega) (by omega)
   have hget2:=zgi (t:=tObj) (xs:=xs.map twinObj++[spObj]) (i:=i) (x:=twinObj xs[i]) (by rw[List.getElem?_append_left (by simpa using hlt),List.getElem?_map,List.getElem?_eq_getElem hlt];rfl)
   have hlo:=zi9 (ext:=ext) h h' xs[i]
   generalize xs[i]=o at hget hget2 hlo
   simp only[tObj]at hget
   rw[show tObj.enc (twinObj o)=[.val (.int .u8 o.k),.val (.string o.s),twinIV tVal spVal o.l.xs,.val (.int .i64 o.room),.val (.int .i64 o.fn)]from rfl,show tObj.sz=5 from rfl]at hget2
   refine⟨.normal,⟨0,[(0,.imm T),(1,.imm (.slice row off xs.length cap)),(5,int64 ((i:Int)+1))],[]⟩,?_,.inl ⟨rfl,n-1,by omega,i+1,by omega,rfl⟩⟩
   subst hT
   simp -implicitDefEqProofs [x330L1,hlt,hget,hget2,e1,hlo]
  ·have:i=xs.length:=by omega
   subst this
   refine⟨.exit 0,_,?_,.inr ⟨by simp,rfl,rfl⟩⟩
   simp -implicitDefEqProofs [x330L1,hlen]
 obtain⟨e,s',h1,_,rfl,rfl⟩:=loop
 have e1:IntKind.wrap .i64 ((xs.length:Int)+1)=(xs.length:Int)+1:=wrapI64 (by omega) (by omega)
 have e2:(0:Int)≤(xs.length:Int)+1:=by omega
 have e5:((xs.length:Int)+1).toNat=xs.length+1:=by omega
 have e6:(xs.length:Int)<(xs.length:Int)+1:=by omega
 have e7:¬((xs.length:Int)+1≤(xs.length:Int)):=by omega
 have hget2:=zgi (t:=tObj) (xs:=xs.map twinObj++[spObj]) (i:=xs.length) (x:=spObj) (by rw[List.getElem?_append_right (by simp)];simp)
 rw[show tObj.enc spObj=[.val (.int .u8 0),.val (.string ⟨#[115,112,97,114,101]⟩),.val (.slice none 0 0),.val (.int .i64 0),.val (.int .i64 0)]from rfl,show tObj.sz=5 from rfl]at hget2
 have hobjs:callW code ext 330 [.imm T,.imm iv] []=some (avb true,[]):=by
  rw[zb5 code ext h2]
  subst hT
  simp -implicitDefEqProofs [x330,hlen,h1,e1,e2,e5,e6,e7,exSlice,hget2]
 rw[zb5 code ext h3]
 simp -implicitDefEqProofs [x334,hobjs]
end
end Go.EX


namespace Go.EX
section
variable {code:Nat→Option XFun} {ext:Calls'}
def leadInt(S:List Obj)(v:Val):Int:=match leadsOf S v with
 |some k=>(k:Nat)
 |none=> -1
theorem zi4(h:code 502=some x502){sv:IV}{S:List Obj}(hr:Reads tObj sv S)(v:Val):callW code ext 502 [.imm sv,.agg [.imm (.val (.int .u8 v.k)),int64 v.n]] []=some (int64 (leadInt S v),[]):=by
 rw[zb5 code ext h]
 have hlen:=zpr hr
 have hb:=hr.2.1
 unfold leadInt leadsOf
 by_cases c1:v.k<3
 ·simp -implicitDefEqProofs [x502,c1]
 by_cases c2:7<v.k
 ·simp -implicitDefEqProofs [x502,c1,c2]
 by_cases c3:v.n<1
 ·simp -implicitDefEqProofs [x502,c1,c2,c3]
 by_cases c4:(S.length:Int)<v.n
 ·simp -implicitDefEqProofs [x502,c1,c2,c3,c4,hlen]
 obtain⟨vk,vn⟩:=v
 simp only at c1 c2 c3 c4 ⊢
 obtain⟨p,rfl⟩:∃p:Nat,vn=(p:Int)+1:=⟨(vn-1).toNat,by omega⟩
 have hlt:p<S.length:=by omega
 obtain⟨row,off,cap,rfl,hc,hcut,hget⟩:=zps hr (List.getElem?_eq_getElem hlt)
 have ep:((p:Int)+1-1).toNat=p:=by omega
 rw[if_neg c1,if_neg c2,if_neg c3,if_neg c4,ep,List.getElem?_eq_getElem hlt]
 generalize S[p]=o at hget
 simp only[tObj]at hget
 have g0:row[off+p*5]?=some (.val (.int .u8 o.k)):=zdz hget 0 (by omega)
 have e1:IntKind.wrap .i64 (p:Int)=p:=wrapI64 (by omega) (by omega)
 by_cases c5:o.k=vk
 ·simp -implicitDefEqProofs [x502,c1,c2,c3,c4,hlen,e1,g0,c5,hlt]
 ·simp -implicitDefEqProofs [x502,c1,c2,c3,c4,hlen,e1,g0,c5,hlt]
theorem zpo(h:code 502=some x502)(sv:IV)(S:List Obj)(roots:List Val)(hr:Reads tObj sv S)(hM:roots.length+unm (List.replicate S.length false) S≤100000000){s:St}(C:List IV)(mv:Bool)(hC:cut C 0 (roots.length*2)=some (tVal.row roots))
  (hst:s.tidy [0,5,6]=⟨0,[(0,.imm sv),(5,.osl 0 0 1 S.length (some S.length)),(6,.osl 1 0 2 roots.length none)],[.flat (tBool.row (List.replicate S.length false)) false,.flat C mv]⟩):
  ∃e s',den code ext (.loop [0,5,6] x509L1) s=some (e,s')∧e≠ .normal∧
   (e=.exit 0∧∃F C' mv',Marks S roots F []∧s'=⟨0,[(0,.imm sv),(5,.osl 0 0 1 S.length (some S.length)),(6,.osl 1 0 2 0 none),(16,avb false)],[.flat (tBool.row F) false,.flat C' mv']⟩):=by
 refine zjp (fun n s=>∃(F:List Bool) (T:List Val) (C:List IV) (mv:Bool),n=T.length+unm F S∧n≤100000000∧Marks S roots F T∧cut C 0 (T.length*2)=some (tVal.row T)∧
  s.tidy [0,5,6]=⟨0,[(0,.imm sv),(5,.osl 0 0 1 S.length (some S.length)),(6,.osl 1 0 2 T.length none)],[.flat (tBool.row F) false,.flat C mv]⟩) _ ?_ _ _ ⟨_,roots,C,mv,rfl,hM,.start S roots,hC,hst⟩
 clear hst hC C mv s hM
 rintro n s ⟨F,T,C,mv,hn,hnb,hI,hC,hst⟩
 rw[hst]
 have hFl:=hI.len
 rcases List.eq_nil_or_concat T with rfl|⟨T0,v,rfl⟩
 ·refine⟨.exit 0,⟨0,[(0,.imm sv),(5,.osl 0 0 1 S.length (some S.length)),(6,.osl 1 0 2 0 none),(16,avb false)],[.flat (tBool.row F) false,.flat C mv]⟩,?_,.inr ⟨by simp,rfl,F,C,mv,hI,rfl⟩⟩
  simp -implicitDefEqProofs [x509L1]
 ·have hlv:=zi4 (ext:=ext) h hr v
  have e0:(0:Int)<(T0.length:Int)+1:=by omega
  simp only[List.length_append,List.length_cons,List.length_nil,Nat.zero_add,List.concat_eq_append]at hn hC hI ⊢
  have e1:IntKind.wrap .i64 (T0.length:Int)=T0.length:=wrapI64 (by omega) (by omega)
  have e2:((T0.length:Int)+1-1)=T0.length:=by omega
  have e3:(T0.length:Int)<(T0.length:Int)+1:=by omega
  have e4:(T0.length:Int)≤(T0.length:Int)+1:=by omega
  have hcv:cut C (T0.length*2) 2=some [.val (.int .u8 v.k),.val (.int .i64 v.n)]:=by
   have:=zdx hC (a:=T0.length*2) (b:=2) (by omega)
   rw[Nat.zero_add]at this
   rw[this]
   exact zgi (t:=tVal) (i:=T0.length) (x:=v) (by simp)
  have hc0:cut C 0 (T0.length*2)=some (tVal.row T0):=by
   have:=zdx hC (a:=0) (b:=T0.length*2) (by omega)
   rw[Nat.zero_add]at this
   rw[this]
   exact zdy tVal T0 [v]
  cases hl:leadsOf S v with
  |none=>
   have hli:leadInt S v= -1:=by simp[leadInt,hl]
   rw[hli]at hlv
   refine⟨.normal,⟨0,[(0,.imm sv),(5,.osl 0 0 1 S.length (some S.length)),(6,.osl 1 0 2 T0.length none),(7,int64 (-1)),(38,avb false)],[.flat (tBool.row F) false,.flat C mv]⟩,?_,.inl ⟨rfl,T0.length+unm F S,by omega,F,T0,C,mv,rfl,by omega,hI.drop (fun j hj=>by rw[hl]at hj;cases hj),hc0,?_⟩⟩
   ·simp -implicitDefEqProofs [x509L1,e0,e1,e2,e3,e4,hcv,hlv,exSlice]
   ·simp -implicitDefEqProofs
  |some k=>
   have hli:leadInt S v=(k:Nat):=by simp[leadInt,hl]
   rw[hli]at hlv
   obtain⟨hks,_,_,_,o,ho,_⟩:=zi0 hl
   have hkF:k<F.length:=by omega
   have hF:=List.getElem?_eq_getElem hkF
   have hks':(k:Int)<S.length:=by omega
   have hfe:(tBool.row F)[k]?=some (.val (.bool F[k])):=by
    have:=zd2 (zgi (t:=tBool) hF)
    rwa [show tBool.sz=1 from rfl,Nat.mul_one]at this
   cases hb:F[k]with
   |true=>
    rw[hb]at hF hfe
    refine⟨.normal,⟨0,[(0,.imm sv),(5,.osl 0 0 1 S.length (some S.length)),(6,.osl 1 0 2 T0.length none),(7,int64 k),(38,avb false)],[.flat (tBool.row F) false,.flat C mv]⟩,?_,.inl ⟨rfl,T0.length+unm F S,by omega,F,T0,C,mv,rfl,by omega,hI.drop (fun j hj=>by rw[hl]at hj;cases hj;exact hF),hc0,?_⟩⟩
    ·simp -implicitDefEqProofs [x509L1,e0,e1,e2,e3,e4,hcv,hlv,exSlice,hks,hks',hfe]
    ·simp -implicitDefEqProofs
   |false=>
    rw[hb]at hF hfe
    obtain⟨row,off,cap,rfl,hc,hcut,hget⟩:=zps hr ho
    simp only[tObj]at hget
    have g2:row[off+k*5+2]?=some o.l.iv:=zdz hget 2 (by omega)
    have hset:=zs4 (t:=tBool) (xs:=F) (by decide) (i:=k) (by omega) true
    have hset':setAll (tBool.row F) k [.val (.bool true)]=tBool.row (F.set k true):=by rw[show tBool.sz=1 from rfl,Nat.mul_one]at hset;exact hset
    have hle:k+1≤(tBool.row F).length:=by rw[zrn];simp only[tBool];omega
    have hel:=fun m=>zew (t:=tVal) m o.l.ok
    rw[show tVal.sz=2 from rfl]at hel
    have hum:=zvp F S k o hF ho
    have hbd:(T0.length+o.l.xs.length)*16≤140737488355328:=by omega
    refine⟨.normal,⟨0,[(0,.imm (.slice row off S.length cap)),(5,.osl 0 0 1 S.length (some S.length)),(6,.osl 1 0 2 (T0.length+o.l.xs.length) none)],[.flat (tBool.row (F.set k true)) false,.flat (tVal.row (T0++o.l.xs)) false]⟩,?_,.inl ⟨rfl,(T0++o.l.xs).length+unm (F.set k true) S,by rw[List.length_append];omega,F.set k true,T0++o.l.xs,tVal.row (T0++o.l.xs),false,rfl,by rw[List.length_append];omega,hI.take hl hF ho,zd4 tVal _,?_⟩⟩
    ·simp -implicitDefEqProofs [x509L1,e0,e1,e2,e3,e4,hcv,hlv,exSlice,hks,hks',hfe,g2,hset',hle,exAppendX,exAppend,hel,hc0,hbd,zrm]
    ·simp -implicitDefEqProofs
theorem zpp(h:code 502=some x502)(h':code 509=some x509){sv rv:IV}{S:List Obj}{roots:List Val}(hr:Reads tObj sv S)(hq:Reads tVal rv roots)(hM:roots.length+unm (List.replicate S.length false) S≤100000000)(hS:S.length≤1048576):
  ∃F,Marks S roots F []∧callW code ext 509 [.imm sv,.imm rv] []=some (.osl 0 0 1 S.length (some S.length),[.flat (tBool.row F) false]):=by
 have hlen:=zpr hr
 have hlen2:=zpr hq
 have hz:copies S.length [IV.val (.bool false)]=tBool.row (List.replicate S.length false):=zdp (t:=tBool) S.length false
 have e1:(S.length:Int)≤281474976710656:=by omega
 have e2:(S.length:Int)≤9223372036854775807:=by omega
 have hel:=fun m=>zew (t:=tVal) m hq
 rw[show tVal.sz=2 from rfl]at hel
 have hbd:roots.length*16≤140737488355328:=by omega
 rw[zb5 code ext h']
 by_cases h0:roots=[]
 ·subst h0
  refine⟨List.replicate S.length false,.start S [],?_⟩
  have hl:den code ext (.loop [0,5,6] x509L1) ⟨0,[(0,.imm sv),(5,.osl 0 0 1 S.length (some S.length)),(6,nilS)],[.flat (tBool.row (List.replicate S.length false)) false]⟩=some (.exit 0,⟨0,[(0,.imm sv),(5,.osl 0 0 1 S.length (some S.length)),(6,nilS),(16,avb false)],[.flat (tBool.row (List.replicate S.length false)) false]⟩):=by
   rw[zeb]
   simp -implicitDefEqProofs [x509L1]
  simp -implicitDefEqProofs [x509,hlen,hz,e1,e2,exAppendX,exAppend,hel,hl]
 ·have hne:¬roots.length=0:=fun e=>h0 (List.eq_nil_of_length_eq_zero e)
  obtain⟨e,s',h1,_,rfl,F,C',mv',hI,rfl⟩:=zpo (ext:=ext) h sv S roots hr hM (tVal.row roots) false (zd4 tVal roots)
   (s:=⟨0,[(0,.imm sv),(5,.osl 0 0 1 S.length (some S.length)),(6,.osl 1 0 2 roots.length none)],[.flat (tBool.row (List.replicate S.length false)) false,.flat (tVal.row roots) false]⟩) (by simp -implicitDefEqProofs)
  refine⟨F,hI,?_⟩
  simp -implicitDefEqProofs [x509,hlen,hz,e1,e2,exAppendX,exAppend,hel,hbd,h0,h1]
end
end Go.EX


namespace Go.EX
def ptrs(s:Nat)(out:List Nat):List AV:=out.map fun k=>.optr s (k*5)
def seenL(s:Nat)(out:List Nat):List (AV×AV):=out.map fun k=>(.optr s (k*5),avb true)
@[simp] theorem renL_ptrs(f:Nat→Option Nat)(s:Nat)(out:List Nat)(h:(f s).isSome=true):AV.ren.renL f (ptrs s out)=ptrs ((f s).getD 0) out:=by
 obtain⟨j,hj⟩:=Option.isSome_iff_exists.1 h
 rw[zqc]
 simp[ptrs,AV.ren,hj]
@[simp] theorem seen_ren(f:Nat→Option Nat)(s:Nat)(out:List Nat)(h:(f s).isSome=true):List.map (fun p=>(AV.ren f p.1,AV.ren f p.2)) (seenL s out)=seenL ((f s).getD 0) out:=by
 obtain⟨j,hj⟩:=Option.isSome_iff_exists.1 h
 simp[seenL,AV.ren,hj]
@[simp] theorem refs_ptrs(s:Nat)(out:List Nat):AV.refs.refsL (ptrs s out)=List.replicate out.length s:=by
 unfold ptrs
 induction out with
 |nil=>rfl
 |cons x r ih=>simp only[List.map_cons,AV.refs.refsL,ih,AV.refs,List.length_cons,List.replicate_succ];rfl
@[simp] theorem refs_seen1(s:Nat)(out:List Nat):AV.refs.refsL (List.map (fun x=>x.1) (seenL s out))=List.replicate out.length s:=by
 unfold seenL
 induction out with
 |nil=>rfl
 |cons x r ih=>simp only[List.map_cons,AV.refs.refsL,ih,AV.refs,List.length_cons,List.replicate_succ];rfl
@[simp] theorem refs_seen2(s:Nat)(out:List Nat):AV.refs.refsL (List.map (fun x=>x.2) (seenL s out))=[]:=by
 unfold seenL
 induction out with
 |nil=>rfl
 |cons x r ih=>simp only[List.map_cons,AV.refs.refsL,ih,AV.refs];rfl
theorem zpm(m:Mem):∀(n:Nat) (todo acc:List Nat),(∀x∈todo,x∈acc)→reach m n todo acc=acc
 |0,_,_,_=>rfl
 |n+1,[],_,_=>rfl
 |n+1,x::todo,acc,h=>by
  rw[reach,if_pos (h x (List.mem_cons_self ..))]
  exact zpm m n todo acc fun y hy=>h y (List.mem_cons_of_mem _ hy)
@[simp] theorem reach_rep(m:Mem)(n a s:Nat)(acc:List Nat)(h:s∈acc):reach m n (List.replicate a s) acc=acc:=
 zpm m n _ acc fun x hx=>by rw[List.eq_of_mem_replicate hx];exact h
@[simp] theorem reach_rep2(m:Mem)(n a b s t:Nat)(acc:List Nat)(h:s∈acc)(h':t∈acc):reach m n (List.replicate a s++List.replicate b t) acc=acc:=
 zpm m n _ acc fun x hx=>by
  rcases List.mem_append.1 hx with hx|hx
  ·rw[List.eq_of_mem_replicate hx];exact h
  ·rw[List.eq_of_mem_replicate hx];exact h'
@[simp] theorem reach_rep3(m:Mem)(n a b c s t u:Nat)(acc:List Nat)(h:s∈acc)(h':t∈acc)(h2:u∈acc):reach m n (List.replicate a s++(List.replicate b t++List.replicate c u)) acc=acc:=
 zpm m n _ acc fun x hx=>by
  rcases List.mem_append.1 hx with hx|hx
  ·rw[List.eq_of_mem_replicate hx];exact h
  ·rcases List.mem_append.1 hx with hx|hx
   ·rw[List.eq_of_mem_replicate hx];exact h'
   ·rw[List.eq_of_mem_replicate hx];exact h2
section
variable {code:Nat→Option XFun} {ext:Calls'}
def storeRow(T:List Obj):List IV:=tObj.row (T++[spObj])
end
end Go.EX


namespace Go.EX
theorem mem_of{x:Option (AV×Mem)}{r:AV}(h:x.map Prod.fst=some r):∃m,x=some (r,m):=by
 cases x with
 |none=>cases h
 |some p=>obtain⟨a,m⟩:=p;cases h;exact⟨m,rfl⟩
section
variable {code:Nat→Option XFun} {ext:Calls'}
end
end Go.EX


namespace Go.EX
def wordsObj(o:Obj):Int:=
 if o.k=3 then IntKind.wrap .i64 (2+IntKind.wrap .i64 ((IntKind.wrap .i64 ((o.s.size:Int)+7)).tdiv 8))
 else if o.k=6 then IntKind.wrap .i64 (2+IntKind.wrap .i64 (2*(o.l.xs.length:Int)))
 else if (o.k=4∨o.k=5)∧0<o.room then IntKind.wrap .i64 (4+IntKind.wrap .i64 (2*o.room))
 else 3
section
variable {code:Nat→Option XFun} {ext:Calls'}
theorem ztq(h:code 578=some x578)(o:Obj):
  ∃m,callW code ext 578 [.agg [.imm (.val (.int .u8 o.k)),.imm (.val (.string o.s)),.imm o.l.iv,int64 o.room,int64 o.fn]] []=some (int64 (wordsObj o),m):=by
 refine mem_of ?_
 rw[zb5 code ext h]
 have hlen:=zpr o.l.ok
 unfold wordsObj
 by_cases k3:o.k=3
 ·simp -implicitDefEqProofs [x578,k3]
 by_cases k6:o.k=6
 ·simp -implicitDefEqProofs [x578,k6,hlen]
 by_cases k4:o.k=4
 ·by_cases hr:0<o.room
  ·simp -implicitDefEqProofs [x578,k4,hr]
  ·simp -implicitDefEqProofs [x578,k4,hr]
 by_cases k5:o.k=5
 ·by_cases hr:0<o.room
  ·simp -implicitDefEqProofs [x578,k5,hr]
  ·simp -implicitDefEqProofs [x578,k5,hr]
 ·simp -implicitDefEqProofs [x578,k3,k4,k5,k6]
theorem zdb(h:code 742=some x742):callW code ext 742 [nilS] []=some (nilS,[]):=by
 rw[zb5 code ext h]
 simp -implicitDefEqProofs [x742]
theorem zc9(h:code 742=some x742)(row:List IV)(off:Nat)(cap:Option Nat):callW code ext 742 [.imm (.slice row off 0 cap)] []=some (.osl 0 0 2 0 (some 0),[.flat [] false]):=by
 rw[zb5 code ext h]
 have hc:cut row off 0=some []:=by simp[cut]
 simp -implicitDefEqProofs [x742,exAppendX,exAppend,elems,hc]
theorem zdc(h:code 742=some x742){row:List IV}{off n:Nat}{cap:Option Nat}{R:List IV}(hc:cut row off (n*2)=some R)(h0:0<n)(hn:n≤1000000000):callW code ext 742 [.imm (.slice row off n cap)] []=some (.osl 0 0 2 n none,[.flat R false]):=by
 rw[zb5 code ext h]
 have h1:¬n=0:=by omega
 have h2:n*16≤140737488355328:=by omega
 simp -implicitDefEqProofs [x742,exAppendX,exAppend,elems,hc,h1,h2]
theorem zc5(h:code 740=some x740):callW code ext 740 [nilS] []=some (nilS,[]):=by
 rw[zb5 code ext h]
 simp -implicitDefEqProofs [x740,exSlice3]
def isNilIV:IV→Bool
 |.val _=>true
 |_=>false
def cloneL(l:Sl tVal):Sl tVal:=
 if isNilIV l.iv=true then l else⟨.slice (tVal.row l.xs) 0 l.xs.length (some l.xs.length),l.xs,⟨l.ok.1,l.ok.2.1,.inr ⟨_,0,_,rfl,fun c h=>by cases h;exact Nat.le_refl _,zd4 tVal l.xs⟩⟩⟩
def cloneObj(o:Obj):Obj:={ o with l:=cloneL o.l }
theorem zro:∀(xs:List Obj) (i:Nat) (o:Obj) (l:Sl tVal),xs[i]?=some o→(tObj.row xs).set (i*5+2) l.iv=tObj.row (xs.set i { o with l:=l })
 |[],i,o,l,h=>by cases h
 |x::r,0,o,l,h=>by
  cases h
  simp[Ty.row,tObj]
 |x::r,i+1,o,l,h=>by
  have ih:=zro r i o l (by simpa using h)
  have e:(i+1)*5+2=(i*5+2)+1+1+1+1+1:=by omega
  have er:∀(y:Obj) (q:List Obj),tObj.row (y::q)=.val (.int .u8 y.k):: .val (.string y.s)::y.l.iv:: .val (.int .i64 y.room):: .val (.int .i64 y.fn)::tObj.row q:=fun y q=>rfl
  rw[List.set_cons_succ,er,er,e]
  simp only[List.set_cons_succ]
  rw[ih]
end
end Go.EX


namespace Go.EX
section
variable {code:Nat→Option XFun} {ext:Calls'}
theorem zdd(h:code 743=some x743){T:List Obj}(hn:T.length≤100000000){C:List IV}(mv:Bool)(cap:Option Nat)(hc:cut C 0 (T.length*5)=some (tObj.row T)):
  callW code ext 743 [.osl 0 0 5 T.length cap] [.flat C mv]=some (.osl 1 0 5 T.length (if T.length=0 then some 0 else none),[.flat C mv,.flat (tObj.row T) false]):=by
 rw[zb5 code ext h]
 by_cases h0:T.length=0
 ·have hx:T=[]:=List.eq_nil_of_length_eq_zero h0
  subst hx
  have hr:tObj.row ([]:List Obj)=[]:=rfl
  rw[hr]
  simp -implicitDefEqProofs [x743,exAppendX,exAppend,elems]
 ·have h2:T.length*64≤140737488355328:=by omega
  rw[if_neg h0]
  simp -implicitDefEqProofs [x743,exAppendX,exAppend,elems,hc,h0,h2]
def sizeRow(T:List Obj):List IV:=T.map fun o=>.val (.int .i64 (wordsObj o))
def sizeV(n:Nat):AV:=if n=0 then nilS else .osl 0 0 1 n none
def sizeM(T:List Obj):Mem:=if T.length=0 then[]else[.flat (sizeRow T) false]
theorem ztr(h:code 578=some x578){T:List Obj}{C:List IV}(cap:Option Nat)(hC:cut C 0 (T.length*5)=some (tObj.row T))(hn:T.length≤100000000)(s0:St)
  (hs0:s0.tidy [2,5,6,7]=⟨0,[(2,nilS),(5,.imm (.slice C 0 T.length cap)),(6,int64 T.length),(7,int64 0)],[]⟩):
  ∃e s',den code ext (.loop [2,5,6,7] x642L1) s0=some (e,s')∧e≠ .normal∧(e=.exit 0∧
   s'=⟨0,[(2,sizeV T.length),(5,.imm (.slice C 0 T.length cap)),(6,int64 T.length),(7,int64 T.length),(8,avb false)],sizeM T⟩):=by
 refine zjp (fun n s=>∃i,i+n=T.length∧s.tidy [2,5,6,7]=⟨0,[(2,sizeV i),(5,.imm (.slice C 0 T.length cap)),(6,int64 T.length),(7,int64 (i:Nat))],sizeM (T.take i)⟩) _ ?_ T.length _ ⟨0,by simp,by simpa [sizeV,sizeM]using hs0⟩
 rintro n s ⟨i,hi,hst⟩
 rw[hst]
 by_cases hlt:i<T.length
 ·have hx:=List.getElem?_eq_getElem hlt
  have hel:cut C (i*5) 5=some (tObj.enc T[i]):=by
   have:=zdx hC (a:=i*5) (b:=5) (by omega)
   rw[Nat.zero_add]at this
   rw[this]
   exact zgi (t:=tObj) hx
  have htk:T.take (i+1)=T.take i++[T[i]]:=by rw[List.take_add_one,hx];rfl
  have hsr:sizeRow (T.take (i+1))=sizeRow (T.take i)++[.val (.int .i64 (wordsObj T[i]))]:=by rw[htk];unfold sizeRow;rw[List.map_append];rfl
  obtain⟨m,hs⟩:=ztq (ext:=ext) h T[i]
  simp only[tObj]at hel
  generalize T[i]=o at *
  generalize wordsObj o=w at *
  have e1:IntKind.wrap .i64 ((i:Int)+1)=(i:Int)+1:=wrapI64 (by omega) (by omega)
  have hlt':(i:Int)<T.length:=by omega
  have hti:(T.take i).length=i:=by rw[List.length_take];omega
  have hti1:(T.take (i+1)).length=i+1:=by rw[List.length_take];omega
  by_cases h0:i=0
  ·subst h0
   simp only[Nat.zero_mul]at hel
   have e10:IntKind.wrap .i64 1=1:=rfl
   refine⟨.normal,⟨0,[(2,.osl 2 0 1 1 none),(5,.imm (.slice C 0 T.length cap)),(6,int64 T.length),(7,int64 1)],[.rich [.imm (.val (.int .u8 o.k)),strV o.s,.imm o.l.iv,int64 o.room,int64 o.fn],.flat [.val (.int .i64 w)] false,.flat [.val (.int .i64 w)] false]⟩,?_,.inl ⟨rfl,n-1,by omega,1,by omega,?_⟩⟩
   ·simp only[sizeV,sizeM,hti,if_true]
    simp -implicitDefEqProofs [x642L1,hlt,hlt',hel,hs,exAppendX,exAppend,elems,e10]
   ·have hsr1:sizeRow (T.take 1)=[.val (.int .i64 w)]:=by simpa [sizeRow]using hsr
    simp -implicitDefEqProofs [sizeV,sizeM,hti1,hsr1]
  ·refine⟨.normal,⟨0,[(2,.osl 0 0 1 (i+1) none),(5,.imm (.slice C 0 T.length cap)),(6,int64 T.length),(7,int64 ((i:Int)+1))],[.flat (sizeRow (T.take (i+1))) false,.rich [.imm (.val (.int .u8 o.k)),strV o.s,.imm o.l.iv,int64 o.room,int64 o.fn],.flat [.val (.int .i64 w)] false]⟩,?_,.inl ⟨rfl,n-1,by omega,i+1,by omega,?_⟩⟩
   ·have hcut:cut (sizeRow (T.take i)) 0 i=some (sizeRow (T.take i)):=zdv _ (by unfold sizeRow;rw[List.length_map,hti])
    have hle:(i+1)*8≤140737488355328:=by omega
    simp only[sizeV,sizeM,hti,h0,if_false]
    simp -implicitDefEqProofs [x642L1,hlt,hlt',hel,hs,exAppendX,exAppend,elems,hcut,hle,e1,hsr]
   ·simp -implicitDefEqProofs [sizeV,sizeM,hti1]
 ·have:i=T.length:=by omega
  subst this
  rw[List.take_length]
  refine⟨.exit 0,⟨0,[(2,sizeV T.length),(5,.imm (.slice C 0 T.length cap)),(6,int64 T.length),(7,int64 T.length),(8,avb false)],sizeM T⟩,?_,.inr ⟨by simp,rfl,rfl⟩⟩
  unfold sizeV sizeM
  by_cases h0:T.length=0
  ·simp -implicitDefEqProofs [x642L1,h0]
  ·simp -implicitDefEqProofs [x642L1,h0]
theorem zts(h:code 642=some x642)(h1:code 578=some x578){T:List Obj}{C:List IV}(cap:Option Nat)(hC:cut C 0 (T.length*5)=some (tObj.row T))(hn:T.length≤100000000):
  callW code ext 642 [.imm (.slice C 0 T.length cap)] []=some (sizeV T.length,sizeM T):=by
 obtain⟨e,s',l1,_,rfl,rfl⟩:=ztr (ext:=ext) h1 cap hC hn ⟨0,[(2,nilS),(5,.imm (.slice C 0 T.length cap)),(6,int64 T.length),(7,int64 0)],[]⟩ (by simp -implicitDefEqProofs)
 rw[zb5 code ext h]
 unfold x642
 generalize x642L1=L at *
 unfold sizeV sizeM at *
 by_cases h0:T.length=0
 ·simp only[h0,if_true,Int.natCast_zero]at *
  simp -implicitDefEqProofs [l1]
 ·simp only[h0,if_false]at *
  simp -implicitDefEqProofs [l1]
end
end Go.EX


namespace Go.EX
def richRow(R:List IV)(p:Nat)(v:AV):List AV:=(R.map AV.imm).set p v
theorem stepN{p:Option (XExit×St)}{k:List Nat}{X:St}(h:p.map (fun q=>(q.1,q.2.tidy k))=some (.normal,X)):∃s',p=some (.normal,s')∧s'.tidy k=X:=by
 cases p with
 |none=>cases h
 |some q=>
  obtain⟨e,s'⟩:=q
  simp only[Option.map_some,Option.some.injEq,Prod.mk.injEq]at h
  obtain⟨rfl,h⟩:=h
  exact⟨s',rfl,h⟩
theorem zqx(R:List IV)(p:Nat)(v:AV):(richRow R p v).length=R.length:=by simp[richRow]
theorem zqw{R:List IV}{p q:Nat}{v:AV}{x:IV}(h:R[q]?=some x)(hq:q≠p):(richRow R p v)[q]?=some (.imm x):=by
 unfold richRow
 rw[List.getElem?_set_ne (Ne.symm hq),List.getElem?_map,h];rfl
theorem zqz{R:List IV}{p q:Nat}{v:AV}{x:IV}(hq:q≠p):(richRow R p v).set q (.imm x)=richRow (R.set q x) p v:=by
 unfold richRow
 rw[List.set_comm _ _ (Ne.symm hq),List.map_set]
theorem zq0{R:List IV}{p q:Nat}{v:AV}{x:IV}(hq:q≠p):setAll (richRow R p v) q [.imm x]=richRow (R.set q x) p v:=zqz hq
theorem zqy(R:List IV)(p:Nat)(v:AV):setAll (R.map AV.imm) p [v]=richRow R p v:=rfl
theorem zp3:∀(R:List IV),AV.refs.refsL (R.map AV.imm)=[]
 |[]=>rfl
 |x::r=>by simp[AV.refs.refsL,AV.refs,zp3 r]
theorem zp5:∀(R:List IV) (p:Nat) (v:AV),p<R.length→AV.refs.refsL ((R.map AV.imm).set p v)=v.refs
 |[],p,v,h=>absurd h (Nat.not_lt_zero p)
 |x::r,0,v,h=>by simp[AV.refs.refsL,zp3]
 |x::r,p+1,v,h=>by
  have:=zp5 r p v (by simpa using h)
  simp[AV.refs.refsL,AV.refs,this]
theorem zp8{R:List IV}{p:Nat}{v:AV}(h:p<R.length):AV.refs.refsL (richRow R p v)=v.refs:=zp5 R p v h
theorem zqo(f:Nat→Option Nat)(R:List IV)(p:Nat)(v:AV):AV.ren.renL f (richRow R p v)=richRow R p (v.ren f):=by
 rw[zqc]
 unfold richRow
 rw[List.map_set,List.map_map]
 congr 1
section
variable {code:Nat→Option XFun} {ext:Calls'}
theorem zde(h:code 743=some x743){sv:IV}{S:List Obj}(hr:Reads tObj sv S)(hn:S.length≤100000000):
  (sv=.val (.slice none 0 0)∧S=[]∧callW code ext 743 [.imm sv] []=some (nilS,[]))∨
  (isNilIV sv=false∧∃cp:Option Nat,(cp=none∨cp=some S.length)∧callW code ext 743 [.imm sv] []=some (.osl 0 0 5 S.length cp,[.flat (tObj.row S) false])):=by
 rcases hr.2.2 with⟨rfl,rfl⟩|⟨row,off,cap,rfl,hc,hcut⟩
 ·left
  refine⟨rfl,rfl,?_⟩
  rw[zb5 code ext h]
  simp -implicitDefEqProofs [x743]
 ·right
  refine⟨rfl,?_⟩
  rw[zb5 code ext h]
  by_cases h0:S.length=0
  ·have hx:S=[]:=List.eq_nil_of_length_eq_zero h0
   subst hx
   have hr0:tObj.row ([]:List Obj)=[]:=rfl
   have hc0:cut row off 0=some []:=by simp[cut]
   refine⟨some 0,.inr rfl,?_⟩
   rw[hr0]
   simp -implicitDefEqProofs [x743,exAppendX,exAppend,elems,hc0]
  ·have h2:S.length*64≤140737488355328:=by omega
   have hcut:cut row off (S.length*5)=some (tObj.row S):=hcut
   refine⟨none,.inl rfl,?_⟩
   simp -implicitDefEqProofs [x743,exAppendX,exAppend,elems,hcut,h0,h2]
theorem zc8(h:code 742=some x742)(h2:code 740=some x740)(l:Sl tVal)(hb:l.xs.length≤1000000000):
  (l.iv=.val (.slice none 0 0)∧l.xs=[]∧callW code ext 742 [.imm l.iv] []=some (nilS,[])∧callW code ext 740 [nilS] []=some (nilS,[])∧(cloneL l).iv=.val (.slice none 0 0))∨
  (isNilIV l.iv=false∧∃(cap:Option Nat),callW code ext 742 [.imm l.iv] []=some (.osl 0 0 2 l.xs.length cap,[.flat (tVal.row l.xs) false])∧callW code ext 740 [.osl 0 0 2 l.xs.length cap] [.flat (tVal.row l.xs) false]=some (.osl 0 0 2 l.xs.length (some l.xs.length),[.flat (tVal.row l.xs) false])∧(cloneL l).iv=.slice (tVal.row l.xs) 0 l.xs.length (some l.xs.length)):=by
 obtain⟨iv,xs,ok⟩:=l
 dsimp only at hb ⊢
 have hclip:∀cap:Option Nat,(cap=none∨cap=some xs.length)→callW code ext 740 [.osl 0 0 2 xs.length cap] [.flat (tVal.row xs) false]=some (.osl 0 0 2 xs.length (some xs.length),[.flat (tVal.row xs) false]):=by
  intro cap hcap
  rw[zb5 code ext h2]
  generalize tVal.row xs=R
  rcases hcap with rfl|rfl<;>simp -implicitDefEqProofs [x740,exSlice3]
 rcases ok.2.2 with⟨rfl,rfl⟩|⟨row,off,cap,rfl,hc,hcut⟩
 ·exact .inl ⟨rfl,rfl,zdb h,zc5 h2,rfl⟩
 ·right
  refine⟨rfl,?_⟩
  have hr:cloneL ⟨.slice row off xs.length cap,xs,ok⟩=⟨.slice (tVal.row xs) 0 xs.length (some xs.length),xs,⟨ok.1,ok.2.1,.inr ⟨_,0,_,rfl,fun c h=>by cases h;exact Nat.le_refl _,zd4 tVal xs⟩⟩⟩:=by
   unfold cloneL
   rw[if_neg (by simp[isNilIV])]
  rw[hr]
  by_cases h0:xs.length=0
  ·have hx:xs=[]:=List.eq_nil_of_length_eq_zero h0
   subst hx
   exact⟨_,zc9 h row off cap,hclip _ (.inr rfl),rfl⟩
  ·exact⟨_,zdc h (R:=tVal.row xs) hcut (by omega) hb,hclip _ (.inl rfl),rfl⟩
end
end Go.EX


namespace Go.EX
def x643RL1:XCode:=
 (.seq (.region [3,8,9,10] [⟨(some 10),.bin .lss (.t 9) (.t 8),none⟩])
 (.seq (.cond (.t 10)
  .skip
  (.exit 0))
 (.seq (.block 1 (.seq (.region [3,4,8,9] [⟨(some 11),.mv (.t 9),none⟩,
  ⟨(some 4),.mv (.t 11),none⟩])
 (.region [3,8,9] [⟨(some 12),.mv (.t 3),none⟩,
  ⟨(some 13),.mv (.t 4),none⟩,
  ⟨(some 14),.mv (.t 3),none⟩,
  ⟨(some 15),.mv (.t 4),none⟩,
  ⟨(some 16),.idxA 5 (.t 14) (.t 15),none⟩,
  ⟨(some 17),.fieldA 2 (.t 16),none⟩,
  ⟨(some 18),.load none (.t 17),none⟩,
  ⟨(some 19),.call .own 742 [(.t 18)],none⟩,
  ⟨(some 20),.call .whole 740 [(.t 19)],none⟩,
  ⟨(some 21),.idxA 5 (.t 12) (.t 13),none⟩,
  ⟨(some 22),.fieldA 2 (.t 21),none⟩,
  ⟨none,.store 1 (.t 22) (.t 20),none⟩])))
 (.region [3,8,9] [⟨(some 23),.bin .add (.t 9) (.c (.int .i64 1)),none⟩,
  ⟨(some 9),.mv (.t 23),none⟩]))))
def x643R:XFun:=⟨[.whole,.tmp 2],
 (.seq (.region [0] [⟨(some 2),.mv (.c (.slice none 0 0)),none⟩])
 (.seq (.region [3] [⟨(some 5),.mv (.t 0),none⟩,
  ⟨(some 6),.call .share 743 [(.t 5)],none⟩,
  ⟨(some 3),.mv (.t 6),none⟩])
 (.seq (.seq (.region [3,8,9] [⟨(some 7),.mv (.t 3),none⟩,
  ⟨(some 8),.len (.t 7),none⟩,
  ⟨(some 9),.mv (.c (.int .i64 0)),none⟩])
 (.block 0 (.loop [1000000,3,8,9] x643RL1)))
 (.seq (.region [2] [⟨(some 24),.mv (.t 3),none⟩,
  ⟨(some 25),.call .whole 741 [(.t 24)],none⟩,
  ⟨(some 2),.mv (.t 25),none⟩])
 .ret))))⟩
def clO(j:Nat)(o:Obj):RO:=⟨.imm (.val (.int .u8 o.k)),.imm (.val (.string o.s)),if isNilIV o.l.iv=true then nilS else .osl j 0 2 o.l.xs.length (some o.l.xs.length),int64 o.room,int64 o.fn⟩
def clL(o:Obj):Mem:=if isNilIV o.l.iv=true then[]else[.flat (tVal.row o.l.xs) false]
def clR:Nat→List Obj→List RO
 |_,[]=>[]
 |j,o::r=>clO j o::clR (j+(clL o).length) r
def clM(T:List Obj):Mem:=T.flatMap clL
def imRow(T:List Obj):List AV:=(tObj.row T).map .imm
theorem zcv:∀(S:List Obj) (j:Nat),(clR j S).length=S.length
 |[],j=>rfl
 |o::r,j=>by simp[clR,zcv r]
theorem zco(S:List Obj)(o:Obj):clM (S++[o])=clM S++clL o:=by simp[clM]
theorem zcs:∀(S:List Obj) (j:Nat) (o:Obj),clR j (S++[o])=clR j S++[clO (j+(clM S).length) o]
 |[],j,o=>by simp[clR,clM]
 |g::r,j,o=>by
  have:j+(clL g).length+(clM r).length=j+(clM (g::r)).length:=by simp[clM];omega
  simp only[List.cons_append,clR,zcs r,this]
theorem zhs(o:Obj)(r:List Obj):imRow (o::r)=[.imm (.val (.int .u8 o.k)),.imm (.val (.string o.s)),.imm o.l.iv,int64 o.room,int64 o.fn]++imRow r:=rfl
theorem zre{M:Mem}{id off:Nat}{o:AObj}{cells:List AV}(hM:M[id]?=some o)(h:RowO cells o):loadAt M none (.optr id off)=cells[off]?:=by
 rcases h with rfl|⟨cs,rfl,rfl⟩
 ·simp only[loadAt,hM,getCells]
 ·simp only[loadAt,hM,getCellsI,List.getElem?_map]
section
variable {code:Nat→Option XFun} {ext:Calls'}
theorem zc2(h2:code 740=some x740)(M:Mem)(id n:Nat){cap:Option Nat}(hc:cap=none∨cap=some n):callW code ext 740 [.osl id 0 2 n cap] M=some (.osl id 0 2 n (some n),M):=by
 rw[zb5 code ext h2]
 rcases hc with rfl|rfl<;>simp -implicitDefEqProofs [x740,exSlice3]
theorem zc3(h2:code 740=some x740)(M:Mem):callW code ext 740 [nilS] M=some (nilS,M):=by
 rw[zb5 code ext h2]
 simp -implicitDefEqProofs [x740,exSlice3]
theorem zc1(h2:code 741=some x741)(M:Mem)(id n:Nat){cap:Option Nat}(hc:cap=none∨cap=some n):callW code ext 741 [.osl id 0 5 n cap] M=some (.osl id 0 5 n (some n),M):=by
 rw[zb5 code ext h2]
 rcases hc with rfl|rfl<;>simp -implicitDefEqProofs [x741,exSlice3]
theorem zc7(h:code 742=some x742)(l:Sl tVal)(hb:l.xs.length≤1000000000):
  (isNilIV l.iv=true∧callW code ext 742 [.imm l.iv] []=some (nilS,[]))∨
  (isNilIV l.iv=false∧∃cap:Option Nat,(cap=none∨cap=some l.xs.length)∧callW code ext 742 [.imm l.iv] []=some (.osl 0 0 2 l.xs.length cap,[.flat (tVal.row l.xs) false])):=by
 obtain⟨iv,xs,ok⟩:=l
 dsimp only at hb ⊢
 rcases ok.2.2 with⟨rfl,rfl⟩|⟨row,off,cap,rfl,hc,hcut⟩
 ·exact .inl ⟨rfl,zdb h⟩
 ·right
  refine⟨rfl,?_⟩
  by_cases h0:xs.length=0
  ·have hx:xs=[]:=List.eq_nil_of_length_eq_zero h0
   subst hx
   exact⟨_,.inr rfl,zc9 h row off cap⟩
  ·exact⟨_,.inl rfl,zdc h (R:=tVal.row xs) hcut (by omega) hb⟩
theorem zvh(h:code 742=some x742)(h2:code 740=some x740){T:List Obj}(hT:∀o∈T,o.l.xs.length≤1000000)(hn:T.length≤100000000){K:Nat}{Pm:Mem}{cap:Option Nat}{o0:AObj}(ho0:RowO (imRow T) o0){s:St}
  (hst:s.tidy [1000000,3,8,9]=⟨K,[(1000000,.junk),(3,.osl Pm.length 0 5 T.length cap),(8,int64 T.length),(9,int64 0)],Pm++[o0]⟩):
  ∃e s',den code ext (.loop [1000000,3,8,9] x643RL1) s=some (e,s')∧e≠ .normal∧
   (e=.exit 0∧∃o,RowO (roRow (clR (Pm.length+1) T)) o∧s'=⟨K,[(3,.osl Pm.length 0 5 T.length cap),(8,int64 T.length),(9,int64 T.length),(10,avb false)],Pm++o::clM T⟩):=by
 refine zjp (fun m s=>∃(i:Nat) (o:AObj),i+m=T.length∧RowO (roRow (clR (Pm.length+1) (T.take i))++imRow (T.drop i)) o∧s.tidy [1000000,3,8,9]=⟨K,[(1000000,.junk),(3,.osl Pm.length 0 5 T.length cap),(8,int64 T.length),(9,int64 (i:Nat))],Pm++o::clM (T.take i)⟩) _ ?_ T.length _
  ⟨0,o0,by simp,by simpa [clR,roRow]using ho0,by simpa [clM]using hst⟩
 clear hst
 rintro m s ⟨i,o,hi,ho,hst⟩
 rw[hst]
 by_cases hlt:i<T.length
 ·have hx:=List.getElem?_eq_getElem hlt
  have hb:=hT _ (List.getElem_mem hlt)
  have e1:IntKind.wrap .i64 ((i:Int)+1)=(i:Int)+1:=wrapI64 (by omega) (by omega)
  have hlt':(i:Int)<T.length:=by omega
  have htk:T.take (i+1)=T.take i++[T[i]]:=by rw[List.take_add_one,hx];rfl
  have hdr:T.drop i=T[i]::T.drop (i+1):=List.drop_eq_getElem_cons hlt
  have hcc:=zc7 (ext:=ext) h T[i].l (by omega)
  have hcl:(roRow (clR (Pm.length+1) (T.take i))).length=i*5:=by rw[zq6,zcv,List.length_take];omega
  rw[hdr,zhs]at ho
  have hR2:roRow (clR (Pm.length+1) (T.take (i+1)))=roRow (clR (Pm.length+1) (T.take i))++(clO (Pm.length+1+(clM (T.take i)).length) T[i]).cells:=by rw[htk,zcs,zq3]
  have hM2:clM (T.take (i+1))=clM (T.take i)++clL T[i]:=by rw[htk,zco]
  generalize T[i]=w at *
  generalize roRow (clR (Pm.length+1) (T.take i))=A at *
  generalize clM (T.take i)=C at *
  have hMq:(Pm++o::C)[Pm.length]?=some o:=by simp
  have hld:loadAt (Pm++o::C) none (.optr Pm.length (i*5+2))=some (.imm w.l.iv):=by
   rw[zre hMq ho,List.getElem?_append_right (by omega),hcl,Nat.add_sub_cancel_left];rfl
  have hset:∀v,setAll (A++([.imm (.val (.int .u8 w.k)),.imm (.val (.string w.s)),.imm w.l.iv,int64 w.room,int64 w.fn]++imRow (T.drop (i+1)))) (i*5+2) [v]=A++([.imm (.val (.int .u8 w.k)),.imm (.val (.string w.s)),v,int64 w.room,int64 w.fn]++imRow (T.drop (i+1))):=by
   intro v
   simp only[setAll]
   rw[List.set_append_right _ _ (by omega),hcl,Nat.add_sub_cancel_left];rfl
  have hfit:∀v:AV,i*5+2+[v].length≤(A++([.imm (.val (.int .u8 w.k)),.imm (.val (.string w.s)),.imm w.l.iv,int64 w.room,int64 w.fn]++imRow (T.drop (i+1)))).length:=by
   intro v;simp[hcl];omega
  have hlen:(Pm++o::C).length=Pm.length+1+C.length:=by simp;omega
  rcases hcc with⟨hz,c1⟩|⟨hz,cp,hcp,c1⟩
  ·obtain⟨o',hr',hs'⟩:=zrl (vs:=[nilS]) hMq ho (hfit _)
   rw[hset]at hr'
   have hs2:(Pm++o::C).set Pm.length o'=Pm++o'::C:=by rw[List.set_append_right _ _ (Nat.le_refl _)];simp
   rw[hs2]at hs'
   have c2:=zc3 (ext:=ext) h2 (Pm++o::C)
   have hmo:=zrg ho
   refine⟨.normal,⟨K,[(3,.osl Pm.length 0 5 T.length cap),(8,int64 T.length),(9,int64 ((i:Int)+1))],Pm++o'::C⟩,?_,.inl ⟨rfl,m-1,by omega,i+1,o',by omega,?_,?_⟩⟩
   ·generalize Pm++o::C=N at *
    generalize Pm.length=q at *
    simp -implicitDefEqProofs [x643RL1,hlt,hlt',hld,-loadAt,c1,c2,hMq,hmo,-AObj.moved,hs',-storeAt,e1]
   ·rw[hR2]
    unfold clO RO.cells
    rw[if_pos hz]
    rw[List.append_assoc]
    exact hr'
   ·rw[hM2]
    simp -implicitDefEqProofs [clL,hz]
  ·have hMq2:((Pm++o::C)++[.flat (tVal.row w.l.xs) false])[Pm.length]?=some o:=by rw[List.getElem?_append_left (by simp)];exact hMq
   obtain⟨o',hr',hs'⟩:=zrl (vs:=[.osl (Pm++o::C).length 0 2 w.l.xs.length (some w.l.xs.length)]) hMq2 ho (hfit _)
   rw[hset]at hr'
   have hs2:((Pm++o::C)++[AObj.flat (tVal.row w.l.xs) false]).set Pm.length o'=Pm++o'::(C++[.flat (tVal.row w.l.xs) false]):=by
    rw[List.append_assoc,List.cons_append,List.set_append_right _ _ (Nat.le_refl _)];simp
   rw[hs2]at hs'
   have c2:=zc2 (ext:=ext) h2 ((Pm++o::C)++[.flat (tVal.row w.l.xs) false]) (Pm++o::C).length w.l.xs.length hcp
   have hmo:=zrg ho
   have hmf:(AObj.flat (tVal.row w.l.xs) false).moved=false:=rfl
   have hgl:((Pm++o::C)++[AObj.flat (tVal.row w.l.xs) false])[(Pm++o::C).length]?=some (.flat (tVal.row w.l.xs) false):=zg7 _ _
   refine⟨.normal,⟨K,[(3,.osl Pm.length 0 5 T.length cap),(8,int64 T.length),(9,int64 ((i:Int)+1))],Pm++o'::(C++[.flat (tVal.row w.l.xs) false])⟩,?_,.inl ⟨rfl,m-1,by omega,i+1,o',by omega,?_,?_⟩⟩
   ·generalize Pm++o::C=N at *
    generalize Pm.length=q at *
    simp -implicitDefEqProofs [x643RL1,hlt,hlt',hld,-loadAt,c1,c2,hMq2,hmo,hmf,hgl,-AObj.moved,hs',-storeAt,e1]
   ·rw[hR2]
    unfold clO RO.cells
    rw[if_neg (by rw[hz];decide),List.append_assoc,←hlen]
    exact hr'
   ·rw[hM2]
    simp -implicitDefEqProofs [clL,hz]
 ·have:i=T.length:=by omega
  subst this
  rw[List.take_length,List.drop_length]at ho
  rw[List.take_length]
  refine⟨.exit 0,⟨K,[(3,.osl Pm.length 0 5 T.length cap),(8,int64 T.length),(9,int64 T.length),(10,avb false)],Pm++o::clM T⟩,?_,.inr ⟨by simp,rfl,o,by simpa [imRow,Ty.row]using ho,rfl⟩⟩
  simp -implicitDefEqProofs [x643RL1]
end
end Go.EX


namespace Go.EX
structure TwinQ (code:Nat→Option XFun):Prop where
 c643:code 643=some x643R
 c740:code 740=some x740
 c741:code 741=some x741
 c742:code 742=some x742
 c743:code 743=some x743
section
variable {code:Nat→Option XFun} {ext:Calls'}
theorem zvf(c:TwinQ code){T:List Obj}(hT:∀o∈T,o.l.xs.length≤1000000)(hn:T.length≤100000000)(cap:Option Nat):
  ∃o,RowO (roRow (clR 2 T)) o∧callW code ext 643 [.osl 0 0 5 T.length cap] [.flat (tObj.row T) false]=some (.osl 1 0 5 T.length (some T.length),.flat (tObj.row T) false::o::clM T):=by
 have h1:=zdd (ext:=ext) c.c743 hn false cap (zd4 tObj T)
 obtain⟨cp,hcp,hcp2⟩:∃cp:Option Nat,(if T.length=0 then some 0 else none)=cp∧(cp=none∨cp=some T.length):=by
  by_cases h0:T.length=0
  ·exact⟨some 0,if_pos h0,.inr (by rw[h0])⟩
  ·exact⟨none,if_neg h0,.inl rfl⟩
 rw[hcp]at h1
 obtain⟨e,s',h2,_,rfl,o,hr,rfl⟩:=zvh (ext:=ext) c.c742 c.c740 hT hn (K:=1) (Pm:=[.flat (tObj.row T) false]) (cap:=cp) (o0:=.flat (tObj.row T) false) (.inr ⟨_,rfl,rfl⟩)
  (s:=⟨1,[(3,.osl 1 0 5 T.length cp),(8,int64 T.length),(9,int64 0)],[.flat (tObj.row T) false,.flat (tObj.row T) false]⟩) (by simp -implicitDefEqProofs [])
 refine⟨o,hr,?_⟩
 have h3:=zc1 (ext:=ext) c.c741 ([.flat (tObj.row T) false]++o::clM T) 1 T.length hcp2
 have hmo:=zrg hr
 rw[zb5 code ext c.c643]
 simp only[List.length_cons,List.length_nil,Nat.zero_add,List.cons_append,List.nil_append]at h2 h3
 generalize tObj.row T=R at *
 generalize clM T=C at *
 generalize T.length=N at *
 have hmf:(AObj.flat R false).moved=false:=rfl
 simp -implicitDefEqProofs [x643R,h1,h2,h3,hmo,hmf,-AObj.moved]
theorem zvg(c:TwinQ code){sv:IV}{S:List Obj}(hrd:Reads tObj sv S)(hT:∀o∈S,o.l.xs.length≤1000000)(hn:S.length≤100000000):
  (sv=.val (.slice none 0 0)∧S=[]∧callW code ext 643 [.imm sv] []=some (nilS,[]))∨
  (isNilIV sv=false∧∃o,RowO (roRow (clR 1 S)) o∧callW code ext 643 [.imm sv] []=some (.osl 0 0 5 S.length (some S.length),o::clM S)):=by
 rcases zde (ext:=ext) c.c743 hrd hn with⟨rfl,rfl,h1⟩|⟨hz,cp,hcp,h1⟩
 ·refine .inl ⟨rfl,rfl,?_⟩
  have h4:callW code ext 741 [nilS] []=some (nilS,[]):=by
   rw[zb5 code ext c.c741]
   simp -implicitDefEqProofs [x741,exSlice3]
  have h2:den code ext (.loop [1000000,3,8,9] x643RL1) ⟨0,[(3,nilS),(8,int64 0),(9,int64 0)],[]⟩=some (.exit 0,⟨0,[(3,nilS),(8,int64 0),(9,int64 0),(10,avb false)],[]⟩):=by
   rw[zeb]
   simp -implicitDefEqProofs [x643RL1]
  rw[zb5 code ext c.c643]
  simp -implicitDefEqProofs [x643R,h1,h2,h4]
 ·refine .inr ⟨hz,?_⟩
  obtain⟨e,s',h2,_,rfl,o,hr,rfl⟩:=zvh (ext:=ext) c.c742 c.c740 hT hn (K:=0) (Pm:=[]) (cap:=cp) (o0:=.flat (tObj.row S) false) (.inr ⟨_,rfl,rfl⟩)
   (s:=⟨0,[(3,.osl 0 0 5 S.length cp),(8,int64 S.length),(9,int64 0)],[.flat (tObj.row S) false]⟩) (by simp -implicitDefEqProofs [])
  refine⟨o,hr,?_⟩
  have h3:=zc1 (ext:=ext) c.c741 (o::clM S) 0 S.length hcp
  have hmo:=zrg hr
  rw[zb5 code ext c.c643]
  simp only[List.length_nil,List.nil_append]at h2 h3
  generalize tObj.row S=R at *
  generalize clM S=C at *
  generalize S.length=N at *
  simp -implicitDefEqProofs [x643R,h1,h2,h3,hmo,-AObj.moved]
end
end Go.EX


namespace Go.EX
def XM(b:Nat)(T:List Obj)(X:Mem):Prop:=∃ob,X=ob::clM T∧RowO (roRow (clR (b+1) T)) ob
theorem zcn{o:Obj}:∀a∈clL o,∃cs,a=.flat cs false:=by
 intro a ha
 unfold clL at ha
 split at ha
 ·simp at ha
 ·simp at ha;exact⟨_,ha⟩
theorem zcp{T:List Obj}:∀a∈clM T,∃cs,a=.flat cs false:=by
 intro a ha
 obtain⟨o,_,ha⟩:=List.mem_flatMap.1 ha
 exact zcn a ha
theorem zcx:∀(T:List Obj) (j:Nat),AV.refs.refsL (roRow (clR j T))=List.range' j (clM T).length
 |[],j=>rfl
 |o::r,j=>by
  have h:roRow (clR j (o::r))=(clO j o).cells++roRow (clR (j+(clL o).length) r):=rfl
  rw[h,zp2,zcx r]
  have hm:clM (o::r)=clL o++clM r:=by simp[clM]
  rw[hm,List.length_append,←List.range'_append_1]
  congr 1
  unfold clO clL RO.cells
  split
  ·rfl
  ·rfl
theorem zcy{f:Nat→Option Nat}:∀(T:List Obj) (j j':Nat),(∀i,i<(clM T).length→f (j+i)=some (j'+i))→AV.ren.renL f (roRow (clR j T))=roRow (clR j' T)
 |[],j,j',_=>rfl
 |o::r,j,j',h=>by
  have hm:clM (o::r)=clL o++clM r:=by simp[clM]
  rw[hm,List.length_append]at h
  have h1:∀j,roRow (clR j (o::r))=(clO j o).cells++roRow (clR (j+(clL o).length) r):=fun _=>rfl
  have h2:=zcy (f:=f) r (j+(clL o).length) (j'+(clL o).length) fun i hi=>by
   have:=h ((clL o).length+i) (by omega)
   rw[Nat.add_assoc,this,Nat.add_assoc]
  rw[h1,h1,zqc,List.map_append,←zqc,←zqc,h2]
  congr 1
  unfold clO RO.cells
  split
  ·rfl
  ·rename_i hz
   have h0:=h 0 (by
    unfold clL
    rw[if_neg hz];simp;omega)
   simp only[Nat.add_zero]at h0
   simp only[AV.ren.renL,AV.ren,h0]
theorem zri{f:Nat→Option Nat}{cells:List AV}{o:AObj}(h:RowO cells o):RowO (AV.ren.renL f cells) (o.ren f):=by
 rcases h with rfl|⟨cs,rfl,rfl⟩
 ·exact .inl rfl
 ·refine .inr ⟨cs,rfl,?_⟩
  rw[zqc,List.map_map]
  rfl
theorem zcq(f:Nat→Option Nat)(T:List Obj):(clM T).map (AObj.ren f)=clM T:=by
 have:∀l:Mem,(∀a∈l,∃cs,a=.flat cs false)→l.map (AObj.ren f)=l:=by
  intro l hl
  induction l with
  |nil=>rfl
  |cons a l ih=>
   obtain⟨cs,rfl⟩:=hl a (List.mem_cons_self ..)
   rw[List.map_cons,ih fun b hb=>hl b (List.mem_cons_of_mem _ hb)]
   rfl
 exact this _ zcp
theorem xm_len{b:Nat}{T:List Obj}{X:Mem}(h:XM b T X):X.length=(clM T).length+1:=by
 obtain⟨ob,rfl,_⟩:=h;simp
theorem xm_ren{f:Nat→Option Nat}{b b':Nat}{T:List Obj}{X:Mem}(h:XM b T X)(hf:∀i,i<X.length→f (b+i)=some (b'+i)):XM b' T (X.map (AObj.ren f)):=by
 have hl:=xm_len h
 obtain⟨ob,rfl,hr⟩:=h
 refine⟨ob.ren f,by rw[List.map_cons,zcq],?_⟩
 have:=zri (f:=f) hr
 rw[zcy T (b+1) (b'+1) fun i hi=>by
  have:=hf (1+i) (by omega)
  rw[←Nat.add_assoc,←Nat.add_assoc]at this
  exact this]at this
 exact this
theorem zws{b:Nat}{T:List Obj}{X:Mem}(h:XM b T X):∀o∈X,∀r∈o.refs,b<r∧r<b+X.length:=by
 have hl:=xm_len h
 obtain⟨ob,rfl,hr⟩:=h
 intro o ho r hrr
 rcases List.mem_cons.1 ho with rfl|ho
 ·rw[zrh hr,zcx]at hrr
  rw[List.mem_range'_1]at hrr
  omega
 ·obtain⟨cs,rfl⟩:=zcp o ho
  simp[AObj.refs]at hrr
theorem clM_le(T:List Obj):(clM T).length≤T.length:=by
 induction T with
 |nil=>simp[clM]
 |cons o r ih=>
  have hm:clM (o::r)=clL o++clM r:=by simp[clM]
  rw[hm,List.length_append,List.length_cons]
  have:(clL o).length≤1:=by unfold clL;split<;>simp
  omega
theorem zwq{b k:Nat}{P:Mem}{T:List Obj}{X:Mem}(h:XM b T X)(hP:P.length=b)(hk:k≤b)(hr:Mem.refs (P.take k)=[])(hT:T.length≤10000000):order k [b] (P++X)=List.range k++List.range' b X.length:=by
 have hl:=xm_len h
 have hle:=clM_le T
 obtain⟨ob,rfl,hro⟩:=h
 have htk:(P++ob::clM T).take k=P.take k:=by rw[List.take_append_of_le_length (by omega)]
 unfold order
 rw[htk,hr,List.append_nil]
 rw[show(1000000000000:Nat)=999999999999+1 from rfl,reach]
 have hbl:b<(P++ob::clM T).length:=by simp;omega
 have hgb:(P++ob::clM T)[b]?=some ob:=by rw[List.getElem?_append_right (by omega),hP,Nat.sub_self];rfl
 rw[if_neg (by simp;omega),if_pos hbl,hgb,Option.getD_some,zrh hro,zcx,List.nil_append]
 rw[zpj]
 ·rw[List.append_assoc,hl,List.range'_succ];rfl
 ·simp;omega
 ·intro t ht
  rw[List.mem_range'_1]at ht
  refine⟨by simp;omega,?_,by simp;omega⟩
  rw[List.getElem?_append_right (by omega),hP]
  have:t-b=(t-b-1)+1:=by omega
  rw[this,List.getElem?_cons_succ]
  have hlt:t-b-1<(clM T).length:=by omega
  rw[List.getElem?_eq_getElem hlt,Option.getD_some]
  obtain⟨cs,e⟩:=zcp _ (List.getElem_mem hlt)
  rw[e];rfl
 ·exact List.nodup_range'
theorem zor{k b n i:Nat}(hk:k≤b)(hi:i<n):place (List.range k++List.range' b n) (b+i)=some (k+i):=by
 refine zoq _ _ _ ?_ ?_
 ·rw[List.nodup_append]
  refine⟨List.nodup_range,List.nodup_range',?_⟩
  intro a ha c hc
  rw[List.mem_range]at ha
  rw[List.mem_range'_1]at hc
  omega
 ·rw[List.getElem?_append_right (by simp),List.length_range,Nat.add_sub_cancel_left,List.getElem?_range' hi];simp
theorem zwr{b k:Nat}{P:Mem}{T:List Obj}{X:Mem}(h:XM b T X)(hP:P.length=b)(hk:k≤b)(hr:∀o∈P.take k,o.refs=[]):
  ∃X',Mem.pickAll (P++X) (List.range k++List.range' b X.length)=P.take k++X'∧XM k T X':=by
 refine⟨X.map (AObj.ren (place (List.range k++List.range' b X.length))),?_,xm_ren h fun i hi=>zor hk hi⟩
 unfold Mem.pickAll
 rw[List.map_append]
 congr 1
 ·refine List.ext_getElem? fun j=>?_
  by_cases hj:j<k
  ·rw[List.getElem?_map,List.getElem?_range hj,Option.map_some,List.getElem?_take,if_pos hj,List.getElem?_append_left (by omega)]
   have hg:=List.getElem?_eq_getElem (show j<P.length by omega)
   rw[hg,Option.getD_some,zm7 fun id hid=>?_]
   have:=hr P[j] (List.mem_of_getElem? (i:=j) (by rw[List.getElem?_take,if_pos hj];exact hg))
   rw[this]at hid
   simp at hid
  ·rw[List.getElem?_eq_none (by simp;omega),List.getElem?_eq_none (by simp;omega)]
 ·refine List.ext_getElem? fun j=>?_
  by_cases hj:j<X.length
  ·rw[List.getElem?_map,List.getElem?_range' hj,Option.map_some,List.getElem?_map,List.getElem?_append_right (by omega)]
   have:b+1*j-P.length=j:=by omega
   rw[this,List.getElem?_eq_getElem hj]
   rfl
  ·rw[List.getElem?_eq_none (by simp;omega),List.getElem?_eq_none (by simp;omega)]
end Go.EX


namespace Go.EX
def tgtM(T:List Obj)(idx:Nat)(b:Bool)(R:List IV):Mem:=match T[idx]? with
 |some o=>if b=true∧isNilIV o.l.iv=false then[.rich (richRow R (idx*5+2) (.osl 1 0 2 o.l.xs.length (some o.l.xs.length))),.flat (tVal.row o.l.xs) false]else[.flat R false]
 |none=>[.flat R false]
section
variable {code:Nat→Option XFun} {ext:Calls'}
set_option maxHeartbeats 4000000 in
theorem zve (h:code 742=some x742) (h2:code 740=some x740) {T:List Obj} (hT:∀o∈T,o.l.xs.length≤1000000) (hn:T.length≤100000000) (idx:Nat) (cp:Option Nat) {i:Nat} (hlt:i<T.length):
  ∃s',den code ext (x643PL1 (idx*5+2)) ⟨0,[(3,.osl 0 0 5 T.length cp),(8,int64 T.length),(9,int64 i)],tgtM T idx (decide (idx<i)) (tObj.row ((T.take i).map cloneObj++T.drop i))⟩=some (.normal,s')∧
   s'.tidy [3,8,9]=⟨0,[(3,.osl 0 0 5 T.length cp),(8,int64 T.length),(9,int64 ((i:Int)+1))],tgtM T idx (decide (idx<i+1)) (tObj.row ((T.take (i+1)).map cloneObj++T.drop (i+1)))⟩:=by
 have hx:=List.getElem?_eq_getElem hlt
 have hmem:=List.getElem_mem hlt
 have hb:=hT _ hmem
 have hti:((T.take i).map cloneObj).length=i:=by rw[List.length_map,List.length_take];omega
 have hgo:((T.take i).map cloneObj++T.drop i)[i]?=some T[i]:=by
  rw[List.getElem?_append_right (by omega),hti,Nat.sub_self,List.getElem?_drop,Nat.add_zero];exact hx
 have hset:=zro _ i _ (cloneL T[i].l) hgo
 have hcell:=zdz (zgi (t:=tObj) hgo) 2 (by decide)
 have hnew:((T.take i).map cloneObj++T.drop i).set i { T[i]with l:=cloneL T[i].l }=(T.take (i+1)).map cloneObj++T.drop (i+1):=by
  rw[List.drop_eq_getElem_cons hlt,List.set_append_right _ _ (by omega),hti,Nat.sub_self,List.set_cons_zero,List.take_add_one,hx,Option.toList_some,List.map_append,List.append_assoc]
  rfl
 rw[hnew]at hset
 have hlen:((T.take i).map cloneObj++T.drop i).length=T.length:=by rw[List.length_append,hti,List.length_drop];omega
 have hrl:=zrn tObj ((T.take i).map cloneObj++T.drop i)
 rw[hlen]at hrl
 have hcc:=zc8 (ext:=ext) h h2 T[i].l (by omega)
 have e1:IntKind.wrap .i64 ((i:Int)+1)=(i:Int)+1:=wrapI64 (by omega) (by omega)
 have hlt':(i:Int)<T.length:=by omega
 have hcl:(tObj.row ((T.take i).map cloneObj++T.drop i))[i*5+2]?=some T[i].l.iv:=hcell
 generalize tObj.row ((T.take i).map cloneObj++T.drop i)=R at *
 generalize tObj.row ((T.take (i+1)).map cloneObj++T.drop (i+1))=R' at *
 have hR:i*5+2+1≤R.length:=by rw[hrl];simp only[tObj];omega
 have hR1:i*5+2<R.length:=by omega
 have hsa:setAll R (i*5+2) [(cloneL T[i].l).iv]=R':=hset
 have p1:=zqo
 refine stepN ?_
 by_cases hidx:i=idx
 ·
  subst hidx
  have d1:decide (i<i)=false:=by simp
  have d2:decide (i<i+1)=true:=by simp
  rw[d1,d2]
  unfold tgtM
  rw[hx]
  simp only[Bool.false_eq_true,false_and,if_false,true_and]
  generalize T[i]=o at *
  rcases hcc with⟨c0,cx,c1,c2,c3⟩|⟨c0,cap,c1,c2,c3⟩
  ·have hn0:¬isNilIV o.l.iv=false:=by rw[c0];simp[isNilIV]
   rw[if_neg hn0]
   rw[c3]at hsa
   rw[c0]at c1 hcl
   simp -implicitDefEqProofs [x643PL1,exStoreF,exLook,hlt,hlt',hcl,c1,c2,e1,hR,hsa]
  ·rw[if_pos c0]
   have hmk:=zqy R (i*5+2)
   have hrr:richRow R (i*5+2) (.osl 1 0 2 o.l.xs.length (some o.l.xs.length))=richRow R' (i*5+2) (.osl 1 0 2 o.l.xs.length (some o.l.xs.length)):=by
    rw[←hset]
    unfold richRow
    rw[List.map_set,List.set_set]
   have hrf:=zp8 (R:=R) (p:=i*5+2) (v:=.osl 1 0 2 o.l.xs.length (some o.l.xs.length)) hR1
   rw[←hrr]
   generalize tVal.row o.l.xs=W at *
   generalize o.l.xs.length=n at *
   simp -implicitDefEqProofs [x643PL1,exStoreF,exLook,hlt,hlt',hcl,c1,c2,e1,hR,hmk,hrf,p1]
 ·have hoff:¬i*5+2=idx*5+2:=by omega
  have hoff2:¬i*5=idx*5:=by omega
  by_cases hi:idx<i
  ·
   have d1:decide (idx<i)=true:=by simpa using hi
   have d2:decide (idx<i+1)=true:=by simp;omega
   rw[d1,d2]
   unfold tgtM
   have hxi:T[idx]?=some T[idx]:=List.getElem?_eq_getElem (by omega)
   rw[hxi]
   have hpR:idx*5+2<R.length:=by omega
   have hpR':idx*5+2<R'.length:=by rw[←hset,List.length_set];omega
   generalize T[idx]=q at *
   by_cases hq:isNilIV q.l.iv=false
   ·simp only[hq,and_self,if_true]
    have hrf:=zp8 (R:=R') (p:=idx*5+2) (v:=.osl 1 0 2 q.l.xs.length (some q.l.xs.length)) hpR'
    have hgt:=zqw (v:=.osl 1 0 2 q.l.xs.length (some q.l.xs.length)) hcl hoff
    have hrs:=zq0 (R:=R) (p:=idx*5+2) (q:=i*5+2) (v:=.osl 1 0 2 q.l.xs.length (some q.l.xs.length)) (x:=(cloneL T[i].l).iv) hoff
    have hset':R.set (i*5+2) (cloneL T[i].l).iv=R':=hset
    rw[hset']at hrs
    have hll:=zqx R (idx*5+2) (.osl 1 0 2 q.l.xs.length (some q.l.xs.length))
    generalize T[i]=o at *
    generalize tVal.row q.l.xs=W at *
    generalize q.l.xs.length=n at *
    rcases hcc with⟨c0,cx,c1,c2,c3⟩|⟨c0,cap,c1,c2,c3⟩
    ·rw[c3]at hrs
     rw[c0]at c1 hcl hgt
     simp -implicitDefEqProofs [x643PL1,exStoreF,exLook,hlt,hlt',hgt,c1,c2,e1,hR,hrs,hrf,hll,hoff2,p1]
    ·rw[c3]at hrs
     generalize tVal.row o.l.xs=W2 at *
     generalize o.l.xs.length=n2 at *
     simp -implicitDefEqProofs [x643PL1,exStoreF,exLook,hlt,hlt',hgt,c1,c2,e1,hR,hrs,hrf,hll,hoff2,p1]
   ·simp only[hq,and_false,if_false]
    generalize T[i]=o at *
    rcases hcc with⟨c0,cx,c1,c2,c3⟩|⟨c0,cap,c1,c2,c3⟩
    ·rw[c3]at hsa
     rw[c0]at c1 hcl
     simp -implicitDefEqProofs [x643PL1,exStoreF,exLook,hlt,hlt',hcl,c1,c2,e1,hR,hsa,hoff2]
    ·rw[c3]at hsa
     generalize tVal.row o.l.xs=W2 at *
     generalize o.l.xs.length=n2 at *
     simp -implicitDefEqProofs [x643PL1,exStoreF,exLook,hlt,hlt',hcl,c1,c2,e1,hR,hsa,hoff2]
  ·have d1:decide (idx<i)=false:=by simpa using hi
   have d2:decide (idx<i+1)=false:=by simp;omega
   rw[d1,d2]
   have hf:∀Q:List IV,tgtM T idx false Q=[.flat Q false]:=fun Q=>by
    unfold tgtM
    cases T[idx]? with
    |none=>rfl
    |some o=>simp
   rw[hf,hf]
   generalize T[i]=o at *
   rcases hcc with⟨c0,cx,c1,c2,c3⟩|⟨c0,cap,c1,c2,c3⟩
   ·rw[c3]at hsa
    rw[c0]at c1 hcl
    simp -implicitDefEqProofs [x643PL1,exStoreF,exLook,hlt,hlt',hcl,c1,c2,e1,hR,hsa,hoff2]
   ·rw[c3]at hsa
    generalize tVal.row o.l.xs=W2 at *
    generalize o.l.xs.length=n2 at *
    simp -implicitDefEqProofs [x643PL1,exStoreF,exLook,hlt,hlt',hcl,c1,c2,e1,hR,hsa,hoff2]
end
end Go.EX


namespace Go.EX
section
variable {code:Nat→Option XFun} {ext:Calls'}
theorem zvb(h:code 742=some x742)(h2:code 740=some x740){T:List Obj}(hT:∀o∈T,o.l.xs.length≤1000000)(hn:T.length≤100000000)(idx:Nat)(cp:Option Nat)(s0:St)
  (hs0:s0.tidy [3,8,9]=⟨0,[(3,.osl 0 0 5 T.length cp),(8,int64 T.length),(9,int64 0)],[.flat (tObj.row T) false]⟩):
  ∃e s',den code ext (.loop [3,8,9] (x643PL1 (idx*5+2))) s0=some (e,s')∧e≠ .normal∧(e=.exit 0∧s'=⟨0,[(3,.osl 0 0 5 T.length cp),(8,int64 T.length),(9,int64 T.length),(10,avb false)],tgtM T idx (decide (idx<T.length)) (tObj.row (T.map cloneObj))⟩):=by
 have h0:tgtM T idx (decide (idx<0)) (tObj.row ((T.take 0).map cloneObj++T.drop 0))=[.flat (tObj.row T) false]:=by
  unfold tgtM
  cases T[idx]? with
  |none=>rfl
  |some o=>simp
 refine zjp (fun n s=>∃i,i+n=T.length∧s.tidy [3,8,9]=⟨0,[(3,.osl 0 0 5 T.length cp),(8,int64 T.length),(9,int64 (i:Nat))],tgtM T idx (decide (idx<i)) (tObj.row ((T.take i).map cloneObj++T.drop i))⟩) _ ?_ T.length _ ⟨0,by simp,by rw[h0];exact hs0⟩
 rintro n s ⟨i,hi,hst⟩
 rw[hst]
 by_cases hlt:i<T.length
 ·obtain⟨s',g1,g2⟩:=zve (ext:=ext) h h2 hT hn idx cp hlt
  exact⟨.normal,s',g1,.inl ⟨rfl,n-1,by omega,i+1,by omega,by rw[g2,Int.natCast_add];rfl⟩⟩
 ·have:i=T.length:=by omega
  subst this
  rw[List.take_length,List.drop_length,List.append_nil]
  refine⟨.exit 0,_,?_,.inr ⟨by simp,rfl,rfl⟩⟩
  generalize tgtM T idx (decide (idx<T.length)) (tObj.row (T.map cloneObj))=M
  simp -implicitDefEqProofs [x643PL1]
theorem zc4(h:code 741=some x741)(n:Nat)(cp:Option Nat)(hc:cp=none∨cp=some n)(T:List Obj)(idx:Nat)(b:Bool)(R:List IV)(hp:∀o,T[idx]?=some o→idx*5+2<R.length):
  callW code ext 741 [.osl 0 0 5 n cp] (tgtM T idx b R)=some (.osl 0 0 5 n (some n),tgtM T idx b R):=by
 have p1:=zqo
 rw[zb5 code ext h]
 unfold tgtM
 split
 ·rename_i o ho
  have hrf:=zp8 (R:=R) (p:=idx*5+2) (v:=.osl 1 0 2 o.l.xs.length (some o.l.xs.length)) (hp o ho)
  split
  ·generalize tVal.row o.l.xs=W at *
   generalize o.l.xs.length=n2 at *
   rcases hc with rfl|rfl<;>simp -implicitDefEqProofs [x741,exSlice3,hrf,p1]
  ·rcases hc with rfl|rfl<;>simp -implicitDefEqProofs [x741,exSlice3]
 ·rcases hc with rfl|rfl<;>simp -implicitDefEqProofs [x741,exSlice3]
structure TwinCode (code:Nat→Option XFun) (idx:Nat):Prop where
 c643:code 643=some (x643P (idx*5+2))
 c740:code 740=some x740
 c741:code 741=some x741
 c742:code 742=some x742
 c743:code 743=some x743
theorem zvc{idx:Nat}(c:TwinCode code idx):callW code ext 643 [nilS] []=some (nilS,[]):=by
 have g1:callW code ext 743 [nilS] []=some (nilS,[]):=by
  rw[zb5 code ext c.c743]
  simp -implicitDefEqProofs [x743]
 have g2:callW code ext 741 [nilS] []=some (nilS,[]):=by
  rw[zb5 code ext c.c741]
  simp -implicitDefEqProofs [x741,exSlice3]
 rw[zb5 code ext c.c643]
 simp -implicitDefEqProofs [x643P,g1]
 rw[zeb]
 simp -implicitDefEqProofs [x643PL1,g2]
theorem zvd{idx:Nat}(c:TwinCode code idx){sv:IV}{S:List Obj}(hr:Reads tObj sv S)(hz:isNilIV sv=false)(hT:∀o∈S,o.l.xs.length≤1000000)(hn:S.length≤100000000):
  callW code ext 643 [.imm sv] []=some (.osl 0 0 5 S.length (some S.length),tgtM S idx (decide (idx<S.length)) (tObj.row (S.map cloneObj))):=by
 rcases zde (ext:=ext) c.c743 hr hn with⟨rfl,_⟩|⟨_,cp,hcp,g1⟩
 ·simp[isNilIV]at hz
 ·obtain⟨e,s',l1,_,rfl,rfl⟩:=zvb (ext:=ext) c.c742 c.c740 hT hn idx cp ⟨0,[(3,.osl 0 0 5 S.length cp),(8,int64 S.length),(9,int64 0)],[.flat (tObj.row S) false]⟩ (by generalize tObj.row S=R;simp -implicitDefEqProofs [])
  have hrl:=zrn tObj (S.map cloneObj)
  rw[List.length_map]at hrl
  have g2:=zc4 (ext:=ext) c.c741 S.length cp hcp S idx (decide (idx<S.length)) (tObj.row (S.map cloneObj)) (fun o ho=>by
   have:=(List.getElem?_eq_some_iff.1 ho).1
   rw[hrl];simp only[tObj];omega)
  have p1:=zqo
  rw[zb5 code ext c.c643]
  have hpl:∀o,S[idx]?=some o→idx*5+2<(tObj.row (S.map cloneObj)).length:=fun o ho=>by
   have:=(List.getElem?_eq_some_iff.1 ho).1
   rw[hrl];simp only[tObj];omega
  generalize tObj.row (S.map cloneObj)=R at *
  generalize tObj.row S=R0 at *
  unfold x643P
  generalize x643PL1 (idx*5+2)=L at *
  unfold tgtM at *
  cases hS:S[idx]? with
  |none=>
   simp only[hS]at l1 g2 ⊢
   generalize S.length=n at *
   simp -implicitDefEqProofs [g1,g2,l1]
  |some o=>
   simp only[hS]at l1 g2 ⊢
   have hrf:=zp8 (R:=R) (p:=idx*5+2) (v:=.osl 1 0 2 o.l.xs.length (some o.l.xs.length)) (hpl o hS)
   generalize decide (idx<S.length)=b at *
   generalize tVal.row o.l.xs=W at *
   generalize o.l.xs.length=n2 at *
   generalize S.length=n at *
   by_cases hb:b=true∧isNilIV o.l.iv=false
   ·rw[if_pos hb]at l1 g2 ⊢
    simp -implicitDefEqProofs [g1,g2,l1,hrf,p1]
   ·rw[if_neg hb]at l1 g2 ⊢
    simp -implicitDefEqProofs [g1,g2,l1]
end
end Go.EX


namespace Go.EX
section
variable {code:Nat→Option XFun} {ext:Calls'}
def wasV(T:List Obj):AV:=if T.length=0 then nilS else .imm (.slice (sizeRow T) 0 T.length none)
def askSum(B:List Obj):Int:=B.foldl (fun n o=>IntKind.wrap .i64 (n+wordsObj o)) 0
theorem zbf(h:code 578=some x578){T B:List Obj}{C:List IV}(cap:Option Nat)(hC:cut C 0 ((T++B).length*5)=some (tObj.row (T++B)))(hn:(T++B).length≤100000000)(s0:St)
  (hs0:s0.tidy [1,4,7,8,9]=⟨0,[(1,wasV T),(4,int64 0),(7,.imm (.slice C 0 (T++B).length cap)),(8,int64 (T++B).length),(9,int64 0)],[]⟩):
  ∃e s',den code ext (.loop [1,4,7,8,9] x639L1) s0=some (e,s')∧e≠ .normal∧(e=.exit 0∧
   s'=⟨0,[(1,wasV T),(4,int64 (askSum B)),(7,.imm (.slice C 0 (T++B).length cap)),(8,int64 (T++B).length),(9,int64 (T++B).length),(10,avb false)],[]⟩):=by
 refine zjp (fun n s=>∃i,i+n=(T++B).length∧s.tidy [1,4,7,8,9]=⟨0,[(1,wasV T),(4,int64 (askSum (B.take (i-T.length)))),(7,.imm (.slice C 0 (T++B).length cap)),(8,int64 (T++B).length),(9,int64 (i:Nat))],[]⟩) _ ?_ (T++B).length _ ⟨0,by simp,by simpa [askSum]using hs0⟩
 rintro n s ⟨i,hi,hst⟩
 rw[hst]
 have hL:(T++B).length=T.length+B.length:=List.length_append
 by_cases hlt:i<(T++B).length
 ·have hx:=List.getElem?_eq_getElem hlt
  have hel:cut C (i*5) 5=some (tObj.enc (T++B)[i]):=by
   have:=zdx hC (a:=i*5) (b:=5) (by omega)
   rw[Nat.zero_add]at this
   rw[this]
   exact zgi (t:=tObj) hx
  obtain⟨m,hs⟩:=ztq (ext:=ext) h (T++B)[i]
  simp only[tObj]at hel
  have e1:IntKind.wrap .i64 ((i:Int)+1)=(i:Int)+1:=wrapI64 (by omega) (by omega)
  have hlt':(i:Int)<(T++B).length:=by omega
  by_cases hold:i<T.length
  ·have hT:=List.getElem?_eq_getElem hold
   have hgt:(T++B)[i]=T[i]:=by rw[List.getElem_append_left hold]
   rw[hgt]at hel hs hx
   have hw:(sizeRow T)[i]?=some (.val (.int .i64 (wordsObj T[i]))):=by unfold sizeRow;rw[List.getElem?_map,hT];rfl
   have hwv:wasV T=.imm (.slice (sizeRow T) 0 T.length none):=by unfold wasV;rw[if_neg (by omega)]
   have hz:i-T.length=0:=by omega
   have hz1:i+1-T.length=0:=by omega
   have h1:¬(T.length:Int)≤i:=by omega
   have h2:(i:Int)<T.length:=by omega
   have ha:askSum (B.take 0)=0:=rfl
   generalize T[i]=o at *
   generalize wordsObj o=w at *
   rw[hwv,hz,ha]
   clear hgt
   generalize (T++B).length=N at *
   refine⟨.normal,⟨0,[(1,.imm (.slice (sizeRow T) 0 T.length none)),(4,int64 0),(7,.imm (.slice C 0 N cap)),(8,int64 N),(9,int64 ((i:Int)+1))],[.rich [.imm (.val (.int .u8 o.k)),strV o.s,.imm o.l.iv,int64 o.room,int64 o.fn]]⟩,?_,.inl ⟨rfl,n-1,by omega,i+1,by omega,?_⟩⟩
   ·simp -implicitDefEqProofs [x639L1,hlt,hlt',hel,hs,hw,h1,h2,hold,e1]
   ·rw[hz1,ha]
    simp -implicitDefEqProofs
  ·have hB:i-T.length<B.length:=by omega
   have hBx:=List.getElem?_eq_getElem hB
   have hgt:(T++B)[i]=B[i-T.length]:=by rw[List.getElem_append_right (by omega)]
   rw[hgt]at hel hs hx
   have hz1:i+1-T.length=(i-T.length)+1:=by omega
   have htk:B.take (i-T.length+1)=B.take (i-T.length)++[B[i-T.length]]:=by rw[List.take_add_one,hBx];rfl
   have ha:askSum (B.take (i-T.length+1))=IntKind.wrap .i64 (askSum (B.take (i-T.length))+wordsObj B[i-T.length]):=by rw[htk];unfold askSum;rw[List.foldl_append];rfl
   have h1:(T.length:Int)≤i:=by omega
   generalize B[i-T.length]=o at *
   generalize wordsObj o=w at *
   generalize askSum (B.take (i-T.length))=a at *
   have hwv:lenOf (wasV T)=some T.length:=by
    unfold wasV
    by_cases h0:T.length=0
    ·rw[if_pos h0,h0];rfl
    ·rw[if_neg h0];rfl
   have hws:∃x,wasV T=.imm x:=by
    unfold wasV
    split
    ·exact⟨_,rfl⟩
    ·exact⟨_,rfl⟩
   obtain⟨x,hws⟩:=hws
   rw[hws]at hwv ⊢
   clear hgt
   generalize (T++B).length=N at *
   refine⟨.normal,⟨0,[(1,.imm x),(4,int64 (IntKind.wrap .i64 (a+w))),(7,.imm (.slice C 0 N cap)),(8,int64 N),(9,int64 ((i:Int)+1))],[.rich [.imm (.val (.int .u8 o.k)),strV o.s,.imm o.l.iv,int64 o.room,int64 o.fn]]⟩,?_,.inl ⟨rfl,n-1,by omega,i+1,by omega,?_⟩⟩
   ·simp -implicitDefEqProofs [x639L1,hlt,hlt',hel,hs,hwv,h1,e1]
   ·rw[hz1,ha]
    simp -implicitDefEqProofs
 ·have:i=(T++B).length:=by omega
  subst this
  have hz:(T++B).length-T.length=B.length:=by omega
  rw[hz,List.take_length]
  have hws:∃x,wasV T=.imm x:=by
   unfold wasV
   split
   ·exact⟨_,rfl⟩
   ·exact⟨_,rfl⟩
  obtain⟨x,hws⟩:=hws
  rw[hws]
  refine⟨.exit 0,⟨0,[(1,.imm x),(4,int64 (askSum B)),(7,.imm (.slice C 0 (T++B).length cap)),(8,int64 (T++B).length),(9,int64 (T++B).length),(10,avb false)],[]⟩,?_,.inr ⟨by simp,rfl,rfl⟩⟩
  generalize (T++B).length=N at *
  simp -implicitDefEqProofs [x639L1]
theorem zbg(h:code 639=some x639)(h1:code 578=some x578){T B:List Obj}{C:List IV}(cap:Option Nat)(hC:cut C 0 ((T++B).length*5)=some (tObj.row (T++B)))(hn:(T++B).length≤100000000):
  callW code ext 639 [.imm (.slice C 0 (T++B).length cap),wasV T] []=some (int64 (askSum B),[]):=by
 have hws:∃x,wasV T=.imm x:=by
  unfold wasV
  split
  ·exact⟨_,rfl⟩
  ·exact⟨_,rfl⟩
 obtain⟨x,hws⟩:=hws
 obtain⟨e,s',l1,_,rfl,rfl⟩:=zbf (ext:=ext) h1 cap hC hn ⟨0,[(1,wasV T),(4,int64 0),(7,.imm (.slice C 0 (T++B).length cap)),(8,int64 (T++B).length),(9,int64 0)],[]⟩ (by rw[hws];generalize (T++B).length=N;simp -implicitDefEqProofs)
 rw[hws]at l1 ⊢
 rw[zb5 code ext h]
 unfold x639
 generalize x639L1=L at *
 generalize (T++B).length=N at *
 simp -implicitDefEqProofs [l1]
end
end Go.EX

