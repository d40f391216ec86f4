import Derived.Test.YtjdfihnmpmckjaaGreatDoorK11
import Derived.Test.YtjdfihnmpmckjaaGreatDoorK10
import Derived.Lib.ItoaLen
import Derived.Test.YtjdfihnmpmckjaaGreatDoorK8
import Derived.Test.YtjdfihnmpmckjaaGreatDoorK9
import Derived.Test.YtjdfihnmpmckjaaGreatDoorK4
set_option linter.unusedVariables false
set_option linter.unusedSimpArgs false
namespace Go.EX
theorem zmp(acc:List (Int×Int×ByteArray)):(normMap acc).length=acc.length:=by simp[normMap]
section
variable {code:Nat→Option XFun} {ext:Calls'}
end
end Go.EX

namespace Go.EX
theorem zmq(T:List Obj)(v:Val):(normOf T v).1=v.k:=by
 unfold normOf
 split
 ·split
  ·simp_all
  ·rfl
 ·rfl
theorem zmr(T:List Obj)(a b:Val)(ha:valOf T a=true)(hb:valOf T b=true):normOf T a=normOf T b↔sameOf T a b=true:=by
 unfold normOf sameOf
 by_cases hk:a.k=b.k
 ·rw[if_neg (show ¬(a.k≠b.k)from fun c=>c hk)]
  by_cases h0:a.k=0
  ·have hb0:b.k=0:=by omega
   unfold valOf at ha hb
   rw[if_pos h0]at ha
   rw[if_pos hb0]at hb
   simp at ha hb
   simp[h0,hb0,ha,hb]
  ·rw[if_neg h0]
   by_cases h3:a.k=3
   ·have hb3:b.k=3:=by omega
    rw[if_pos h3,if_pos hb3,if_pos h3]
    have ga:(leadsOf T a).isSome=true:=by
     unfold valOf at ha
     rw[if_neg (by omega),if_neg (by omega),if_neg (by omega)]at ha;exact ha
    have gb:(leadsOf T b).isSome=true:=by
     unfold valOf at hb
     rw[if_neg (by omega),if_neg (by omega),if_neg (by omega)]at hb;exact hb
    obtain⟨i,hi⟩:=Option.isSome_iff_exists.1 ga
    obtain⟨j,hj⟩:=Option.isSome_iff_exists.1 gb
    rw[hi,hj]
    by_cases hn:a.n=b.n
    ·rw[if_pos hn]
     have hij:i=j:=by
      have h1:=(zi0 hi).2.1
      have h2:=(zi0 hj).2.1
      omega
     subst hij;simp
    ·rw[if_neg hn];simp
   ·have hb3:¬b.k=3:=by omega
    rw[if_neg h3,if_neg hb3,if_neg h3]
    by_cases hn:a.n=b.n
    ·simp[hn,hk]
    ·simp[hn]
 ·rw[if_pos hk]
  refine⟨fun h=>?_,fun h=>by cases h⟩
  have h1:=zmq T a
  have h2:=zmq T b
  unfold normOf at h1 h2
  rw[h,h2]at h1
  exact absurd h1.symm hk
theorem zmw(T:List Obj)(l:List Val):∀(j:Nat),2*j≤l.length→∀x,x∈normsTo T l (2*j)↔ ∃p v,p<j∧l[2*p]?=some v∧normOf T v=x
 |0,_,x=>by
  refine⟨fun h=>by simp[normsTo]at h,?_⟩
  rintro⟨p,v,h,_⟩;omega
 |j+1,hj,x=>by
  have hlt:2*j<l.length:=by omega
  have ih:=zmw T l j (by omega) x
  have hg:=List.getElem?_eq_getElem hlt
  have e:=zmu T l (2*j) l[2*j] (by omega) hg
  have e':2*(j+1)=2*j+2:=by omega
  rw[e',e]
  have hadd:x∈addNorm (normsTo T l (2*j)) (normOf T l[2*j])↔x∈normsTo T l (2*j)∨normOf T l[2*j]=x:=by
   unfold addNorm
   split
   ·rename_i hm
    refine⟨.inl,?_⟩
    rintro(h|h)
    ·exact h
    ·rw[←h];exact hm
   ·simp[eq_comm]
  rw[hadd,ih]
  constructor
  ·rintro(⟨p,v,h1,h2,h3⟩|h)
   ·exact⟨p,v,by omega,h2,h3⟩
   ·exact⟨j,_,by omega,hg,h⟩
  ·rintro⟨p,v,h1,h2,h3⟩
   by_cases hp:p=j
   ·subst hp;rw[hg]at h2;cases h2;exact .inr h3
   ·exact .inl ⟨p,v,by omega,h2,h3⟩
theorem zmv(T:List Obj)(l:List Val):∀(j:Nat),2*j≤l.length→(normsTo T l (2*j)).length≤j∧
  ((normsTo T l (2*j)).length=j↔ ∀(p q:Nat) (a b:Val),q<p→p<j→l[2*p]?=some a→l[2*q]?=some b→normOf T a≠normOf T b)
 |0,_=>by
  refine⟨by simp[normsTo],fun _ p q a b h1 h2=>by omega,fun _=>by simp[normsTo]⟩
 |j+1,hj=>by
  have hlt:2*j<l.length:=by omega
  obtain⟨ih1,ih2⟩:=zmv T l j (by omega)
  have hm:=zmw T l j (by omega) (normOf T l[2*j])
  have hg:=List.getElem?_eq_getElem hlt
  have e:=zmu T l (2*j) l[2*j] (by omega) hg
  have e':2*(j+1)=2*j+2:=by omega
  rw[e',e]
  unfold addNorm
  split
  ·rename_i hx
   refine⟨by omega,fun h=>by omega,fun h=>?_⟩
   obtain⟨p,v,h1,h2,h3⟩:=hm.1 hx
   exact absurd h3.symm (h j p _ v h1 (by omega) hg h2)
  ·rename_i hx
   refine⟨by simp;omega,?_⟩
   rw[List.length_append,List.length_singleton]
   constructor
   ·intro h p q a b h1 h2 h3 h4
    by_cases hp:p=j
    ·subst hp
     rw[hg]at h3;cases h3
     intro hc
     exact hx (hm.2 ⟨q,b,h1,h4,hc.symm⟩)
    ·exact ih2.1 (by omega) p q a b h1 (by omega) h3 h4
   ·intro h
    have:=ih2.2 fun p q a b h1 h2 h3 h4=>h p q a b h1 (by omega) h3 h4
    omega
theorem zin(T:List Obj)(l:List Val)(hev:l.length%2=0)(hv:∀v∈l,valOf T v=true):(normsTo T l l.length).length=l.length / 2↔KeysOk T l:=by
 have hl:l.length=2*(l.length / 2):=by omega
 have h:=(zmv T l (l.length / 2) (by omega)).2
 rw[←hl]at h
 rw[h]
 unfold KeysOk
 constructor
 ·intro h i k a b hi hk hlt h1 h2
  have ha:=hv a (List.mem_of_getElem? h1)
  have hb:=hv b (List.mem_of_getElem? h2)
  have hil:=(List.getElem?_eq_some_iff.1 h1).1
  have:=h (i / 2) (k / 2) a b (by omega) (by omega) (by rw[show 2*(i / 2)=i by omega];exact h1) (by rw[show 2*(k / 2)=k by omega];exact h2)
  rw[Ne,zmr T a b ha hb]at this
  simpa using this
 ·intro h p q a b h1 h2 h3 h4
  have ha:=hv a (List.mem_of_getElem? h3)
  have hb:=hv b (List.mem_of_getElem? h4)
  rw[Ne,zmr T a b ha hb,h (2*p) (2*q) a b (by omega) (by omega) (by omega) h3 h4]
  simp
end Go.EX


namespace Go.EX
section
variable {code:Nat→Option XFun} {ext:Calls'}
theorem zd6(T:List Obj):cut (storeRow T) 0 (T.length*5)=some (tObj.row T):=by
 unfold storeRow
 have hr:tObj.row (T++[spObj])=tObj.row T++tObj.row [spObj]:=by unfold Ty.row;simp
 have hl:(tObj.row T).length=T.length*5:=zrn tObj T
 rw[hr]
 refine cut_mk ?_ hl
 rw[List.drop_zero,←hl,List.take_left]
end
end Go.EX


namespace Go.EX
section
variable {code:Nat→Option XFun} {ext:Calls'}
theorem zsj(h:code 492=some x492)(k n:Int)(t:ByteArray)(w:Int):∃m,callW code ext 492 [didV k n t w] []=some (int64 (if t=.empty then w else 0),m):=by
 refine mem_of ?_
 rw[zb5 code ext h]
 unfold didV
 by_cases ht:t=.empty
 ·simp -implicitDefEqProofs [x492,ht]
 ·simp -implicitDefEqProofs [x492,ht]
end
end Go.EX


namespace Go.EX
section
variable {code:Nat→Option XFun} {ext:Calls'}
theorem zrv(h:code 559=some x559)(o:Obj)(h0:0≤o.room):
  ∃m,callW code ext 559 [.agg [.imm (.val (.int .u8 o.k)),.imm (.val (.string o.s)),.imm o.l.iv,int64 o.room,int64 o.fn]] []=some (int64 (wordsObj o),m):=by
 refine mem_of ?_
 rw[zb5 code ext h]
 have hlen:=zpr o.l.ok
 unfold wordsObj
 by_cases k3:o.k=3
 ·simp -implicitDefEqProofs [x559,k3]
 by_cases k6:o.k=6
 ·simp -implicitDefEqProofs [x559,k6,hlen]
 by_cases k4:o.k=4
 ·by_cases hr:o.room=0
  ·simp -implicitDefEqProofs [x559,k4,hr]
  ·have hp:0<o.room:=by omega
   simp -implicitDefEqProofs [x559,k4,hr,hp]
 by_cases k5:o.k=5
 ·by_cases hr:o.room=0
  ·simp -implicitDefEqProofs [x559,k5,hr]
  ·have hp:0<o.room:=by omega
   simp -implicitDefEqProofs [x559,k5,hr,hp]
 ·simp -implicitDefEqProofs [x559,k3,k4,k5,k6]
end
end Go.EX


namespace Go.EX
section
variable {code:Nat→Option XFun} {ext:Calls'}
def textObj(t:ByteArray):Obj:=⟨3,t,⟨.val (.slice none 0 0),[],⟨by simp,by simp,.inl ⟨rfl,rfl⟩⟩⟩,0,0⟩
def heapM(R:List IV)(n c:Nat):Mem:=[.rich [.osl 1 0 5 n (some c)],.flat R false]
theorem zq2(h:code 165=some x165)(h1:code 559=some x559){T:List Obj}(hn:T.length≤100000000)(t:ByteArray):
  callW code ext 165 [.optr 0 0,.agg [.imm (.val (.int .u8 3)),strV t,nilS,int64 0,int64 0],avb false] (heapM (tObj.row (T++[spObj])) T.length (T.length+1))=
   some (didV 3 ((T.length+1:Nat):Int) .empty (wordsObj (textObj t)),heapM (tObj.row (T++[textObj t])) (T.length+1) (T.length+1)):=by
 obtain⟨m,hs⟩:=zrv (ext:=ext) h1 (textObj t) (Int.le_refl 0)
 have hset:=zs4 (t:=tObj) (xs:=T++[spObj]) (by decide) (i:=T.length) (by simp) (textObj t)
 have hst:(T++[spObj]).set T.length (textObj t)=T++[textObj t]:=by simp
 rw[hst]at hset
 have henc:tObj.enc (textObj t)=[.val (.int .u8 3),.val (.string t),.val (.slice none 0 0),.val (.int .i64 0),.val (.int .i64 0)]:=rfl
 have hz:tObj.sz=5:=rfl
 rw[henc,hz]at hset
 have hfit:(T.length+1)*5≤(tObj.row (T++[spObj])).length:=by rw[zrn,hz];simp
 generalize wordsObj (textObj t)=w at *
 simp only[textObj]at hs
 rw[zb5 code ext h]
 unfold heapM didV
 generalize tObj.row (T++[textObj t])=R2 at *
 generalize tObj.row (T++[spObj])=R at *
 simp -implicitDefEqProofs [x165,hs,exAppendX,exAppend,elems,hset,hfit]
end
end Go.EX


namespace Go.EX
section
variable {code:Nat→Option XFun} {ext:Calls'}
abbrev greatT:ByteArray:=⟨#[103,114,101,97,116]⟩
theorem zrw(h0:code 163=some x163)(h:code 165=some x165)(h1:code 559=some x559){T:List Obj}(hn:T.length≤100000000)(t:ByteArray)(ht:t.size≤4096):
  callW code ext 163 [.optr 0 0,strV t,avb false] (heapM (tObj.row (T++[spObj])) T.length (T.length+1))=
   some (didV 3 ((T.length+1:Nat):Int) .empty (wordsObj (textObj t)),heapM (tObj.row (T++[textObj t])) (T.length+1) (T.length+1)):=by
 have hm:=zq2 (ext:=ext) h h1 hn t
 generalize wordsObj (textObj t)=w at *
 have ht':¬(4096:Int)<t.size:=by omega
 rw[zb5 code ext h0]
 unfold heapM didV at *
 generalize tObj.row (T++[textObj t])=R2 at *
 generalize tObj.row (T++[spObj])=R at *
 generalize ((T.length+1:Nat):Int)=N at *
 simp -implicitDefEqProofs [x163,hm,ht']
end
end Go.EX


namespace Go.EX
section
variable {code:Nat→Option XFun} {ext:Calls'}
theorem zsi(h:code 561=some x561)(h8:code 558=some x558)(h7:code 557=some x557)(h2:code 562=some x562)(op a b:Int):
  ∃m,callW code ext 561 [.imm (.val (.int .u8 op)),int64 a,int64 b] []=some (didV (wholeR op a b).1 (wholeR op a b).2.1 (wholeR op a b).2.2 0,m):=by
 obtain⟨m1,hk⟩:=zuo (ext:=ext) h2 kindT
 obtain⟨m2,hz⟩:=zuo (ext:=ext) h2 zeroT
 refine mem_of ?_
 rw[zb5 code ext h]
 unfold wholeR didV at *
 by_cases o1:op=1
 ·subst o1
  obtain⟨m3,hi⟩:=zh8 (ext:=ext) h8 (IntKind.wrap .i64 (a+b))
  simp -implicitDefEqProofs [x561,hi]
 by_cases o2:op=2
 ·subst o2
  obtain⟨m3,hi⟩:=zh8 (ext:=ext) h8 (IntKind.wrap .i64 (a-b))
  simp -implicitDefEqProofs [x561,hi]
 by_cases o3:op=3
 ·subst o3
  obtain⟨m3,hi⟩:=zh8 (ext:=ext) h8 (IntKind.wrap .i64 (a*b))
  simp -implicitDefEqProofs [x561,hi]
 by_cases o6:op=6
 ·subst o6
  obtain⟨m3,hi⟩:=zbx (ext:=ext) h7 (decide (a<b))
  simp -implicitDefEqProofs [x561,hi]
 by_cases o7:op=7
 ·subst o7
  obtain⟨m3,hi⟩:=zbx (ext:=ext) h7 (decide (a≤b))
  simp -implicitDefEqProofs [x561,hi]
 by_cases o45:op=4∨op=5
 ·by_cases b0:b=0
  ·subst b0
   rcases o45 with rfl|rfl<;>simp -implicitDefEqProofs [x561,hz]
  ·rcases o45 with rfl|rfl
   ·by_cases b1:b= -1
    ·subst b1
     obtain⟨m3,hi⟩:=zh8 (ext:=ext) h8 (IntKind.wrap .i64 (-a))
     simp -implicitDefEqProofs [x561,hi]
    ·obtain⟨m3,hi⟩:=zh8 (ext:=ext) h8 (IntKind.wrap .i64 (a.tdiv b))
     simp -implicitDefEqProofs [x561,hi,b0,b1]
   ·by_cases b1:b= -1
    ·subst b1
     obtain⟨m3,hi⟩:=zh8 (ext:=ext) h8 0
     simp -implicitDefEqProofs [x561,hi]
    ·obtain⟨m3,hi⟩:=zh8 (ext:=ext) h8 (a.tmod b)
     simp -implicitDefEqProofs [x561,hi,b0,b1]
 ·have o4:¬op=4:=fun e=>o45 (.inl e)
  have o5:¬op=5:=fun e=>o45 (.inr e)
  simp -implicitDefEqProofs [x561,hk,o1,o2,o3,o4,o5,o6,o7]
theorem zru(h:code 161=some x161)(h1:code 166=some x166){sv:IV}{S:List Obj}(hr:Reads tObj sv S){a b:Val}(ha:TextOk S a)(hb:TextOk S b):
  ∃m,callW code ext 161 [.imm (.ptr [sv] 0),.agg [.imm (.val (.int .u8 a.k)),int64 a.n],.agg [.imm (.val (.int .u8 b.k)),int64 b.n]] []=some (avb (sameN S a b),m):=by
 refine mem_of ?_
 unfold sameN
 by_cases hk:a.k=b.k
 ·rw[if_neg (by simpa using hk)]
  by_cases h3:a.k=3
  ·rw[if_pos h3]
   obtain⟨q,hq⟩:=ha h3
   obtain⟨p,hp⟩:=hb (by omega)
   obtain⟨q1,q2,_,_,o,q3,q4⟩:=zi0 hq
   obtain⟨p1,p2,_,_,u,p3,p4⟩:=zi0 hp
   have t1:textV S a=o.s:=by unfold textV objOf;rw[hq];simp[q3]
   have t2:textV S b=u.s:=by unfold textV objOf;rw[hp];simp[p3]
   rw[t1,t2]
   obtain⟨m1,f1⟩:=zq8 (ext:=ext) h1 hr q2 q3
   obtain⟨m2,f2⟩:=zq8 (ext:=ext) h1 hr p2 p3
   have hb3:b.k=3:=by omega
   rw[h3]at f1 ⊢
   rw[hb3]at f2 ⊢
   rw[zb5 code ext h]
   simp -implicitDefEqProofs [x161,f1,f2]
  ·rw[if_neg h3,zb5 code ext h,←hk]
   by_cases h0:a.k=0
   ·simp -implicitDefEqProofs [x161,h0]
   ·simp -implicitDefEqProofs [x161,h0,h3]
 ·rw[if_pos hk,zb5 code ext h]
  simp -implicitDefEqProofs [x161,hk]
end
end Go.EX


namespace Go.EX
abbrev OutP:=Int×Int×ByteArray×List ByteArray
def textP(n:Nat)(t:ByteArray):OutP:=if t.size≤4096 then(3,((n+1:Nat):Int),.empty,[t])else(0,0,greatT,[])
def binP(T:List Obj)(op:Int)(a b:Val):OutP:=
 if op=8∨op=9 then(1,(if (sameN T a b==decide (op=8))=true then 1 else 0),.empty,[])
 else if a.k=2∧b.k=2 then((wholeR op a.n b.n).1,(wholeR op a.n b.n).2.1,(wholeR op a.n b.n).2.2,[])
 else if a.k=3∧b.k=3 then
  if op=1 then textP T.length (textV T a++textV T b)
  else if op=6 then(1,(if Op.bytesLess (textV T a).toList (textV T b).toList=true then 1 else 0),.empty,[])
  else if op=7 then(1,(if (Op.bytesLess (textV T a).toList (textV T b).toList||(textV T a).toList==(textV T b).toList)=true then 1 else 0),.empty,[])
  else(0,0,kindT,[])
 else(0,0,kindT,[])
def mayP(ck:Val→Bool)(a b:Val):Bool:=[a,b].all fun v=>decide (v.k≠7)&&ck v
def binR(T:List Obj)(ck:Val→Bool)(op:Int)(a b:Val):OutP:=if mayP ck a b=true then binP T op a b else(0,0,kindT,[])
def heapR(T:List Obj):List ByteArray→Mem
 |[]=>heapM (tObj.row (T++[spObj])) T.length (T.length+1)
 |t::_=>heapM (tObj.row (T++[textObj t])) (T.length+1) (T.length+1)
def wordsR:List ByteArray→Int
 |[]=>0
 |t::_=>wordsObj (textObj t)
def TextAt(T:List Obj)(v:Val):Prop:=v.k=3→∃p o,leadsOf T v=some p∧T[p]?=some o∧o.s.size≤4096
theorem TextAt.ok{T:List Obj}{v:Val}(h:TextAt T v):TextOk T v:=fun h3=>by
 obtain⟨p,_,hp,_⟩:=h h3
 exact⟨p,hp⟩
theorem zuk{T:List Obj}{v:Val}{p:Nat}{o:Obj}(hp:leadsOf T v=some p)(ho:T[p]?=some o):textV T v=o.s:=by
 unfold textV objOf;rw[hp];simp[ho]
def x150L:XFun:=⟨[.cell 10 (some 4)],
 (.seq (.region [0,1,4,7,8,10] [⟨(some 7),.box 2 (.t 2),none⟩,
  ⟨(some 8),.box 2 (.t 3),none⟩,
  ⟨(some 10),.alloc [(.int .u8 0),(.int .i64 0),(.string .empty),(.int .i64 0)],none⟩])
 (.seq (.seq (.region [0,1,4,7,8,10,18] [⟨(some 13),.mv (.t 0),none⟩,
  ⟨(some 14),.load (some 2) (.t 7),none⟩,
  ⟨(some 15),.load (some 2) (.t 8),none⟩,
  ⟨(some 16),.buildSlice 2 [(.int .u8 0),(.int .i64 0)] 2 [(0,2,(.t 14)),(2,2,(.t 15))],none⟩,
  ⟨(some 17),.call .view 152 [(.t 13),(.t 16)],none⟩,
  ⟨(some 18),.un .not (.t 17),none⟩])
 (.cond (.t 18)
  (.seq (.region [10] [⟨(some 19),.call .view 562 [(.c (.string ⟨#[107,105,110,100]⟩))],none⟩,
   ⟨none,.store 4 (.t 10) (.t 19),none⟩])
  .ret)
  .skip))
 (.seq (.seq (.region [0,1,4,7,8,10,25] [⟨(some 20),.mv (.t 1),none⟩,
  ⟨(some 21),.bin .eql (.t 20) (.c (.int .u8 8)),none⟩,
  ⟨(some 22),.mv (.t 21),none⟩,
  ⟨(some 23),.mv (.t 1),some (22,false)⟩,
  ⟨(some 24),.bin .eql (.t 23) (.c (.int .u8 9)),some (22,false)⟩,
  ⟨(some 25),.pick (.t 22) (.c (.bool true)) (.t 24),none⟩])
 (.cond (.t 25)
  (.seq (.region [10] [⟨(some 26),.mv (.t 0),none⟩,
   ⟨(some 27),.load (some 2) (.t 7),none⟩,
   ⟨(some 28),.load (some 2) (.t 8),none⟩,
   ⟨(some 29),.call .view 161 [(.t 26),(.t 27),(.t 28)],none⟩,
   ⟨(some 30),.mv (.t 1),none⟩,
   ⟨(some 31),.bin .eql (.t 30) (.c (.int .u8 8)),none⟩,
   ⟨(some 32),.binB .eql (.t 29) (.t 31),none⟩,
   ⟨(some 33),.call .view 557 [(.t 32)],none⟩,
   ⟨(some 34),.build [(.int .u8 0),(.int .i64 0),(.string .empty),(.int .i64 0)] [(0,2,(.t 33))],none⟩,
   ⟨none,.store 4 (.t 10) (.t 34),none⟩])
  .ret)
  .skip))
 (.seq (.seq (.region [0,1,4,7,8,10,42] [⟨(some 35),.fieldA 0 (.t 7),none⟩,
  ⟨(some 36),.load none (.t 35),none⟩,
  ⟨(some 37),.bin .eql (.t 36) (.c (.int .u8 2)),none⟩,
  ⟨(some 38),.mv (.t 37),none⟩,
  ⟨(some 39),.fieldA 0 (.t 8),some (38,true)⟩,
  ⟨(some 40),.load none (.t 39),some (38,true)⟩,
  ⟨(some 41),.bin .eql (.t 40) (.c (.int .u8 2)),some (38,true)⟩,
  ⟨(some 42),.pick (.t 38) (.t 41) (.c (.bool false)),none⟩])
 (.cond (.t 42)
  (.seq (.region [10] [⟨(some 43),.mv (.t 1),none⟩,
   ⟨(some 44),.fieldA 1 (.t 7),none⟩,
   ⟨(some 45),.load none (.t 44),none⟩,
   ⟨(some 46),.fieldA 1 (.t 8),none⟩,
   ⟨(some 47),.load none (.t 46),none⟩,
   ⟨(some 48),.call .view 561 [(.t 43),(.t 45),(.t 47)],none⟩,
   ⟨none,.store 4 (.t 10) (.t 48),none⟩])
  .ret)
  .skip))
 (.seq (.seq (.region [0,1,4,7,8,10,56] [⟨(some 49),.fieldA 0 (.t 7),none⟩,
  ⟨(some 50),.load none (.t 49),none⟩,
  ⟨(some 51),.bin .neq (.t 50) (.c (.int .u8 3)),none⟩,
  ⟨(some 52),.mv (.t 51),none⟩,
  ⟨(some 53),.fieldA 0 (.t 8),some (52,false)⟩,
  ⟨(some 54),.load none (.t 53),some (52,false)⟩,
  ⟨(some 55),.bin .neq (.t 54) (.c (.int .u8 3)),some (52,false)⟩,
  ⟨(some 56),.pick (.t 52) (.c (.bool true)) (.t 55),none⟩])
 (.cond (.t 56)
  (.seq (.region [10] [⟨(some 57),.call .view 562 [(.c (.string ⟨#[107,105,110,100]⟩))],none⟩,
   ⟨none,.store 4 (.t 10) (.t 57),none⟩])
  .ret)
  .skip))
 (.seq (.region [0,1,4,8,10,11] [⟨(some 58),.mv (.t 0),none⟩,
  ⟨(some 59),.load (some 2) (.t 7),none⟩,
  ⟨(some 60),.call .look 166 [(.t 58),(.t 59)],none⟩,
  ⟨(some 61),.field 1 none (.t 60),none⟩,
  ⟨(some 11),.mv (.t 61),none⟩])
 (.seq (.region [0,1,4,10,11,12] [⟨(some 62),.mv (.t 0),none⟩,
  ⟨(some 63),.load (some 2) (.t 8),none⟩,
  ⟨(some 64),.call .look 166 [(.t 62),(.t 63)],none⟩,
  ⟨(some 65),.field 1 none (.t 64),none⟩,
  ⟨(some 12),.mv (.t 65),none⟩])
 (.seq (.seq (.region [0,4,10,11,12,66] [⟨(some 66),.mv (.t 1),none⟩])
 (.block 0 (.seq (.region [0,4,10,11,12,66,67] [⟨(some 68),.bin .eql (.t 66) (.c (.int .u8 1)),none⟩,
  ⟨(some 67),.mv (.t 68),none⟩])
 (.cond (.t 67)
  (.seq (.region [10] [⟨(some 69),.mv (.t 0),none⟩,
   ⟨(some 70),.mv (.t 11),none⟩,
   ⟨(some 71),.mv (.t 12),none⟩,
   ⟨(some 72),.bin .add (.t 70) (.t 71),none⟩,
   ⟨(some 73),.mv (.t 4),none⟩,
   ⟨(some 74),.call .share 163 [(.t 69),(.t 72),(.t 73)],none⟩,
   ⟨none,.store 4 (.t 10) (.t 74),none⟩])
  .ret)
  (.seq (.region [10,11,12,66,75] [⟨(some 76),.bin .eql (.t 66) (.c (.int .u8 6)),none⟩,
   ⟨(some 75),.mv (.t 76),none⟩])
  (.cond (.t 75)
   (.seq (.region [10] [⟨(some 77),.mv (.t 11),none⟩,
    ⟨(some 78),.mv (.t 12),none⟩,
    ⟨(some 79),.bin .lss (.t 77) (.t 78),none⟩,
    ⟨(some 80),.call .view 557 [(.t 79)],none⟩,
    ⟨(some 81),.build [(.int .u8 0),(.int .i64 0),(.string .empty),(.int .i64 0)] [(0,2,(.t 80))],none⟩,
    ⟨none,.store 4 (.t 10) (.t 81),none⟩])
   .ret)
   (.seq (.region [10,11,12,82] [⟨(some 83),.bin .eql (.t 66) (.c (.int .u8 7)),none⟩,
    ⟨(some 82),.mv (.t 83),none⟩])
   (.cond (.t 82)
    (.seq (.region [10] [⟨(some 84),.mv (.t 11),none⟩,
     ⟨(some 85),.mv (.t 12),none⟩,
     ⟨(some 86),.bin .leq (.t 84) (.t 85),none⟩,
     ⟨(some 87),.call .view 557 [(.t 86)],none⟩,
     ⟨(some 88),.build [(.int .u8 0),(.int .i64 0),(.string .empty),(.int .i64 0)] [(0,2,(.t 87))],none⟩,
     ⟨none,.store 4 (.t 10) (.t 88),none⟩])
    .ret)
    .skip))))))))
 (.seq (.region [10] [⟨(some 89),.call .view 562 [(.c (.string ⟨#[107,105,110,100]⟩))],none⟩,
  ⟨none,.store 4 (.t 10) (.t 89),none⟩])
 .ret)))))))))⟩
section
variable {code:Nat→Option XFun} {ext:Calls'}
theorem zq7(h:code 166=some x166){R:List IV}{N c q:Nat}{S:List Obj}(hR:∀i o,S[i]?=some o→cut R (i*5) 5=some (tObj.enc o))(hN:S.length=N)(hb:N≤100000000){v:Val}{o:Obj}(hk:(q:Int)=v.n-1)(ho:S[q]?=some o):
  callW code ext 166 [.optr 0 0,.agg [.imm (.val (.int .u8 v.k)),int64 v.n]] (heapM R N c)=some (.agg [.imm (.val (.int .u8 o.k)),strV o.s,.imm o.l.iv,int64 o.room,int64 o.fn],heapM R N c):=by
 have hget:=hR q o ho
 simp only[tObj]at hget
 have hks:=(List.getElem?_eq_some_iff.1 ho).1
 have e1:IntKind.wrap .i64 (v.n-1)=(q:Nat):=by rw[←hk];exact wrapI64 (by omega) (by omega)
 have h2:(q:Int)<N:=by omega
 have h3:q<N:=by omega
 rw[zb5 code ext h]
 unfold heapM
 simp -implicitDefEqProofs [x166,e1,hks,h2,h3,hget]
theorem zqv(h0:code 163=some x163)(h2:code 562=some x562){T:List Obj}(t:ByteArray)(ht:¬t.size≤4096):
  callW code ext 163 [.optr 0 0,strV t,avb false] (heapM (tObj.row (T++[spObj])) T.length (T.length+1))=
   some (didV 0 0 greatT 0,heapM (tObj.row (T++[spObj])) T.length (T.length+1)):=by
 obtain⟨m,hg⟩:=zuo (ext:=ext) h2 greatT
 have ht':(4096:Int)<t.size:=by omega
 rw[zb5 code ext h0]
 unfold heapM didV at *
 generalize tObj.row (T++[spObj])=R at *
 simp -implicitDefEqProofs [x163,hg,ht']
theorem zrt(h0:code 163=some x163)(h:code 165=some x165)(h1:code 559=some x559)(h2:code 562=some x562){T:List Obj}(hn:T.length≤100000000)(t:ByteArray):
  callW code ext 163 [.optr 0 0,strV t,avb false] (heapM (tObj.row (T++[spObj])) T.length (T.length+1))=
   some (didV (textP T.length t).1 (textP T.length t).2.1 (textP T.length t).2.2.1 (wordsR (textP T.length t).2.2.2),heapR T (textP T.length t).2.2.2):=by
 unfold textP
 by_cases ht:t.size≤4096
 ·rw[if_pos ht];exact zrw h0 h h1 hn t ht
 ·rw[if_neg ht];exact zqv h0 h2 t ht
structure RefBin (code:Nat→Option XFun):Prop where
 c150:code 150=some x150L
 c161:code 161=some x161
 c163:code 163=some x163
 c165:code 165=some x165
 c166:code 166=some x166
 c557:code 557=some x557
 c558:code 558=some x558
 c559:code 559=some x559
 c561:code 561=some x561
 c562:code 562=some x562
set_option maxHeartbeats 4000000 in
theorem zph (c:RefBin code) {T:List Obj} (hr:Reads tObj (.slice (tObj.row (T++[spObj])) 0 T.length (some (T.length+1))) T) (hn:T.length≤100000000) {ck:Val→Bool} {op:Int} {a b:Val}
  (hf:∃m,callW code ext 152 [.imm (.ptr [.slice (tObj.row (T++[spObj])) 0 T.length (some (T.length+1))] 0),.imm (.slice [.val (.int .u8 a.k),.val (.int .i64 a.n),.val (.int .u8 b.k),.val (.int .i64 b.n)] 0 2 (some 2))] []=some (avb (mayP ck a b),m))
  (ha:mayP ck a b=true→TextAt T a∧TextAt T b):
  callW code ext 150 [.optr 0 0,.imm (.val (.int .u8 op)),.agg [.imm (.val (.int .u8 a.k)),int64 a.n],.agg [.imm (.val (.int .u8 b.k)),int64 b.n],avb false] (heapM (tObj.row (T++[spObj])) T.length (T.length+1))=
   some (didV (binR T ck op a b).1 (binR T ck op a b).2.1 (binR T ck op a b).2.2.1 (wordsR (binR T ck op a b).2.2.2),heapR T (binR T ck op a b).2.2.2):=by
 obtain⟨m1,hf⟩:=hf
 obtain⟨m2,hk⟩:=zuo (ext:=ext) c.c562 kindT
 have hR:∀i o,T[i]?=some o→cut (tObj.row (T++[spObj])) (i*5) 5=some (tObj.enc o):=fun i o ho=>zgi (t:=tObj) (xs:=T++[spObj]) (by rw[List.getElem?_append_left (List.getElem?_eq_some_iff.1 ho).1];exact ho)
 unfold binR
 cases hm:mayP ck a b with
 |false=>
  rw[hm]at hf
  rw[if_neg (by decide),zb5 code ext c.c150]
  simp only[heapR,wordsR]
  unfold heapM didV at *
  clear hr hR
  generalize tObj.row (T++[spObj])=R at *
  simp -implicitDefEqProofs [x150L,exLook,hf,hk]
 |true=>
  rw[hm]at hf
  obtain⟨ha,hb⟩:=ha hm
  rw[if_pos rfl,zb5 code ext c.c150]
  unfold binP
  by_cases h89:op=8∨op=9
  ·obtain⟨m3,f1⟩:=zru (ext:=ext) c.c161 c.c166 hr ha.ok hb.ok
   obtain⟨m4,f2⟩:=zbx (ext:=ext) c.c557 (sameN T a b==decide (op=8))
   obtain⟨m5,ht⟩:=zbx (ext:=ext) c.c557 true
   obtain⟨m6,hg⟩:=zbx (ext:=ext) c.c557 false
   rw[if_pos h89]
   simp only[heapR,wordsR]
   generalize sameN T a b=x at *
   unfold heapM didV at *
   clear hr hR f2
   generalize tObj.row (T++[spObj])=R at *
   rcases h89 with rfl|rfl<;>cases x<;>simp -implicitDefEqProofs [x150L,exLook,hf,f1,ht,hg]
  ·rw[if_neg h89]
   have o8:¬op=8:=fun e=>h89 (.inl e)
   have o9:¬op=9:=fun e=>h89 (.inr e)
   by_cases h2:a.k=2∧b.k=2
   ·obtain⟨m3,f1⟩:=zsi (ext:=ext) c.c561 c.c558 c.c557 c.c562 op a.n b.n
    rw[if_pos h2]
    simp only[heapR,wordsR]
    generalize wholeR op a.n b.n=z at *
    obtain⟨z1,z2,z3⟩:=z
    rw[h2.1,h2.2]at hf ⊢
    unfold heapM didV at *
    clear hr hR
    generalize tObj.row (T++[spObj])=R at *
    simp -implicitDefEqProofs [x150L,exLook,hf,f1,o8,o9]
   ·rw[if_neg h2]
    by_cases h3:a.k=3∧b.k=3
    ·rw[if_pos h3]
     obtain⟨p,o,p1,p2,p3⟩:=ha h3.1
     obtain⟨q,u,q1,q2,q3⟩:=hb h3.2
     obtain⟨_,p4,_⟩:=zi0 p1
     obtain⟨_,q4,_⟩:=zi0 q1
     have f1:=zq7 (ext:=ext) (c:=T.length+1) c.c166 hR rfl hn p4 p2
     have f2:=zq7 (ext:=ext) (c:=T.length+1) c.c166 hR rfl hn q4 q2
     have f3:=zrt (ext:=ext) c.c163 c.c165 c.c559 c.c562 hn (o.s++u.s)
     rw[zuk p1 p2,zuk q1 q2]
     have hsz:o.s.size+u.s.size≤9223372036854775807:=by omega
     rw[h3.1]at hf f1 ⊢
     rw[h3.2]at hf f2 ⊢
     by_cases o1:op=1
     ·rw[if_pos o1]
      subst o1
      clear f3
      unfold textP
      by_cases hle:(o.s++u.s).size≤4096
      ·have f3:=zrw (ext:=ext) c.c163 c.c165 c.c559 hn (o.s++u.s) hle
       rw[if_pos hle]
       simp only[heapR,wordsR]
       generalize wordsObj (textObj (o.s++u.s))=w at *
       unfold heapM didV at *
       clear hr hR
       generalize tObj.row (T++[textObj (o.s++u.s)])=R2 at *
       generalize tObj.row (T++[spObj])=R at *
       simp -implicitDefEqProofs [x150L,exLook,hf,f1,f2,f3,hsz]
      ·have f3:=zqv (ext:=ext) c.c163 c.c562 (T:=T) (o.s++u.s) hle
       rw[if_neg hle]
       simp only[heapR,wordsR]
       unfold heapM didV at *
       clear hr hR
       generalize tObj.row (T++[spObj])=R at *
       simp -implicitDefEqProofs [x150L,exLook,hf,f1,f2,f3,hsz]
     ·rw[if_neg o1]
      obtain⟨m5,ht⟩:=zbx (ext:=ext) c.c557 true
      obtain⟨m6,hg⟩:=zbx (ext:=ext) c.c557 false
      by_cases o6:op=6
      ·rw[if_pos o6]
       subst o6
       simp only[heapR,wordsR]
       unfold heapM didV at *
       clear hr hR f3
       generalize tObj.row (T++[spObj])=R at *
       cases hx:Op.bytesLess o.s.toList u.s.toList<;>simp -implicitDefEqProofs [x150L,exLook,hf,f1,f2,hx,ht,hg]
      ·rw[if_neg o6]
       by_cases o7:op=7
       ·rw[if_pos o7]
        subst o7
        simp only[heapR,wordsR]
        unfold heapM didV at *
        clear hr hR f3
        generalize tObj.row (T++[spObj])=R at *
        cases hx:Op.bytesLess o.s.toList u.s.toList<;>by_cases hy:o.s=u.s<;>simp -implicitDefEqProofs [x150L,exLook,hf,f1,f2,hx,hy,ht,hg]
       ·rw[if_neg o7]
        simp only[heapR,wordsR]
        unfold heapM didV at *
        clear hr hR f3
        generalize tObj.row (T++[spObj])=R at *
        simp -implicitDefEqProofs [x150L,exLook,hf,f1,f2,hk,o1,o6,o7,o8,o9]
    ·rw[if_neg h3]
     simp only[heapR,wordsR]
     unfold heapM didV at *
     clear hr hR
     generalize tObj.row (T++[spObj])=R at *
     by_cases a2:a.k=2
     ·have b2:¬b.k=2:=fun e=>h2 ⟨a2,e⟩
      rw[a2]at hf ⊢
      simp -implicitDefEqProofs [x150L,exLook,hf,hk,o8,o9,a2,b2]
     ·by_cases a3:a.k=3
      ·have b3:¬b.k=3:=fun e=>h3 ⟨a3,e⟩
       rw[a3]at hf ⊢
       simp -implicitDefEqProofs [x150L,exLook,hf,hk,o8,o9,a3,b3]
      ·simp -implicitDefEqProofs [x150L,exLook,hf,hk,o8,o9,a2,a3]
end
end Go.EX


namespace Go.EX
section
variable {code:Nat→Option XFun} {ext:Calls'}
theorem zwg(t:ByteArray)(ht:t.size≤4096):0≤wordsObj (textObj t)∧wordsObj (textObj t)≤1000:=by
 have e1:IntKind.wrap .i64 ((t.size:Int)+7)=(t.size:Int)+7:=wrapI64 (by omega) (by omega)
 have e2:((t.size:Int)+7).tdiv 8=((t.size:Int)+7) / 8:=Int.tdiv_eq_ediv_of_nonneg (by omega)
 have e3:IntKind.wrap .i64 (((t.size:Int)+7) / 8)=((t.size:Int)+7) / 8:=wrapI64 (by omega) (by omega)
 have e4:IntKind.wrap .i64 (2+((t.size:Int)+7) / 8)=2+((t.size:Int)+7) / 8:=wrapI64 (by omega) (by omega)
 have:wordsObj (textObj t)=2+((t.size:Int)+7) / 8:=by
  unfold wordsObj
  rw[if_pos (show(textObj t).k=3 from rfl)]
  show IntKind.wrap .i64 (2+IntKind.wrap .i64 ((IntKind.wrap .i64 ((t.size:Int)+7)).tdiv 8))=_
  rw[e1,e2,e3,e4]
 rw[this]
 omega
end
end Go.EX


namespace Go.EX
structure Alike (T B:List Obj):Prop where
 len:B.length=T.length
 like:∀(i:Nat) (a b:Obj),T[i]?=some a→B[i]?=some b→LikeObj a b
 wf:∀o∈B,tObj.wf o
theorem zda(o:Obj):LikeObj o (cloneObj o):=by
 refine⟨rfl,rfl,?_,rfl,rfl⟩
 unfold cloneObj cloneL
 dsimp only
 split<;>rfl
theorem LikeObj.trans{a b c:Obj}(h:LikeObj a b)(g:LikeObj b c):LikeObj a c:=
 ⟨h.1.trans g.1,h.2.1.trans g.2.1,h.2.2.1.trans g.2.2.1,h.2.2.2.1.trans g.2.2.2.1,h.2.2.2.2.trans g.2.2.2.2⟩
theorem zan{T:List Obj}(hw:∀o∈T,tObj.wf o):Alike T T:=
 ⟨rfl,fun i a b ha hb=>by rw[ha]at hb;cases hb;exact⟨rfl,rfl,rfl,rfl,rfl⟩,hw⟩
theorem zal{T B:List Obj}(h:Alike T B):Alike T (B.map cloneObj):=by
 refine⟨by rw[List.length_map];exact h.len,fun i a b ha hb=>?_,fun o ho=>?_⟩
 ·rw[List.getElem?_map,Option.map_eq_some_iff]at hb
  obtain⟨p,hp,rfl⟩:=hb
  exact(h.like i a p ha hp).trans (zda p)
 ·obtain⟨p,hp,rfl⟩:=List.mem_map.1 ho
  exact h.wf p hp
theorem zao{T B:List Obj}(h:Alike T B){x:Obj}(hx:tObj.wf x):Alike (T++[x]) (B++[x]):=by
 refine⟨by simp[h.len],fun i a b ha hb=>?_,fun o ho=>?_⟩
 ·by_cases hi:i<T.length
  ·rw[List.getElem?_append_left hi]at ha
   rw[List.getElem?_append_left (by rw[h.len];exact hi)]at hb
   exact h.like i a b ha hb
  ·rw[List.getElem?_append_right (by omega)]at ha
   rw[List.getElem?_append_right (by rw[h.len];omega),h.len]at hb
   rw[ha]at hb
   cases hb
   exact⟨rfl,rfl,rfl,rfl,rfl⟩
 ·rcases List.mem_append.1 ho with ho|ho
  ·exact h.wf o ho
  ·rw[List.mem_singleton.1 ho];exact hx
theorem zam{T B:List Obj}(h:Alike T B)(i:Nat):(T[i]?=none∧B[i]?=none)∨∃a b,T[i]?=some a∧B[i]?=some b∧LikeObj a b:=by
 by_cases hi:i<T.length
 ·have h1:=List.getElem?_eq_getElem hi
  have h2:=List.getElem?_eq_getElem (l:=B) (i:=i) (by rw[h.len];exact hi)
  exact .inr ⟨_,_,h1,h2,h.like i _ _ h1 h2⟩
 ·exact .inl ⟨List.getElem?_eq_none (by omega),List.getElem?_eq_none (by rw[h.len];omega)⟩
theorem zi2{T B:List Obj}(h:Alike T B)(v:Val):leadsOf B v=leadsOf T v:=by
 unfold leadsOf
 rw[h.len]
 rcases zam h (v.n-1).toNat with⟨h1,h2⟩|⟨a,b,h1,h2,h3⟩
 ·rw[h1,h2]
 ·rw[h1,h2]
  simp only[h3.1]
theorem zm3{T B:List Obj}(h:Alike T B)(v:Val):(objOf T v=none∧objOf B v=none)∨∃a b,objOf T v=some a∧objOf B v=some b∧LikeObj a b:=by
 unfold objOf
 rw[zi2 h]
 cases leadsOf T v with
 |none=>exact .inl ⟨rfl,rfl⟩
 |some k=>
  simp only[Option.bind_some]
  exact zam h k
theorem zvq:∀(S:List Obj),(unm (List.replicate S.length false) S:Int)=sumL S+S.length
 |[]=>by simp[unm,sumL]
 |o::S=>by
  have:=zvq S
  simp only[List.length_cons,List.replicate_succ,unm,sumL]
  omega
theorem zto:∀(S:List Obj) (n:Int),(∀o∈S,tObj.wf o)→0≤n→sizeGo n S≤50000→n+sumL S≤50000∧n+S.length≤50000∧∀o∈S,objSize o≤50000
 |[],n,_,h0,hz=>⟨by unfold sizeGo at hz;simpa [sumL]using hz,by unfold sizeGo at hz;simpa using hz,fun o ho=>by cases ho⟩
 |o::r,n,hw,h0,hz=>by
  unfold sizeGo at hz
  have hb:=zm4 o (hw o (List.mem_cons_self ..))
  have hr:=fun x hx=>hw x (List.mem_cons_of_mem o hx)
  split at hz
  ·obtain⟨h1,h2,h3⟩:=zto r (n+objSize o) hr (by omega) hz
   have hlow:=(ztm r (n+objSize o) hr (by omega) (by omega)).1
   have ho:objSize o≤50000:=by omega
   have hl:(1:Int)+o.l.xs.length≤objSize o:=by
    unfold objSize at ho ⊢
    split at ho
    ·rename_i h;rw[if_pos h];omega
    ·omega
   refine⟨by rw[sumL];omega,by rw[List.length_cons];omega,fun x hx=>?_⟩
   rcases List.mem_cons.1 hx with rfl|hx
   ·exact ho
   ·exact h3 x hx
  ·omega
theorem ztn{S:List Obj}(hw:∀o∈S,tObj.wf o)(h:sizeGo S.length S≤50000):sumL S≤50000∧S.length≤50000∧(∀o∈S,o.s.size≤50000)∧∀o∈S,o.l.xs.length≤50000:=by
 obtain⟨h1,h2,h3⟩:=zto S S.length hw (by omega) h
 refine⟨by omega,by omega,fun o ho=>?_,fun o ho=>?_⟩<;>
 ·have:=h3 o ho
  unfold objSize at this
  split at this<;>omega
end Go.EX


namespace Go.EX
theorem zuj{T B:List Obj}(h:Alike T B)(v:Val):textV B v=textV T v:=by
 unfold textV
 rcases zm3 h v with⟨h1,h2⟩|⟨a,b,h1,h2,h3⟩
 ·rw[h1,h2]
 ·rw[h1,h2];exact h3.2.1.symm
theorem zsl{T B:List Obj}(h:Alike T B)(a b:Val):sameN B a b=sameN T a b:=by
 unfold sameN
 rw[zuj h,zuj h]
theorem zbm{T B:List Obj}(h:Alike T B)(op:Int)(a b:Val):binP B op a b=binP T op a b:=by
 unfold binP
 rw[zsl h,zuj h,zuj h,h.len]
theorem zuh{T B:List Obj}(h:Alike T B){v:Val}(ht:TextAt T v):TextAt B v:=by
 intro h3
 obtain⟨p,o,p1,p2,p3⟩:=ht h3
 rcases zam h p with⟨h1,_⟩|⟨x,y,h1,h2,h4⟩
 ·rw[h1]at p2;cases p2
 ·rw[h1]at p2;cases p2
  exact⟨p,y,by rw[zi2 h];exact p1,h2,by rw[←h4.2.1];exact p3⟩
section
variable {code:Nat→Option XFun} {ext:Calls'}
theorem zeo(c:PlainFns code){nl:Bool}{T:List Obj}(hnl:nl=true→T=[])(hn:T.length≤1000000){op:Int}(h0:0≤op)(h255:op≤255){a b:Val}(hw:∀x∈[a,b],tVal.wf x)(h7:([a,b].any fun v=>decide (v.k=7))=false)(ha:TextAt T a)(hb:TextAt T b):
  ((binP T op a b).2.2.2=[]∧callW code ext 206 [.optr 0 0,.agg [.imm (.val (.int .u8 14)),int64 op,.osl 1 0 2 2 (some 2),nilS]] (sL nl T (tVal.row [a,b]) 0)=some (didP (binP T op a b).1 (binP T op a b).2.1 (binP T op a b).2.2.1,sL nl T (tVal.row [a,b]) 0))∨
  (nl=false∧∃t,t.size≤4096∧binP T op a b=(3,((T.length+1:Nat):Int),.empty,[t])∧callW code ext 206 [.optr 0 0,.agg [.imm (.val (.int .u8 14)),int64 op,.osl 1 0 2 2 (some 2),nilS]] (sL nl T (tVal.row [a,b]) 0)=some (didP 3 ((T.length+1:Nat):Int) .empty,sKM nl T (tVal.row [a,b]) (textN t) (wordsObj (textN t)))):=by
 unfold binP
 by_cases h89:op=8∨op=9
 ·rw[if_pos h89]
  refine .inl ⟨rfl,do_bin c nl T h0 h255 hw h7 _ _ _ ⟨rfl,rfl⟩ (zoc c hnl (by omega) ha.ok hb.ok h89)⟩
 ·rw[if_neg h89]
  have o8:¬op=8:=fun e=>h89 (.inl e)
  have o9:¬op=9:=fun e=>h89 (.inr e)
  by_cases h2:a.k=2∧b.k=2
  ·rw[if_pos h2]
   refine .inl ⟨rfl,do_bin c nl T h0 h255 hw h7 _ _ _ ⟨rfl,rfl⟩ ?_⟩
   rw[h2.1,h2.2]
   exact pb_num c nl T o8 o9 a.n b.n
  ·rw[if_neg h2]
   by_cases h3:a.k=3∧b.k=3
   ·rw[if_pos h3]
    obtain⟨p,o,p1,p2,p3⟩:=ha h3.1
    obtain⟨q,u,q1,q2,q3⟩:=hb h3.2
    rw[zuk p1 p2,zuk q1 q2]
    cases nl with
    |true=>rw[hnl rfl]at p1;exact(zi3 p1).elim
    |false=>
     by_cases o1:op=1
     ·subst o1
      rw[if_pos rfl]
      have h1:=zky (ext:=ext) c (T:=T) (by omega) h3.1 h3.2 p1 q1 p2 q2 p3 q3
      unfold textP
      unfold putT at h1
      by_cases ht:(o.s++u.s).size≤4096
      ·rw[if_pos ht]at h1
       rw[if_pos ht]
       exact .inr ⟨rfl,_,ht,rfl,(zeq (ext:=ext) c false T hw h7 _ _ _ _ _).1 h1⟩
      ·rw[if_neg ht]at h1
       rw[if_neg ht]
       exact .inl ⟨rfl,(do_two (ext:=ext) c false T hw h7 _ _ _).1 h1⟩
     ·rw[if_neg o1]
      have h1:=zod (ext:=ext) c (T:=T) (by omega) o8 o9 o1 h3.1 h3.2 p1 q1 p2 q2
      by_cases o6:op=6
      ·rw[if_pos o6]at h1 ⊢
       exact .inl ⟨rfl,do_bin c false T h0 h255 hw h7 _ _ _ ⟨rfl,rfl⟩ h1⟩
      ·rw[if_neg o6]at h1 ⊢
       by_cases o7:op=7
       ·rw[if_pos o7]at h1 ⊢
        exact .inl ⟨rfl,do_bin c false T h0 h255 hw h7 _ _ _ ⟨rfl,rfl⟩ h1⟩
       ·rw[if_neg o7]at h1 ⊢
        exact .inl ⟨rfl,do_bin c false T h0 h255 hw h7 _ _ _ ⟨rfl,rfl⟩ h1⟩
   ·rw[if_neg h3]
    exact .inl ⟨rfl,do_bin c nl T h0 h255 hw h7 _ _ _ ⟨rfl,rfl⟩ (zob c nl T o8 o9 h2 h3)⟩
def asksR:List ByteArray→Int
 |[]=>0
 |t::_=>askSum [textN t]
theorem zdf{S:List Obj}(hw:∀o∈S,tObj.wf o):Alike S (S.map cloneObj):=zal (zan hw)
theorem zo6(c:DoQ code)(k:TwinK code ext)(h:code 627=some x627Q){sv:IV}{S:List Obj}(hr:Reads tObj sv S)(hz:isNilIV sv=false)(hS:∀o∈S,o.l.xs.length≤1000000)(hn:S.length≤1000000){op:Int}(h0:0≤op)(h255:op≤255){a b:Val}(hw:∀x∈[a,b],tVal.wf x)
  (ha:AnyQ code ext sv [a,b] false) (ta:TextAt S a) (tb:TextAt S b):
  ∃X n t B kk,XM 0 (S.map cloneObj++B.map textN) X∧(kk,n,t,B)=(if ([a,b].any fun v=>decide (v.k=7))=true then(0,0,kindT,[])else binP S op a b)∧
   callW code ext 627 [.imm sv,.imm (.val (.int .u8 op)),.agg [.imm (.val (.int .u8 a.k)),int64 a.n],.agg [.imm (.val (.int .u8 b.k)),int64 b.n]] []=some (.agg [.osl 0 0 5 (S.length+B.length) (some (S.length+B.length)),.imm (.val (.int .u8 kk)),int64 n,strV t,int64 (asksR B)],X):=by
 have hA:=zdf hr.1
 have hT:(S.map cloneObj).length≤10000000:=by rw[List.length_map];omega
 have hT1:∀t,(S.map cloneObj++[textN t]).length≤10000000:=fun t=>by rw[List.length_append,List.length_map];simp;omega
 cases h7:[a,b].any fun v=>decide (v.k=7)with
 |true=>
  have hd:=zep (ext:=ext) c.toPlainFns false (S.map cloneObj) 14 op (by decide) (by decide) (by simp) hw h7
  have h1:=zem (ext:=ext) c k hr hz hS (by omega) (by simp) ha 14 op 0 0 kindT hd
  obtain⟨X,hX,h2⟩:=binQ (ext:=ext) h hT h1 h0 h255
  exact⟨X,0,kindT,[],0,by simpa using hX,by rw[if_pos rfl],h2⟩
 |false=>
  have hd:=zeo (ext:=ext) c.toPlainFns (nl:=false) (T:=S.map cloneObj) (fun e=>by cases e) (by rw[List.length_map];omega) h0 h255 hw h7 (zuh hA ta) (zuh hA tb)
  rw[zbm hA]at hd
  rcases hd with⟨e,hd⟩|⟨_,t,ht,e,hd⟩
  ·have h1:=zem (ext:=ext) c k hr hz hS (by omega) (by simp) ha 14 op _ _ _ hd
   obtain⟨X,hX,h2⟩:=binQ (ext:=ext) h hT h1 h0 h255
   refine⟨X,_,_,[],_,by simpa using hX,?_,h2⟩
   rw[if_neg (by decide)]
   generalize binP S op a b=z at *
   obtain⟨z1,z2,z3,z4⟩:=z
   cases e
   rfl
  ·have h1:=zen (ext:=ext) c k hr hz hS hn (by simp) ha 14 op _ _ _ (show(textN t).l.xs=[]from rfl) _ hd
   obtain⟨X,hX,h2⟩:=binQ (ext:=ext) h (hT1 t) h1 h0 h255
   refine⟨X,_,_,[t],_,hX,?_,h2⟩
   rw[if_neg (by decide),e,List.length_map]
theorem zo5(c:DoQ code)(h:code 627=some x627Q){sv:IV}{S:List Obj}{X:Mem}(hX:XM 0 S X)(hn:S.length≤1000000)(h1:callW code ext 643 [.imm sv] []=some (.osl 0 0 5 S.length (some S.length),X)){op:Int}(h0:0≤op)(h255:op≤255){a b:Val}(ha:AnyQ code ext sv [a,b] true):
  ∃X',XM 0 S X'∧callW code ext 627 [.imm sv,.imm (.val (.int .u8 op)),.agg [.imm (.val (.int .u8 a.k)),int64 a.n],.agg [.imm (.val (.int .u8 b.k)),int64 b.n]] []=some (.agg [.osl 0 0 5 S.length (some S.length),.imm (.val (.int .u8 0)),int64 0,strV kindT,int64 0],X'):=
 binQ (ext:=ext) h (by omega) (zel (ext:=ext) c hX (by omega) h1 ha 14 op) h0 h255
end
end Go.EX


namespace Go.EX
structure TwinAt (M:Mem) (b:Nat) (S:List Obj):Prop where
 row:∃o,M[b]?=some o∧RowO (roRow (twR (b+1) S)++spareO) o
 lists:∀(i:Nat) f,S[i]?=some f→M[b+1+i]?=some (lobjO f)
structure DidAt (M:Mem) (b:Nat) (T:List Obj):Prop where
 row:∃o,M[b]?=some o∧RowO (roRow (clR (b+1) T)) o
 lists:∀(i:Nat) a,(clM T)[i]?=some a→M[b+1+i]?=some a
def twP:Nat→List Obj→List KL
 |_,[]=>[]
 |j,o::r=>⟨.osl j 0 2 o.l.xs.length (some (o.l.xs.length+1)),o.l.xs.length,(tVal.row (o.l.xs++[spVal])).map .imm⟩::twP (j+1) r
def clP:Nat→List Obj→List KL
 |_,[]=>[]
 |j,o::r=>(if isNilIV o.l.iv=true then⟨nilS,0,[]⟩else⟨.osl j 0 2 o.l.xs.length (some o.l.xs.length),o.l.xs.length,(tVal.row o.l.xs).map .imm⟩)::clP (j+(clL o).length) r
theorem zux:∀(S:List Obj) (j:Nat),refsL (twP j S)=List.range' j S.length
 |[],j=>rfl
 |o::r,j=>by
  have h:=zux r (j+1)
  have hr:refsL (twP j (o::r))=[j]++refsL (twP (j+1) r):=rfl
  rw[hr,h,List.length_cons,List.range'_succ];rfl
theorem zcr:∀(T:List Obj) (j:Nat),refsL (clP j T)=List.range' j (clM T).length
 |[],j=>rfl
 |o::r,j=>by
  have h:=zcr r (j+(clL o).length)
  have hr:refsL (clP j (o::r))=(if isNilIV o.l.iv=true then(⟨nilS,0,[]⟩:KL)else⟨.osl j 0 2 o.l.xs.length (some o.l.xs.length),o.l.xs.length,(tVal.row o.l.xs).map .imm⟩).x.refs++refsL (clP (j+(clL o).length) r):=rfl
  have hm:clM (o::r)=clL o++clM r:=by simp[clM]
  rw[hr,h,hm,List.length_append,←List.range'_append_1]
  congr 1
  unfold clL
  split<;>rfl
theorem twR_x:∀(S:List Obj) (j:Nat),(twR j S).map (·.l)=(twP j S).map (·.x)
 |[],j=>rfl
 |o::r,j=>by simp only[twR,twP,List.map_cons,twR_x r];rfl
theorem clR_x:∀(T:List Obj) (j:Nat),(clR j T).map (·.l)=(clP j T).map (·.x)
 |[],j=>rfl
 |o::r,j=>by
  simp only[clR,clP,List.map_cons,clR_x r]
  congr 1
  unfold clO
  split<;>rfl
theorem zuz:∀(S:List Obj) (j:Nat),∀w∈twR j S,w.l.cells=some [w.l]
 |[],j,w,h=>by simp[twR]at h
 |o::r,j,w,h=>by
  rcases List.mem_cons.1 h with rfl|h
  ·rfl
  ·exact zuz r _ w h
theorem zct:∀(T:List Obj) (j:Nat),∀w∈clR j T,w.l.cells=some [w.l]
 |[],j,w,h=>by simp[clR]at h
 |o::r,j,w,h=>by
  rcases List.mem_cons.1 h with rfl|h
  ·unfold clO
   dsimp only
   split<;>rfl
  ·exact zct r _ w h
theorem twP_kx{M:Mem}:∀(S:List Obj) (j:Nat),(∀o∈S,o.l.xs.length≤1000000)→(∀(i:Nat) f,S[i]?=some f→M[j+i]?=some (lobjO f))→∀p∈twP j S,KX M 2 p.x p.len p.cells∧p.len≤1000000000
 |[],j,_,_,p,hp=>by simp[twP]at hp
 |o::r,j,hS,hM,p,hp=>by
  have ho:=hS o (List.mem_cons_self ..)
  rcases List.mem_cons.1 hp with rfl|hp
  ·refine⟨.inl ⟨j,_,_,rfl,(by have:=hM 0 o rfl;rw[Nat.add_zero]at this;exact this),.inr ⟨_,rfl,rfl⟩,?_,by dsimp only;omega,by dsimp only;omega⟩,by dsimp only;omega⟩
   rw[List.length_map,zrn,List.length_append];rfl
  ·exact twP_kx r (j+1) (fun o ho=>hS o (List.mem_cons_of_mem _ ho)) (fun i f hf=>by
    have:=hM (i+1) f (by simpa using hf)
    rw[←this];congr 1;omega) p hp
theorem clP_kx{M:Mem}:∀(T:List Obj) (j:Nat),(∀o∈T,o.l.xs.length≤1000000)→(∀(i:Nat) a,(clM T)[i]?=some a→M[j+i]?=some a)→∀p∈clP j T,KX M 2 p.x p.len p.cells∧p.len≤1000000000
 |[],j,_,_,p,hp=>by simp[clP]at hp
 |o::r,j,hS,hM,p,hp=>by
  have ho:=hS o (List.mem_cons_self ..)
  have hm:clM (o::r)=clL o++clM r:=by simp[clM]
  rcases List.mem_cons.1 hp with rfl|hp
  ·split
   ·exact⟨.inr ⟨rfl,rfl,.inl rfl⟩,by decide⟩
   ·rename_i hz
    have hg:=hM 0 (.flat (tVal.row o.l.xs) false) (by rw[hm];unfold clL;rw[if_neg hz];rfl)
    refine⟨.inl ⟨j,_,_,rfl,by simpa using hg,.inr ⟨_,rfl,rfl⟩,?_,by dsimp only;omega,by dsimp only;omega⟩,by dsimp only;omega⟩
    rw[List.length_map,zrn];rfl
  ·exact clP_kx r (j+(clL o).length) (fun o ho=>hS o (List.mem_cons_of_mem _ ho)) (fun i a ha=>by
    have:=hM ((clL o).length+i) a (by rw[hm,List.getElem?_append_right (by omega),Nat.add_sub_cancel_left];exact ha)
    rw[←this];congr 1;omega) p hp
theorem zu5{M:Mem}{b:Nat}{S:List Obj}(h:TwinAt M b S)(hS:∀o∈S,o.l.xs.length≤1000000)(hn:S.length≤1000000):StoreK M b S.length (S.length+1) (twP (b+1) S):=by
 obtain⟨o,h1,h2⟩:=h.row
 refine⟨⟨o,_,_,h1,h2,twR_x S _,zu1 S _,?_,zuz S _⟩,⟨by omega,by omega⟩,by omega,twP_kx S _ hS h.lists⟩
 rw[List.length_append,zq6,zu1];simp[spareO];omega
theorem zei{M:Mem}{b:Nat}{T:List Obj}(h:DidAt M b T)(hS:∀o∈T,o.l.xs.length≤1000000)(hn:T.length≤1000000):StoreK M b T.length T.length (clP (b+1) T):=by
 obtain⟨o,h1,h2⟩:=h.row
 refine⟨⟨o,_,[],h1,by rw[List.append_nil];exact h2,clR_x T _,zcv T _,?_,zct T _⟩,⟨by omega,by omega⟩,by omega,clP_kx T _ hS h.lists⟩
 rw[List.append_nil,zq6,zcv]
section
variable {code:Nat→Option XFun} {ext:Calls'}
theorem zaw(c:BookFns code)(h486:code 486=some x486W)(m:MarkFns code)(t:ItoaFns code ext){M:Mem}{b1 b2:Nat}{S T:List Obj}(h1:TwinAt M b1 S)(h2:DidAt M b2 T)(hS:∀o∈S,o.l.xs.length≤1000000)(hT:∀o∈T,o.l.xs.length≤1000000)(n1:S.length≤1000000)(n2:T.length≤1000000)(hb:b1+S.length<b2):
  ∃M',callW code ext 486 [.osl b1 0 5 S.length (some (S.length+1)),.osl b2 0 5 T.length (some T.length)] M=some (avb true,M')∧M.length<M'.length:=by
 refine zay c h486 (marksV m) (marksO m t) (zu5 h1 hS n1) (zei h2 hT n2) ?_ (by omega) ?_ ?_
 ·rw[zux,zcr,List.nodup_append]
  refine⟨List.nodup_range',List.nodup_range',?_⟩
  intro a ha c hc
  rw[List.mem_range'_1]at ha hc
  omega
 ·rw[zux,zcr,List.mem_append,List.mem_range'_1,List.mem_range'_1]
  omega
 ·rw[zux,zcr,List.mem_append,List.mem_range'_1,List.mem_range'_1]
  omega
end
theorem zju{α β:Type}(f:α→Option β):∀(a c:List α) {x y:List β},a.mapM f=some x→c.mapM f=some y→(a++c).mapM f=some (x++y):=by
 intro a c x y h1 h2
 rw[List.mapM_append,h1,h2];rfl
theorem zg1{M:Mem}{b n:Nat}{cap:Option Nat}{o:AObj}{cells:List AV}{R:List IV}(hM:M[b]?=some o)(h:RowO cells o)(hm:cells.mapM (frzV M 19)=some R):frz M (.osl b 0 5 n cap)=some (.imm (.slice R 0 n cap)):=by
 have hv:frzV M 20 (.osl b 0 5 n cap)=some (.slice R 0 n cap):=by
  rcases h with rfl|⟨cs,rfl,rfl⟩
  ·show(match M[b]? with
    |some (.flat cells _)=>some (IV.slice cells 0 n cap)
    |some (.rich cells)=>(cells.mapM (frzV M 19)).map fun row=>.slice row 0 n cap
    |_=>none)=_
   rw[hM]
   dsimp only
   rw[hm];rfl
  ·have:∀l:List IV,(l.map AV.imm).mapM (frzV M 19)=some l:=by
    intro l
    induction l with
    |nil=>rfl
    |cons x l ih=>
     rw[List.map_cons,List.mapM_cons,ih];rfl
   rw[this]at hm
   cases hm
   show(match M[b]? with
    |some (.flat cells _)=>some (IV.slice cells 0 n cap)
    |some (.rich cells)=>(cells.mapM (frzV M 19)).map fun row=>.slice row 0 n cap
    |_=>none)=_
   rw[hM]
 simp only[frz,hv,Option.map_some]
theorem zgs {M : Mem} {j n : Nat} {cap : Option Nat} {cs : List IV} (h : M[j]? = some (.flat cs false)) : frzV M 19 (.osl j 0 2 n cap) = some (.slice cs 0 n cap) := by
  show (match M[j]? with
        | some (.flat cells _) => some (IV.slice cells 0 n cap)
        | some (.rich cells) => (cells.mapM (frzV M 18)).map fun row => .slice row 0 n cap
        | _ => none) = _
  rw [h]
theorem zu0{M:Mem}:∀(S:List Obj) (j:Nat),(∀(i:Nat) f,S[i]?=some f→M[j+i]?=some (lobjO f))→(roRow (twR j S)).mapM (frzV M 19)=some (tObj.row (S.map twinObj))
 |[],j,_=>rfl
 |o::r,j,hM=>by
  have h:=zu0 r (j+1) fun i f hf=>by
   have:=hM (i+1) f (by simpa using hf)
   rw[←this];congr 1;omega
  have hr:roRow (twR j (o::r))=(twRO j o).cells++roRow (twR (j+1) r):=rfl
  have hc:tObj.row ((o::r).map twinObj)=tObj.enc (twinObj o)++tObj.row (r.map twinObj):=rfl
  rw[hr,hc]
  refine zju _ _ _ ?_ h
  have hl:=zgs (n:=o.l.xs.length) (cap:=some (o.l.xs.length+1)) (show M[j]?=some (.flat (tVal.row (o.l.xs++[spVal])) false)from(by have:=hM 0 o rfl;rw[Nat.add_zero]at this;exact this))
  simp only[twRO,RO.cells,List.mapM_cons,List.mapM_nil,hl]
  rfl
theorem zu4{M:Mem}{b:Nat}{S:List Obj}(h:TwinAt M b S):frz M (.osl b 0 5 S.length (some (S.length+1)))=some (.imm (.slice (tObj.row (S.map twinObj++[spObj])) 0 S.length (some (S.length+1)))):=by
 obtain⟨o,h1,h2⟩:=h.row
 refine zg1 h1 h2 ?_
 have:tObj.row (S.map twinObj++[spObj])=tObj.row (S.map twinObj)++tObj.enc spObj:=by simp[Ty.row]
 rw[this]
 exact zju _ _ _ (zu0 S _ h.lists) rfl
theorem zcu{M:Mem}:∀(T:List Obj) (j:Nat),(∀(i:Nat) a,(clM T)[i]?=some a→M[j+i]?=some a)→(roRow (clR j T)).mapM (frzV M 19)=some (tObj.row (T.map cloneObj))
 |[],j,_=>rfl
 |o::r,j,hM=>by
  have hm:clM (o::r)=clL o++clM r:=by simp[clM]
  have h:=zcu r (j+(clL o).length) fun i a ha=>by
   have:=hM ((clL o).length+i) a (by rw[hm,List.getElem?_append_right (by omega),Nat.add_sub_cancel_left];exact ha)
   rw[←this];congr 1;omega
  have hr:roRow (clR j (o::r))=(clO j o).cells++roRow (clR (j+(clL o).length) r):=rfl
  have hc:tObj.row ((o::r).map cloneObj)=tObj.enc (cloneObj o)++tObj.row (r.map cloneObj):=rfl
  rw[hr,hc]
  refine zju _ _ _ ?_ h
  by_cases hz:isNilIV o.l.iv=true
  ·have hv:o.l.iv=.val (.slice none 0 0):=by
    rcases o.l.ok.2.2 with⟨e,_⟩|⟨row,off,cap,e,_⟩
    ·exact e
    ·rw[e]at hz;simp[isNilIV]at hz
   unfold clO cloneObj cloneL
   rw[if_pos hz,if_pos hz]
   show(some [IV.val (.int .u8 o.k),.val (.string o.s),.val (.slice none 0 0),.val (.int .i64 o.room),.val (.int .i64 o.fn)]:Option (List IV))=some [IV.val (.int .u8 o.k),.val (.string o.s),o.l.iv,.val (.int .i64 o.room),.val (.int .i64 o.fn)]
   rw[hv]
  ·have hg:=hM 0 (.flat (tVal.row o.l.xs) false) (by rw[hm];unfold clL;rw[if_neg hz];rfl)
   rw[Nat.add_zero]at hg
   have hl:=zgs (n:=o.l.xs.length) (cap:=some o.l.xs.length) hg
   unfold clO cloneObj cloneL
   rw[if_neg hz,if_neg hz]
   simp only[RO.cells,List.mapM_cons,List.mapM_nil,hl]
   rfl
theorem zeh{M:Mem}{b:Nat}{T:List Obj}(h:DidAt M b T):frz M (.osl b 0 5 T.length (some T.length))=some (.imm (.slice (tObj.row (T.map cloneObj)) 0 T.length (some T.length))):=by
 obtain⟨o,h1,h2⟩:=h.row
 exact zg1 h1 h2 (zcu T _ h.lists)
end Go.EX


namespace Go.EX
def x479B:XFun:=⟨[.tmp 6],
 (.seq (.region [0,1,5] [⟨(some 5),.box 4 (.t 2),none⟩,
  ⟨(some 6),.mv (.c (.bool false)),none⟩])
 (.seq (.seq (.region [0,1,5,12] [⟨(some 11),.mv (.t 0),none⟩,
  ⟨(some 12),.call .view 487 [(.t 11)],none⟩])
 (.cond (.t 12)
  (.seq (.region [6] [⟨(some 13),.call .view 489 [],none⟩,
   ⟨(some 6),.mv (.t 13),none⟩])
  .ret)
  .skip))
 (.seq (.region [0,1,5,7] [⟨(some 14),.mv (.t 0),none⟩,
  ⟨(some 15),.call .own 377 [(.t 14)],none⟩,
  ⟨(some 7),.mv (.t 15),none⟩])
 (.seq (.region [0,1,5,7,8] [⟨(some 16),.mv (.t 7),none⟩,
  ⟨(some 17),.mv (.t 1),none⟩,
  ⟨(some 18),.idxP 2 2 (.t 5) (.c (.int .i64 0)),none⟩,
  ⟨(some 19),.load (some 2) (.t 18),none⟩,
  ⟨(some 20),.idxP 2 2 (.t 5) (.c (.int .i64 1)),none⟩,
  ⟨(some 21),.load (some 2) (.t 20),none⟩,
  ⟨(some 22),.call .own 627 [(.t 16),(.t 17),(.t 19),(.t 21)],none⟩,
  ⟨(some 8),.alloc [(.slice none 0 0),(.int .u8 0),(.int .i64 0),(.string .empty),(.int .i64 0)],none⟩,
  ⟨none,.store 5 (.t 8) (.t 22),none⟩])
 (.seq (.region [0,1,5,7,8,9] [⟨(some 23),.mv (.t 0),none⟩,
  ⟨(some 24),.call .own 488 [(.t 23)],none⟩,
  ⟨(some 9),.mv (.t 24),none⟩])
 (.seq (.region [0,7,8,9,10] [⟨(some 25),.mv (.t 9),none⟩,
  ⟨(some 26),.mv (.t 1),none⟩,
  ⟨(some 27),.idxP 2 2 (.t 5) (.c (.int .i64 0)),none⟩,
  ⟨(some 28),.load (some 2) (.t 27),none⟩,
  ⟨(some 29),.idxP 2 2 (.t 5) (.c (.int .i64 1)),none⟩,
  ⟨(some 30),.load (some 2) (.t 29),none⟩,
  ⟨(some 31),.call .share 150 [(.t 25),(.t 26),(.t 28),(.t 30),(.c (.bool false))],none⟩,
  ⟨(some 10),.alloc [(.int .u8 0),(.int .i64 0),(.string .empty),(.int .i64 0)],none⟩,
  ⟨none,.store 4 (.t 10) (.t 31),none⟩])
 (.seq (.region [6] [⟨(some 32),.load (some 5) (.t 8),none⟩,
  ⟨(some 33),.mv (.t 9),none⟩,
  ⟨(some 34),.load (some 4) (.t 10),none⟩,
  ⟨(some 35),.mv (.t 7),none⟩,
  ⟨(some 36),.mv (.t 0),none⟩,
  ⟨(some 37),.call .view 490 [(.t 32),(.t 33),(.t 34),(.t 35),(.t 36)],none⟩,
  ⟨(some 38),.mv (.t 37),none⟩,
  ⟨(some 39),.mv (.t 7),some (38,true)⟩,
  ⟨(some 40),.fieldA 0 (.t 8),some (38,true)⟩,
  ⟨(some 41),.load none (.t 40),some (38,true)⟩,
  ⟨(some 42),.call .whole 486 [(.t 39),(.t 41)],some (38,true)⟩,
  ⟨(some 43),.pick (.t 38) (.t 42) (.c (.bool false)),none⟩,
  ⟨(some 44),.mv (.t 43),none⟩,
  ⟨(some 45),.call .view 489 [],some (44,true)⟩,
  ⟨(some 46),.pick (.t 44) (.t 45) (.c (.bool false)),none⟩,
  ⟨(some 6),.mv (.t 46),none⟩])
 .ret)))))))⟩
section
variable {code:Nat→Option XFun} {ext:Calls'}
theorem ziy(h:code 479=some x479B){sv:IV}{op:Int}{a b:Val}
  (h487:∃m,callW code ext 487 [.imm sv] []=some (avb true,m)) (h489:∃m,callW code ext 489 [] []=some (avb true,m)):
  callW code ext 479 [.imm sv,.imm (.val (.int .u8 op)),.agg [.imm (.val (.int .u8 a.k)),int64 a.n,.imm (.val (.int .u8 b.k)),int64 b.n]] []=some (avb true,[]):=by
 obtain⟨m1,h487⟩:=h487
 obtain⟨m2,h489⟩:=h489
 rw[zb5 code ext h]
 simp -implicitDefEqProofs [x479B,h487,h489]
theorem zix(h:code 479=some x479B){sv:IV}{op:Int}{a b:Val}{M1 M2 M3 M4 M5 M6 M7:Mem}{N b2 N2 q qd qm:Nat}{k n w k' n' w':Int}{t t':ByteArray}{F:Nat→Option Nat}
  (h487:∃m,callW code ext 487 [.imm sv] []=some (avb false,m)) (h489:∃m,callW code ext 489 [] []=some (avb true,m))
  (h377:∀e,exOwn (callW code ext) ⟨0,e,[.rich [.imm (.val (.int .u8 a.k)),int64 a.n,.imm (.val (.int .u8 b.k)),int64 b.n]]⟩ 377 [.imm sv]=some (.osl 1 0 5 N (some (N+1)),⟨0,e,M1⟩))
  (g1:M1[0]?=some (.rich [.imm (.val (.int .u8 a.k)),int64 a.n,.imm (.val (.int .u8 b.k)),int64 b.n]))
  (h627:∀e,exOwn (callW code ext) ⟨0,e,M1⟩ 627 [.osl 1 0 5 N (some (N+1)),.imm (.val (.int .u8 op)),.agg [.imm (.val (.int .u8 a.k)),int64 a.n],.agg [.imm (.val (.int .u8 b.k)),int64 b.n]]=some (.agg [.osl b2 0 5 N2 (some N2),.imm (.val (.int .u8 k)),int64 n,strV t,int64 w],⟨0,e,M2⟩))
  (hqd:M2.length=qd)
  (s3:storeAt (M2++[.rich [nilS,.imm (.val (.int .u8 0)),int64 0,strV .empty,int64 0]]) (.optr qd 0) [.osl b2 0 5 N2 (some N2),.imm (.val (.int .u8 k)),int64 n,strV t,int64 w]=some M3)
  (g3:M3[0]?=some (.rich [.imm (.val (.int .u8 a.k)),int64 a.n,.imm (.val (.int .u8 b.k)),int64 b.n]))
  (h488:∀e,exOwn (callW code ext) ⟨0,e,M3⟩ 488 [.imm sv]=some (.optr q 0,⟨0,e,M4⟩))
  (g4:M4[0]?=some (.rich [.imm (.val (.int .u8 a.k)),int64 a.n,.imm (.val (.int .u8 b.k)),int64 b.n]))
  (h150:∀e,exShare (callW code ext) ⟨0,e,M4⟩ 150 [.optr q 0,.imm (.val (.int .u8 op)),.agg [.imm (.val (.int .u8 a.k)),int64 a.n],.agg [.imm (.val (.int .u8 b.k)),int64 b.n],avb false]=some (didV k' n' t' w',⟨0,e,M5⟩))
  (hqm:M5.length=qm)
  (s6:storeAt (M5++[.rich [.imm (.val (.int .u8 0)),int64 0,strV .empty,int64 0]]) (.optr qm 0) [.imm (.val (.int .u8 k')),int64 n',strV t',int64 w']=some M6)
  (d6:M6[qd]?=some (.rich [.osl b2 0 5 N2 (some N2),.imm (.val (.int .u8 k)),int64 n,strV t,int64 w]))
  (m6:M6[qm]?=some (.rich [.imm (.val (.int .u8 k')),int64 n',strV t',int64 w']))
  (h490:∀e,exView (callW code ext) ⟨0,e,M6⟩ 490 [.agg [.osl b2 0 5 N2 (some N2),.imm (.val (.int .u8 k)),int64 n,strV t,int64 w],.optr q 0,didV k' n' t' w',.osl 1 0 5 N (some (N+1)),.imm sv]=some (avb true,⟨0,e,M6⟩))
  (h486:∀e,exWhole (callW code ext) ⟨0,e,M6⟩ 486 [.osl 1 0 5 N (some (N+1)),.osl b2 0 5 N2 (some N2)]=some (avb true,⟨0,e.ren F,M7⟩)):
  ∃m,callW code ext 479 [.imm sv,.imm (.val (.int .u8 op)),.agg [.imm (.val (.int .u8 a.k)),int64 a.n,.imm (.val (.int .u8 b.k)),int64 b.n]] []=some (avb true,m):=by
 obtain⟨m1,h487⟩:=h487
 obtain⟨m2,h489⟩:=h489
 refine mem_of ?_
 rw[zb5 code ext h]
 unfold didV at *
 have e487:∀s,exView (callW code ext) s 487 [.imm sv]=some (avb false,s):=fun s=>by simp -implicitDefEqProofs [exView,h487]
 have e489:∀s,exView (callW code ext) s 489 []=some (avb true,s):=fun s=>by simp -implicitDefEqProofs [exView,h489]
 clear h487 h489
 simp -implicitDefEqProofs [x479B,e487,e489,h377,-exOwn,-exShare,-exWhole,-storeAt,-exView,g1,h627,hqd,s3,g3,h488,g4,h150,hqm,s6,d6,m6,h490,h486]
 split<;>rfl
end
end Go.EX


namespace Go.EX
theorem zu3{f:Nat→Option Nat}:∀(S:List Obj) (j j':Nat),(∀i,i<S.length→f (j+i)=some (j'+i))→AV.ren.renL f (roRow (twR j S))=roRow (twR j' S)
 |[],j,j',_=>rfl
 |o::r,j,j',h=>by
  have h1:∀j,roRow (twR j (o::r))=(twRO j o).cells++roRow (twR (j+1) r):=fun _=>rfl
  have h2:=zu3 (f:=f) r (j+1) (j'+1) fun i hi=>by
   have:=h (1+i) (by simp;omega)
   rw[←Nat.add_assoc,←Nat.add_assoc]at this
   exact this
  have h0:=h 0 (by simp)
  rw[Nat.add_zero,Nat.add_zero]at h0
  rw[h1,h1,zqc,List.map_append,←zqc,←zqc,h2]
  congr 1
  simp only[twRO,RO.cells,AV.ren.renL,AV.ren,h0]
theorem zqa(f:Nat→Option Nat)(a b:List AV):AV.ren.renL f (a++b)=AV.ren.renL f a++AV.ren.renL f b:=by
 rw[zqc,zqc,zqc,List.map_append]
theorem zji(f:Nat→Option Nat)(S:List Obj):(S.map lobjO).map (AObj.ren f)=S.map lobjO:=by
 rw[List.map_map]
 exact List.map_congr_left fun o _=>rfl
theorem zta(M:Mem)(x y:AObj):(M++[x]).set M.length y=M++[y]:=by
 rw[List.set_append_right _ _ (Nat.le_refl _),Nat.sub_self];rfl
theorem zs2(zs vs:List AV)(h:vs.length=zs.length):setAll zs 0 vs=vs:=by
 refine List.ext_getElem? fun j=>?_
 rw[zs3 _ _ _ _ (by omega)]
 by_cases hj:j<vs.length
 ·rw[if_pos (by omega),Nat.sub_zero]
 ·rw[if_neg (by omega),List.getElem?_eq_none (by omega),List.getElem?_eq_none (by omega)]
theorem zt7(M:Mem)(zs vs:List AV)(h:vs.length=zs.length):storeAt (M++[.rich zs]) (.optr M.length 0) vs=some (M++[.rich vs]):=by
 simp only[storeAt,zg7]
 rw[if_pos (by omega),zs2 _ _ h,zta]
theorem zgz{M:Mem}{b n:Nat}{cap:Option Nat}{iv:IV}(h:frz M (.osl b 0 5 n cap)=some (.imm iv)):frzV M 20 (.osl b 0 5 n cap)=some iv:=by
 have e:frz M (.osl b 0 5 n cap)=(frzV M 20 (.osl b 0 5 n cap)).map .imm:=rfl
 rw[e]at h
 cases hv:frzV M 20 (.osl b 0 5 n cap)with
 |none=>rw[hv]at h;cases h
 |some x=>rw[hv]at h;cases h;rfl
theorem zu6{M M':Mem}{b:Nat}{S:List Obj}(h:TwinAt M b S)(hs:∀id,id<M.length→M'[id]?=M[id]?):TwinAt M' b S:=by
 obtain⟨o,h1,h2⟩:=h.row
 exact⟨⟨o,by rw[hs b (List.getElem?_eq_some_iff.1 h1).1];exact h1,h2⟩,fun i f hf=>by
  have:=h.lists i f hf
  rw[hs _ (List.getElem?_eq_some_iff.1 this).1];exact this⟩
theorem zej{M M':Mem}{b:Nat}{S:List Obj}(h:DidAt M b S)(hs:∀id,id<M.length→M'[id]?=M[id]?):DidAt M' b S:=by
 obtain⟨o,h1,h2⟩:=h.row
 exact⟨⟨o,by rw[hs b (List.getElem?_eq_some_iff.1 h1).1];exact h1,h2⟩,fun i f hf=>by
  have:=h.lists i f hf
  rw[hs _ (List.getElem?_eq_some_iff.1 this).1];exact this⟩
theorem zue(xs:List Val):(tVal.row xs).all IV.plain=true:=by
 rw[List.all_eq_true]
 intro v hv
 obtain⟨x,_,hx⟩:=List.mem_flatMap.1 hv
 simp only[tVal,List.mem_cons,List.not_mem_nil,or_false]at hx
 rcases hx with rfl|rfl<;>rfl
theorem zcw:∀(T:List Obj) (j:Nat),∀x∈roRow (clR j T),x.own1=true
 |[],j,x,h=>by simp[clR,roRow]at h
 |o::r,j,x,h=>by
  have h1:roRow (clR j (o::r))=(clO j o).cells++roRow (clR (j+(clL o).length) r):=rfl
  rw[h1]at h
  rcases List.mem_append.1 h with h|h
  ·simp only[clO,RO.cells,List.mem_cons,List.not_mem_nil,or_false]at h
   rcases h with rfl|rfl|rfl|rfl|rfl
   ·rfl
   ·rfl
   ·split<;>rfl
   ·rfl
   ·rfl
  ·exact zcw r _ x h
theorem xm_own{b:Nat}{T:List Obj}{X:Mem}(h:XM b T X):X.all AObj.own=true:=by
 obtain⟨ob,rfl,hr⟩:=h
 rw[List.all_cons,Bool.and_eq_true]
 refine⟨?_,?_⟩
 ·have ho:=zcw T (b+1)
  rcases hr with rfl|⟨cs,rfl,e⟩
  ·exact List.all_eq_true.2 ho
  ·refine List.all_eq_true.2 fun v hv=>?_
   have:=ho (.imm v) (by rw[e];exact List.mem_map.2 ⟨v,hv,rfl⟩)
   cases v<;>first|rfl|cases this
 ·rw[List.all_eq_true]
  intro a ha
  obtain⟨o,_,ha⟩:=List.mem_flatMap.1 ha
  unfold clL at ha
  split at ha
  ·simp at ha
  ·rw[List.mem_singleton.1 ha];exact zue _
section
variable {code:Nat→Option XFun} {ext:Calls'}
theorem zn6{sv:IV}{S:List Obj}{o:AObj}(hr:RowO (roRow (twR 1 S)++spareO) o)(h:callW code ext 377 [.imm sv] []=some (.osl 0 0 5 S.length (some (S.length+1)),o::S.map lobjO))(A:Mem):
  ∃M1,(∀e,exOwn (callW code ext) ⟨0,e,A⟩ 377 [.imm sv]=some (.osl A.length 0 5 S.length (some (S.length+1)),⟨0,e,M1⟩))∧TwinAt M1 A.length S∧M1.length=A.length+1+S.length∧∀id,id<A.length→M1[id]?=A[id]?:=by
 refine⟨A++(o::S.map lobjO).map (AObj.ren fun i=>some (A.length+i)),fun e=>?_,⟨⟨o.ren fun i=>some (A.length+i),?_,?_⟩,fun i f hf=>?_⟩,by simp;omega,fun id hid=>List.getElem?_append_left hid⟩
 ·simp only[exOwn,List.mapM_cons,List.mapM_nil,frz,frzV,Option.map_some,Option.pure_def,Option.bind_eq_bind,Option.bind_some,h]
  simp[AV.isImm,AV.ren]
 ·rw[List.getElem?_append_right (Nat.le_refl _),Nat.sub_self];rfl
 ·have:=zri (f:=fun i=>some (A.length+i)) hr
  rw[zqa,zu3 S 1 (A.length+1) fun i _=>by rw[Nat.add_assoc]]at this
  exact this
 ·rw[List.map_cons,zji,List.getElem?_append_right (by omega)]
  have e:A.length+1+i-A.length=i+1:=by omega
  rw[e,List.getElem?_cons_succ,List.getElem?_map,hf];rfl
theorem zn2{sv:IV}{op:Int}{a b:Val}{T:List Obj}{X:Mem}{N N2 b1:Nat}{kk n w:Int}{t:ByteArray}(hX:XM 0 T X){M1:Mem}(hf:frz M1 (.osl b1 0 5 N (some (N+1)))=some (.imm sv))
  (h:callW code ext 627 [.imm sv,.imm (.val (.int .u8 op)),.agg [.imm (.val (.int .u8 a.k)),int64 a.n],.agg [.imm (.val (.int .u8 b.k)),int64 b.n]] []=some (.agg [.osl 0 0 5 N2 (some N2),.imm (.val (.int .u8 kk)),int64 n,strV t,int64 w],X)):
  ∃M2,(∀e,exOwn (callW code ext) ⟨0,e,M1⟩ 627 [.osl b1 0 5 N (some (N+1)),.imm (.val (.int .u8 op)),.agg [.imm (.val (.int .u8 a.k)),int64 a.n],.agg [.imm (.val (.int .u8 b.k)),int64 b.n]]=some (.agg [.osl M1.length 0 5 N2 (some N2),.imm (.val (.int .u8 kk)),int64 n,strV t,int64 w],⟨0,e,M2⟩))∧DidAt M2 M1.length T∧M1.length<M2.length∧∀id,id<M1.length→M2[id]?=M1[id]?:=by
 have hX':XM M1.length T (X.map (AObj.ren fun i=>some (M1.length+i))):=xm_ren hX fun i _=>by rw[Nat.zero_add]
 have hl:=xm_len hX
 have hown:=xm_own hX
 refine⟨M1++X.map (AObj.ren fun i=>some (M1.length+i)),fun e=>?_,?_,by simp;omega,fun id hid=>List.getElem?_append_left hid⟩
 ·have hm:[AV.osl b1 0 5 N (some (N+1)),.imm (.val (.int .u8 op)),.agg [.imm (.val (.int .u8 a.k)),int64 a.n],.agg [.imm (.val (.int .u8 b.k)),int64 b.n]].mapM (frz M1)=some [.imm sv,.imm (.val (.int .u8 op)),.agg [.imm (.val (.int .u8 a.k)),int64 a.n],.agg [.imm (.val (.int .u8 b.k)),int64 b.n]]:=by
   rw[List.mapM_cons,hf];rfl
  simp only[exOwn,hm,h]
  rw[if_pos (by rw[hown];simp[AV.own,AV.own2,AV.own1,AV.isImm])]
  simp[AV.ren,AV.ren.renL]
 ·obtain⟨ob,e,hr⟩:=hX'
  rw[e]
  refine⟨⟨ob,by rw[List.getElem?_append_right (Nat.le_refl _),Nat.sub_self];rfl,hr⟩,fun i a ha=>?_⟩
  rw[List.getElem?_append_right (by omega)]
  have e2:M1.length+1+i-M1.length=i+1:=by omega
  rw[e2,List.getElem?_cons_succ];exact ha
theorem zn3{sv:IV}{N:Nat}{R:List IV}(h:callW code ext 488 [.imm sv] []=some (.optr 0 0,[.rich [.osl 1 0 5 N (some (N+1))],.flat R false]))(M3:Mem):
  ∀e,exOwn (callW code ext) ⟨0,e,M3⟩ 488 [.imm sv]=some (.optr M3.length 0,⟨0,e,M3++[.rich [.osl (M3.length+1) 0 5 N (some (N+1))],.flat R false]⟩):=by
 intro e
 simp only[exOwn,List.mapM_cons,List.mapM_nil,frz,frzV,Option.map_some,Option.pure_def,Option.bind_eq_bind,Option.bind_some,h]
 simp[AV.isImm,AV.ren,AObj.ren,AV.ren.renL]
theorem ztj{op:Int}{a b:Val}{A:Mem}{N N' c:Nat}{R R':List IV}{k n w:Int}{t:ByteArray}
  (h:callW code ext 150 [.optr 0 0,.imm (.val (.int .u8 op)),.agg [.imm (.val (.int .u8 a.k)),int64 a.n],.agg [.imm (.val (.int .u8 b.k)),int64 b.n],avb false] (heapM R N c)=some (didV k n t w,heapM R' N' c)):
  ∀e,exShare (callW code ext) ⟨0,e,A++[.rich [.osl (A.length+1) 0 5 N (some c)],.flat R false]⟩ 150 [.optr A.length 0,.imm (.val (.int .u8 op)),.agg [.imm (.val (.int .u8 a.k)),int64 a.n],.agg [.imm (.val (.int .u8 b.k)),int64 b.n],avb false]=
   some (didV k n t w,⟨0,e,A++[.rich [.osl (A.length+1) 0 5 N' (some c)],.flat R' false]⟩):=by
 intro e
 generalize hM:A++[AObj.rich [.osl (A.length+1) 0 5 N (some c)],.flat R false]=M
 have g0:M[A.length]?=some (.rich [.osl (A.length+1) 0 5 N (some c)]):=by rw[←hM];simp
 have g1:M[A.length+1]?=some (.flat R false):=by rw[←hM,List.getElem?_append_right (by omega)];simp
 have gl:M.length=A.length+2:=by rw[←hM];simp
 have ho:order 0 [A.length] M=[A.length,A.length+1]:=by
  unfold order
  simp only[List.take_zero,Mem.refs,List.append_nil,List.range_zero]
  rw[show(1000000000000:Nat)=999999999997+1+1+1 from rfl,reach,if_neg (by simp),if_pos (by omega),g0]
  simp only[Option.getD_some,AObj.refs,AV.refs.refsL,AV.refs,List.append_nil,List.nil_append]
  rw[reach,if_neg (by simp),if_pos (by omega),g1]
  simp only[Option.getD_some,AObj.refs,List.append_nil,List.cons_append,List.nil_append]
  rw[reach]
 have hro:AV.refs.refsL [.optr A.length 0,.imm (.val (.int .u8 op)),.agg [.imm (.val (.int .u8 a.k)),int64 a.n],.agg [.imm (.val (.int .u8 b.k)),int64 b.n],avb false]=[A.length]:=rfl
 have p0:place [A.length,A.length+1] A.length=some 0:=by simp[place]
 have p1:place [A.length,A.length+1] (A.length+1)=some 1:=by simp[place]
 have pn:∀id,id<A.length→place [A.length,A.length+1] id=none:=fun id hid=>by
  have h1:¬id=A.length:=by omega
  have h2:¬id=A.length+1:=by omega
  simp[place,h1,h2]
 have hpk:M.pickAll [A.length,A.length+1]=heapM R N c:=by
  simp only[Mem.pickAll,List.map_cons,List.map_nil,g0,g1,Option.getD_some,AObj.ren,AV.ren.renL,AV.ren,p1,heapM]
 have hrn:AV.ren.renL (place [A.length,A.length+1]) [.optr A.length 0,.imm (.val (.int .u8 op)),.agg [.imm (.val (.int .u8 a.k)),int64 a.n],.agg [.imm (.val (.int .u8 b.k)),int64 b.n],avb false]=[.optr 0 0,.imm (.val (.int .u8 op)),.agg [.imm (.val (.int .u8 a.k)),int64 a.n],.agg [.imm (.val (.int .u8 b.k)),int64 b.n],avb false]:=by
  simp only[AV.ren.renL,AV.ren,p0]
 have hok:shareOk M [A.length,A.length+1]=true:=by
  simp[shareOk,g0,g1,AObj.isFix]
 unfold exShare
 rw[hro]
 dsimp only
 rw[ho,hok,if_neg (by decide),hrn,hpk,h]
 dsimp only
 suffices hs:∀stay:Nat→Option Nat,stay=some→some ((didV k n t w).ren (fun i=>if i<[A.length,A.length+1].length then[A.length,A.length+1][i]? else some (M.length+(i-[A.length,A.length+1].length))),
   (⟨0,e.ren stay,(List.range (M.length+((heapM R' N' c).length-[A.length,A.length+1].length))).map (shareAt ⟨0,e,M⟩ [A.length,A.length+1] (heapM R' N' c) (fun i=>if i<[A.length,A.length+1].length then[A.length,A.length+1][i]? else some (M.length+(i-[A.length,A.length+1].length))) stay)⟩:St))=
   some (didV k n t w,⟨0,e,A++[.rich [.osl (A.length+1) 0 5 N' (some c)],.flat R' false]⟩) by
  refine hs _ (funext fun id=>?_)
  by_cases h1:id=A.length
  ·subst h1;rw[p0];rfl
  ·by_cases h2:id=A.length+1
   ·subst h2;rw[p1];rfl
   ·have:place [A.length,A.length+1] id=none:=by simp[place,h1,h2]
    rw[this]
 rintro stay rfl
 have hr1:(didV k n t w).ren (fun i=>if i<[A.length,A.length+1].length then[A.length,A.length+1][i]? else some (M.length+(i-[A.length,A.length+1].length)))=didV k n t w:=rfl
 rw[hr1,zfc]
 congr 3
 have hll:M.length+((heapM R' N' c).length-[A.length,A.length+1].length)=A.length+2:=by rw[gl];rfl
 rw[hll]
 refine List.ext_getElem? fun id=>?_
 by_cases hid:id<A.length+2
 ·rw[List.getElem?_map,List.getElem?_range hid,Option.map_some]
  by_cases h1:id=A.length
  ·subst h1
   simp only[shareAt,p0,g0,heapM]
   rw[List.getElem?_append_right (Nat.le_refl _),Nat.sub_self]
   rfl
  ·by_cases h2:id=A.length+1
   ·subst h2
    simp only[shareAt,p1,g1,heapM]
    rw[List.getElem?_append_right (by omega)]
    have:A.length+1-A.length=1:=by omega
    rw[this]
    rfl
   ·have hlt:id<A.length:=by omega
    simp only[shareAt,pn id hlt]
    rw[if_pos (by rw[gl];omega),zna,←hM,List.getElem?_append_left hlt,List.getElem?_append_left hlt,List.getElem?_eq_getElem hlt]
    rfl
 ·rw[List.getElem?_eq_none (by simp;omega),List.getElem?_eq_none (by simp;omega)]
end
end Go.EX


namespace Go.EX
section
variable {code:Nat→Option XFun} {ext:Calls'}
abbrev tsv(S:List Obj):IV:=.slice (tObj.row (S.map twinObj++[spObj])) 0 S.length (some (S.length+1))
def BinsAgree(code:Nat→Option XFun)(ext:Calls')(sv:IV)(S:List Obj)(op:Int)(a b:Val):Prop:=
 ∃(X:Mem) (TD:List Obj) (kk n w w':Int) (t:ByteArray) (R1:List IV) (N1:Nat),XM 0 TD X∧TD.length≤1000000∧(∀o∈TD,o.l.xs.length≤1000000)∧
  callW code ext 627 [.imm (tsv S),.imm (.val (.int .u8 op)),.agg [.imm (.val (.int .u8 a.k)),int64 a.n],.agg [.imm (.val (.int .u8 b.k)),int64 b.n]] []=some (.agg [.osl 0 0 5 TD.length (some TD.length),.imm (.val (.int .u8 kk)),int64 n,strV t,int64 w],X)∧
  callW code ext 150 [.optr 0 0,.imm (.val (.int .u8 op)),.agg [.imm (.val (.int .u8 a.k)),int64 a.n],.agg [.imm (.val (.int .u8 b.k)),int64 b.n],avb false] (heapM (tObj.row (S.map twinObj++[spObj])) S.length (S.length+1))=some (didV kk n t w',heapM R1 N1 (S.length+1))∧
  ∃m,callW code ext 490 [.agg [.imm (.slice (tObj.row (TD.map cloneObj)) 0 TD.length (some TD.length)),.imm (.val (.int .u8 kk)),int64 n,strV t,int64 w],.imm (.ptr [.slice R1 0 N1 (some (S.length+1))] 0),didV kk n t w',.imm (tsv S),.imm sv] []=some (avb true,m)
theorem zgx{M:Mem}{q r N c:Nat}{R:List IV}(h0:M[q]?=some (.rich [.osl r 0 5 N (some c)]))(h1:M[r]?=some (.flat R false)):frz M (.optr q 0)=some (.imm (.ptr [.slice R 0 N (some c)] 0)):=by
 have h2:frzV M 19 (.osl r 0 5 N (some c))=some (.slice R 0 N (some c)):=by
  show(match M[r]? with
    |some (.flat cells _)=>some (IV.slice cells 0 N (some c))
    |some (.rich cells)=>(cells.mapM (frzV M 18)).map fun row=>.slice row 0 N (some c)
    |_=>none)=_
  rw[h1]
 have h3:frzV M 20 (.optr q 0)=some (.ptr [.slice R 0 N (some c)] 0):=by
  show(match M[q]? with
    |some (.flat cells _)=>some (IV.ptr cells 0)
    |some (.rich cells)=>(cells.mapM (frzV M 19)).map fun row=>.ptr row 0
    |_=>none)=_
  rw[h0]
  dsimp only
  rw[List.mapM_cons,h2];rfl
 show(frzV M 20 (.optr q 0)).map AV.imm=_
 rw[h3];rfl
set_option maxHeartbeats 4000000 in
theorem zbr (h479:code 479=some x479B) (bk:BookFns code) (h486:code 486=some x486W) (mk:MarkFns code) (tc:ItoaFns code ext) {sv:IV} {S:List Obj} (hS:∀o∈S,o.l.xs.length≤1000000) (hn:S.length≤1000000) {op:Int} {a b:Val}
  (h487:∃m,callW code ext 487 [.imm sv] []=some (avb false,m)) (h489:∃m,callW code ext 489 [] []=some (avb true,m))
  (h377:∃o,RowO (roRow (twR 1 S)++spareO) o∧callW code ext 377 [.imm sv] []=some (.osl 0 0 5 S.length (some (S.length+1)),o::S.map lobjO))
  (h488:callW code ext 488 [.imm sv] []=some (.optr 0 0,[.rich [.osl 1 0 5 S.length (some (S.length+1))],.flat (tObj.row (S.map twinObj++[spObj])) false]))
  (hb:BinsAgree code ext sv S op a b):
  ∃m,callW code ext 479 [.imm sv,.imm (.val (.int .u8 op)),.agg [.imm (.val (.int .u8 a.k)),int64 a.n,.imm (.val (.int .u8 b.k)),int64 b.n]] []=some (avb true,m):=by
 obtain⟨o,hro,h377⟩:=h377
 obtain⟨X,TD,kk,n,w,w',t,R1,N1,hX,hTn,hTl,h627,h150,m490,h490⟩:=hb
 generalize hB:AObj.rich [AV.imm (.val (.int .u8 a.k)),int64 a.n,.imm (.val (.int .u8 b.k)),int64 b.n]=B
 obtain⟨M1,c377,t1,l1,p1⟩:=zn6 (ext:=ext) hro h377 [B]
 simp only[List.length_cons,List.length_nil,Nat.zero_add]at c377 t1 l1 p1
 have g1:M1[0]?=some B:=by rw[p1 0 (by omega)];rfl
 obtain⟨M2,c627,d2,l2,p2⟩:=zn2 (ext:=ext) (op:=op) (a:=a) (b:=b) hX (zu4 t1) h627
 have g2:M2[0]?=some B:=by rw[p2 0 (by omega)];exact g1
 have t2:=zu6 t1 p2
 generalize hD:AObj.rich [.osl M1.length 0 5 TD.length (some TD.length),.imm (.val (.int .u8 kk)),int64 n,strV t,int64 w]=D
 have s3:storeAt (M2++[.rich [nilS,.imm (.val (.int .u8 0)),int64 0,strV .empty,int64 0]]) (.optr M2.length 0) [.osl M1.length 0 5 TD.length (some TD.length),.imm (.val (.int .u8 kk)),int64 n,strV t,int64 w]=some (M2++[D]):=by
  rw[←hD];exact zt7 M2 _ _ rfl
 have p3:∀id,id<M2.length→(M2++[D])[id]?=M2[id]?:=fun id h=>List.getElem?_append_left h
 have c488:=zn3 (ext:=ext) h488 (M2++[D])
 have c150:=ztj (ext:=ext) (A:=M2++[D]) h150
 generalize hq:(M2++[D]).length=q at *
 generalize hM5:M2++[D]++[.rich [.osl (q+1) 0 5 N1 (some (S.length+1))],.flat R1 false]=M5 at *
 have hql:q=M2.length+1:=by rw[←hq];simp
 have p5:∀id,id<M2.length+1→M5[id]?=(M2++[D])[id]?:=fun id h=>by
  rw[←hM5];exact List.getElem?_append_left (by simp;omega)
 have l5:M5.length=q+2:=by rw[←hM5];simp;omega
 generalize hE:AObj.rich [.imm (.val (.int .u8 kk)),int64 n,strV t,int64 w']=E
 have s6:storeAt (M5++[.rich [.imm (.val (.int .u8 0)),int64 0,strV .empty,int64 0]]) (.optr M5.length 0) [.imm (.val (.int .u8 kk)),int64 n,strV t,int64 w']=some (M5++[E]):=by
  rw[←hE];exact zt7 M5 _ _ rfl
 have p6:∀id,id<M2.length→(M5++[E])[id]?=M2[id]?:=fun id h=>by
  rw[List.getElem?_append_left (by omega),p5 id (by omega),p3 id h]
 have t6:=zu6 t2 p6
 have d6:=zej d2 p6
 have gd:(M5++[E])[M2.length]?=some D:=by
  rw[List.getElem?_append_left (by omega),p5 _ (by omega)];simp
 have gm:(M5++[E])[M5.length]?=some E:=zg7 M5 E
 have gq0:(M5++[E])[q]?=some (.rich [.osl (q+1) 0 5 N1 (some (S.length+1))]):=by
  rw[List.getElem?_append_left (by omega),←hM5,List.getElem?_append_right (by omega),hq,Nat.sub_self];rfl
 have gq1:(M5++[E])[q+1]?=some (.flat R1 false):=by
  rw[List.getElem?_append_left (by omega),←hM5,List.getElem?_append_right (by omega),hq]
  have:q+1-q=1:=by omega
  rw[this];rfl
 generalize hM6:M5++[E]=M6 at *
 have f1:=zu4 t6
 have f2:=zgz (zeh d6)
 have f3:=zgx gq0 gq1
 have c490:∀e,exView (callW code ext) ⟨0,e,M6⟩ 490 [.agg [.osl M1.length 0 5 TD.length (some TD.length),.imm (.val (.int .u8 kk)),int64 n,strV t,int64 w],.optr q 0,didV kk n t w',.osl 1 0 5 S.length (some (S.length+1)),.imm sv]=some (avb true,⟨0,e,M6⟩):=fun e=>by
  have hA:frz M6 (.agg [.osl M1.length 0 5 TD.length (some TD.length),.imm (.val (.int .u8 kk)),int64 n,strV t,int64 w])=some (.agg [.imm (.slice (tObj.row (TD.map cloneObj)) 0 TD.length (some TD.length)),.imm (.val (.int .u8 kk)),int64 n,strV t,int64 w]):=by
   show(List.mapM (frzV M6 20) _).map _=_
   rw[List.mapM_cons,f2];rfl
  have hm:[AV.agg [.osl M1.length 0 5 TD.length (some TD.length),.imm (.val (.int .u8 kk)),int64 n,strV t,int64 w],.optr q 0,didV kk n t w',.osl 1 0 5 S.length (some (S.length+1)),.imm sv].mapM (frz M6)=some [.agg [.imm (.slice (tObj.row (TD.map cloneObj)) 0 TD.length (some TD.length)),.imm (.val (.int .u8 kk)),int64 n,strV t,int64 w],.imm (.ptr [.slice R1 0 N1 (some (S.length+1))] 0),didV kk n t w',.imm (tsv S),.imm sv]:=by
   have hd:frz M6 (didV kk n t w')=some (didV kk n t w'):=rfl
   rw[List.mapM_cons,hA,List.mapM_cons,f3,List.mapM_cons,hd,List.mapM_cons,f1];rfl
  simp only[exView,hm,h490]
  rfl
 have hb12:1+S.length<M1.length:=by omega
 obtain⟨M7,c486,l7⟩:=zaw (ext:=ext) bk h486 mk tc t6 d6 hS hTl hn hTn hb12
 have e486:∀e,exWhole (callW code ext) ⟨0,e,M6⟩ 486 [.osl 1 0 5 S.length (some (S.length+1)),.osl M1.length 0 5 TD.length (some TD.length)]=some (avb true,⟨0,e.ren (fun id=>if ((M7[id]?).getD .dead).moved then none else some id),M7⟩):=fun e=>by
  unfold exWhole
  rw[c486]
 subst hB hD hE
 exact zix h479 h487 h489 c377 g1 c627 rfl s3 (by rw[p3 0 (by omega)];exact g2) c488 (by
  rw[List.getElem?_append_left (by omega),p3 0 (by omega)];exact g2) c150 rfl s6 gd gm c490 e486
end
end Go.EX


namespace Go.EX
section
variable {code:Nat→Option XFun} {ext:Calls'}
theorem zva(h:code 379=some x379)(h':code 372=some x372)(iv:IV)(xs:List Obj)(hr:Reads tObj iv xs)(hb:∀o∈xs,o.l.xs.length≤1000000){s:St}
  (hst:s.tidy [0,3,4]=⟨0,[(0,.imm iv),(3,.osl 0 0 5 0 (some (xs.length+1))),(4,int64 0)],[.flat (tObj.part zObj [] (xs.length+1)) false]⟩):
  ∃e s',den code ext (.loop [0,3,4] x373L1) s=some (e,s')∧e≠ .normal∧
   (e=.exit 0∧s'=⟨0,[(0,.imm iv),(3,.osl 0 0 5 xs.length (some (xs.length+1))),(4,int64 xs.length),(12,avb false)],[.flat (tObj.part zObj (xs.map twinObj) 1) false]⟩):=by
 refine zjp (fun n s=>∃i,i+n=xs.length∧s.tidy [0,3,4]=⟨0,[(0,.imm iv),(3,.osl 0 0 5 i (some (xs.length+1))),(4,int64 (i:Nat))],[.flat (tObj.part zObj ((xs.map twinObj).take i) (n+1)) false]⟩) _ ?_ xs.length _ ⟨0,by simp,by simpa using hst⟩
 clear hst
 rintro n s ⟨i,hi,hst⟩
 rw[hst]
 have hlen:=zpr hr
 have hbl:=hr.2.1
 by_cases hlt:i<xs.length
 ·obtain⟨row,off,cap,rfl,hc,hcut,hget⟩:=zps hr (List.getElem?_eq_getElem hlt)
  have e1:IntKind.wrap .i64 ((i:Int)+1)=(i:Int)+1:=wrapI64 (by omega) (by omega)
  obtain⟨m,rfl⟩:∃m,n=m+1:=⟨n-1,by omega⟩
  have hlt':(i:Int)<xs.length:=by omega
  have hob:=hb _ (List.getElem_mem hlt)
  have htk:xs.take (i+1)=xs.take i++[xs[i]]:=by rw[List.take_add_one,List.getElem?_eq_getElem hlt];rfl
  have hti:((xs.map twinObj).take i).length=i:=by rw[List.length_take,List.length_map];omega
  have hset:=zn9 tObj (by decide) zObj ((xs.map twinObj).take i) (m+1) (twinObj xs[i])
  rw[hti]at hset
  have hset2:(xs.map twinObj).take i++[twinObj xs[i]]=(xs.map twinObj).take (i+1):=by rw[←List.map_take,←List.map_take,htk,List.map_append];rfl
  rw[hset2]at hset
  have hfit:(i+1)*5≤(tObj.part zObj ((xs.map twinObj).take i) (m+1+1)).length:=by
   rw[zn8,hti];exact Nat.mul_le_mul_right _ (by omega)
  have hto:=zu9 (ext:=ext) h h' xs[i] (by omega)
  generalize xs[i]=o at hget hto hset
  simp only[tObj]at hget
  have henc:tObj.enc (twinObj o)=[.val (.int .u8 o.k),.val (.string o.s),twinIV tVal spVal o.l.xs,.val (.int .i64 o.room),.val (.int .i64 o.fn)]:=rfl
  rw[henc,show tObj.sz=5 from rfl]at hset
  refine⟨.normal,⟨0,[(0,.imm (.slice row off xs.length cap)),(3,.osl 0 0 5 (i+1) (some (xs.length+1))),(4,int64 ((i:Int)+1))],[.flat (tObj.part zObj ((xs.map twinObj).take (i+1)) (m+1)) false,.flat [.val (.int .u8 o.k),.val (.string o.s),twinIV tVal spVal o.l.xs,.val (.int .i64 o.room),.val (.int .i64 o.fn)] false]⟩,?_,.inl ⟨rfl,m,by omega,i+1,by omega,?_⟩⟩
  ·simp -implicitDefEqProofs [x373L1,hlt',hlt,hget,hto,exAppendX,exAppend,elems,e1,hset,hfit,show i+1≤xs.length+1 by omega]
  ·simp -implicitDefEqProofs
 ·have:i=xs.length:=by omega
  subst this
  refine⟨.exit 0,⟨0,[(0,.imm iv),(3,.osl 0 0 5 xs.length (some (xs.length+1))),(4,int64 xs.length),(12,avb false)],[.flat (tObj.part zObj (xs.map twinObj) 1) false]⟩,?_,.inr ⟨by simp,rfl,rfl⟩⟩
  have:n=0:=by omega
  subst this
  simp -implicitDefEqProofs [x373L1,hlen]
  rw[List.take_of_length_le (by simp)]
theorem zvi(h:code 379=some x379)(h':code 372=some x372)(h2:code 373=some x373)(h3:code 377=some x377){iv:IV}{xs:List Obj}(hr:Reads tObj iv xs)(hb:∀o∈xs,o.l.xs.length≤1000000)(hl:xs.length≤1048576):
  callW code ext 377 [.imm iv] []=some (.osl 0 0 5 xs.length (some (xs.length+1)),[.flat (tObj.row (xs.map twinObj++[spObj])) false]):=by
 have hcp:copies (xs.length+1) [IV.val (.int .u8 0),.val (.string .empty),.val (.slice none 0 0),.val (.int .i64 0),.val (.int .i64 0)]=tObj.part zObj [] (xs.length+1):=zdp (t:=tObj) (xs.length+1) zObj
 have hlen:=zpr hr
 obtain⟨e,s',h1,_,rfl,rfl⟩:=zva (ext:=ext) h h' iv xs hr hb (s:=⟨0,[(0,.imm iv),(3,.osl 0 0 5 0 (some (xs.length+1))),(4,int64 0)],[.flat (tObj.part zObj [] (xs.length+1)) false]⟩) (by simp -implicitDefEqProofs)
 have e1:IntKind.wrap .i64 ((xs.length:Int)+1)=(xs.length:Int)+1:=wrapI64 (by omega) (by omega)
 have e2:(0:Int)≤(xs.length:Int)+1:=by omega
 have e3:(64:Int)*((xs.length:Int)+1)≤281474976710656:=by omega
 have e4:(xs.length:Int)+1≤9223372036854775807:=by omega
 have e6:(xs.length:Int)≤(xs.length:Int)+1:=by omega
 have e5:((xs.length:Int)+1).toNat=xs.length+1:=by omega
 have hset:=zn9 tObj (by decide) zObj (xs.map twinObj) 0 spObj
 have hfin:tObj.part zObj (xs.map twinObj++[spObj]) 0=tObj.row (xs.map twinObj++[spObj]):=by unfold Ty.part;simp
 have hfit:(xs.length+1)*5≤(tObj.part zObj (xs.map twinObj) (0+1)).length:=by rw[zn8,List.length_map];exact Nat.le_refl _
 rw[hfin,List.length_map]at hset
 simp only[Nat.zero_add]at hset hfit
 have henc:tObj.enc spObj=[.val (.int .u8 0),.val (.string ⟨#[115,112,97,114,101]⟩),.val (.slice none 0 0),.val (.int .i64 0),.val (.int .i64 0)]:=rfl
 rw[henc,show tObj.sz=5 from rfl]at hset
 have hobjs:callW code ext 373 [.imm iv] []=some (.osl 0 0 5 xs.length (some (xs.length+1)),[.flat (tObj.row (xs.map twinObj++[spObj])) false]):=by
  rw[zb5 code ext h2]
  simp -implicitDefEqProofs [x373,hlen,e1,e2,e3,e4,e5,e6,hcp,h1,exAppendX,exAppend,elems,hset,hfit,exSlice]
 rw[zb5 code ext h3]
 have hown:(tObj.row (xs.map twinObj++[spObj])).all IV.plain=false∨(tObj.row (xs.map twinObj++[spObj])).all IV.plain=true:=by cases (tObj.row (xs.map twinObj++[spObj])).all IV.plain<;>simp
 simp -implicitDefEqProofs [x377,hobjs]
theorem zbl(h:code 487=some x487)(h1:code 380=some x380)(h2:code 338=some x338)(h3:code 339=some x339)(h4:code 361=some x361){iv:IV}{S:List Obj}(hr:Reads tObj iv S):
  ∃m,callW code ext 487 [.imm iv] []=some (avb (decide (50000<sizeGo S.length S)),m):=by
 have hs:=zt4 (ext:=ext) h1 h2 h3 h4 hr
 refine mem_of ?_
 rw[zb5 code ext h]
 simp -implicitDefEqProofs [x487,hs]
theorem zsy(h:code 490=some x490)(h1:code 492=some x492){av hv tv sv:IV}{k n w w':Int}{t:ByteArray}
  (hs:callW code ext 355 [.imm av,.imm hv] []=some (avb true,[])) (hl:callW code ext 334 [.imm tv,.imm sv] []=some (avb true,[])) (hw:w=if t=.empty then w' else 0):
  ∃m,callW code ext 490 [.agg [.imm av,.imm (.val (.int .u8 k)),int64 n,strV t,int64 w],.imm (.ptr [hv] 0),didV k n t w',.imm tv,.imm sv] []=some (avb true,m):=by
 obtain⟨m1,hr⟩:=zsj (ext:=ext) h1 k n t w'
 rw[←hw]at hr
 refine mem_of ?_
 rw[zb5 code ext h]
 unfold didV at *
 simp -implicitDefEqProofs [x490,hs,hl,hr]
end
end Go.EX


namespace Go.EX
section
variable {ext:Calls'}
structure HandOK (T:List Obj):Prop where
 wf:∀o∈T,tObj.wf o
 n:T.length≤50000
 s:∀o∈T,o.s.size≤50000
 l:∀o∈T,o.l.xs.length≤50000
 sum:sumL T≤50000
theorem zt8{T:List Obj}(h:HandOK T):Reads tObj (.slice (storeRow T) 0 T.length (some (T.length+1))) T:=
 ⟨h.wf,by have:=h.n;omega,.inr ⟨_,0,_,rfl,fun c hc=>by cases hc;exact Nat.le_succ _,zd6 T⟩⟩
theorem zck{T:List Obj}{v:Val}(h:CheckOk T v)(h3:3≤v.k):∃k,leadsOf T v=some k:=by
 have:=h.1
 unfold valOf at this
 rw[if_neg (by omega),if_neg (by omega),if_neg (by omega)]at this
 exact Option.isSome_iff_exists.1 this
section
variable {T:List Obj} (h:HandOK T)
include h
end
end
end Go.EX


namespace Go.EX
section
variable {ext:Calls'}
theorem LikeObj.symm{a b:Obj}(h:LikeObj a b):LikeObj b a:=⟨h.1.symm,h.2.1.symm,h.2.2.1.symm,h.2.2.2.1.symm,h.2.2.2.2.symm⟩
theorem zbe{t:ByteArray}(ht:t.size≤4096):askSum [textObj t]=wordsObj (textObj t):=by
 have:=zwg t ht
 show IntKind.wrap .i64 (0+wordsObj (textObj t))=_
 rw[Int.zero_add]
 exact wrapI64 (by omega) (by omega)
theorem zv3{t:ByteArray}(ht:t.size≤4096):tObj.wf (textObj t):=by
 have h3:(tInt .u8).wf (3:Int):=wfU8.2 ⟨by decide,by decide⟩
 have h0:(tInt .i64).wf (0:Int):=wfI64.2 ⟨by decide,by decide⟩
 refine⟨h3,?_,h0,h0⟩
 show t.size≤_
 exact Nat.le_trans ht (by decide)
end
end Go.EX


namespace Go.EX
section
variable {ext:Calls'}
theorem zhi{S:List Obj}(hw:∀o∈S,tObj.wf o)(h:sizeGo S.length S≤50000):HandOK (S.map twinObj):=by
 obtain⟨h1,h2,h3,h4⟩:=ztn hw h
 refine⟨fun x hx=>?_,by rw[List.length_map];omega,fun x hx=>?_,fun x hx=>?_,?_⟩
 ·obtain⟨o,ho,rfl⟩:=List.mem_map.1 hx;exact hw o ho
 ·obtain⟨o,ho,rfl⟩:=List.mem_map.1 hx;exact h3 o ho
 ·obtain⟨o,ho,rfl⟩:=List.mem_map.1 hx;exact h4 o ho
 ·have:∀(l:List Obj),sumL (l.map twinObj)=sumL l:=by
   intro l
   induction l with
   |nil=>rfl
   |cons o l ih=>rw[List.map_cons,sumL,sumL,ih];rfl
  rw[this];exact h1
end
end Go.EX


namespace Go.EX
theorem binP_B(T:List Obj)(op:Int)(a b:Val):(binP T op a b).2.2.2=[]∨∃s:ByteArray,s.size≤4096∧binP T op a b=(3,((T.length+1:Nat):Int),.empty,[s]):=by
 unfold binP textP
 repeat' split
 all_goals first
  |exact .inl rfl
  |(rename_i h;exact .inr ⟨_,h,rfl⟩)
theorem binR_B(T:List Obj)(ck:Val→Bool)(op:Int)(a b:Val):(binR T ck op a b).2.2.2=[]∨∃s:ByteArray,s.size≤4096∧binR T ck op a b=(3,((T.length+1:Nat):Int),.empty,[s]):=by
 unfold binR
 split
 ·exact binP_B T op a b
 ·exact .inl rfl
theorem zui{T:List Obj}{v:Val}(h:CheckOk T v):TextAt T v:=by
 intro h3
 obtain⟨p,hp⟩:=zck h (by omega)
 obtain⟨q1,q2,q3,q4,o,ho,hok⟩:=zi0 hp
 have:=h.2 p o (.root (List.mem_singleton_self _) hp) ho
 unfold ObjOk at this
 rw[if_pos (by omega)]at this
 exact⟨p,o,hp,ho,this.1⟩
def PrimDid(code:Nat→Option XFun)(ext:Calls')(sv:IV)(T:List Obj)(ck:Val→Bool)(op:Int)(a b:Val):Prop:=
 ∃(X:Mem) (TD:List Obj),XM 0 TD X∧TD.length=T.length+(binR T ck op a b).2.2.2.length∧Alike (T++(binR T ck op a b).2.2.2.map textObj) TD∧
  callW code ext 627 [.imm sv,.imm (.val (.int .u8 op)),.agg [.imm (.val (.int .u8 a.k)),int64 a.n],.agg [.imm (.val (.int .u8 b.k)),int64 b.n]] []=
   some (.agg [.osl 0 0 5 TD.length (some TD.length),.imm (.val (.int .u8 (binR T ck op a b).1)),int64 (binR T ck op a b).2.1,strV (binR T ck op a b).2.2.1,int64 (asksR (binR T ck op a b).2.2.2)],X)
section
variable {code:Nat→Option XFun} {ext:Calls'}
theorem zo4(c:DoQ code)(k:TwinK code ext)(h:code 627=some x627Q){sv:IV}{T:List Obj}(hr:Reads tObj sv T)(hz:isNilIV sv=false)(hS:∀o∈T,o.l.xs.length≤1000000)(hn:T.length≤900000){ck:Val→Bool}{op:Int}(h0:0≤op)(h255:op≤255){a b:Val}(hw:∀x∈[a,b],tVal.wf x)
  (h646:∀v∈[a,b],callW code ext 646 [.imm sv,.agg [.imm (.val (.int .u8 v.k)),int64 v.n]] []=some (avb (ck v),[])) (ha:ck a=true) (hb:ck b=true) (hck:∀v∈[a,b],ck v=true→CheckOk T v):PrimDid code ext sv T ck op a b:=by
 have hq:=any_of (ext:=ext) c sv [a,b] ck (by simp) h646
 have hq0:([a,b].any fun v=> !ck v)=false:=by simp[ha,hb]
 rw[hq0]at hq
 obtain⟨X,n,t,B,kk,hX,e,hc⟩:=zo6 (ext:=ext) c k h hr hz hS (by omega) h0 h255 hw hq (zui (hck a (by simp) ha)) (zui (hck b (by simp) hb))
 have er:(kk,n,t,B)=binR T ck op a b:=by
  rw[e]
  unfold binR mayP
  by_cases h7:([a,b].any fun v=>decide (v.k=7))=true
  ·rw[if_pos h7,if_neg]
   intro hh
   rw[List.any_eq_true]at h7
   obtain⟨v,hv,h7⟩:=h7
   have:=List.all_eq_true.1 hh v hv
   simp at h7 this
   exact this.1 h7
  ·rw[if_neg h7,if_pos]
   rw[List.all_eq_true]
   intro v hv
   rw[Bool.not_eq_true,List.any_eq_false]at h7
   have h8:¬v.k=7:=by simpa using h7 v hv
   have h9:ck v=true:=by
    simp only[List.mem_cons,List.not_mem_nil,or_false]at hv
    rcases hv with e1|e1<;>rw[e1]<;>assumption
   simp[h8,h9]
 have hB:=binR_B T ck op a b
 unfold PrimDid
 rw[←er]at hB ⊢
 have hl:(T.map cloneObj++B.map textN).length=T.length+B.length:=by simp
 refine⟨X,T.map cloneObj++B.map textN,hX,hl,?_,by rw[hl];exact hc⟩
 have hA:=zdf (S:=T) hr.1
 rcases hB with e|⟨s,hs,e⟩
 ·have e:B=[]:=e
  subst e
  simpa using hA
 ·have e:B=[s]:=by cases e;rfl
  subst e
  exact zao hA (x:=textObj s) (zv3 hs)
theorem zo3(c:DoQ code)(h:code 627=some x627Q){sv:IV}{T:List Obj}(hr:Reads tObj sv T){X:Mem}(hX:XM 0 T X)(hn:T.length≤900000)(h1:callW code ext 643 [.imm sv] []=some (.osl 0 0 5 T.length (some T.length),X)){ck:Val→Bool}{op:Int}(h0:0≤op)(h255:op≤255){a b:Val}
  (h646:∀v∈[a,b],callW code ext 646 [.imm sv,.agg [.imm (.val (.int .u8 v.k)),int64 v.n]] []=some (avb (ck v),[])) (hno:¬(ck a=true∧ck b=true)):PrimDid code ext sv T ck op a b:=by
 have hq:=any_of (ext:=ext) c sv [a,b] ck (by simp) h646
 have hq0:([a,b].any fun v=> !ck v)=true:=by
  cases ha:ck a with
  |false=>simp[ha]
  |true=>
   cases hb:ck b with
   |false=>simp[hb]
   |true=>exact absurd ⟨ha,hb⟩ hno
 rw[hq0]at hq
 obtain⟨X',hX',hc⟩:=zo5 (ext:=ext) c h hX (by omega) h1 h0 h255 hq
 have er:binR T ck op a b=(0,0,kindT,[]):=by
  unfold binR mayP
  rw[if_neg]
  intro hh
  have h1:=List.all_eq_true.1 hh a (by simp)
  have h2:=List.all_eq_true.1 hh b (by simp)
  simp only[Bool.and_eq_true]at h1 h2
  exact hno ⟨h1.2,h2.2⟩
 unfold PrimDid
 rw[er]
 exact⟨X',T,hX',rfl,by simpa using zan hr.1,hc⟩
structure SameFns (code:Nat→Option XFun):Prop where
 c490:code 490=some x490
 c492:code 492=some x492
 c355:code 355=some x355
 c352:code 352=some x352
 c351:code 351=some x351
 c357:code 357=some x357
 c334:code 334=some x334
 c330:code 330=some x330
 c329:code 329=some x329
 c336:code 336=some x336
theorem zbq(rb:RefBin code)(h152:code 152=some x152)(sf:SameFns code){sv:IV}{S:List Obj}(hr:Reads tObj sv S)(hh:HandOK (S.map twinObj)){ck:Val→Bool}{op:Int}{a b:Val}(hw:∀x∈[a,b],tVal.wf x)
  (h500:∀v∈[a,b],callW code ext 500 [.imm (tsv S),.agg [.imm (.val (.int .u8 v.k)),int64 v.n]] []=some (avb (ck v),[])) (hck:∀v∈[a,b],ck v=true→CheckOk (S.map twinObj) v)
  (hp:PrimDid code ext (tsv S) (S.map twinObj) ck op a b):BinsAgree code ext sv S op a b:=by
 obtain⟨X,TD,hX,hl,hA,hc⟩:=hp
 have hTn:=hh.n
 have hlm:(S.map twinObj).length=S.length:=List.length_map ..
 have hrT:Reads tObj (tsv S) (S.map twinObj):=by
  have:=zt8 hh
  rw[hlm]at this
  exact this
 have hrow2:Reads tVal (.slice (tVal.row [a,b]) 0 2 (some 2)) [a,b]:=zpt tVal [a,b] hw (by simp) (fun c h=>by cases h;exact Nat.le_refl _)
 have hf:=zge (ext:=ext) h152 (sv:=tsv S) hrow2 (by simp) h500
 have h150:=zph (ext:=ext) rb (T:=S.map twinObj) (by rw[hlm];exact hrT) (by omega) (ck:=ck) (op:=op) (a:=a) (b:=b) (by rw[hlm];exact hf) (fun hm=>by
  have h1:=List.all_eq_true.1 hm a (by simp)
  have h2:=List.all_eq_true.1 hm b (by simp)
  simp only[Bool.and_eq_true]at h1 h2
  exact⟨zui (hck a (by simp) h1.2),zui (hck b (by simp) h2.2)⟩)
 rw[hlm]at h150
 have hB:=binR_B (S.map twinObj) ck op a b
 generalize hz:binR (S.map twinObj) ck op a b=z at *
 obtain⟨kk,n,t,B⟩:=z
 dsimp only at *
 have hAl:=hA.len
 have hBl:B.length≤1:=by
  rcases hB with e|⟨s,hs,e⟩
  ·rw[e];simp
  ·cases e;simp
 have hTDl:∀o∈TD,o.l.xs.length≤1000000:=fun o ho=>by
  obtain⟨i,hi⟩:=List.getElem?_of_mem ho
  rcases zam hA i with⟨_,h2⟩|⟨x,y,h1,h2,h3⟩
  ·rw[h2]at hi;cases hi
  ·rw[h2]at hi;cases hi
   rw[←h3.2.2.1]
   rcases List.mem_append.1 (List.mem_of_getElem? h1)with hm|hm
   ·have:=hh.l x hm;omega
   ·obtain⟨s,_,rfl⟩:=List.mem_map.1 hm
    simp[textObj]
 have hleft:=zja (ext:=ext) sf.c336 sf.c329 sf.c330 sf.c334 hr
 have hAc:=zal hA
 rcases hB with e|⟨s,hs,e⟩
 ·subst e
  have hs355:callW code ext 355 [.imm (.slice (tObj.row (TD.map cloneObj)) 0 TD.length (some TD.length)),.imm (tsv S)] []=some (avb true,[]):=by
   have hAc:Alike (S.map twinObj) (TD.map cloneObj):=by simpa using hAc
   have h1:Reads tObj (.slice (tObj.row (TD.map cloneObj)) 0 (TD.map cloneObj).length (some TD.length)) (TD.map cloneObj):=zpt tObj _ hAc.wf (by rw[hAc.len,hlm];omega) (fun c hc=>by cases hc;rw[List.length_map];exact Nat.le_refl _)
   rw[List.length_map]at h1
   exact zso (ext:=ext) sf.c355 sf.c352 sf.c351 sf.c357 h1 hrT hAc.len (fun i a b ha hb=>(hAc.like i b a hb ha).symm)
  have e3:heapR (S.map twinObj) []=heapM (tObj.row (S.map twinObj++[spObj])) S.length (S.length+1):=by
   show heapM _ (S.map twinObj).length ((S.map twinObj).length+1)=_
   rw[hlm]
  rw[e3]at h150
  refine⟨X,TD,kk,n,_,_,t,_,_,hX,by simp at hl;omega,hTDl,hc,h150,?_⟩
  exact zsy (ext:=ext) sf.c490 sf.c492 hs355 hleft (by simp[asksR,wordsR])
 ·cases e
  have hs355:callW code ext 355 [.imm (.slice (tObj.row (TD.map cloneObj)) 0 TD.length (some TD.length)),.imm (.slice (tObj.row (S.map twinObj++[textObj s])) 0 (S.length+1) (some (S.length+1)))] []=some (avb true,[]):=by
   have hAc:Alike (S.map twinObj++[textObj s]) (TD.map cloneObj):=hAc
   have h1:Reads tObj (.slice (tObj.row (TD.map cloneObj)) 0 (TD.map cloneObj).length (some TD.length)) (TD.map cloneObj):=zpt tObj _ hAc.wf (by rw[hAc.len,List.length_append,hlm];simp;omega) (fun c hc=>by cases hc;rw[List.length_map];exact Nat.le_refl _)
   rw[List.length_map]at h1
   have h2:Reads tObj (.slice (tObj.row (S.map twinObj++[textObj s])) 0 (S.map twinObj++[textObj s]).length (some (S.length+1))) (S.map twinObj++[textObj s]):=zpt tObj _ (fun o ho=>by
    rcases List.mem_append.1 ho with ho|ho
    ·exact hh.wf o ho
    ·rw[List.mem_singleton.1 ho];exact zv3 hs) (by rw[List.length_append,hlm];simp;omega) (fun c hc=>by cases hc;rw[List.length_append,hlm];exact Nat.le_refl _)
   have e2:(S.map twinObj++[textObj s]).length=S.length+1:=by rw[List.length_append,hlm];rfl
   rw[e2]at h2
   exact zso (ext:=ext) sf.c355 sf.c352 sf.c351 sf.c357 h1 h2 hAc.len (fun i a b ha hb=>(hAc.like i b a hb ha).symm)
  have e3:heapR (S.map twinObj) [s]=heapM (tObj.row (S.map twinObj++[textObj s])) (S.length+1) (S.length+1):=by
   show heapM _ ((S.map twinObj).length+1) ((S.map twinObj).length+1)=_
   rw[hlm]
  rw[e3]at h150
  refine⟨X,TD,_,_,_,_,_,_,_,hX,by simp at hl;omega,hTDl,hc,h150,?_⟩
  exact zsy (ext:=ext) sf.c490 sf.c492 hs355 hleft (by
   rw[if_pos rfl]
   exact zbe hs)
end
end Go.EX


namespace Go.EX
@[simp] theorem isNilK_tagP(b a:Nat)(row:List IV)(off:Nat):isNilK 1 (.tag b a (.ptr row off))=some false:=rfl
@[simp] theorem isNilK_tagS(b a:Nat)(row:List IV)(off len:Nat)(cap:Option Nat):isNilK 0 (.tag b a (.slice row off len cap))=some false:=rfl
@[simp] theorem isNil_tag(b a:Nat)(x:IV):isNil (.tag b a x)=some false:=rfl
@[simp] theorem lenOf_tag(b a:Nat)(row:List IV)(off len:Nat)(cap:Option Nat):lenOf (.tag b a (.slice row off len cap))=some len:=rfl
structure TP where
 b:Nat
 a:Nat
 row:List IV
 off:Nat
def TP.at(t:TP)(k:Nat):AV:=.tag t.b (t.a+k*5) (.ptr t.row (t.off+k*5))
def TP.sl(t:TP)(n:Nat)(cap:Option Nat):AV:=.tag t.b t.a (.slice t.row t.off n cap)
@[simp] theorem at_ren(f:Nat→Option Nat)(t:TP)(k:Nat):(t.at k).ren f=t.at k:=rfl
@[simp] theorem at_refs(t:TP)(k:Nat):(t.at k).refs=[]:=rfl
def ptrsT(t:TP)(out:List Nat):List AV:=out.map t.at
def seenT(t:TP)(out:List Nat):List (AV×AV):=out.map fun k=>(t.at k,avb true)
@[simp] theorem renL_ptrsT(f:Nat→Option Nat)(t:TP)(out:List Nat):AV.ren.renL f (ptrsT t out)=ptrsT t out:=by
 rw[zqc]
 simp[ptrsT]
@[simp] theorem seenT_ren(f:Nat→Option Nat)(t:TP)(out:List Nat):List.map (fun p=>(AV.ren f p.1,AV.ren f p.2)) (seenT t out)=seenT t out:=by
 simp[seenT,AV.ren]
@[simp] theorem refs_ptrsT(t:TP)(out:List Nat):AV.refs.refsL (ptrsT t out)=[]:=by
 unfold ptrsT
 induction out with
 |nil=>rfl
 |cons x r ih=>simp only[List.map_cons,AV.refs.refsL,ih,at_refs];rfl
@[simp] theorem refs_seenT1(t:TP)(out:List Nat):AV.refs.refsL (List.map (fun x=>x.1) (seenT t out))=[]:=by
 unfold seenT
 induction out with
 |nil=>rfl
 |cons x r ih=>simp only[List.map_cons,AV.refs.refsL,ih,at_refs];rfl
@[simp] theorem refs_seenT2(t:TP)(out:List Nat):AV.refs.refsL (List.map (fun x=>x.2) (seenT t out))=[]:=by
 unfold seenT
 induction out with
 |nil=>rfl
 |cons x r ih=>simp only[List.map_cons,AV.refs.refsL,ih,AV.refs];rfl
theorem zig(m:Mem)(t:TP)(k x:Nat):keyEq m 3 (t.at k) (t.at x)=some (decide (k=x)):=by
 have h:(t.a+k*5==t.a+x*5)=decide (k=x):=by
  by_cases h:k=x
  ·subst h;simp
  ·simp[h]
   omega
 simp[keyEq,TP.at,h]
theorem zgb(t:TP)(k:Nat):∀(out:List Nat) (i:Nat),
  (k ∉ out∧∀m:Mem,findK m 3 (t.at k) (seenT t out) i=some none)∨
  (k∈out∧∃j,(∀m:Mem,findK m 3 (t.at k) (seenT t out) i=some (some (i+j)))∧(seenT t out)[j]?=some (t.at k,avb true))
 |[],i=>.inl ⟨by simp,fun _=>rfl⟩
 |x::r,i=>by
  by_cases h:k=x
  ·subst h
   exact .inr ⟨by simp,0,fun m=>by simp[seenT,findK,zig],rfl⟩
  ·have hf:∀m:Mem,findK m 3 (t.at k) (seenT t (x::r)) i=findK m 3 (t.at k) (seenT t r) (i+1):=fun m=>by simp[seenT,findK,zig,h]
   rcases zgb t k r (i+1)with⟨h1,h2⟩|⟨h1,j,h2,h3⟩
   ·exact .inl ⟨by simp[h,h1],fun m=>by rw[hf,h2]⟩
   ·refine .inr ⟨by simp[h1],j+1,fun m=>?_,h3⟩
    rw[hf,h2];congr 2;omega
theorem zs1(t:TP)(k:Nat)(out:List Nat):seenT t out++[(t.at k,avb true)]=seenT t (out++[k]):=by simp[seenT]
theorem zo8(t:TP)(k:Nat)(out:List Nat):ptrsT t out++[t.at k]=ptrsT t (out++[k]):=by simp[ptrsT]
theorem zd3(t:TP)(out:List Nat):cut (ptrsT t out) 0 out.length=some (ptrsT t out):=zdv _ (by simp[ptrsT])
section
variable {code:Nat→Option XFun} {ext:Calls'}
def leadT(t:TP):Option Nat→AV
 |some k=>t.at k
 |none=>.imm (.val (.pointer none))
structure StoreT (code:Nat→Option XFun) (ext:Calls') (sA:AV) (t:TP) (S:List Obj):Prop where
 refs:sA.refs=[]
 ren:∀f,sA.ren f=sA
 box:AV.cells sA=some [sA]
 lead:∀v:Val,(tInt .i64).wf v.n→callW code ext 651 [sA,.agg [.imm (.val (.int .u8 v.k)),int64 v.n]] []=some (leadT t (leadsOf S v),[])
 obj:∀(k:Nat) (o:Obj),S[k]?=some o→cut t.row (t.off+k*5) 5=some [.val (.int .u8 o.k),.val (.string o.s),o.l.iv,.val (.int .i64 o.room),.val (.int .i64 o.fn)]
theorem zi1(h:code 651=some x651)(t:TP)(S:List Obj)(cap:Option Nat)(hr:Reads tObj (.slice t.row t.off S.length cap) S)(v:Val)(hv:(tInt .i64).wf v.n):
  callW code ext 651 [t.sl S.length cap,.agg [.imm (.val (.int .u8 v.k)),int64 v.n]] []=some (leadT t (leadsOf S v),[]):=by
 have hb:=hr.2.1
 rw[zb5 code ext h]
 unfold leadsOf TP.sl
 by_cases c1:v.k<3
 ·simp -implicitDefEqProofs [x651,c1,leadT]
 by_cases c2:7<v.k
 ·simp -implicitDefEqProofs [x651,c1,c2,leadT]
 by_cases c3:v.n<1
 ·simp -implicitDefEqProofs [x651,c1,c2,c3,leadT]
 by_cases c4:(S.length:Int)<v.n
 ·simp -implicitDefEqProofs [x651,c1,c2,c3,c4,leadT,lenOf]
 obtain⟨vk,vn⟩:=v
 simp only at c1 c2 c3 c4 ⊢
 obtain⟨p,rfl⟩:∃p:Nat,vn=(p:Int)+1:=⟨(vn-1).toNat,by omega⟩
 have hlt:p<S.length:=by omega
 have hi:=List.getElem?_eq_getElem hlt
 have ep:((p:Int)+1-1).toNat=p:=by omega
 rw[if_neg c1,if_neg c2,if_neg c3,if_neg c4,ep,hi]
 obtain⟨row',off',cap',he,_,_,hget⟩:=zps hr hi
 cases he
 generalize S[p]=o at hget
 simp only[tObj]at hget
 have g0:t.row[t.off+p*5]?=some (.val (.int .u8 o.k)):=zdz hget 0 (by omega)
 have e1:IntKind.wrap .i64 (p:Int)=p:=wrapI64 (by omega) (by omega)
 by_cases c5:o.k=vk
 ·simp -implicitDefEqProofs [x651,c1,c2,c3,c4,e1,g0,c5,hlt,leadT,lenOf,TP.at]
 ·simp -implicitDefEqProofs [x651,c1,c2,c3,c4,e1,g0,c5,hlt,leadT,lenOf,TP.at]
theorem ziz(h:code 651=some x651)(t:TP){sv:IV}(hr:Reads tObj sv [])(v:Val)(hv:(tInt .i64).wf v.n):
  callW code ext 651 [.imm sv,.agg [.imm (.val (.int .u8 v.k)),int64 v.n]] []=some (leadT t (leadsOf [] v),[]):=by
 have hlen:lenOf (.imm sv)=some 0:=zpr hr
 have hn:leadsOf [] v=none:=by
  cases hq:leadsOf [] v with
  |none=>rfl
  |some k=>exact absurd (zi0 hq).1 (by simp)
 rw[hn,zb5 code ext h]
 by_cases c1:v.k<3
 ·simp -implicitDefEqProofs [x651,c1,leadT]
 by_cases c2:7<v.k
 ·simp -implicitDefEqProofs [x651,c1,c2,leadT]
 by_cases c3:v.n<1
 ·simp -implicitDefEqProofs [x651,c1,c2,c3,leadT]
 have c4:(0:Int)<v.n:=by omega
 simp -implicitDefEqProofs [x651,c1,c2,c3,c4,leadT,hlen]
theorem zt6(h:code 651=some x651)(t:TP)(S:List Obj)(cap:Option Nat)(hr:Reads tObj (.slice t.row t.off S.length cap) S):StoreT code ext (t.sl S.length cap) t S:=
 ⟨rfl,fun _=>rfl,rfl,fun v hv=>zi1 h t S cap hr v hv,fun k o ho=>by
  obtain⟨row',off',cap',he,_,_,hget⟩:=zps hr ho
  cases he
  exact hget⟩
theorem zt5(h:code 651=some x651)(t:TP){sv:IV}(hr:Reads tObj sv []):StoreT code ext (.imm sv) t []:=
 ⟨rfl,fun _=>rfl,rfl,fun v hv=>ziz h t hr v hv,fun k o ho=>by simp at ho⟩
end
end Go.EX


namespace Go.EX
section
variable {code:Nat→Option XFun} {ext:Calls'}
def addBaseT(sA:AV)(t:TP)(out:List Nat)(o:AV):Mem:=[.rich [sA],.rich [.omap 3],.rich [o],.map (seenT t out)]
abbrev addEnvT(lv:IV)(n i:Int):Env:=[(1,.optr 0 0),(2,.optr 1 0),(3,.optr 2 0),(8,.imm lv),(9,int64 n),(10,int64 i)]
theorem zag{sA:AV}{t:TP}{T:List Obj}(hT:StoreT code ext sA t T)(row:List IV)(off:Nat)(cap:Option Nat)(l:List Val)(hl:Reads tVal (.slice row off l.length cap) l)(out:List Nat)(i:Nat)(v:Val)(hv:l[i]?=some v)
  (hold:leadsOf T v=none∨∃k,leadsOf T v=some k∧k∈out) (k:Nat) (o:AV) (tail:Mem) (hk:(k=4∧((out=[]∧o=nilS∧tail=[])∨(o=.osl 4 0 1 out.length none∧tail=[.rich (ptrsT t out)])))∨(k=5∧((o=.osl 4 0 1 out.length none∧tail=[.rich (ptrsT t out)])∨(o=.osl 5 0 1 out.length none∧tail=[.dead,.rich (ptrsT t out)])))):
  ∃s',den code ext x655L1 ⟨k,addEnvT (.slice row off l.length cap) l.length i,addBaseT sA t out o++tail⟩=some (.normal,s')∧s'.tidy [1,2,3,8,9,10]=⟨k,addEnvT (.slice row off l.length cap) l.length ((i:Int)+1),addBaseT sA t out o++tail⟩:=by
 have hlt:=(List.getElem?_eq_some_iff.1 hv).1
 obtain⟨row',off',cap',he,hc,hcut,hget⟩:=zps hl hv
 cases he
 simp only[tVal]at hget
 have hb2:=hl.2.1
 have hw:=(hl.1 v (List.mem_of_getElem? hv)).2
 have e1:IntKind.wrap .i64 ((i:Int)+1)=(i:Int)+1:=wrapI64 (by omega) (by omega)
 have hld:=hT.lead v hw
 have hsr:=hT.refs
 have hsn:=hT.ren
 rcases hold with hn|⟨q,hq,hm⟩
 ·rw[hn,leadT]at hld
  rcases hk with⟨rfl,⟨rfl,rfl,rfl⟩|⟨rfl,rfl⟩⟩|⟨rfl,⟨rfl,rfl⟩|⟨rfl,rfl⟩⟩
  ·refine⟨⟨4,addEnvT (.slice row off l.length cap) l.length ((i:Int)+1),addBaseT sA t [] nilS++[.rich [.imm (.val (.int .u8 v.k)),int64 v.n]]⟩,?_,?_⟩
   ·simp -implicitDefEqProofs [x655L1,addBaseT,TP.at,hsr,hsn,hlt,hget,hld,e1]
   ·simp -implicitDefEqProofs [addBaseT,TP.at,hsr,hsn]
  ·refine⟨⟨4,addEnvT (.slice row off l.length cap) l.length ((i:Int)+1),addBaseT sA t out (.osl 4 0 1 out.length none)++[.rich (ptrsT t out),.rich [.imm (.val (.int .u8 v.k)),int64 v.n]]⟩,?_,?_⟩
   ·simp -implicitDefEqProofs [x655L1,addBaseT,TP.at,hsr,hsn,hlt,hget,hld,e1]
   ·simp -implicitDefEqProofs [addBaseT,TP.at,hsr,hsn]
  ·refine⟨⟨5,addEnvT (.slice row off l.length cap) l.length ((i:Int)+1),addBaseT sA t out (.osl 4 0 1 out.length none)++[.rich (ptrsT t out),.rich [.imm (.val (.int .u8 v.k)),int64 v.n]]⟩,?_,?_⟩
   ·simp -implicitDefEqProofs [x655L1,addBaseT,TP.at,hsr,hsn,hlt,hget,hld,e1]
   ·simp -implicitDefEqProofs [addBaseT,TP.at,hsr,hsn]
  ·refine⟨⟨5,addEnvT (.slice row off l.length cap) l.length ((i:Int)+1),addBaseT sA t out (.osl 5 0 1 out.length none)++[.dead,.rich (ptrsT t out),.rich [.imm (.val (.int .u8 v.k)),int64 v.n]]⟩,?_,?_⟩
   ·simp -implicitDefEqProofs [x655L1,addBaseT,TP.at,hsr,hsn,hlt,hget,hld,e1]
   ·simp -implicitDefEqProofs [addBaseT,TP.at,hsr,hsn]
 ·rw[hq,leadT]at hld
  rcases zgb t q out 0 with⟨h1,_⟩|⟨_,j,hf,hj⟩
  ·exact absurd hm h1
  simp only[Nat.zero_add]at hf
  simp only[TP.at]at hld hf hj
  rcases hk with⟨rfl,⟨rfl,rfl,rfl⟩|⟨rfl,rfl⟩⟩|⟨rfl,⟨rfl,rfl⟩|⟨rfl,rfl⟩⟩
  ·cases hm
  ·refine⟨⟨4,addEnvT (.slice row off l.length cap) l.length ((i:Int)+1),addBaseT sA t out (.osl 4 0 1 out.length none)++[.rich (ptrsT t out),.rich [.imm (.val (.int .u8 v.k)),int64 v.n]]⟩,?_,?_⟩
   ·simp -implicitDefEqProofs [x655L1,addBaseT,TP.at,hsr,hsn,hlt,hget,hld,e1,hf,hj]
   ·simp -implicitDefEqProofs [addBaseT,TP.at,hsr,hsn]
  ·refine⟨⟨5,addEnvT (.slice row off l.length cap) l.length ((i:Int)+1),addBaseT sA t out (.osl 4 0 1 out.length none)++[.rich (ptrsT t out),.rich [.imm (.val (.int .u8 v.k)),int64 v.n]]⟩,?_,?_⟩
   ·simp -implicitDefEqProofs [x655L1,addBaseT,TP.at,hsr,hsn,hlt,hget,hld,e1,hf,hj]
   ·simp -implicitDefEqProofs [addBaseT,TP.at,hsr,hsn]
  ·refine⟨⟨5,addEnvT (.slice row off l.length cap) l.length ((i:Int)+1),addBaseT sA t out (.osl 5 0 1 out.length none)++[.dead,.rich (ptrsT t out),.rich [.imm (.val (.int .u8 v.k)),int64 v.n]]⟩,?_,?_⟩
   ·simp -implicitDefEqProofs [x655L1,addBaseT,TP.at,hsr,hsn,hlt,hget,hld,e1,hf,hj]
   ·simp -implicitDefEqProofs [addBaseT,TP.at,hsr,hsn]
theorem zaf{sA:AV}{t:TP}{T:List Obj}(hT:StoreT code ext sA t T)(row:List IV)(off:Nat)(cap:Option Nat)(l:List Val)(hl:Reads tVal (.slice row off l.length cap) l)(out:List Nat)(hbo:out.length≤1048576)(i:Nat)(v:Val)(hv:l[i]?=some v)
  (q:Nat) (hq:leadsOf T v=some q) (hm:q ∉ out) (k:Nat) (o:AV) (tail:Mem) (hk:(k=4∧((out=[]∧o=nilS∧tail=[])∨(o=.osl 4 0 1 out.length none∧tail=[.rich (ptrsT t out)])))∨(k=5∧((o=.osl 4 0 1 out.length none∧tail=[.rich (ptrsT t out)])∨(o=.osl 5 0 1 out.length none∧tail=[.dead,.rich (ptrsT t out)])))):
  ∃s',den code ext x655L1 ⟨k,addEnvT (.slice row off l.length cap) l.length i,addBaseT sA t out o++tail⟩=some (.normal,s')∧
   s'.tidy [1,2,3,8,9,10]=⟨k,addEnvT (.slice row off l.length cap) l.length ((i:Int)+1),addBaseT sA t (out++[q]) (.osl k 0 1 (out.length+1) none)++(if k=4 then[]else[.dead])++[.rich (ptrsT t (out++[q]))]⟩:=by
 have hlt:=(List.getElem?_eq_some_iff.1 hv).1
 obtain⟨row',off',cap',he,hc,hcut,hget⟩:=zps hl hv
 cases he
 simp only[tVal]at hget
 have hb2:=hl.2.1
 have hw:=(hl.1 v (List.mem_of_getElem? hv)).2
 have e1:IntKind.wrap .i64 ((i:Int)+1)=(i:Int)+1:=wrapI64 (by omega) (by omega)
 have hld:=hT.lead v hw
 have hsr:=hT.refs
 have hsn:=hT.ren
 rw[hq,leadT]at hld
 rcases zgb t q out 0 with⟨_,hf⟩|⟨h1,_⟩
 case inr=>exact absurd h1 hm
 have hcp:=zd3 t out
 have hs1:=zs1 t q out
 have hs2:=zo8 t q out
 have hbd:(out.length+1)*8≤140737488355328:=by omega
 have h0:seenT t []=[]:=rfl
 have h0':[(t.at q,avb true)]=seenT t [q]:=rfl
 have h0'':[t.at q]=ptrsT t [q]:=rfl
 have hf0:∀(m:Mem) (x:AV),findK m 3 x [] 0=some none:=fun _ _=>rfl
 simp only[TP.at]at hld hf hs1 hs2 h0' h0''
 rcases hk with⟨rfl,⟨rfl,rfl,rfl⟩|⟨rfl,rfl⟩⟩|⟨rfl,⟨rfl,rfl⟩|⟨rfl,rfl⟩⟩
 ·refine⟨⟨4,addEnvT (.slice row off l.length cap) l.length ((i:Int)+1),addBaseT sA t [q] (.osl 6 0 1 1 none)++[.rich [.imm (.val (.int .u8 v.k)),int64 v.n],.rich [t.at q],.rich [t.at q]]⟩,?_,?_⟩
  ·simp -implicitDefEqProofs [x655L1,addBaseT,TP.at,hsr,hsn,hlt,hget,hld,e1,h0,hf0,exAppendX,exAppend,exAppendR,elems,elemsR,h0']
  ·simp -implicitDefEqProofs [addBaseT,TP.at,hsr,hsn,ptrsT]
 ·refine⟨⟨4,addEnvT (.slice row off l.length cap) l.length ((i:Int)+1),addBaseT sA t (out++[q]) (.osl 7 0 1 (out.length+1) none)++[.dead,.rich [.imm (.val (.int .u8 v.k)),int64 v.n],.rich [t.at q],.rich (ptrsT t (out++[q]))]⟩,?_,?_⟩
  ·simp -implicitDefEqProofs [x655L1,addBaseT,TP.at,hsr,hsn,hlt,hget,hld,e1,hf,hs1,hs2,hcp,hbd,exAppendX,exAppend,exAppendR,elems,elemsR]
  ·simp -implicitDefEqProofs [addBaseT,TP.at,hsr,hsn]
 ·refine⟨⟨5,addEnvT (.slice row off l.length cap) l.length ((i:Int)+1),addBaseT sA t (out++[q]) (.osl 7 0 1 (out.length+1) none)++[.dead,.rich [.imm (.val (.int .u8 v.k)),int64 v.n],.rich [t.at q],.rich (ptrsT t (out++[q]))]⟩,?_,?_⟩
  ·simp -implicitDefEqProofs [x655L1,addBaseT,TP.at,hsr,hsn,hlt,hget,hld,e1,hf,hs1,hs2,hcp,hbd,exAppendX,exAppend,exAppendR,elems,elemsR]
  ·simp -implicitDefEqProofs [addBaseT,TP.at,hsr,hsn]
 ·refine⟨⟨5,addEnvT (.slice row off l.length cap) l.length ((i:Int)+1),addBaseT sA t (out++[q]) (.osl 8 0 1 (out.length+1) none)++[.dead,.dead,.rich [.imm (.val (.int .u8 v.k)),int64 v.n],.rich [t.at q],.rich (ptrsT t (out++[q]))]⟩,?_,?_⟩
  ·simp -implicitDefEqProofs [x655L1,addBaseT,TP.at,hsr,hsn,hlt,hget,hld,e1,hf,hs1,hs2,hcp,hbd,exAppendX,exAppend,exAppendR,elems,elemsR]
  ·simp -implicitDefEqProofs [addBaseT,TP.at,hsr,hsn]
end
end Go.EX

