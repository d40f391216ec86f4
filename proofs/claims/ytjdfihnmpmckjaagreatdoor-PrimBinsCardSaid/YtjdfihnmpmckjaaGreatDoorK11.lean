import Derived.Test.YtjdfihnmpmckjaaGreatDoorK9
import Derived.Test.YtjdfihnmpmckjaaGreatDoorK7
import Derived.Test.YtjdfihnmpmckjaaGreatDoorK10
set_option linter.unusedVariables false
set_option linter.unusedSimpArgs false
namespace Go.EX
abbrev i8v(n:Int):AV:=.imm (.val (.int .u8 n))
abbrev strv(s:ByteArray):AV:=.imm (.val (.string s))
abbrev aval(k n:Int):AV:=.agg [i8v k,int64 n]
abbrev kindT:ByteArray:=⟨#[107,105,110,100]⟩
abbrev zeroT:ByteArray:=⟨#[122,101,114,111]⟩
def wholeR(op a b:Int):Int×Int×ByteArray:=
 if op=1 then(2,IntKind.wrap .i64 (a+b),.empty)
 else if op=2 then(2,IntKind.wrap .i64 (a-b),.empty)
 else if op=3 then(2,IntKind.wrap .i64 (a*b),.empty)
 else if op=6 then(1,(if a<b then 1 else 0),.empty)
 else if op=7 then(1,(if a≤b then 1 else 0),.empty)
 else if op≠4∧op≠5 then(0,0,kindT)
 else if b=0 then(0,0,zeroT)
 else if op=4 then(2,(if b= -1 then IntKind.wrap .i64 (0-a)else IntKind.wrap .i64 (a.tdiv b)),.empty)
 else(2,(if b= -1 then 0 else a.tmod b),.empty)
section
variable {code:Nat→Option XFun} {ext:Calls'}
structure WholeCode (code:Nat→Option XFun):Prop where
 c579:code 579=some x579
 c582:code 582=some x582
 c583:code 583=some x583
 c584:code 584=some x584
 c585:code 585=some x585
 c586:code 586=some x586
 c587:code 587=some x587
 c588:code 588=some x588
 c589:code 589=some x589
theorem zv8(c:WholeCode code)(n:Int):callW code ext 589 [int64 n] []=some (aval 2 n,[]):=by
 rw[zb5 code ext c.c589]
 simp -implicitDefEqProofs [x589]
theorem zuw(c:WholeCode code)(b:Bool):callW code ext 588 [avb b] []=some (aval 1 (if b then 1 else 0),[]):=by
 rw[zb5 code ext c.c588]
 cases b<;>simp -implicitDefEqProofs [x588]
theorem sign1(c:WholeCode code)(a b:Int):callW code ext 583 [int64 a,int64 b] []=some (aval 2 (IntKind.wrap .i64 (a+b)),[]):=by
 rw[zb5 code ext c.c583]
 simp -implicitDefEqProofs [x583,zv8 c]
theorem sign2(c:WholeCode code)(a b:Int):callW code ext 584 [int64 a,int64 b] []=some (aval 2 (IntKind.wrap .i64 (a-b)),[]):=by
 rw[zb5 code ext c.c584]
 simp -implicitDefEqProofs [x584,zv8 c]
theorem sign3(c:WholeCode code)(a b:Int):callW code ext 585 [int64 a,int64 b] []=some (aval 2 (IntKind.wrap .i64 (a*b)),[]):=by
 rw[zb5 code ext c.c585]
 simp -implicitDefEqProofs [x585,zv8 c]
theorem sign4(c:WholeCode code)(a b:Int):callW code ext 586 [int64 a,int64 b] []=some (aval 1 (if a<b then 1 else 0),[]):=by
 rw[zb5 code ext c.c586]
 simp -implicitDefEqProofs [x586,zuw c]
theorem sign5(c:WholeCode code)(a b:Int):callW code ext 587 [int64 a,int64 b] []=some (aval 1 (if a≤b then 1 else 0),[]):=by
 rw[zb5 code ext c.c587]
 simp -implicitDefEqProofs [x587,zuw c]
abbrev signRow:AObj:=.rich [i8v 1,.clo 583 [],i8v 2,.clo 584 [],i8v 3,.clo 585 [],i8v 6,.clo 586 [],i8v 7,.clo 587 []]
theorem zdn{β:Type}(l:List β):copies 5 l=l++(l++(l++(l++l))):=by simp[copies]
theorem ztl(c:WholeCode code):callW code ext 582 [] []=some (.osl 0 0 2 5 (some 5),[signRow]):=by
 rw[zb5 code ext c.c582]
 simp -implicitDefEqProofs [x582,zdn]
structure WholeAt (code:Nat→Option XFun) (ext:Calls') (op a b:Int) (i:Nat) (s:St):Prop where
 env:s.tidy [0,1,2,6,10,11,12]={ k:=0,env:=[(0,i8v op),(1,int64 a),(2,int64 b),(6,.optr 0 0),(10,.osl 1 0 2 5 (some 5)),(11,int64 5),(12,int64 i)],mem:=[.rich [i8v 0,int64 0],signRow] }
theorem zv9(c:WholeCode code){op a b:Int}{i:Nat}{s:St}(h:WholeAt code ext op a b i s){o:Int}{f:Nat}(hi:i<5)(h1:([i8v 1,.clo 583 [],i8v 2,.clo 584 [],i8v 3,.clo 585 [],i8v 6,.clo 586 [],i8v 7,.clo 587 []]:List AV)[i*2]?=some (i8v o))(hne:¬o=op):
  ∃s',den code ext x579L1 (s.tidy [0,1,2,6,10,11,12])=some (.normal,s')∧WholeAt code ext op a b (i+1) s':=by
 rw[h.env]
 match i,hi with
 |0,_=>cases h1;exact⟨_,by simp -implicitDefEqProofs [x579L1,hne];rfl,⟨by simp -implicitDefEqProofs;rfl⟩⟩
 |1,_=>cases h1;exact⟨_,by simp -implicitDefEqProofs [x579L1,hne];rfl,⟨by simp -implicitDefEqProofs;rfl⟩⟩
 |2,_=>cases h1;exact⟨_,by simp -implicitDefEqProofs [x579L1,hne];rfl,⟨by simp -implicitDefEqProofs;rfl⟩⟩
 |3,_=>cases h1;exact⟨_,by simp -implicitDefEqProofs [x579L1,hne];rfl,⟨by simp -implicitDefEqProofs;rfl⟩⟩
 |4,_=>cases h1;exact⟨_,by simp -implicitDefEqProofs [x579L1,hne];rfl,⟨by simp -implicitDefEqProofs;rfl⟩⟩
theorem zv4(c:WholeCode code){op a b:Int}{s:St}(h:WholeAt code ext op a b 5 s):
  ∃s',den code ext x579L1 (s.tidy [0,1,2,6,10,11,12])=some (.exit 0,s')∧s'.k=0∧s'.env.get 0=i8v op∧s'.env.get 1=int64 a∧s'.env.get 2=int64 b∧s'.env.get 6=.optr 0 0∧s'.mem=[.rich [i8v 0,int64 0],signRow]:=by
 rw[h.env]
 exact⟨_,by simp -implicitDefEqProofs [x579L1];rfl,by simp -implicitDefEqProofs,by simp -implicitDefEqProofs,by simp -implicitDefEqProofs,by simp -implicitDefEqProofs,by simp -implicitDefEqProofs,by simp -implicitDefEqProofs⟩
theorem zv6(c:WholeCode code){op a b k n:Int}{i:Nat}{s:St}(h:WholeAt code ext op a b i s){f:Nat}(hi:i<5)(h1:([i8v 1,.clo 583 [],i8v 2,.clo 584 [],i8v 3,.clo 585 [],i8v 6,.clo 586 [],i8v 7,.clo 587 []]:List AV)[i*2]?=some (i8v op))(h2:([i8v 1,.clo 583 [],i8v 2,.clo 584 [],i8v 3,.clo 585 [],i8v 6,.clo 586 [],i8v 7,.clo 587 []]:List AV)[i*2+1]?=some (.clo f []))
  (hf:callW code ext f [int64 a,int64 b] []=some (aval k n,[])):
  ∃s',den code ext x579L1 (s.tidy [0,1,2,6,10,11,12])=some (.ret,s')∧s'.k=0∧s'.env.get 6=.optr 0 0∧s'.env.get 7=strv .empty∧∃m,s'.mem=[.rich [i8v k,int64 n],signRow]++m:=by
 rw[h.env]
 match i,hi with
 |0,_=>cases h1;cases h2;exact⟨_,by simp -implicitDefEqProofs [x579L1,hf];rfl,by simp -implicitDefEqProofs,by simp -implicitDefEqProofs,by simp -implicitDefEqProofs,_,by simp -implicitDefEqProofs;rfl⟩
 |1,_=>cases h1;cases h2;exact⟨_,by simp -implicitDefEqProofs [x579L1,hf];rfl,by simp -implicitDefEqProofs,by simp -implicitDefEqProofs,by simp -implicitDefEqProofs,_,by simp -implicitDefEqProofs;rfl⟩
 |2,_=>cases h1;cases h2;exact⟨_,by simp -implicitDefEqProofs [x579L1,hf];rfl,by simp -implicitDefEqProofs,by simp -implicitDefEqProofs,by simp -implicitDefEqProofs,_,by simp -implicitDefEqProofs;rfl⟩
 |3,_=>cases h1;cases h2;exact⟨_,by simp -implicitDefEqProofs [x579L1,hf];rfl,by simp -implicitDefEqProofs,by simp -implicitDefEqProofs,by simp -implicitDefEqProofs,_,by simp -implicitDefEqProofs;rfl⟩
 |4,_=>cases h1;cases h2;exact⟨_,by simp -implicitDefEqProofs [x579L1,hf];rfl,by simp -implicitDefEqProofs,by simp -implicitDefEqProofs,by simp -implicitDefEqProofs,_,by simp -implicitDefEqProofs;rfl⟩
theorem zv5(c:WholeCode code){op a b k n:Int}{f:Nat}(j:Nat)(hj:j<5)(h1:([i8v 1,.clo 583 [],i8v 2,.clo 584 [],i8v 3,.clo 585 [],i8v 6,.clo 586 [],i8v 7,.clo 587 []]:List AV)[j*2]?=some (i8v op))(h2:([i8v 1,.clo 583 [],i8v 2,.clo 584 [],i8v 3,.clo 585 [],i8v 6,.clo 586 [],i8v 7,.clo 587 []]:List AV)[j*2+1]?=some (.clo f []))
  (hf:callW code ext f [int64 a,int64 b] []=some (aval k n,[])):∀(d:Nat) (s:St),d≤j→WholeAt code ext op a b (j-d) s→
  ∃s',den code ext (.loop [0,1,2,6,10,11,12] x579L1) s=some (.ret,s')∧s'.k=0∧s'.env.get 6=.optr 0 0∧s'.env.get 7=strv .empty∧∃m,s'.mem=[.rich [i8v k,int64 n],signRow]++m:=by
 intro d
 induction d with
 |zero=>
  intro s _ h
  obtain⟨s',e1,e2⟩:=zv6 c h hj h1 h2 hf
  exact⟨s',by rw[zeb,e1];rfl,e2⟩
 |succ d ih=>
  intro s hd h
  have:∃o g,([i8v 1,.clo 583 [],i8v 2,.clo 584 [],i8v 3,.clo 585 [],i8v 6,.clo 586 [],i8v 7,.clo 587 []]:List AV)[(j-(d+1))*2]?=some (i8v o)∧¬o=op∧g=f:=by
   match j,hj with
   |0,_=>omega
   |1,_=>cases h1;match d,hd with
    |0,_=>exact⟨1,f,rfl,by decide,rfl⟩
   |2,_=>cases h1;match d,hd with
    |0,_=>exact⟨2,f,rfl,by decide,rfl⟩
    |1,_=>exact⟨1,f,rfl,by decide,rfl⟩
   |3,_=>cases h1;match d,hd with
    |0,_=>exact⟨3,f,rfl,by decide,rfl⟩
    |1,_=>exact⟨2,f,rfl,by decide,rfl⟩
    |2,_=>exact⟨1,f,rfl,by decide,rfl⟩
   |4,_=>cases h1;match d,hd with
    |0,_=>exact⟨6,f,rfl,by decide,rfl⟩
    |1,_=>exact⟨3,f,rfl,by decide,rfl⟩
    |2,_=>exact⟨2,f,rfl,by decide,rfl⟩
    |3,_=>exact⟨1,f,rfl,by decide,rfl⟩
  obtain⟨o,g,ho,hne,_⟩:=this
  obtain⟨s',e1,e2⟩:=zv9 c h (f:=f) (by omega) ho hne
  have e3:j-(d+1)+1=j-d:=by omega
  rw[e3]at e2
  obtain⟨s2,f1,f2⟩:=ih s' (by omega) e2
  exact⟨s2,by rw[zeb,e1];exact f1,f2⟩
theorem zv7(c:WholeCode code){op a b:Int}(h1:¬1=op)(h2:¬2=op)(h3:¬3=op)(h6:¬6=op)(h7:¬7=op)(s:St)(h:WholeAt code ext op a b 0 s):
  ∃s',den code ext (.loop [0,1,2,6,10,11,12] x579L1) s=some (.exit 0,s')∧s'.k=0∧s'.env.get 0=i8v op∧s'.env.get 1=int64 a∧s'.env.get 2=int64 b∧s'.env.get 6=.optr 0 0∧s'.mem=[.rich [i8v 0,int64 0],signRow]:=by
 obtain⟨s1,e1,f1⟩:=zv9 c h (f:=0) (o:=1) (by omega) rfl h1
 obtain⟨s2,e2,f2⟩:=zv9 c f1 (f:=0) (o:=2) (by omega) rfl h2
 obtain⟨s3,e3,f3⟩:=zv9 c f2 (f:=0) (o:=3) (by omega) rfl h3
 obtain⟨s4,e4,f4⟩:=zv9 c f3 (f:=0) (o:=6) (by omega) rfl h6
 obtain⟨s5,e5,f5⟩:=zv9 c f4 (f:=0) (o:=7) (by omega) rfl h7
 obtain⟨s6,e6,f6⟩:=zv4 c f5
 refine⟨s6,?_,f6⟩
 rw[zeb,e1,andThen,zeb,e2,andThen,zeb,e3,andThen,zeb,e4,andThen,zeb,e5,andThen,zeb,e6]
 rfl
theorem zwc(c:WholeCode code){op a b k n:Int}{f:Nat}(j:Nat)(hj:j<5)(h1:([i8v 1,.clo 583 [],i8v 2,.clo 584 [],i8v 3,.clo 585 [],i8v 6,.clo 586 [],i8v 7,.clo 587 []]:List AV)[j*2]?=some (i8v op))(h2:([i8v 1,.clo 583 [],i8v 2,.clo 584 [],i8v 3,.clo 585 [],i8v 6,.clo 586 [],i8v 7,.clo 587 []]:List AV)[j*2+1]?=some (.clo f []))
  (hf:callW code ext f [int64 a,int64 b] []=some (aval k n,[])):callW code ext 579 [i8v op,int64 a,int64 b] []=some (.tup [aval k n,strv .empty],[]):=by
 have hl:=fun s=>zv5 c j hj h1 h2 hf j s (Nat.le_refl _)
 rw[Nat.sub_self]at hl
 rw[zb5 code ext c.c579]
 unfold x579
 generalize x579L1=L at *
 simp -implicitDefEqProofs [ztl c]
 generalize hs:(St.mk 0 _ _)=s
 obtain⟨s',e1,e2,e3,e4,m,e5⟩:=hl s ⟨by subst hs;simp -implicitDefEqProofs⟩
 obtain⟨k',env',mem'⟩:=s'
 simp only at e2 e3 e4 e5
 subst e2 e5
 simp -implicitDefEqProofs [e1,e3,e4]
end
end Go.EX


namespace Go.EX
section
variable {code:Nat→Option XFun} {ext:Calls'}
theorem zwb(c:WholeCode code)(op a b k n:Int)(t:ByteArray)(h1:¬1=op)(h2:¬2=op)(h3:¬3=op)(h6:¬6=op)(h7:¬7=op)
  (hr:(op≠4∧op≠5∧k=0∧n=0∧t=kindT)∨(op=4∨op=5)∧b=0∧k=0∧n=0∧t=zeroT∨op=4∧b= -1∧k=2∧n=IntKind.wrap .i64 (0-a)∧t=.empty∨op=5∧b= -1∧k=2∧n=0∧t=.empty
   ∨op=4∧b≠0∧b≠ -1∧k=2∧n=IntKind.wrap .i64 (a.tdiv b)∧t=.empty∨op=5∧b≠0∧b≠ -1∧k=2∧n=a.tmod b∧t=.empty):
  callW code ext 579 [i8v op,int64 a,int64 b] []=some (.tup [aval k n,strv t],[]):=by
 have hl:=fun s=>zv7 (a:=a) (b:=b) (ext:=ext) c h1 h2 h3 h6 h7 s
 have s6:=fun n=>zv8 (ext:=ext) c n
 rw[zb5 code ext c.c579]
 unfold x579
 generalize x579L1=L at *
 simp -implicitDefEqProofs [ztl c]
 generalize hs:(St.mk 0 _ _)=s
 obtain⟨s',e1,e2,e3,e4,e5,e6,e7⟩:=hl s ⟨by subst hs;simp -implicitDefEqProofs⟩
 obtain⟨k',env',mem'⟩:=s'
 simp only at e2 e3 e4 e5 e6 e7
 subst e2 e7
 rcases hr with⟨h4,h5,rfl,rfl,rfl⟩|⟨rfl|rfl,rfl,rfl,rfl,rfl⟩|⟨rfl,rfl,rfl,rfl,rfl⟩|⟨rfl,rfl,rfl,rfl,rfl⟩|⟨rfl,hb,hm,rfl,rfl,rfl⟩|⟨rfl,hb,hm,rfl,rfl,rfl⟩
 ·simp -implicitDefEqProofs [e1,e3,e4,e5,e6,h4,h5]
 ·simp -implicitDefEqProofs [e1,e3,e4,e5,e6]
 ·simp -implicitDefEqProofs [e1,e3,e4,e5,e6]
 ·simp -implicitDefEqProofs [e1,e3,e4,e5,e6,s6]
 ·simp -implicitDefEqProofs [e1,e3,e4,e5,e6,s6]
 ·simp -implicitDefEqProofs [e1,e3,e4,e5,e6,s6,hb,hm]
 ·simp -implicitDefEqProofs [e1,e3,e4,e5,e6,s6,hb,hm]
theorem zwd(c:WholeCode code)(op a b:Int):callW code ext 579 [i8v op,int64 a,int64 b] []=some (.tup [aval (wholeR op a b).1 (wholeR op a b).2.1,strv (wholeR op a b).2.2],[]):=by
 unfold wholeR
 by_cases h1:op=1
 ·subst h1;exact zwc c 0 (by omega) rfl rfl (sign1 c a b)
 rw[if_neg h1]
 by_cases h2:op=2
 ·subst h2;exact zwc c 1 (by omega) rfl rfl (sign2 c a b)
 rw[if_neg h2]
 by_cases h3:op=3
 ·subst h3;exact zwc c 2 (by omega) rfl rfl (sign3 c a b)
 rw[if_neg h3]
 by_cases h6:op=6
 ·subst h6;exact zwc c 3 (by omega) rfl rfl (sign4 c a b)
 rw[if_neg h6]
 by_cases h7:op=7
 ·subst h7;exact zwc c 4 (by omega) rfl rfl (sign5 c a b)
 rw[if_neg h7]
 refine zwb c op a b _ _ _ (fun h=>h1 h.symm) (fun h=>h2 h.symm) (fun h=>h3 h.symm) (fun h=>h6 h.symm) (fun h=>h7 h.symm) ?_
 by_cases h45:op≠4∧op≠5
 ·rw[if_pos h45];exact .inl ⟨h45.1,h45.2,rfl,rfl,rfl⟩
 ·rw[if_neg h45]
  have h45':op=4∨op=5:=by omega
  by_cases hb:b=0
  ·rw[if_pos hb];exact .inr (.inl ⟨h45',hb,rfl,rfl,rfl⟩)
  ·rw[if_neg hb]
   rcases h45' with rfl|rfl
   ·rw[if_pos rfl]
    by_cases hm:b= -1
    ·simp[hm]
    ·simp[hm,hb]
   ·by_cases hm:b= -1
    ·simp[hm]
    ·simp[hm,hb]
end
end Go.EX


namespace Go.EX
abbrev didP(k n:Int)(t:ByteArray):AV:=.agg [.imm (.val (.int .u8 k)),int64 n,strV t,avb false]
abbrev greatN:ByteArray:=⟨#[103,114,101,97,116]⟩
def sM(nl:Bool)(T:List Obj):Mem:=if nl=true then[.rich [nilS,int64 1152921504606846976,int64 0]]else[.rich [.osl 1 0 5 T.length (some T.length),int64 1152921504606846976,int64 0],.flat (tObj.row T) false]
def sK(nl:Bool)(T:List Obj)(o:Obj)(w:Int):Mem:=if nl=true then[.rich [.osl 1 0 5 1 none,int64 1152921504606846976,int64 w],.flat (tObj.row (T++[o])) false]else[.rich [.osl 2 0 5 (T.length+1) none,int64 1152921504606846976,int64 w],.flat (tObj.row T) false,.flat (tObj.row (T++[o])) false]
structure PlainFns (code:Nat→Option XFun):Prop where
 whole:WholeCode code
 c206:code 206=some x206
 c209:code 209=some x209
 c210:code 210=some x210
 c211:code 211=some x211
 c212:code 212=some x212
 c213:code 213=some x213
 c214:code 214=some x214
 c216:code 216=some x216
 c218:code 218=some x218
 c219:code 219=some x219
 c208:code 208=some x208
 c578:code 578=some x578
 c580:code 580=some x580
 c581:code 581=some x581
 c742:code 742=some x742
def textN(t:ByteArray):Obj:=⟨3,t,⟨.val (.slice none 0 0),[],⟨by simp,by simp,.inl ⟨rfl,rfl⟩⟩⟩,0,0⟩
section
variable {code:Nat→Option XFun} {ext:Calls'}
theorem zmm(h:code 213=some x213){T:List Obj}{q:Nat}(k n:Int)(hq:(q:Int)=n-1)(hN:q<T.length)(hb:T.length≤1000000000):
  callW code ext 213 [.optr 0 0,.agg [.imm (.val (.int .u8 k)),int64 n]] (sM false T)=some (.optr 1 (q*5),sM false T):=by
 have e1:IntKind.wrap .i64 (n-1)=(q:Nat):=by rw[←hq];exact wrapI64 (by omega) (by omega)
 have h2:(q:Int)<T.length:=by omega
 rw[zb5 code ext h]
 unfold sM
 generalize tObj.row T=R
 generalize T.length=N at *
 simp -implicitDefEqProofs [x213,e1,hN,h2]
theorem zm0(h:code 218=some x218)(nl:Bool)(T:List Obj){w:Int}(h0:0≤w)(h1:w≤1000000):
  callW code ext 218 [.optr 0 0,int64 w] (sM nl T)=some (avb true,if nl=true then[.rich [nilS,int64 1152921504606846976,int64 w]]else[.rich [.osl 1 0 5 T.length (some T.length),int64 1152921504606846976,int64 w],.flat (tObj.row T) false]):=by
 have e1:IntKind.wrap .i64 w=w:=wrapI64 (by omega) (by omega)
 have h2:¬(1152921504606846976:Int)<w:=by omega
 rw[zb5 code ext h]
 unfold sM
 generalize tObj.row T=R
 cases nl<;>simp -implicitDefEqProofs [x218,e1,h2]
theorem zm2(t:ByteArray)(ht:t.size≤4096):0≤wordsObj (textN t)∧wordsObj (textN t)≤1000:=by
 have e1:IntKind.wrap .i64 ((t.size:Int)+7)=(t.size:Int)+7:=wrapI64 (by omega) (by omega)
 have e2:((t.size:Int)+7).tdiv 8=((t.size:Int)+7) / 8:=Int.tdiv_eq_ediv_of_nonneg (by omega)
 have e3:IntKind.wrap .i64 (((t.size:Int)+7) / 8)=((t.size:Int)+7) / 8:=wrapI64 (by omega) (by omega)
 have e4:IntKind.wrap .i64 (2+((t.size:Int)+7) / 8)=2+((t.size:Int)+7) / 8:=wrapI64 (by omega) (by omega)
 have:wordsObj (textN t)=2+((t.size:Int)+7) / 8:=by
  unfold wordsObj
  rw[if_pos (show(textN t).k=3 from rfl)]
  show IntKind.wrap .i64 (2+IntKind.wrap .i64 ((IntKind.wrap .i64 ((t.size:Int)+7)).tdiv 8))=_
  rw[e1,e2,e3,e4]
 rw[this]
 omega
theorem zml(c:PlainFns code){nl:Bool}{T:List Obj}(hnl:nl=true→T=[])(hn:T.length≤100000000)(t:ByteArray)(ht:t.size≤4096):
  callW code ext 212 [.optr 0 0,.agg [.imm (.val (.int .u8 3)),strV t,nilS,int64 0,int64 0]] (sM nl T)=
   some (didP 3 ((T.length+1:Nat):Int) .empty,sK nl T (textN t) (wordsObj (textN t))):=by
 obtain⟨m,hs⟩:=ztq (ext:=ext) c.c578 (textN t)
 obtain⟨w0,w1⟩:=zm2 t ht
 have hr:tObj.row (T++[textN t])=tObj.row T++[.val (.int .u8 3),.val (.string t),.val (.slice none 0 0),.val (.int .i64 0),.val (.int .i64 0)]:=by unfold Ty.row;simp[tObj,textN]
 have hc:cut (tObj.row T) 0 (T.length*5)=some (tObj.row T):=zd4 tObj T
 generalize wordsObj (textN t)=w at *
 have htk:=zm0 (ext:=ext) c.c218 nl T w0 (by omega)
 simp only[textN]at hs
 cases nl with
 |true=>
  have hT:=hnl rfl
  subst hT
  have hr0:tObj.row ([]:List Obj)=[]:=rfl
  rw[hr0]at hr
  simp only[List.nil_append]at hr
  rw[zb5 code ext c.c212]
  unfold sM sK at *
  simp only[if_true,List.nil_append]at htk ⊢
  rw[hr]
  simp -implicitDefEqProofs [x212,hs,htk,exAppendX,exAppend,elems]
 |false=>
  rw[zb5 code ext c.c212]
  unfold sM sK at *
  rw[hr]
  simp only[Bool.false_eq_true,if_false]at htk
  generalize tObj.row T=R at *
  have hle:(T.length+1)*64≤140737488355328:=by omega
  have hno:¬(T.length+1≤T.length):=by omega
  generalize T.length=N at *
  simp -implicitDefEqProofs [x212,hs,htk,exAppendX,exAppend,elems,hc,hle,hno]
theorem zm1(c:PlainFns code){nl:Bool}{T:List Obj}(hnl:nl=true→T=[])(hn:T.length≤100000000)(t:ByteArray):
  callW code ext 219 [.optr 0 0,strV t] (sM nl T)=if t.size≤4096 then some (didP 3 ((T.length+1:Nat):Int) .empty,sK nl T (textN t) (wordsObj (textN t)))else some (didP 0 0 greatN,sM nl T):=by
 by_cases ht:t.size≤4096
 ·rw[if_pos ht]
  have hm:=zml (ext:=ext) c hnl hn t ht
  generalize wordsObj (textN t)=w at *
  have ht':¬(4096:Int)<t.size:=by omega
  have ht'':¬4096<t.size:=by omega
  rw[zb5 code ext c.c219]
  unfold sM sK at *
  generalize tObj.row (T++[textN t])=R2 at *
  generalize tObj.row T=R at *
  generalize ((T.length+1:Nat):Int)=N at *
  cases nl
  ·simp only[Bool.false_eq_true,if_false]at hm ⊢
   simp -implicitDefEqProofs [x219,hm,ht',ht'']
  ·simp only[if_true]at hm ⊢
   simp -implicitDefEqProofs [x219,hm,ht',ht'']
 ·rw[if_neg ht]
  have ht':(4096:Int)<t.size:=by omega
  have ht'':4096<t.size:=by omega
  rw[zb5 code ext c.c219]
  unfold sM
  generalize tObj.row T=R at *
  cases nl<;>simp -implicitDefEqProofs [x219,ht',ht'']
end
end Go.EX


namespace Go.EX
def textV(T:List Obj)(v:Val):ByteArray:=match objOf T v with
 |some o=>o.s
 |none=>.empty
def sameN(T:List Obj)(a b:Val):Bool:=
 if a.k≠b.k then false else if a.k=3 then decide (textV T a=textV T b)else decide (a.k=0)||decide (a.n=b.n)
def TextOk(T:List Obj)(v:Val):Prop:=v.k=3→∃k,leadsOf T v=some k
theorem zi3{v:Val}{k:Nat}(h:leadsOf [] v=some k):False:=by
 have:=(zi0 h).1
 simp at this
section
variable {code:Nat→Option XFun} {ext:Calls'}
theorem zrp{T:List Obj}{q:Nat}{o:Obj}(h:T[q]?=some o):(tObj.row T)[q*5+1]?=some (.val (.string o.s)):=by
 have:=zdz (zgi (t:=tObj) h) 1 (by decide)
 simpa [tObj]using this
theorem zmz(c:PlainFns code){nl:Bool}{T:List Obj}(hnl:nl=true→T=[])(hn:T.length≤100000000){a b:Val}(ha:TextOk T a)(hb:TextOk T b):
  callW code ext 216 [.optr 0 0,.agg [.imm (.val (.int .u8 a.k)),int64 a.n],.agg [.imm (.val (.int .u8 b.k)),int64 b.n]] (sM nl T)=some (avb (sameN T a b),sM nl T):=by
 unfold sameN
 by_cases hk:a.k=b.k
 ·rw[if_neg (by simpa using hk)]
  by_cases h3:a.k=3
  ·rw[if_pos h3]
   obtain⟨q,hq⟩:=ha h3
   obtain⟨p,hp⟩:=hb (by omega)
   cases nl with
   |true=>
    have:=hnl rfl
    subst this
    exact absurd hq (fun h=>zi3 h)
   |false=>
    obtain⟨q1,q2,_,_,o,q3,q4⟩:=zi0 hq
    obtain⟨p1,p2,_,_,u,p3,p4⟩:=zi0 hp
    have t1:textV T a=o.s:=by unfold textV objOf;rw[hq];simp[q3]
    have t2:textV T b=u.s:=by unfold textV objOf;rw[hp];simp[p3]
    rw[t1,t2]
    have f1:=zmm (ext:=ext) c.c213 a.k a.n q2 q1 (by omega)
    have f2:=zmm (ext:=ext) c.c213 b.k b.n p2 p1 (by omega)
    have g1:=zrp q3
    have g2:=zrp p3
    have hb3:b.k=3:=by omega
    rw[zb5 code ext c.c216]
    unfold sM at *
    simp only[Bool.false_eq_true,if_false]at f1 f2 ⊢
    rw[h3]at f1
    rw[hb3]at f2
    generalize tObj.row T=R at *
    generalize T.length=N at *
    simp -implicitDefEqProofs [x216,h3,hb3,f1,f2,g1,g2,exLook]
  ·rw[if_neg h3]
   rw[zb5 code ext c.c216]
   unfold sM
   generalize tObj.row T=R at *
   have h3':¬b.k=3:=by omega
   rw[hk]at h3 ⊢
   by_cases h0:b.k=0
   ·cases nl<;>simp -implicitDefEqProofs [x216,h0]
   ·cases nl<;>simp -implicitDefEqProofs [x216,h3',h0]
 ·rw[if_pos hk]
  rw[zb5 code ext c.c216]
  unfold sM
  generalize tObj.row T=R at *
  cases nl<;>simp -implicitDefEqProofs [x216,hk]
end
end Go.EX


namespace Go.EX
def putT(nl:Bool)(T:List Obj)(t:ByteArray):Option (AV×Mem):=
 if t.size≤4096 then some (didP 3 ((T.length+1:Nat):Int) .empty,sK nl T (textN t) (wordsObj (textN t)))else some (didP 0 0 greatN,sM nl T)
section
variable {code:Nat→Option XFun} {ext:Calls'}
theorem zky(c:PlainFns code){T:List Obj}(hn:T.length≤100000000){a b:Val}{p q:Nat}{o u:Obj}(a3:a.k=3)(b3:b.k=3)(ha:leadsOf T a=some p)(hb:leadsOf T b=some q)(ho:T[p]?=some o)(hu:T[q]?=some u)(so:o.s.size≤4096)(su:u.s.size≤4096):
  callW code ext 210 [.optr 0 0,.imm (.val (.int .u8 1)),.agg [.imm (.val (.int .u8 a.k)),int64 a.n],.agg [.imm (.val (.int .u8 b.k)),int64 b.n]] (sM false T)=putT false T (o.s++u.s):=by
 obtain⟨q1,q2,_⟩:=zi0 ha
 obtain⟨p1,p2,_⟩:=zi0 hb
 have f1:=zmm (ext:=ext) c.c213 a.k a.n q2 q1 (by omega)
 have f2:=zmm (ext:=ext) c.c213 b.k b.n p2 p1 (by omega)
 have g1:=zrp ho
 have g2:=zrp hu
 have f3:=zm1 (ext:=ext) c (nl:=false) (T:=T) (fun h=>by cases h) hn (o.s++u.s)
 have hsz:o.s.size+u.s.size≤9223372036854775807:=by omega
 rw[a3]at f1 ⊢
 rw[b3]at f2 ⊢
 rw[zb5 code ext c.c210]
 unfold putT sK sM at *
 simp only[Bool.false_eq_true,if_false]at f1 f2 f3 ⊢
 generalize tObj.row T=R at *
 generalize ht0:o.s++u.s=t at *
 generalize wordsObj (textN t)=w at *
 generalize tObj.row (T++[textN t])=R2 at *
 generalize ((T.length+1:Nat):Int)=N1 at *
 by_cases ht:t.size≤4096
 ·rw[if_pos ht]at f3 ⊢
  simp -implicitDefEqProofs [x210,f1,f2,g1,g2,f3,hsz,ht0,exLook]
 ·rw[if_neg ht]at f3 ⊢
  simp -implicitDefEqProofs [x210,f1,f2,g1,g2,f3,hsz,ht0,exLook]
end
end Go.EX


namespace Go.EX
def sL(nl:Bool)(T:List Obj)(W:List IV)(u:Int):Mem:=if nl=true then[.rich [nilS,int64 1152921504606846976,int64 u],.flat W false]else[.rich [.osl 2 0 5 T.length (some T.length),int64 1152921504606846976,int64 u],.flat W false,.flat (tObj.row T) false]
section
variable {code:Nat→Option XFun} {ext:Calls'}
end
end Go.EX


namespace Go.EX
def sKM(nl:Bool)(T:List Obj)(L:List IV)(o:Obj)(w:Int):Mem:=
 if nl=true then[.rich [.osl 2 0 5 1 none,int64 1152921504606846976,int64 w],.flat L false,.flat (tObj.row (T++[o])) false]
 else[.rich [.osl 3 0 5 (T.length+1) none,int64 1152921504606846976,int64 w],.flat L false,.flat (tObj.row T) false,.flat (tObj.row (T++[o])) false]
section
variable {code:Nat→Option XFun} {ext:Calls'}
theorem cellsN(h:code 580=some x580){lv:IV}{xs:List Val}(hr:Reads tVal lv xs)(hl:xs.length≤100000000):
  ∃m,callW code ext 580 [.imm lv] []=some (avb (xs.any fun v=>decide (v.k=7)),m):=by
 have elen:=zpr hr
 have loop:∃e s',den code ext (.loop [5,6,7] x580L1) ⟨0,[(5,.imm lv),(6,int64 xs.length),(7,int64 0)],[]⟩=some (e,s')∧e≠ .normal∧((e=.exit 0∧(xs.any fun v=>decide (v.k=7))=false∧∃env m,s'=⟨0,env,m⟩)∨(e=.ret∧(xs.any fun v=>decide (v.k=7))=true∧∃m,s'=⟨0,[(2,avb true)],m⟩)):=by
  refine zjp (fun n s=>∃i,n+i=xs.length∧(∀(j:Nat) v,j<i→xs[j]?=some v→v.k≠7)∧s.tidy [5,6,7]=⟨0,[(5,.imm lv),(6,int64 xs.length),(7,int64 i)],[]⟩) _ ?_ xs.length _ ⟨0,by omega,fun j v hj=>absurd hj (Nat.not_lt_zero j),by simp -implicitDefEqProofs []⟩
  rintro n s ⟨i,hi,hno,hst⟩
  rw[hst]
  by_cases hlt:i<xs.length
  ·obtain⟨v,hv⟩:∃v,xs[i]?=some v:=⟨_,List.getElem?_eq_getElem hlt⟩
   obtain⟨row,off,cap,rfl,_,_,hcut⟩:=zps hr hv
   have hcut':cut row (off+i*2) 2=some [.val (.int .u8 v.k),.val (.int .i64 v.n)]:=hcut
   obtain⟨i1,hi1⟩:∃i1,i1=i+1:=⟨_,rfl⟩
   have e1:(i:Int)<xs.length:=by omega
   have e3:IntKind.wrap .i64 ((i:Int)+1)=(i1:Int):=by rw[wrapI64 (by omega) (by omega)];omega
   by_cases h7:v.k=7
   ·have ha:(xs.any fun v=>decide (v.k=7))=true:=List.any_eq_true.2 ⟨v,List.mem_of_getElem? hv,by simpa using h7⟩
    refine⟨.ret,⟨0,[(2,avb true)],[.rich [.imm (.val (.int .u8 v.k)),int64 v.n]]⟩,?_,.inr ⟨by simp,.inr ⟨rfl,ha,_,rfl⟩⟩⟩
    rw[h7]at hcut' ⊢
    generalize xs.length=n at *
    simp -implicitDefEqProofs [x580L1,hcut',e1,hlt]
   ·have key:∃s',den code ext x580L1 ⟨0,[(5,.imm (.slice row off xs.length cap)),(6,int64 xs.length),(7,int64 i)],[]⟩=some (.normal,s')∧s'.tidy [5,6,7]=⟨0,[(5,.imm (.slice row off xs.length cap)),(6,int64 xs.length),(7,int64 i1)],[]⟩:=by
     refine stepN ?_
     generalize xs.length=n at *
     simp -implicitDefEqProofs [x580L1,hcut',e1,e3,hlt,h7]
    obtain⟨s',g1,g2⟩:=key
    refine⟨.normal,s',g1,.inl ⟨rfl,n-1,by omega,i1,by omega,fun j u hj hu=>?_,g2⟩⟩
    by_cases hji:j=i
    ·subst hji;rw[hv]at hu;cases hu;exact h7
    ·exact hno j u (by omega) hu
  ·have hie:i=xs.length:=by omega
   subst hie
   have ha:(xs.any fun v=>decide (v.k=7))=false:=by
    rw[List.any_eq_false]
    intro v hv
    obtain⟨j,hj⟩:=List.getElem?_of_mem hv
    have:=(List.getElem?_eq_some_iff.1 hj).1
    simpa using hno j v this hj
   refine⟨.exit 0,⟨0,[(5,.imm lv),(6,int64 xs.length),(7,int64 xs.length),(8,avb false)],[]⟩,?_,.inr ⟨by simp,.inl ⟨rfl,ha,_,_,rfl⟩⟩⟩
   generalize xs.length=n at *
   simp -implicitDefEqProofs [x580L1]
 refine mem_of ?_
 obtain⟨e,s',h1,_,hq⟩:=loop
 rw[zb5 code ext h]
 rcases hq with⟨rfl,ha,env,m,rfl⟩|⟨rfl,ha,m,rfl⟩
 ·rw[ha]
  generalize xs.length=n at *
  simp -implicitDefEqProofs [x580,elen,h1]
  split<;>rfl
 ·rw[ha]
  generalize xs.length=n at *
  simp -implicitDefEqProofs [x580,elen,h1]
  split<;>rfl
theorem zep(c:PlainFns code)(nl:Bool)(T:List Obj)(op n:Int)(h1:op≠1)(h26:op≠26){xs:List Val}(hl:xs.length≤1000)(hw:∀x∈xs,tVal.wf x)(h7:(xs.any fun v=>decide (v.k=7))=true):
  callW code ext 206 [.optr 0 0,.agg [.imm (.val (.int .u8 op)),int64 n,.osl 1 0 2 xs.length (some xs.length),nilS]] (sL nl T (tVal.row xs) 0)=some (didP 0 0 kindT,sL nl T (tVal.row xs) 0):=by
 obtain⟨m,f1⟩:=cellsN (ext:=ext) c.c580 (lv:=.slice (tVal.row xs) 0 xs.length (some xs.length)) (zpt _ _ hw (by omega) (fun c h=>by cases h;exact Nat.le_refl _)) (by omega)
 rw[h7]at f1
 rw[zb5 code ext c.c206]
 unfold sL
 generalize tVal.row xs=L at *
 generalize tObj.row T=R at *
 generalize xs.length=k at *
 cases nl<;>simp -implicitDefEqProofs [x206,f1,h1,h26]
theorem do_two(c:PlainFns code)(nl:Bool)(T:List Obj){a b:Val}(hw:∀x∈[a,b],tVal.wf x)(h7:([a,b].any fun v=>decide (v.k=7))=false)(k n:Int)(t:ByteArray):
  (callW code ext 210 [.optr 0 0,.imm (.val (.int .u8 1)),.agg [.imm (.val (.int .u8 a.k)),int64 a.n],.agg [.imm (.val (.int .u8 b.k)),int64 b.n]] (sM nl T)=some (didP k n t,sM nl T)→
   callW code ext 206 [.optr 0 0,.agg [.imm (.val (.int .u8 14)),int64 1,.osl 1 0 2 2 (some 2),nilS]] (sL nl T (tVal.row [a,b]) 0)=some (didP k n t,sL nl T (tVal.row [a,b]) 0))∧
  (callW code ext 211 [.optr 0 0,.agg [.imm (.val (.int .u8 a.k)),int64 a.n],.agg [.imm (.val (.int .u8 b.k)),int64 b.n]] (sM nl T)=some (didP k n t,sM nl T)→
   callW code ext 206 [.optr 0 0,.agg [.imm (.val (.int .u8 24)),int64 0,.osl 1 0 2 2 (some 2),nilS]] (sL nl T (tVal.row [a,b]) 0)=some (didP k n t,sL nl T (tVal.row [a,b]) 0)):=by
 obtain⟨m,f1⟩:=cellsN (ext:=ext) c.c580 (lv:=.slice (tVal.row [a,b]) 0 2 (some 2)) (zpt _ _ hw (by simp) (fun c h=>by cases h;exact Nat.le_refl _)) (by simp)
 have hrow:tVal.row [a,b]=[.val (.int .u8 a.k),.val (.int .i64 a.n),.val (.int .u8 b.k),.val (.int .i64 b.n)]:=rfl
 have w1:IntKind.wrap .u8 (1:Int)=1:=rfl
 rw[h7]at f1
 rw[hrow]at f1 ⊢
 constructor
 all_goals
  intro f2
  rw[zb5 code ext c.c206]
  unfold sL sM at *
  generalize tObj.row T=R at *
  cases nl
  ·simp only[Bool.false_eq_true,if_false]at f2 ⊢
   simp -implicitDefEqProofs [x206,f1,f2,w1]
  ·simp only[if_true]at f2 ⊢
   simp -implicitDefEqProofs [x206,f1,f2,w1]
theorem zeq(c:PlainFns code)(nl:Bool)(T:List Obj){a b:Val}(hw:∀x∈[a,b],tVal.wf x)(h7:([a,b].any fun v=>decide (v.k=7))=false)(k n:Int)(t:ByteArray)(o:Obj)(w:Int):
  (callW code ext 210 [.optr 0 0,.imm (.val (.int .u8 1)),.agg [.imm (.val (.int .u8 a.k)),int64 a.n],.agg [.imm (.val (.int .u8 b.k)),int64 b.n]] (sM nl T)=some (didP k n t,sK nl T o w)→
   callW code ext 206 [.optr 0 0,.agg [.imm (.val (.int .u8 14)),int64 1,.osl 1 0 2 2 (some 2),nilS]] (sL nl T (tVal.row [a,b]) 0)=some (didP k n t,sKM nl T (tVal.row [a,b]) o w))∧
  (callW code ext 211 [.optr 0 0,.agg [.imm (.val (.int .u8 a.k)),int64 a.n],.agg [.imm (.val (.int .u8 b.k)),int64 b.n]] (sM nl T)=some (didP k n t,sK nl T o w)→
   callW code ext 206 [.optr 0 0,.agg [.imm (.val (.int .u8 24)),int64 0,.osl 1 0 2 2 (some 2),nilS]] (sL nl T (tVal.row [a,b]) 0)=some (didP k n t,sKM nl T (tVal.row [a,b]) o w)):=by
 obtain⟨m,f1⟩:=cellsN (ext:=ext) c.c580 (lv:=.slice (tVal.row [a,b]) 0 2 (some 2)) (zpt _ _ hw (by simp) (fun c h=>by cases h;exact Nat.le_refl _)) (by simp)
 have hrow:tVal.row [a,b]=[.val (.int .u8 a.k),.val (.int .i64 a.n),.val (.int .u8 b.k),.val (.int .i64 b.n)]:=rfl
 have w1:IntKind.wrap .u8 (1:Int)=1:=rfl
 rw[h7]at f1
 rw[hrow]at f1 ⊢
 constructor
 all_goals
  intro f2
  rw[zb5 code ext c.c206]
  unfold sL sM sK sKM at *
  generalize tObj.row (T++[o])=R2 at *
  generalize tObj.row T=R at *
  cases nl
  ·simp only[Bool.false_eq_true,if_false]at f2 ⊢
   simp -implicitDefEqProofs [x206,f1,f2,w1]
  ·simp only[if_true]at f2 ⊢
   simp -implicitDefEqProofs [x206,f1,f2,w1]
end
end Go.EX


namespace Go.EX
theorem zc6{T:List Obj}(hT:∀o∈T,o.l.xs.length≤1000000):∀o∈T.map cloneObj,o.l.xs.length≤1000000:=by
 intro o ho
 obtain⟨q,hq,rfl⟩:=List.mem_map.1 ho
 have:(cloneObj q).l.xs=q.l.xs:=by
  unfold cloneObj cloneL
  dsimp only
  split<;>rfl
 rw[this]
 exact hT q hq
theorem ztp(T:List Obj):(sizeRow T).all IV.plain=true:=by
 rw[List.all_eq_true]
 intro x hx
 unfold sizeRow at hx
 rw[List.mem_map]at hx
 obtain⟨o,_,rfl⟩:=hx
 rfl
structure StoreN (nl:Bool) (sv:IV) (S:List Obj) (idx:Nat):Prop where
 rd:Reads tObj sv S
 nil:nl=true→sv=.val (.slice none 0 0)∧S=[]
 some:nl=false→isNilIV sv=false
 lt:S.length+1<idx
 l:∀o∈S,o.l.xs.length≤1000000
 len:S.length≤10000000
section
variable {code:Nat→Option XFun} {ext:Calls'}
theorem StoreN.none{nl:Bool}{sv:IV}{S:List Obj}{idx:Nat}(h:StoreN nl sv S idx):S[idx]?=none:=List.getElem?_eq_none (by have:=h.lt;omega)
theorem zun{T:List Obj}{idx:Nat}(h:T[idx]?=none)(b:Bool)(R:List IV):tgtM T idx b R=[.flat R false]:=by
 unfold tgtM;rw[h]
end
end Go.EX


namespace Go.EX
def x640Q:XFun:=⟨[.cell 8 (some 5)],
 (.seq (.region [1,2,3,4,8] [⟨(some 4),.box 1 (.t 0),none⟩,
  ⟨(some 8),.alloc [(.slice none 0 0),(.int .u8 0),(.int .i64 0),(.string .empty),(.int .i64 0)],none⟩])
 (.seq (.region [1,2,3,4,8,9] [⟨(some 13),.load none (.t 4),none⟩,
  ⟨(some 14),.call .own 643 [(.t 13)],none⟩,
  ⟨(some 9),.mv (.t 14),none⟩])
 (.seq (.seq (.region [1,2,3,8,9,17] [⟨(some 15),.mv (.t 3),none⟩,
  ⟨(some 16),.mkClo 641 [(.t 4)],none⟩,
  ⟨(some 17),.call .peek 749 [(.t 15),(.t 16)],none⟩])
 (.cond (.t 17)
  (.seq (.region [8] [⟨(some 18),.mv (.t 9),none⟩,
   ⟨(some 19),.build [(.slice none 0 0),(.int .u8 0),(.int .i64 0),(.string .empty),(.int .i64 0)] [(0,1,(.t 18)),(3,1,(.c (.string ⟨#[107,105,110,100]⟩)))],none⟩,
   ⟨none,.store 5 (.t 8) (.t 19),none⟩])
  .ret)
  .skip))
 (.seq (.region [1,2,3,8,9,10] [⟨(some 20),.mv (.t 9),none⟩,
  ⟨(some 21),.build [(.slice none 0 0),(.int .i64 0),(.int .i64 0)] [(0,1,(.t 20)),(1,1,(.c (.int .i64 1152921504606846976)))],none⟩,
  ⟨(some 22),.box 3 (.t 21),none⟩,
  ⟨(some 10),.mv (.t 22),none⟩])
 (.seq (.region [1,2,3,8,10,11] [⟨(some 23),.mv (.t 9),none⟩,
  ⟨(some 24),.call .own 642 [(.t 23)],none⟩,
  ⟨(some 11),.mv (.t 24),none⟩])
 (.seq (.region [8,10,11,12] [⟨(some 25),.mv (.t 10),none⟩,
  ⟨(some 26),.mv (.t 1),none⟩,
  ⟨(some 27),.mv (.t 2),none⟩,
  ⟨(some 28),.mv (.t 3),none⟩,
  ⟨(some 29),.build [(.int .u8 0),(.int .i64 0),(.slice none 0 0),(.slice none 0 0)] [(0,1,(.t 26)),(1,1,(.t 27)),(2,1,(.t 28))],none⟩,
  ⟨(some 30),.call .share 206 [(.t 25),(.t 29)],none⟩,
  ⟨(some 12),.alloc [(.int .u8 0),(.int .i64 0),(.string .empty),(.bool false)],none⟩,
  ⟨none,.store 4 (.t 12) (.t 30),none⟩])
 (.seq (.region [8] [⟨(some 31),.mv (.t 10),none⟩,
  ⟨(some 32),.nilCheck (.t 31),none⟩,
  ⟨(some 33),.fieldA 0 (.t 32),none⟩,
  ⟨(some 34),.load none (.t 33),none⟩,
  ⟨(some 35),.call .look 643 [(.t 34)],none⟩,
  ⟨(some 36),.fieldA 0 (.t 12),none⟩,
  ⟨(some 37),.load (some 2) (.t 36),none⟩,
  ⟨(some 38),.fieldA 2 (.t 12),none⟩,
  ⟨(some 39),.load none (.t 38),none⟩,
  ⟨(some 40),.mv (.t 10),none⟩,
  ⟨(some 41),.nilCheck (.t 40),none⟩,
  ⟨(some 42),.fieldA 0 (.t 41),none⟩,
  ⟨(some 43),.load none (.t 42),none⟩,
  ⟨(some 44),.mv (.t 11),none⟩,
  ⟨(some 45),.call .view 639 [(.t 43),(.t 44)],none⟩,
  ⟨(some 46),.build [(.slice none 0 0),(.int .u8 0),(.int .i64 0),(.string .empty),(.int .i64 0)] [(0,1,(.t 35)),(1,2,(.t 37)),(3,1,(.t 39)),(4,1,(.t 45))],none⟩,
  ⟨none,.store 5 (.t 8) (.t 46),none⟩])
 .ret)))))))⟩
structure DoQ (code:Nat→Option XFun):Prop extends PlainFns code where
 c640:code 640=some x640Q
 c641:code 641=some x641V
 c642:code 642=some x642
 c639:code 639=some x639
 c749:code 749=some x749
 c759:code 759=some x759
section
variable {code:Nat→Option XFun} {ext:Calls'}
structure TwinK (code:Nat→Option XFun) (ext:Calls'):Prop where
 nil:callW code ext 643 [nilS] []=some (nilS,[])
 imm:∀{sv:IV} {S:List Obj},Reads tObj sv S→isNilIV sv=false→(∀o∈S,o.l.xs.length≤1000000)→S.length≤10000000→callW code ext 643 [.imm sv] []=some (.osl 0 0 5 S.length (some S.length),[.flat (tObj.row (S.map cloneObj)) false])
 obj:∀{T:List Obj} (cap:Option Nat),(∀o∈T,o.l.xs.length≤1000000)→T.length≤100000000→∃X,XM 1 T X∧callW code ext 643 [.osl 0 0 5 T.length cap] [.flat (tObj.row T) false]=some (.osl 1 0 5 T.length (some T.length),.flat (tObj.row T) false::X)
theorem znt{m:Mem}{rid:Nat}{R:List IV}{b:Bool}(h:m[rid]?=some (.flat R b)):order 0 [rid] m=[rid]:=by
 have hl:rid<m.length:=(List.getElem?_eq_some_iff.1 h).1
 unfold order
 simp only[List.take_zero,Mem.refs,List.append_nil,List.range_zero]
 rw[show(1000000000000:Nat)=999999999998+1+1 from rfl,reach]
 simp only[List.not_mem_nil,if_false,hl,if_true,h,Option.getD_some,AObj.refs,List.append_nil,List.nil_append]
 rw[reach]
theorem zjo(k:TwinK code ext){T:List Obj}(cap:Option Nat)(hT:∀o∈T,o.l.xs.length≤1000000)(hn:T.length≤100000000):
  ∃Xf:Nat→Mem,(∀n,XM n T (Xf n))∧∀(s:St) (rid:Nat),s.mem[rid]?=some (.flat (tObj.row T) false)→
   exLook (callW code ext) s 643 [.osl rid 0 5 T.length cap]=some (.osl s.mem.length 0 5 T.length (some T.length),{ s with mem:=s.mem++Xf s.mem.length }):=by
 obtain⟨X,hX,h⟩:=k.obj (T:=T) cap hT hn
 refine⟨fun n=>X.map (AObj.ren fun i=>some (n+(i-1))),fun n=>xm_ren hX fun i hi=>by simp,fun s rid hrid=>?_⟩
 have hrl:rid<s.mem.length:=(List.getElem?_eq_some_iff.1 hrid).1
 have ho:=znt hrid
 have hro:AV.refs.refsL [.osl rid 0 5 T.length cap]=[rid]:=rfl
 have hpk:s.mem.pickAll [rid]=[.flat (tObj.row T) false]:=by simp[Mem.pickAll,hrid,AObj.ren]
 have hrn:AV.ren.renL (place [rid]) [.osl rid 0 5 T.length cap]=[.osl 0 0 5 T.length cap]:=by simp[AV.ren.renL,AV.ren,place]
 have hl1:0<X.length:=by obtain⟨ob,rfl,_⟩:=hX;simp
 have hmap:∀n,X.map (AObj.ren fun i=>if i<1 then[rid][i]? else some (n+(i-1)))=X.map (AObj.ren fun i=>some (n+(i-1))):=fun n=>by
  refine List.map_congr_left fun o ho=>zm6 o fun id hid=>?_
  have:=zws hX o ho id hid
  rw[if_neg (by omega)]
 have hall:(((AV.osl 1 0 5 T.length (some T.length)).refs.all fun j=>decide (j<(AObj.flat (tObj.row T) false::X).length))&&(AObj.flat (tObj.row T) false::X).all fun o=>o.refs.all fun j=>decide (j<(AObj.flat (tObj.row T) false::X).length))=true:=by
  rw[Bool.and_eq_true]
  refine⟨by simp[AV.refs,hl1],?_⟩
  rw[List.all_cons,Bool.and_eq_true]
  refine⟨by simp[AObj.refs],?_⟩
  rw[List.all_eq_true]
  intro o ho
  rw[List.all_eq_true]
  intro r hr
  have:=zws hX o ho r hr
  simp;omega
 unfold exLook
 rw[hro,ho]
 dsimp only
 rw[hpk,hrn,h]
 simp only[List.length_cons,List.length_nil,Nat.zero_add]at hmap hall ⊢
 rw[if_pos]
 ·simp only[List.drop_succ_cons,List.drop_zero,hmap]
  simp[AV.ren]
 ·refine⟨by simp,?_⟩
  rw[Bool.and_eq_true]
  refine⟨by simp[hrid,AObj.isFix,AObj.moved,AObj.refs],hall⟩
theorem zi7{P:Mem}{b q N:Nat}{T:List Obj}{X:Mem}(hX:XM b T X)(hP:P.length=b)(hb:1≤b)(hT:T.length≤10000000){L:List IV}(h0:P[0]?=some (.flat L false)){k n:Int}{t:ByteArray}{w:Int}
  (hq:P[q]?=some (.rich [.osl b 0 5 N (some N),.imm (.val (.int .u8 k)),int64 n,strV t,int64 w])):
  ∃X',XM 1 T X'∧leave ⟨1,[(8,.optr q 0)],P++X⟩ x640Q=some (.agg [.osl 1 0 5 N (some N),.imm (.val (.int .u8 k)),int64 n,strV t,int64 w],.flat L false::X'):=by
 have htk:P.take 1=[.flat L false]:=by
  cases P with
  |nil=>simp at h0
  |cons a r=>simp at h0;simp[h0]
 have ho:=zwq hX hP hb (by rw[htk];rfl) hT
 obtain⟨X',hp,hX'⟩:=zwr hX hP hb (by rw[htk];intro o ho;simp at ho;subst ho;rfl)
 have hpl:=zor (n:=X.length) (i:=0) hb (by rw[xm_len hX];omega)
 refine⟨X',hX',?_⟩
 have hql:q<P.length:=(List.getElem?_eq_some_iff.1 hq).1
 have hq2:(P++X)[q]?=some (.rich [.osl b 0 5 N (some N),.imm (.val (.int .u8 k)),int64 n,strV t,int64 w]):=by rw[List.getElem?_append_left hql];exact hq
 have hlen:¬(P++X).length=1:=by rw[List.length_append,hP,xm_len hX];omega
 have hld:loadAt (P++X) (some 5) (.optr q 0)=some (.agg [.osl b 0 5 N (some N),.imm (.val (.int .u8 k)),int64 n,strV t,int64 w]):=by simp[loadAt,hq2,getCells]
 unfold leave
 simp only[x640Q,XRes.outs,XRes.asIs,List.mapM_cons,List.mapM_nil,resOf,Env.get,if_true,hld,Option.pure_def,Option.bind_eq_bind,Option.bind_some,Option.map_some,wrapRes,hlen,if_false,Bool.false_eq_true]
 simp only[AV.refs,AV.refs.refsL,List.append_nil,List.nil_append,List.cons_append,ho,hp,htk]
 simp only[AV.ren,AV.ren.renL]
 rw[Nat.add_zero]at hpl
 rw[hpl]
def AnyQ(code:Nat→Option XFun)(ext:Calls')(sv:IV)(xs:List Val)(r:Bool):Prop:=
 callW code ext 749 [.osl 0 0 2 xs.length (some xs.length),.clo 641 [.optr 1 0]] [.flat (tVal.row xs) false,.rich [.imm sv]]=some (avb r,[.flat (tVal.row xs) false,.rich [.imm sv]])
theorem zem(c:DoQ code)(k:TwinK code ext){sv:IV}{S:List Obj}(hr:Reads tObj sv S)(hz:isNilIV sv=false)(hS:∀o∈S,o.l.xs.length≤1000000)(hn:S.length≤10000000){xs:List Val}(hl:xs.length≤1000)(ha:AnyQ code ext sv xs false)(op n0 kk n:Int)(t:ByteArray)
  (hd:callW code ext 206 [.optr 0 0,.agg [.imm (.val (.int .u8 op)),int64 n0,.osl 1 0 2 xs.length (some xs.length),nilS]] (sL false (S.map cloneObj) (tVal.row xs) 0)=some (didP kk n t,sL false (S.map cloneObj) (tVal.row xs) 0)):
  ∃X,XM 1 (S.map cloneObj) X∧callW code ext 640 [.imm sv,.imm (.val (.int .u8 op)),int64 n0,.osl 0 0 2 xs.length (some xs.length)] [.flat (tVal.row xs) false]=
   some (.agg [.osl 1 0 5 S.length (some S.length),.imm (.val (.int .u8 kk)),int64 n,strV t,int64 0],.flat (tVal.row xs) false::X):=by
 unfold AnyQ at ha
 have h1:=k.imm hr hz hS hn
 have hml:(S.map cloneObj).length=S.length:=List.length_map ..
 obtain⟨Xf,hX,h2⟩:=zjo k (T:=S.map cloneObj) (some S.length) (zc6 hS) (by rw[hml];omega)
 have h3:=zts (ext:=ext) (T:=S.map cloneObj) c.c642 c.c578 (some S.length) (zd4 tObj _) (by rw[hml];omega)
 have h4:=zbg (ext:=ext) (T:=S.map cloneObj) (B:=[]) c.c639 c.c578 (some S.length) (by rw[List.append_nil];exact zd4 tObj _) (by rw[List.append_nil,hml];omega)
 rw[List.append_nil,show askSum []=0 from rfl]at h4
 unfold sizeV sizeM at h3
 unfold wasV at h4
 rw[hml]at h2 h3 h4
 have hW:=ztp (S.map cloneObj)
 rw[zb5 code ext c.c640]
 unfold sL at hd
 rw[hml]at hd
 simp only[Bool.false_eq_true,if_false]at hd ⊢
 have hTl:(S.map cloneObj).length≤10000000:=by rw[hml];exact hn
 generalize sizeRow (S.map cloneObj)=W at *
 generalize tObj.row (S.map cloneObj)=R1 at *
 generalize S.map cloneObj=T at *
 generalize tVal.row xs=L at *
 generalize xs.length=m at *
 by_cases h0:S.length=0
 ·rw[if_pos h0,if_pos h0]at h3
  rw[if_pos h0]at h4
  generalize S.length=N at *
  have hb:∃P b q,XM b T (Xf b)∧P.length=b∧1≤b∧P[0]?=some (.flat L false)∧P[q]?=some (.rich [.osl b 0 5 N (some N),.imm (.val (.int .u8 kk)),int64 n,strV t,int64 0])∧
    den code ext x640Q.body ⟨1,enter 0 [.imm sv,.imm (.val (.int .u8 op)),int64 n0,.osl 0 0 2 m (some m)],[.flat L false]⟩=some (.ret,⟨1,[(8,.optr q 0)],P++Xf b⟩):=by
   refine⟨[.flat L false,.rich [.imm sv],.rich [.osl 6 0 5 N (some N),.imm (.val (.int .u8 kk)),int64 n,strV t,int64 0],.flat R1 false,.rich [.osl 3 0 5 N (some N),int64 1152921504606846976,int64 0],.rich [.imm (.val (.int .u8 kk)),int64 n,strV t,avb false]],6,2,hX 6,rfl,by decide,rfl,rfl,?_⟩
   simp -implicitDefEqProofs [-IV.plain,x640Q,-exLook,h1,h2,h3,h4,ha,hd,hW]
  obtain⟨P,b,q,g1,g2,g3,g4,g5,g6⟩:=hb
  obtain⟨X',g7,g8⟩:=zi7 g1 g2 g3 hTl g4 g5
  refine⟨X',g7,?_⟩
  simp only[List.length_cons,List.length_nil,Nat.zero_add]
  rw[g6]
  exact g8
 ·rw[if_neg h0,if_neg h0]at h3
  rw[if_neg h0]at h4
  generalize S.length=N at *
  have hb:∃P b q,XM b T (Xf b)∧P.length=b∧1≤b∧P[0]?=some (.flat L false)∧P[q]?=some (.rich [.osl b 0 5 N (some N),.imm (.val (.int .u8 kk)),int64 n,strV t,int64 0])∧
    den code ext x640Q.body ⟨1,enter 0 [.imm sv,.imm (.val (.int .u8 op)),int64 n0,.osl 0 0 2 m (some m)],[.flat L false]⟩=some (.ret,⟨1,[(8,.optr q 0)],P++Xf b⟩):=by
   refine⟨[.flat L false,.rich [.imm sv],.rich [.osl 7 0 5 N (some N),.imm (.val (.int .u8 kk)),int64 n,strV t,int64 0],.flat R1 false,.rich [.osl 3 0 5 N (some N),int64 1152921504606846976,int64 0],.flat W false,.rich [.imm (.val (.int .u8 kk)),int64 n,strV t,avb false]],7,2,hX 7,rfl,by decide,rfl,rfl,?_⟩
   simp -implicitDefEqProofs [-IV.plain,x640Q,-exLook,h1,h2,h3,h4,ha,hd,hW]
  obtain⟨P,b,q,g1,g2,g3,g4,g5,g6⟩:=hb
  obtain⟨X',g7,g8⟩:=zi7 g1 g2 g3 hTl g4 g5
  refine⟨X',g7,?_⟩
  simp only[List.length_cons,List.length_nil,Nat.zero_add]
  rw[g6]
  exact g8
end
end Go.EX


namespace Go.EX
section
variable {code:Nat→Option XFun} {ext:Calls'}
theorem zel(c:DoQ code){sv:IV}{S:List Obj}{X:Mem}(hX:XM 0 S X)(hn:S.length≤10000000)(h1:callW code ext 643 [.imm sv] []=some (.osl 0 0 5 S.length (some S.length),X)){xs:List Val}(ha:AnyQ code ext sv xs true)(op n0:Int):
  ∃X',XM 1 S X'∧callW code ext 640 [.imm sv,.imm (.val (.int .u8 op)),int64 n0,.osl 0 0 2 xs.length (some xs.length)] [.flat (tVal.row xs) false]=
   some (.agg [.osl 1 0 5 S.length (some S.length),.imm (.val (.int .u8 0)),int64 0,strV ⟨#[107,105,110,100]⟩,int64 0],.flat (tVal.row xs) false::X'):=by
 unfold AnyQ at ha
 rw[zb5 code ext c.c640]
 generalize tVal.row xs=L at *
 generalize xs.length=m at *
 have hX3:XM 3 S (X.map (AObj.ren fun i=>some (3+i))):=xm_ren hX fun i hi=>by simp only[Nat.zero_add]
 have hb:den code ext x640Q.body ⟨1,enter 0 [.imm sv,.imm (.val (.int .u8 op)),int64 n0,.osl 0 0 2 m (some m)],[.flat L false]⟩=some (.ret,⟨1,[(8,.optr 2 0)],[.flat L false,.rich [.imm sv],.rich [.osl 3 0 5 S.length (some S.length),.imm (.val (.int .u8 0)),int64 0,strV ⟨#[107,105,110,100]⟩,int64 0]]++X.map (AObj.ren fun i=>some (3+i))⟩):=by
  generalize S.length=N at *
  simp -implicitDefEqProofs [-IV.plain,x640Q,h1,ha]
 obtain⟨X',g7,g8⟩:=zi7 (q:=2) (P:=[.flat L false,.rich [.imm sv],.rich [.osl 3 0 5 S.length (some S.length),.imm (.val (.int .u8 0)),int64 0,strV ⟨#[107,105,110,100]⟩,int64 0]]) hX3 rfl (by decide) hn rfl rfl
 refine⟨X',g7,?_⟩
 simp only[List.length_cons,List.length_nil,Nat.zero_add]
 rw[hb]
 exact g8
theorem zen(c:DoQ code)(k:TwinK code ext){sv:IV}{S:List Obj}(hr:Reads tObj sv S)(hz:isNilIV sv=false)(hS:∀o∈S,o.l.xs.length≤1000000)(hn:S.length≤1000000){xs:List Val}(hl:xs.length≤1000)(ha:AnyQ code ext sv xs false)(op n0 kk n:Int)(t:ByteArray){o:Obj}(hol:o.l.xs=[])(w:Int)
  (hd:callW code ext 206 [.optr 0 0,.agg [.imm (.val (.int .u8 op)),int64 n0,.osl 1 0 2 xs.length (some xs.length),nilS]] (sL false (S.map cloneObj) (tVal.row xs) 0)=some (didP kk n t,sKM false (S.map cloneObj) (tVal.row xs) o w)):
  ∃X,XM 1 (S.map cloneObj++[o]) X∧callW code ext 640 [.imm sv,.imm (.val (.int .u8 op)),int64 n0,.osl 0 0 2 xs.length (some xs.length)] [.flat (tVal.row xs) false]=
   some (.agg [.osl 1 0 5 (S.length+1) (some (S.length+1)),.imm (.val (.int .u8 kk)),int64 n,strV t,int64 (askSum [o])],.flat (tVal.row xs) false::X):=by
 unfold AnyQ at ha
 have h1:=k.imm hr hz hS (by omega)
 have hml:(S.map cloneObj).length=S.length:=List.length_map ..
 have hml1:(S.map cloneObj++[o]).length=S.length+1:=by rw[List.length_append,hml];rfl
 have hTl:∀q∈S.map cloneObj++[o],q.l.xs.length≤1000000:=by
  intro q hq
  rcases List.mem_append.1 hq with hq|hq
  ·exact zc6 hS q hq
  ·rw[List.mem_singleton.1 hq,hol];simp
 obtain⟨Xf,hX,h2⟩:=zjo k (T:=S.map cloneObj++[o]) none hTl (by rw[hml1];omega)
 have h3:=zts (ext:=ext) (T:=S.map cloneObj) c.c642 c.c578 (some S.length) (zd4 tObj _) (by rw[hml];omega)
 have h4:=zbg (ext:=ext) (T:=S.map cloneObj) (B:=[o]) c.c639 c.c578 none (zd4 tObj _) (by rw[hml1];omega)
 unfold sizeV sizeM at h3
 unfold wasV at h4
 rw[hml1]at h2 h4
 rw[hml]at h3 h4
 have hW:=ztp (S.map cloneObj)
 rw[zb5 code ext c.c640]
 unfold sL sKM at hd
 rw[hml]at hd
 simp only[Bool.false_eq_true,if_false]at hd ⊢
 have hTn:(S.map cloneObj++[o]).length≤10000000:=by rw[hml1];omega
 generalize sizeRow (S.map cloneObj)=W at *
 generalize tObj.row (S.map cloneObj++[o])=R2 at *
 generalize tObj.row (S.map cloneObj)=R1 at *
 generalize S.map cloneObj++[o]=T at *
 generalize tVal.row xs=L at *
 generalize xs.length=m at *
 generalize askSum [o]=ask at *
 by_cases h0:S.length=0
 ·rw[if_pos h0,if_pos h0]at h3
  rw[if_pos h0]at h4
  generalize S.length=N at *
  have hb:den code ext x640Q.body ⟨1,enter 0 [.imm sv,.imm (.val (.int .u8 op)),int64 n0,.osl 0 0 2 m (some m)],[.flat L false]⟩=some (.ret,⟨1,[(8,.optr 2 0)],[.flat L false,.rich [.imm sv],.rich [.osl 7 0 5 (N+1) (some (N+1)),.imm (.val (.int .u8 kk)),int64 n,strV t,int64 ask],.flat R1 false,.rich [.osl 5 0 5 (N+1) none,int64 1152921504606846976,int64 w],.flat R2 false,.rich [.imm (.val (.int .u8 kk)),int64 n,strV t,avb false]]++Xf 7⟩):=by
   simp -implicitDefEqProofs [-IV.plain,x640Q,-exLook,h1,h2,h3,h4,ha,hd,hW]
  obtain⟨X',g7,g8⟩:=zi7 (q:=2) (P:=[.flat L false,.rich [.imm sv],.rich [.osl 7 0 5 (N+1) (some (N+1)),.imm (.val (.int .u8 kk)),int64 n,strV t,int64 ask],.flat R1 false,.rich [.osl 5 0 5 (N+1) none,int64 1152921504606846976,int64 w],.flat R2 false,.rich [.imm (.val (.int .u8 kk)),int64 n,strV t,avb false]]) (hX 7) rfl (by decide) hTn rfl rfl
  refine⟨X',g7,?_⟩
  simp only[List.length_cons,List.length_nil,Nat.zero_add]
  rw[hb]
  exact g8
 ·rw[if_neg h0,if_neg h0]at h3
  rw[if_neg h0]at h4
  generalize S.length=N at *
  have hb:den code ext x640Q.body ⟨1,enter 0 [.imm sv,.imm (.val (.int .u8 op)),int64 n0,.osl 0 0 2 m (some m)],[.flat L false]⟩=some (.ret,⟨1,[(8,.optr 2 0)],[.flat L false,.rich [.imm sv],.rich [.osl 8 0 5 (N+1) (some (N+1)),.imm (.val (.int .u8 kk)),int64 n,strV t,int64 ask],.flat R1 false,.rich [.osl 6 0 5 (N+1) none,int64 1152921504606846976,int64 w],.flat W false,.flat R2 false,.rich [.imm (.val (.int .u8 kk)),int64 n,strV t,avb false]]++Xf 8⟩):=by
   simp -implicitDefEqProofs [-IV.plain,x640Q,-exLook,h1,h2,h3,h4,ha,hd,hW]
  obtain⟨X',g7,g8⟩:=zi7 (q:=2) (P:=[.flat L false,.rich [.imm sv],.rich [.osl 8 0 5 (N+1) (some (N+1)),.imm (.val (.int .u8 kk)),int64 n,strV t,int64 ask],.flat R1 false,.rich [.osl 6 0 5 (N+1) none,int64 1152921504606846976,int64 w],.flat W false,.flat R2 false,.rich [.imm (.val (.int .u8 kk)),int64 n,strV t,avb false]]) (hX 8) rfl (by decide) hTn rfl rfl
  refine⟨X',g7,?_⟩
  simp only[List.length_cons,List.length_nil,Nat.zero_add]
  rw[hb]
  exact g8
end
end Go.EX


set_option maxHeartbeats 2000000
namespace Go.EX
section
variable {code:Nat→Option XFun} {ext:Calls'}
theorem truthQ(c:WholeCode code)(b:Bool):callW code ext 588 [avb b] []=some (.agg [.imm (.val (.int .u8 1)),int64 (if b=true then 1 else 0)],[]):=by
 rw[zb5 code ext c.c588]
 cases b<;>simp -implicitDefEqProofs [x588]
theorem zoc (c:PlainFns code) {nl:Bool} {T:List Obj} (hnl:nl=true→T=[]) (hn:T.length≤100000000) {a b:Val} (ha:TextOk T a) (hb:TextOk T b) {op:Int} (hop:op=8∨op=9):
  callW code ext 210 [.optr 0 0,.imm (.val (.int .u8 op)),.agg [.imm (.val (.int .u8 a.k)),int64 a.n],.agg [.imm (.val (.int .u8 b.k)),int64 b.n]] (sM nl T)=some (didP 1 (if (sameN T a b==decide (op=8))=true then 1 else 0) .empty,sM nl T):=by
 have f1:=zmz (ext:=ext) c hnl hn ha hb
 have f2:=truthQ (ext:=ext) c.whole (sameN T a b==decide (op=8))
 generalize sameN T a b=x at *
 rw[zb5 code ext c.c210]
 unfold sM at *
 generalize tObj.row T=R at *
 have ht:=truthQ (ext:=ext) c.whole true
 have hf:=truthQ (ext:=ext) c.whole false
 clear f2
 rcases hop with rfl|rfl
 ·cases nl
  ·simp only[Bool.false_eq_true,if_false]at f1 ⊢
   cases x<;>simp -implicitDefEqProofs [x210,exPeek,f1,ht,hf]
  ·simp only[if_true]at f1 ⊢
   cases x<;>simp -implicitDefEqProofs [x210,exPeek,f1,ht,hf]
 ·cases nl
  ·simp only[Bool.false_eq_true,if_false]at f1 ⊢
   cases x<;>simp -implicitDefEqProofs [x210,exPeek,f1,ht,hf]
  ·simp only[if_true]at f1 ⊢
   cases x<;>simp -implicitDefEqProofs [x210,exPeek,f1,ht,hf]
theorem pb_num (c:PlainFns code) (nl:Bool) (T:List Obj) {op:Int} (h8:¬op=8) (h9:¬op=9) (a b:Int):
  callW code ext 210 [.optr 0 0,.imm (.val (.int .u8 op)),.agg [.imm (.val (.int .u8 2)),int64 a],.agg [.imm (.val (.int .u8 2)),int64 b]] (sM nl T)=some (didP (wholeR op a b).1 (wholeR op a b).2.1 (wholeR op a b).2.2,sM nl T):=by
 have h:callW code ext 579 [.imm (.val (.int .u8 op)),int64 a,int64 b] []=some (.tup [.agg [.imm (.val (.int .u8 (wholeR op a b).1)),int64 (wholeR op a b).2.1],strV (wholeR op a b).2.2],[]):=zwd (ext:=ext) c.whole op a b
 generalize wholeR op a b=z at *
 obtain⟨z1,z2,z3⟩:=z
 rw[zb5 code ext c.c210]
 unfold sM
 generalize tObj.row T=R
 cases nl<;>simp -implicitDefEqProofs [x210,h,h8,h9]
theorem zob (c:PlainFns code) (nl:Bool) (T:List Obj) {op:Int} (h8:¬op=8) (h9:¬op=9) {a b:Val} (h2:¬(a.k=2∧b.k=2)) (h3:¬(a.k=3∧b.k=3)):
  callW code ext 210 [.optr 0 0,.imm (.val (.int .u8 op)),.agg [.imm (.val (.int .u8 a.k)),int64 a.n],.agg [.imm (.val (.int .u8 b.k)),int64 b.n]] (sM nl T)=some (didP 0 0 kindT,sM nl T):=by
 rw[zb5 code ext c.c210]
 unfold sM
 generalize tObj.row T=R
 by_cases a2:a.k=2
 ·have b2:¬b.k=2:=fun h=>h2 ⟨a2,h⟩
  cases nl<;>simp -implicitDefEqProofs [x210,a2,b2,h8,h9]
 ·by_cases a3:a.k=3
  ·have b3:¬b.k=3:=fun h=>h3 ⟨a3,h⟩
   cases nl<;>simp -implicitDefEqProofs [x210,a3,b3,h8,h9]
  ·cases nl<;>simp -implicitDefEqProofs [x210,a2,a3,h8,h9]
theorem zod (c:PlainFns code) {T:List Obj} (hn:T.length≤100000000) {op:Int} (h8:¬op=8) (h9:¬op=9) (h1:¬op=1) {a b:Val} {p q:Nat} {o u:Obj} (a3:a.k=3) (b3:b.k=3) (ha:leadsOf T a=some p) (hb:leadsOf T b=some q) (ho:T[p]?=some o) (hu:T[q]?=some u):
  callW code ext 210 [.optr 0 0,.imm (.val (.int .u8 op)),.agg [.imm (.val (.int .u8 a.k)),int64 a.n],.agg [.imm (.val (.int .u8 b.k)),int64 b.n]] (sM false T)=
   some (if op=6 then didP 1 (if Op.bytesLess o.s.toList u.s.toList=true then 1 else 0) .empty else if op=7 then didP 1 (if (Op.bytesLess o.s.toList u.s.toList||o.s.toList==u.s.toList)=true then 1 else 0) .empty else didP 0 0 kindT,sM false T):=by
 obtain⟨q1,q2,_⟩:=zi0 ha
 obtain⟨p1,p2,_⟩:=zi0 hb
 have f1:=zmm (ext:=ext) c.c213 a.k a.n q2 q1 (by omega)
 have f2:=zmm (ext:=ext) c.c213 b.k b.n p2 p1 (by omega)
 have g1:=zrp ho
 have g2:=zrp hu
 have t1:=truthQ (ext:=ext) c.whole (Op.bytesLess o.s.toList u.s.toList)
 have t2:=truthQ (ext:=ext) c.whole (Op.bytesLess o.s.toList u.s.toList||o.s.toList==u.s.toList)
 rw[a3]at f1 ⊢
 rw[b3]at f2 ⊢
 rw[zb5 code ext c.c210]
 unfold sM at *
 simp only[Bool.false_eq_true,if_false]at f1 f2 ⊢
 generalize tObj.row T=R at *
 generalize hx:Op.bytesLess o.s.toList u.s.toList=x at *
 by_cases h6:op=6
 ·subst h6
  simp -implicitDefEqProofs [x210,f1,f2,g1,g2,exLook,hx,t1]
 ·by_cases h7:op=7
  ·subst h7
   simp -implicitDefEqProofs [x210,f1,f2,g1,g2,exLook,hx]at t2 ⊢
   simp -implicitDefEqProofs [x210,f1,f2,g1,g2,exLook,hx,t2]
  ·simp -implicitDefEqProofs [x210,f1,f2,g1,g2,exLook,h8,h9,h1,h6,h7]
theorem do_bin (c:PlainFns code) (nl:Bool) (T:List Obj) {op:Int} (h0:0≤op) (h255:op≤255) {a b:Val} (hw:∀x∈[a,b],tVal.wf x) (h7:([a,b].any fun v=>decide (v.k=7))=false) (k n:Int) (t:ByteArray) {mP mQ:Mem} (hm:mP=sM nl T∧mQ=sL nl T (tVal.row [a,b]) 0)
  (f2:callW code ext 210 [.optr 0 0,.imm (.val (.int .u8 op)),.agg [.imm (.val (.int .u8 a.k)),int64 a.n],.agg [.imm (.val (.int .u8 b.k)),int64 b.n]] (sM nl T)=some (didP k n t,mP)):
  callW code ext 206 [.optr 0 0,.agg [.imm (.val (.int .u8 14)),int64 op,.osl 1 0 2 2 (some 2),nilS]] (sL nl T (tVal.row [a,b]) 0)=some (didP k n t,mQ):=by
 obtain⟨rfl,rfl⟩:=hm
 obtain⟨m,f1⟩:=cellsN (ext:=ext) c.c580 (lv:=.slice (tVal.row [a,b]) 0 2 (some 2)) (zpt _ _ hw (by simp) (fun c h=>by cases h;exact Nat.le_refl _)) (by simp)
 have hrow:tVal.row [a,b]=[.val (.int .u8 a.k),.val (.int .i64 a.n),.val (.int .u8 b.k),.val (.int .i64 b.n)]:=rfl
 have w1:IntKind.wrap .u8 op=op:=wrapU8 h0 h255
 rw[h7]at f1
 rw[hrow]at f1 ⊢
 rw[zb5 code ext c.c206]
 unfold sL sM at *
 generalize tObj.row T=R at *
 cases nl
 ·simp only[Bool.false_eq_true,if_false]at f2 ⊢
  simp -implicitDefEqProofs [x206,f1,f2,w1]
 ·simp only[if_true]at f2 ⊢
  simp -implicitDefEqProofs [x206,f1,f2,w1]
end
end Go.EX


namespace Go.EX
def x627Q:XFun:=⟨[.cell 8 (some 5)],
 (.seq (.region [0,1,6,7,8] [⟨(some 6),.box 2 (.t 2),none⟩,
  ⟨(some 7),.box 2 (.t 3),none⟩,
  ⟨(some 8),.alloc [(.slice none 0 0),(.int .u8 0),(.int .i64 0),(.string .empty),(.int .i64 0)],none⟩])
 (.seq (.region [8] [⟨(some 9),.mv (.t 0),none⟩,
  ⟨(some 10),.mv (.t 1),none⟩,
  ⟨(some 11),.conv .i64 (.t 10),none⟩,
  ⟨(some 12),.load (some 2) (.t 6),none⟩,
  ⟨(some 13),.load (some 2) (.t 7),none⟩,
  ⟨(some 14),.buildSlice 2 [(.int .u8 0),(.int .i64 0)] 2 [(0,2,(.t 12)),(2,2,(.t 13))],none⟩,
  ⟨(some 15),.call .look 640 [(.t 9),(.c (.int .u8 14)),(.t 11),(.t 14)],none⟩,
  ⟨none,.store 5 (.t 8) (.t 15),none⟩])
 .ret))⟩
section
variable {code:Nat→Option XFun} {ext:Calls'}
theorem zjm{N:Nat}{T:List Obj}{X:Mem}(hX:XM 1 T X){sv:IV}{op n0 kk n w:Int}{t:ByteArray}{L:List IV}{m:Nat}{cap:Option Nat}
  (h:callW code ext 640 [.imm sv,.imm (.val (.int .u8 op)),int64 n0,.osl 0 0 2 m cap] [.flat L false]=some (.agg [.osl 1 0 5 N (some N),.imm (.val (.int .u8 kk)),int64 n,strV t,int64 w],.flat L false::X)):
  ∃Xf:Nat→Mem,(∀n,XM n T (Xf n))∧∀(s:St) (rid:Nat),s.mem[rid]?=some (.flat L false)→
   exLook (callW code ext) s 640 [.imm sv,.imm (.val (.int .u8 op)),int64 n0,.osl rid 0 2 m cap]=some (.agg [.osl s.mem.length 0 5 N (some N),.imm (.val (.int .u8 kk)),int64 n,strV t,int64 w],{ s with mem:=s.mem++Xf s.mem.length }):=by
 refine⟨fun n=>X.map (AObj.ren fun i=>some (n+(i-1))),fun n=>xm_ren hX fun i hi=>by simp,fun s rid hrid=>?_⟩
 have hrl:rid<s.mem.length:=(List.getElem?_eq_some_iff.1 hrid).1
 have ho:=znt hrid
 have hro:AV.refs.refsL [.imm sv,.imm (.val (.int .u8 op)),int64 n0,.osl rid 0 2 m cap]=[rid]:=rfl
 have hpk:s.mem.pickAll [rid]=[.flat L false]:=by simp[Mem.pickAll,hrid,AObj.ren]
 have hrn:AV.ren.renL (place [rid]) [.imm sv,.imm (.val (.int .u8 op)),int64 n0,.osl rid 0 2 m cap]=[.imm sv,.imm (.val (.int .u8 op)),int64 n0,.osl 0 0 2 m cap]:=by simp[AV.ren.renL,AV.ren,place]
 have hl1:0<X.length:=by obtain⟨ob,rfl,_⟩:=hX;simp
 have hmap:∀n,X.map (AObj.ren fun i=>if i<1 then[rid][i]? else some (n+(i-1)))=X.map (AObj.ren fun i=>some (n+(i-1))):=fun n=>by
  refine List.map_congr_left fun o ho=>zm6 o fun id hid=>?_
  have:=zws hX o ho id hid
  rw[if_neg (by omega)]
 have hall:(((AV.agg [.osl 1 0 5 N (some N),.imm (.val (.int .u8 kk)),int64 n,strV t,int64 w]).refs.all fun j=>decide (j<(AObj.flat L false::X).length))&&(AObj.flat L false::X).all fun o=>o.refs.all fun j=>decide (j<(AObj.flat L false::X).length))=true:=by
  rw[Bool.and_eq_true]
  refine⟨by simp[AV.refs,AV.refs.refsL,hl1],?_⟩
  rw[List.all_cons,Bool.and_eq_true]
  refine⟨by simp[AObj.refs],?_⟩
  rw[List.all_eq_true]
  intro o ho
  rw[List.all_eq_true]
  intro r hr
  have:=zws hX o ho r hr
  simp;omega
 unfold exLook
 rw[hro,ho]
 dsimp only
 rw[hpk,hrn,h]
 simp only[List.length_cons,List.length_nil,Nat.zero_add]at hmap hall ⊢
 rw[if_pos]
 ·simp only[List.drop_succ_cons,List.drop_zero,hmap]
  simp[AV.ren,AV.ren.renL]
 ·refine⟨by simp,?_⟩
  rw[Bool.and_eq_true]
  refine⟨by simp[hrid,AObj.isFix,AObj.moved,AObj.refs],hall⟩
theorem zi6{P:Mem}{b q N:Nat}{T:List Obj}{X:Mem}(hX:XM b T X)(hP:P.length=b)(hb:1≤b)(hT:T.length≤10000000){k n:Int}{t:ByteArray}{w:Int}
  (hq:P[q]?=some (.rich [.osl b 0 5 N (some N),.imm (.val (.int .u8 k)),int64 n,strV t,int64 w])):
  ∃X',XM 0 T X'∧leave ⟨0,[(8,.optr q 0)],P++X⟩ x627Q=some (.agg [.osl 0 0 5 N (some N),.imm (.val (.int .u8 k)),int64 n,strV t,int64 w],X'):=by
 have ho:=zwq (k:=0) hX hP (by omega) rfl hT
 obtain⟨X',hp,hX'⟩:=zwr (k:=0) hX hP (by omega) (by simp)
 have hpl:=zor (k:=0) (b:=b) (n:=X.length) (i:=0) (by omega) (by rw[xm_len hX];omega)
 refine⟨X',hX',?_⟩
 have hql:q<P.length:=(List.getElem?_eq_some_iff.1 hq).1
 have hq2:(P++X)[q]?=some (.rich [.osl b 0 5 N (some N),.imm (.val (.int .u8 k)),int64 n,strV t,int64 w]):=by rw[List.getElem?_append_left hql];exact hq
 have hlen:¬(P++X).length=0:=by rw[List.length_append,hP,xm_len hX];omega
 have hld:loadAt (P++X) (some 5) (.optr q 0)=some (.agg [.osl b 0 5 N (some N),.imm (.val (.int .u8 k)),int64 n,strV t,int64 w]):=by simp[loadAt,hq2,getCells]
 unfold leave
 simp only[x627Q,XRes.outs,XRes.asIs,List.mapM_cons,List.mapM_nil,resOf,Env.get,if_true,hld,Option.pure_def,Option.bind_eq_bind,Option.bind_some,Option.map_some,wrapRes,hlen,if_false,Bool.false_eq_true]
 simp only[AV.refs,AV.refs.refsL,List.append_nil,List.nil_append,List.cons_append,ho,hp,List.take_zero]
 simp only[AV.ren,AV.ren.renL]
 rw[Nat.add_zero]at hpl
 rw[hpl]
theorem row2(a b:Val):tVal.row [a,b]=[.val (.int .u8 a.k),.val (.int .i64 a.n),.val (.int .u8 b.k),.val (.int .i64 b.n)]:=rfl
theorem binQ(h:code 627=some x627Q){N:Nat}{T:List Obj}(hT:T.length≤10000000){sv:IV}{op kk n w:Int}{t:ByteArray}{a b:Val}
  (hd:∃X,XM 1 T X∧callW code ext 640 [.imm sv,.imm (.val (.int .u8 14)),int64 op,.osl 0 0 2 2 (some 2)] [.flat (tVal.row [a,b]) false]=some (.agg [.osl 1 0 5 N (some N),.imm (.val (.int .u8 kk)),int64 n,strV t,int64 w],.flat (tVal.row [a,b]) false::X))
  (h0:0≤op) (h255:op≤255):
  ∃X,XM 0 T X∧callW code ext 627 [.imm sv,.imm (.val (.int .u8 op)),.agg [.imm (.val (.int .u8 a.k)),int64 a.n],.agg [.imm (.val (.int .u8 b.k)),int64 b.n]] []=some (.agg [.osl 0 0 5 N (some N),.imm (.val (.int .u8 kk)),int64 n,strV t,int64 w],X):=by
 obtain⟨X,hX,hd⟩:=hd
 obtain⟨Xf,hXf,hl⟩:=zjm hX hd
 have w1:IntKind.wrap .i64 op=op:=wrapI64 (by omega) (by omega)
 rw[row2]at hl
 have hb:den code ext x627Q.body ⟨0,enter 0 [.imm sv,.imm (.val (.int .u8 op)),.agg [.imm (.val (.int .u8 a.k)),int64 a.n],.agg [.imm (.val (.int .u8 b.k)),int64 b.n]],[]⟩=some (.ret,⟨0,[(8,.optr 2 0)],[.rich [.imm (.val (.int .u8 a.k)),int64 a.n],.rich [.imm (.val (.int .u8 b.k)),int64 b.n],.rich [.osl 4 0 5 N (some N),.imm (.val (.int .u8 kk)),int64 n,strV t,int64 w],.flat [.val (.int .u8 a.k),.val (.int .i64 a.n),.val (.int .u8 b.k),.val (.int .i64 b.n)] false]++Xf 4⟩):=by
  simp -implicitDefEqProofs [-IV.plain,x627Q,-exLook,w1,hl]
 obtain⟨X',g7,g8⟩:=zi6 (q:=2) (P:=[.rich [.imm (.val (.int .u8 a.k)),int64 a.n],.rich [.imm (.val (.int .u8 b.k)),int64 b.n],.rich [.osl 4 0 5 N (some N),.imm (.val (.int .u8 kk)),int64 n,strV t,int64 w],.flat [.val (.int .u8 a.k),.val (.int .i64 a.n),.val (.int .u8 b.k),.val (.int .i64 b.n)] false]) (hXf 4) rfl (by decide) hT rfl
 refine⟨X',g7,?_⟩
 rw[zb5 code ext h]
 simp only[List.length_nil]
 rw[hb]
 exact g8
end
end Go.EX


namespace Go.EX
def valOf(S:List Obj)(v:Val):Bool:=if v.k=0 then decide (v.n=0)else if v.k=1 then decide (v.n=0∨v.n=1)else if v.k=2 then true else(leadsOf S v).isSome
section
variable {code:Nat→Option XFun} {ext:Calls'}
theorem zpz(h:code 502=some x502)(h':code 510=some x510){sv:IV}{S:List Obj}(hr:Reads tObj sv S)(v:Val):callW code ext 510 [.imm sv,.agg [.imm (.val (.int .u8 v.k)),int64 v.n]] []=some (avb (valOf S v),[]):=by
 rw[zb5 code ext h']
 have hl:=zi4 (ext:=ext) h hr v
 by_cases k0:v.k=0
 ·simp -implicitDefEqProofs [x510,valOf,k0]
 by_cases k1:v.k=1
 ·by_cases n0:v.n=0
  ·simp -implicitDefEqProofs [x510,valOf,k1,n0]
  ·simp -implicitDefEqProofs [x510,valOf,k1,n0]
 by_cases k2:v.k=2
 ·simp -implicitDefEqProofs [x510,valOf,k2]
 unfold leadInt at hl
 cases hq:leadsOf S v with
 |none=>
  rw[hq]at hl
  simp -implicitDefEqProofs [x510,valOf,k0,k1,k2,hq,hl]
 |some q=>
  rw[hq]at hl
  have:(0:Int)≤q:=by omega
  simp -implicitDefEqProofs [x510,valOf,k0,k1,k2,hq,hl,this]
def heldOf(S:List Obj)(l:List Val)(c:Bool):Bool:=l.all fun v=>valOf S v&&(decide (v.k=7)==c)
theorem zpw(h:code 502=some x502)(h':code 510=some x510)(h2:code 506=some x506){sv lv:IV}{S:List Obj}{l:List Val}(hr:Reads tObj sv S)(hl:Reads tVal lv l)(c:Bool):
  callW code ext 506 [.imm sv,.imm lv,avb c] []=some (avb (heldOf S l c),[]):=by
 have hlen:=zpr hl
 have hb:=hl.2.1
 have loop:∃e s',den code ext (.loop [0,1,2,7] x506L1) ⟨0,[(0,.imm sv),(1,.imm lv),(2,avb c),(7,int64 0)],[]⟩=some (e,s')∧e≠ .normal∧
   ((e=.exit 0∧heldOf S l c=true∧s'=⟨0,[(0,.imm sv),(1,.imm lv),(2,avb c),(7,int64 l.length),(11,avb false)],[]⟩)∨(e=.ret∧heldOf S l c=false∧s'=⟨0,[(6,avb false)],[]⟩)):=by
  refine zjp (fun n s=>∃(i:Nat),i+n=l.length∧heldOf S (l.take i) c=true∧s=⟨0,[(0,.imm sv),(1,.imm lv),(2,avb c),(7,int64 (i:Nat))],[]⟩) _ ?_ l.length _ ⟨0,by simp,by simp[heldOf],rfl⟩
  rintro n _ ⟨i,hi,hall,rfl⟩
  by_cases hlt:i<l.length
  ·obtain⟨row,off,cap,rfl,hc,hcut,hget⟩:=zps hl (List.getElem?_eq_getElem hlt)
   have e1:IntKind.wrap .i64 ((i:Int)+1)=(i:Int)+1:=wrapI64 (by omega) (by omega)
   have htk:l.take (i+1)=l.take i++[l[i]]:=by rw[List.take_add_one,List.getElem?_eq_getElem hlt];rfl
   have hmem:=List.getElem_mem hlt
   generalize l[i]=v at hget htk hmem
   simp only[tVal]at hget
   have hv:=zpz (ext:=ext) h h' hr v
   have g0:row[off+i*2]?=some (.val (.int .u8 v.k)):=zdz hget 0 (by omega)
   by_cases hvv:valOf S v=true
   ·by_cases hcc:decide (v.k=7)=c
    ·have g:(valOf S v&&(decide (v.k=7)==c))=true:=by rw[hvv,hcc];simp
     refine⟨.normal,⟨0,[(0,.imm sv),(1,.imm (.slice row off l.length cap)),(2,avb c),(7,int64 ((i:Int)+1))],[]⟩,?_,.inl ⟨rfl,n-1,by omega,i+1,by omega,?_,rfl⟩⟩
     ·simp -implicitDefEqProofs [x506L1,hlt,hget,g0,hv,hvv,hcc,e1]
     ·rw[htk];unfold heldOf at hall ⊢;rw[List.all_append,hall];simp[g]
    ·have g:(valOf S v&&(decide (v.k=7)==c))=false:=by rw[beq_eq_false_iff_ne.2 hcc];simp
     have hcb:(decide (v.k=7)==c)=false:=beq_eq_false_iff_ne.2 hcc
     refine⟨.ret,⟨0,[(6,avb false)],[]⟩,?_,.inr ⟨by simp,.inr ⟨rfl,?_,rfl⟩⟩⟩
     ·simp -implicitDefEqProofs [x506L1,hlt,hget,g0,hv,hvv,hcb]
     ·unfold heldOf;rw[List.all_eq_false];exact⟨v,hmem,by rw[g];simp⟩
   ·have hvf:valOf S v=false:=by simpa using hvv
    refine⟨.ret,⟨0,[(6,avb false)],[]⟩,?_,.inr ⟨by simp,.inr ⟨rfl,?_,rfl⟩⟩⟩
    ·simp -implicitDefEqProofs [x506L1,hlt,hget,g0,hv,hvf]
    ·unfold heldOf;rw[List.all_eq_false];exact⟨v,hmem,by simp[hvf]⟩
  ·have:i=l.length:=by omega
   subst this
   rw[List.take_length]at hall
   refine⟨.exit 0,_,?_,.inr ⟨by simp,.inl ⟨rfl,hall,rfl⟩⟩⟩
   simp -implicitDefEqProofs [x506L1,hlen]
 obtain⟨e,s',l1,_,⟨rfl,hh,rfl⟩|⟨rfl,hh,rfl⟩⟩:=loop
 ·rw[zb5 code ext h2,hh]
  simp -implicitDefEqProofs [x506,l1]
 ·rw[zb5 code ext h2,hh]
  simp -implicitDefEqProofs [x506,l1]
end
end Go.EX


namespace Go.EX
def sAt(S:List Obj)(i:Nat):ByteArray:=match S[i]? with
 |some o=>o.s
 |none=>.empty
def sameOf(S:List Obj)(a b:Val):Bool:=
 if a.k≠b.k then false else if a.k=0 then true else if a.n=b.n then true else if a.k=3 then
  match leadsOf S a,leadsOf S b with
  |some i,some j=>decide (sAt S i=sAt S j)
  |_,_=>false
 else false
def KeysOk(S:List Obj)(l:List Val):Prop:=∀(i k:Nat) (a b:Val),i%2=0→k%2=0→k<i→l[i]?=some a→l[k]?=some b→sameOf S a b=false
section
variable {code:Nat→Option XFun} {ext:Calls'}
theorem zsx(h:code 502=some x502)(h':code 503=some x503){sv:IV}{S:List Obj}(hr:Reads tObj sv S)(a b:Val)(c3:a.k=3)(c3':b.k=3)(cn:¬a.n=b.n):
  callW code ext 503 [.imm sv,.agg [.imm (.val (.int .u8 3)),int64 a.n],.agg [.imm (.val (.int .u8 3)),int64 b.n]] []=some (avb (sameOf S a b),[]):=by
 rw[zb5 code ext h']
 have ha:=zi4 (ext:=ext) h hr a
 have hb:=zi4 (ext:=ext) h hr b
 unfold leadInt at ha hb
 rw[c3]at ha
 rw[c3']at hb
 have hso:sameOf S a b=match leadsOf S a,leadsOf S b with
  |some i,some j=>decide (sAt S i=sAt S j)
  |_,_=>false:=by
  unfold sameOf
  rw[if_neg (by rw[c3,c3'];simp),if_neg (by omega),if_neg cn,if_pos c3]
 rw[hso]
 clear hso
 cases hqa:leadsOf S a with
 |none=>
  rw[hqa]at ha
  cases hqb:leadsOf S b with
  |none=>rw[hqb]at hb;simp -implicitDefEqProofs [x503,cn,ha,hb]
  |some j=>rw[hqb]at hb;simp -implicitDefEqProofs [x503,cn,ha,hb]
 |some i=>
  rw[hqa]at ha
  have hi0:(0:Int)≤i:=by omega
  cases hqb:leadsOf S b with
  |none=>rw[hqb]at hb;simp -implicitDefEqProofs [x503,cn,ha,hb,hi0]
  |some j=>
   rw[hqb]at hb
   have hj0:(0:Int)≤j:=by omega
   obtain⟨hil,_,_,_,o,ho,_⟩:=zi0 hqa
   obtain⟨hjl,_,_,_,p,hp,_⟩:=zi0 hqb
   obtain⟨row,off,cap,rfl,hc,hcut,hget⟩:=zps hr ho
   obtain⟨row',off',cap',he,_,_,hget'⟩:=zps hr hp
   cases he
   simp only[tObj]at hget hget'
   have g1:row[off+i*5+1]?=some (.val (.string o.s)):=zdz hget 1 (by omega)
   have g1':row[off+j*5+1]?=some (.val (.string p.s)):=zdz hget' 1 (by omega)
   have hsi:sAt S i=o.s:=by unfold sAt;rw[ho]
   have hsj:sAt S j=p.s:=by unfold sAt;rw[hp]
   simp -implicitDefEqProofs [x503,cn,ha,hb,hi0,hj0,hil,hjl,g1,g1',hsi,hsj]
theorem zsw(h:code 502=some x502)(h':code 503=some x503){sv:IV}{S:List Obj}(hr:Reads tObj sv S)(a b:Val):
  callW code ext 503 [.imm sv,.agg [.imm (.val (.int .u8 a.k)),int64 a.n],.agg [.imm (.val (.int .u8 b.k)),int64 b.n]] []=some (avb (sameOf S a b),[]):=by
 by_cases c1:a.k=b.k
 case neg=>
  rw[zb5 code ext h']
  simp -implicitDefEqProofs [x503,sameOf,c1]
 by_cases c0:a.k=0
 ·have c0':b.k=0:=by omega
  rw[zb5 code ext h']
  simp -implicitDefEqProofs [x503,sameOf,c0,c0']
 have c0b:¬b.k=0:=by omega
 by_cases cn:a.n=b.n
 ·rw[zb5 code ext h']
  simp -implicitDefEqProofs [x503,sameOf,c1,cn,c0b]
 by_cases c3:a.k=3
 ·rw[c3,show b.k=3 by omega]
  exact zsx h h' hr a b c3 (by omega) cn
 ·have c3':¬b.k=3:=by omega
  have ha:=zi4 (ext:=ext) h hr a
  have hb:=zi4 (ext:=ext) h hr b
  have hso:sameOf S a b=false:=by
   unfold sameOf
   rw[if_neg (by simp[c1]),if_neg c0,if_neg cn,if_neg c3]
  rw[hso,zb5 code ext h']
  rw[c1]at ha ⊢
  simp -implicitDefEqProofs [x503,c0b,cn,c3',ha,hb]
theorem zpx(h:code 502=some x502)(h':code 503=some x503)(h2:code 507=some x507){sv lv:IV}{S:List Obj}{l:List Val}(hr:Reads tObj sv S)(hl:Reads tVal lv l):
  ∃b:Bool,callW code ext 507 [.imm sv,.imm lv] []=some (avb b,[])∧(b=true↔KeysOk S l):=by
 have hlen:=zpr hl
 have hb:=hl.2.1
 have inner:∀i:Nat,i<l.length→i%2=0→∃e s',den code ext (.loop [0,1,5,6] x507L1) ⟨0,[(0,.imm sv),(1,.imm lv),(5,int64 (i:Nat)),(6,int64 0)],[]⟩=some (e,s')∧e≠ .normal∧
   ((e=.exit 2∧(∀k b,k%2=0→k<i→l[k]?=some b→sameOf S (l[i]?.getD zVal) b=false)∧∃q:Nat,s'=⟨0,[(0,.imm sv),(1,.imm lv),(5,int64 (i:Nat)),(6,int64 (q:Nat)),(15,avb false)],[]⟩)∨
    (e=.ret∧(∃k b,k%2=0∧k<i∧l[k]?=some b∧sameOf S (l[i]?.getD zVal) b=true)∧s'=⟨0,[(4,avb false)],[]⟩)):=by
  intro i hi hie
  refine zjp (fun n s=>∃(k:Nat),k%2=0∧n+k=l.length+2∧k<l.length+2∧(∀q b,q%2=0→q<k→l[q]?=some b→sameOf S (l[i]?.getD zVal) b=false∨i≤q)∧s=⟨0,[(0,.imm sv),(1,.imm lv),(5,int64 (i:Nat)),(6,int64 (k:Nat))],[]⟩) _ ?_ (l.length+2) _ ⟨0,rfl,by omega,by omega,fun q b _ h=>by omega,rfl⟩
  rintro n _ ⟨k,hke,hn,hkl,hall,rfl⟩
  by_cases hlt:k<i
  ·have hlk:k<l.length:=by omega
   obtain⟨row,off,cap,rfl,hc,hcut,hget⟩:=zps hl (List.getElem?_eq_getElem hlk)
   obtain⟨row',off',cap',he,_,_,hget'⟩:=zps hl (List.getElem?_eq_getElem hi)
   cases he
   have e1:IntKind.wrap .i64 ((k:Int)+2)=(k:Int)+2:=wrapI64 (by omega) (by omega)
   have hlt':(k:Int)<i:=by omega
   have hki:=List.getElem?_eq_getElem hi
   have hkk:=List.getElem?_eq_getElem hlk
   rw[hki]at hall ⊢
   simp only[Option.getD_some]at hall ⊢
   have hs:=zsw (ext:=ext) h h' hr l[i] l[k]
   generalize l[i]=a at *
   generalize hbk:l[k]=b at *
   simp only[tVal]at hget hget'
   cases hsm:sameOf S a b with
   |true=>
    rw[hsm]at hs
    refine⟨.ret,⟨0,[(4,avb false)],[]⟩,?_,.inr ⟨by simp,.inr ⟨rfl,⟨k,b,hke,hlt,hkk,hsm⟩,rfl⟩⟩⟩
    simp -implicitDefEqProofs [x507L1,hlt,hi,hlk,hget,hget',hs]
   |false=>
    rw[hsm]at hs
    refine⟨.normal,⟨0,[(0,.imm sv),(1,.imm (.slice row off l.length cap)),(5,int64 (i:Nat)),(6,int64 ((k:Int)+2))],[]⟩,?_,.inl ⟨rfl,n-2,by omega,k+2,by omega,by omega,by omega,fun q c hq hqk hc=>?_,rfl⟩⟩
    ·simp -implicitDefEqProofs [x507L1,hlt,hi,hlk,hget,hget',hs,e1]
    ·by_cases hqk':q<k
     ·exact hall q c hq hqk' hc
     ·have:q=k:=by omega
      subst this
      rw[hkk]at hc;cases hc
      exact .inl hsm
  ·refine⟨.exit 2,⟨0,[(0,.imm sv),(1,.imm lv),(5,int64 (i:Nat)),(6,int64 (k:Nat)),(15,avb false)],[]⟩,?_,.inr ⟨by simp,.inl ⟨rfl,fun q b hq hqi hb=>?_,k,rfl⟩⟩⟩
   ·have:¬((k:Int)<i):=by omega
    simp -implicitDefEqProofs [x507L1,this]
   ·rcases hall q b hq (by omega) hb with h|h
    ·exact h
    ·omega
 have outer:∃e s',den code ext (.loop [0,1,5] x507L2) ⟨0,[(0,.imm sv),(1,.imm lv),(5,int64 0)],[]⟩=some (e,s')∧e≠ .normal∧
   ((e=.exit 0∧KeysOk S l∧s'.k=0∧s'.mem=[])∨(e=.ret∧¬KeysOk S l∧s'=⟨0,[(4,avb false)],[]⟩)):=by
  refine zjp (fun n s=>∃(i:Nat),i%2=0∧n+i=l.length+2∧i<l.length+2∧(∀(j k:Nat) (a b:Val),j%2=0→k%2=0→k<j→j<i→l[j]?=some a→l[k]?=some b→sameOf S a b=false)∧s=⟨0,[(0,.imm sv),(1,.imm lv),(5,int64 (i:Nat))],[]⟩) _ ?_ (l.length+2) _ ⟨0,rfl,by omega,by omega,fun j k a b _ _ _ h=>by omega,rfl⟩
  rintro n _ ⟨i,hie,hn,hil,hall,rfl⟩
  by_cases hlt:i<l.length
  ·have e1:IntKind.wrap .i64 ((i:Int)+2)=(i:Int)+2:=wrapI64 (by omega) (by omega)
   have hki:=List.getElem?_eq_getElem hlt
   obtain⟨e,s',g1,_,⟨rfl,hin,q,rfl⟩|⟨rfl,⟨k,b,hke,hk,hkb,hsm⟩,rfl⟩⟩:=inner i hlt hie
   ·rw[hki]at hin
    refine⟨.normal,⟨0,[(0,.imm sv),(1,.imm lv),(5,int64 ((i:Int)+2))],[]⟩,?_,.inl ⟨rfl,n-2,by omega,i+2,by omega,by omega,by omega,fun j k a b hj hk hkj hji ha hb=>?_,rfl⟩⟩
    ·simp -implicitDefEqProofs [x507L2,hlen,hlt,g1,e1]
    ·by_cases hji':j<i
     ·exact hall j k a b hj hk hkj hji' ha hb
     ·have:j=i:=by omega
      subst this
      rw[hki]at ha;cases ha
      exact hin k b hk hkj hb
   ·rw[hki]at hsm
    refine⟨.ret,⟨0,[(4,avb false)],[]⟩,?_,.inr ⟨by simp,.inr ⟨rfl,fun hk'=>?_,rfl⟩⟩⟩
    ·simp -implicitDefEqProofs [x507L2,hlen,hlt,g1]
    ·have:=hk' i k _ b hie hke hk hki hkb
     simp only[Option.getD_some]at hsm
     rw[this]at hsm;cases hsm
  ·refine⟨.exit 0,⟨0,[(0,.imm sv),(1,.imm lv),(5,int64 (i:Nat)),(10,avb false)],[]⟩,?_,.inr ⟨by simp,.inl ⟨rfl,fun j k a b hj hk hkj ha hb=>?_,rfl,rfl⟩⟩⟩
   ·have:¬((i:Int)<l.length):=by omega
    simp -implicitDefEqProofs [x507L2,hlen,this]
   ·exact hall j k a b hj hk hkj (by have:=(List.getElem?_eq_some_iff.1 ha).1;omega) ha hb
 obtain⟨e,s',g1,_,⟨rfl,hk,h3,h4⟩|⟨rfl,hk,rfl⟩⟩:=outer
 ·refine⟨true,?_,by simp[hk]⟩
  rw[zb5 code ext h2]
  simp -implicitDefEqProofs [x507,g1,h3,h4]
 ·refine⟨false,?_,by simp[hk]⟩
  rw[zb5 code ext h2]
  simp -implicitDefEqProofs [x507,g1]
end
end Go.EX


namespace Go.EX
def ObjOk(S:List Obj)(o:Obj):Prop:=
 if o.k=3 then o.s.size≤4096∧o.l.xs=[]∧o.room=0∧o.fn=0
 else if o.k=4 then o.s=.empty∧o.fn=0∧(o.l.xs.length:Int)≤65536∧(o.l.xs.length:Int)≤o.room∧o.room≤262144∧heldOf S o.l.xs false=true
 else if o.k=5 then o.s=.empty∧o.fn=0∧(o.l.xs.length:Int).tmod 2=0∧(o.l.xs.length:Int)≤131072∧(o.l.xs.length:Int)≤o.room∧o.room≤262144∧heldOf S o.l.xs false=true∧KeysOk S o.l.xs
 else if o.k=6 then o.s=.empty∧o.room=0∧0≤o.fn∧o.fn<256∧heldOf S o.l.xs true=true
 else o.s=.empty∧o.room=0∧o.fn=0∧(o.l.xs.length:Int)=1∧heldOf S o.l.xs false=true
abbrev objAV(o:Obj):AV:=.agg [.imm (.val (.int .u8 o.k)),.imm (.val (.string o.s)),.imm o.l.iv,int64 o.room,int64 o.fn]
section
variable {code:Nat→Option XFun} {ext:Calls'}
theorem refObj3(h:code 502=some x502)(h':code 510=some x510)(h2:code 506=some x506)(h3:code 503=some x503)(h4:code 507=some x507)(h5:code 508=some x508){sv:IV}{S:List Obj}(hr:Reads tObj sv S)(o:Obj)(k3:o.k=3):∃b:Bool,callW code ext 508 [.imm sv,objAV o] []=some (avb b,[])∧(b=true↔ObjOk S o):=by
 rw[zb5 code ext h5]
 have hlen:=zpr o.l.ok
 have hok:ObjOk S o↔(o.s.size≤4096∧o.l.xs=[]∧o.room=0∧o.fn=0):=by
  unfold ObjOk
  rw[if_pos k3]
 rw[hok]
 clear hok
 by_cases c1:(o.s.size:Int)≤4096
 case neg=>exact⟨false,by simp -implicitDefEqProofs [x508,k3,hlen,c1],by simp[c1,show ¬o.s.size≤4096 by omega]⟩
 by_cases c2:o.l.xs=[]
 case neg=>exact⟨false,by simp -implicitDefEqProofs [x508,k3,hlen,c1,c2],by simp[c1,c2]⟩
 by_cases c3:o.room=0
 case neg=>exact⟨false,by simp -implicitDefEqProofs [x508,k3,hlen,c1,c2,c3],by simp[c1,c2,c3]⟩
 by_cases c4:o.fn=0
 case neg=>exact⟨false,by simp -implicitDefEqProofs [x508,k3,hlen,c1,c2,c3,c4],by simp[c1,c2,c3,c4]⟩
 exact⟨true,by simp -implicitDefEqProofs [x508,k3,hlen,c1,c2,c3,c4],by simp[c1,c2,c3,c4,show o.s.size≤4096 by omega]⟩
theorem refObj4(h:code 502=some x502)(h':code 510=some x510)(h2:code 506=some x506)(h3:code 503=some x503)(h4:code 507=some x507)(h5:code 508=some x508){sv:IV}{S:List Obj}(hr:Reads tObj sv S)(o:Obj)(k4:o.k=4):∃b:Bool,callW code ext 508 [.imm sv,objAV o] []=some (avb b,[])∧(b=true↔ObjOk S o):=by
 rw[zb5 code ext h5]
 have hlen:=zpr o.l.ok
 have hok:ObjOk S o↔(o.s=.empty∧o.fn=0∧(o.l.xs.length:Int)≤65536∧(o.l.xs.length:Int)≤o.room∧o.room≤262144∧heldOf S o.l.xs false=true):=by
  unfold ObjOk
  rw[if_neg (by omega),if_pos k4]
 rw[hok]
 clear hok
 have hh:=zpw (ext:=ext) h h' h2 hr o.l.ok false
 by_cases c1:o.s=.empty
 case neg=>exact⟨false,by simp -implicitDefEqProofs [x508,k4,hlen,hh,c1],by simp[c1]⟩
 by_cases c2:o.fn=0
 case neg=>exact⟨false,by simp -implicitDefEqProofs [x508,k4,hlen,hh,c1,c2],by simp[c1,c2]⟩
 by_cases c3:(o.l.xs.length:Int)≤65536
 case neg=>exact⟨false,by simp -implicitDefEqProofs [x508,k4,hlen,hh,c1,c2,c3],by simp[c1,c2,c3]⟩
 by_cases c4:(o.l.xs.length:Int)≤o.room
 case neg=>exact⟨false,by simp -implicitDefEqProofs [x508,k4,hlen,hh,c1,c2,c3,c4],by simp[c1,c2,c3,c4]⟩
 by_cases c5:o.room≤262144
 case neg=>exact⟨false,by simp -implicitDefEqProofs [x508,k4,hlen,hh,c1,c2,c3,c4,c5],by simp[c1,c2,c3,c4,c5]⟩
 by_cases c6:heldOf S o.l.xs false=true
 case neg=>
  have c6f:heldOf S o.l.xs false=false:=by simpa using c6
  exact⟨false,by simp -implicitDefEqProofs [x508,k4,hlen,hh,c1,c2,c3,c4,c5,c6f],by simp[c1,c2,c3,c4,c5,c6f]⟩
 exact⟨true,by simp -implicitDefEqProofs [x508,k4,hlen,hh,c1,c2,c3,c4,c5,c6],by simp[c1,c2,c3,c4,c5,c6]⟩
set_option maxHeartbeats 1000000 in
theorem refObj5 (h:code 502=some x502) (h':code 510=some x510) (h2:code 506=some x506) (h3:code 503=some x503) (h4:code 507=some x507) (h5:code 508=some x508) {sv:IV} {S:List Obj} (hr:Reads tObj sv S) (o:Obj) (k5:o.k=5):∃b:Bool,callW code ext 508 [.imm sv,objAV o] []=some (avb b,[])∧(b=true↔ObjOk S o):=by
 rw[zb5 code ext h5]
 have hlen:=zpr o.l.ok
 have hok:ObjOk S o↔(o.s=.empty∧o.fn=0∧(o.l.xs.length:Int).tmod 2=0∧(o.l.xs.length:Int)≤131072∧(o.l.xs.length:Int)≤o.room∧o.room≤262144∧heldOf S o.l.xs false=true∧KeysOk S o.l.xs):=by
  unfold ObjOk
  rw[if_neg (by omega),if_neg (by omega),if_pos k5]
 rw[hok]
 clear hok
 have hh:=zpw (ext:=ext) h h' h2 hr o.l.ok false
 obtain⟨bk,hkk,hkb⟩:=zpx (ext:=ext) h h3 h4 hr o.l.ok
 by_cases c1:o.s=.empty
 case neg=>exact⟨false,by simp -implicitDefEqProofs [x508,k5,hlen,hh,hkk,c1],by simp[c1]⟩
 by_cases c2:o.fn=0
 case neg=>exact⟨false,by simp -implicitDefEqProofs [x508,k5,hlen,hh,hkk,c1,c2],by simp[c1,c2]⟩
 by_cases c3:(o.l.xs.length:Int).tmod 2=0
 case neg=>exact⟨false,by simp -implicitDefEqProofs [x508,k5,hlen,hh,hkk,c1,c2,c3],by simp[c1,c2,c3]⟩
 by_cases c4:(o.l.xs.length:Int)≤131072
 case neg=>exact⟨false,by simp -implicitDefEqProofs [x508,k5,hlen,hh,hkk,c1,c2,c3,c4],by simp[c1,c2,c3,c4]⟩
 by_cases c5:(o.l.xs.length:Int)≤o.room
 case neg=>exact⟨false,by simp -implicitDefEqProofs [x508,k5,hlen,hh,hkk,c1,c2,c3,c4,c5],by simp[c1,c2,c3,c4,c5]⟩
 by_cases c6:o.room≤262144
 case neg=>exact⟨false,by simp -implicitDefEqProofs [x508,k5,hlen,hh,hkk,c1,c2,c3,c4,c5,c6],by simp[c1,c2,c3,c4,c5,c6]⟩
 by_cases c7:heldOf S o.l.xs false=true
 case neg=>
  have c7f:heldOf S o.l.xs false=false:=by simpa using c7
  exact⟨false,by simp -implicitDefEqProofs [x508,k5,hlen,hh,hkk,c1,c2,c3,c4,c5,c6,c7f],by simp[c1,c2,c3,c4,c5,c6,c7f]⟩
 refine⟨bk,?_,by rw[hkb];simp[c1,c2,c3,c4,c5,c6,c7]⟩
 simp -implicitDefEqProofs [x508,k5,hlen,hh,hkk,c1,c2,c3,c4,c5,c6,c7]
theorem refObj6(h:code 502=some x502)(h':code 510=some x510)(h2:code 506=some x506)(h3:code 503=some x503)(h4:code 507=some x507)(h5:code 508=some x508){sv:IV}{S:List Obj}(hr:Reads tObj sv S)(o:Obj)(k6:o.k=6):∃b:Bool,callW code ext 508 [.imm sv,objAV o] []=some (avb b,[])∧(b=true↔ObjOk S o):=by
 rw[zb5 code ext h5]
 have hlen:=zpr o.l.ok
 have hok:ObjOk S o↔(o.s=.empty∧o.room=0∧0≤o.fn∧o.fn<256∧heldOf S o.l.xs true=true):=by
  unfold ObjOk
  rw[if_neg (by omega),if_neg (by omega),if_neg (by omega),if_pos k6]
 rw[hok]
 clear hok
 have hh:=zpw (ext:=ext) h h' h2 hr o.l.ok true
 by_cases c1:o.s=.empty
 case neg=>exact⟨false,by simp -implicitDefEqProofs [x508,k6,hlen,hh,c1],by simp[c1]⟩
 by_cases c2:o.room=0
 case neg=>exact⟨false,by simp -implicitDefEqProofs [x508,k6,hlen,hh,c1,c2],by simp[c1,c2]⟩
 by_cases c3:0≤o.fn
 case neg=>exact⟨false,by simp -implicitDefEqProofs [x508,k6,hlen,hh,c1,c2,c3],by simp[c1,c2,c3]⟩
 by_cases c4:o.fn<256
 case neg=>exact⟨false,by simp -implicitDefEqProofs [x508,k6,hlen,hh,c1,c2,c3,c4],by simp[c1,c2,c3,c4]⟩
 by_cases c5:heldOf S o.l.xs true=true
 case neg=>
  have c5f:heldOf S o.l.xs true=false:=by simpa using c5
  exact⟨false,by simp -implicitDefEqProofs [x508,k6,hlen,hh,c1,c2,c3,c4,c5f],by simp[c1,c2,c3,c4,c5f]⟩
 exact⟨true,by simp -implicitDefEqProofs [x508,k6,hlen,hh,c1,c2,c3,c4,c5],by simp[c1,c2,c3,c4,c5]⟩
theorem refObj7(h:code 502=some x502)(h':code 510=some x510)(h2:code 506=some x506)(h3:code 503=some x503)(h4:code 507=some x507)(h5:code 508=some x508){sv:IV}{S:List Obj}(hr:Reads tObj sv S)(o:Obj)(k3:¬o.k=3)(k4:¬o.k=4)(k5:¬o.k=5)(k6:¬o.k=6):∃b:Bool,callW code ext 508 [.imm sv,objAV o] []=some (avb b,[])∧(b=true↔ObjOk S o):=by
 rw[zb5 code ext h5]
 have hlen:=zpr o.l.ok
 have hok:ObjOk S o↔(o.s=.empty∧o.room=0∧o.fn=0∧(o.l.xs.length:Int)=1∧heldOf S o.l.xs false=true):=by
  unfold ObjOk
  rw[if_neg k3,if_neg k4,if_neg k5,if_neg k6]
 rw[hok]
 clear hok
 have hh:=zpw (ext:=ext) h h' h2 hr o.l.ok false
 by_cases c1:o.s=.empty
 case neg=>exact⟨false,by simp -implicitDefEqProofs [x508,k3,k4,k5,k6,hlen,hh,c1],by simp[c1]⟩
 by_cases c2:o.room=0
 case neg=>exact⟨false,by simp -implicitDefEqProofs [x508,k3,k4,k5,k6,hlen,hh,c1,c2],by simp[c1,c2]⟩
 by_cases c3:o.fn=0
 case neg=>exact⟨false,by simp -implicitDefEqProofs [x508,k3,k4,k5,k6,hlen,hh,c1,c2,c3],by simp[c1,c2,c3]⟩
 by_cases c4:(o.l.xs.length:Int)=1
 case neg=>exact⟨false,by simp -implicitDefEqProofs [x508,k3,k4,k5,k6,hlen,hh,c1,c2,c3,c4],by simp[c1,c2,c3,c4]⟩
 by_cases c5:heldOf S o.l.xs false=true
 case neg=>
  have c5f:heldOf S o.l.xs false=false:=by simpa using c5
  exact⟨false,by simp -implicitDefEqProofs [x508,k3,k4,k5,k6,hlen,hh,c1,c2,c3,c4,c5f],by simp[c1,c2,c3,c4,c5f]⟩
 exact⟨true,by simp -implicitDefEqProofs [x508,k3,k4,k5,k6,hlen,hh,c1,c2,c3,c4,c5],by simp[c1,c2,c3,c4,c5]⟩
theorem zpy(h:code 502=some x502)(h':code 510=some x510)(h2:code 506=some x506)(h3:code 503=some x503)(h4:code 507=some x507)(h5:code 508=some x508){sv:IV}{S:List Obj}(hr:Reads tObj sv S)(o:Obj):∃b:Bool,callW code ext 508 [.imm sv,objAV o] []=some (avb b,[])∧(b=true↔ObjOk S o):=by
 by_cases k3:o.k=3
 ·exact refObj3 h h' h2 h3 h4 h5 hr o k3
 by_cases k4:o.k=4
 ·exact refObj4 h h' h2 h3 h4 h5 hr o k4
 by_cases k5:o.k=5
 ·exact refObj5 h h' h2 h3 h4 h5 hr o k5
 by_cases k6:o.k=6
 ·exact refObj6 h h' h2 h3 h4 h5 hr o k6
 exact refObj7 h h' h2 h3 h4 h5 hr o k3 k4 k5 k6
end
end Go.EX


namespace Go.EX
def CheckOk(S:List Obj)(v:Val):Prop:=valOf S v=true∧∀(k:Nat) (o:Obj),Reach S [v] k→S[k]?=some o→ObjOk S o
section
variable {code:Nat→Option XFun} {ext:Calls'}
theorem zpv(h:code 502=some x502)(h':code 510=some x510)(h2:code 506=some x506)(h3:code 503=some x503)(h4:code 507=some x507)(h5:code 508=some x508)(h6:code 509=some x509)(h7:code 500=some x500)
  {sv:IV} {S:List Obj} (hr:Reads tObj sv S) (v:Val) (hw:tVal.wf v) (hM:1+unm (List.replicate S.length false) S≤100000000) (hS:S.length≤1048576):
  ∃b:Bool,callW code ext 500 [.imm sv,.agg [.imm (.val (.int .u8 v.k)),int64 v.n]] []=some (avb b,[])∧(b=true↔CheckOk S v):=by
 have hv:=zpz (ext:=ext) h h' hr v
 rw[zb5 code ext h7]
 cases hvv:valOf S v with
 |false=>
  rw[hvv]at hv
  exact⟨false,by simp -implicitDefEqProofs [x500,hv],by simp[CheckOk,hvv]⟩
 |true=>
  rw[hvv]at hv
  have hq:Reads tVal (.slice [.val (.int .u8 v.k),.val (.int .i64 v.n)] 0 1 (some 1)) [v]:=zpt tVal [v] (cap:=some 1) (by simpa using hw) (by simp) (by simp)
  obtain⟨F,hI,hre⟩:=zpp (ext:=ext) h h6 hr hq (by simpa using hM) hS
  have hFl:=hI.len
  have hpl:(tBool.row F).all IV.plain=true:=by simp[Ty.row,tBool,List.all_flatMap,IV.plain]
  have loop:∀s0:St,s0.tidy [0,5,6]=⟨0,[(0,.imm sv),(5,.osl 0 0 1 S.length (some S.length)),(6,int64 0)],[.flat (tBool.row F) false]⟩→∃e s',den code ext (.loop [0,5,6] x500L1) s0=some (e,s')∧e≠ .normal∧
    ((e=.exit 0∧(∀(k:Nat) (o:Obj),F[k]?=some true→S[k]?=some o→ObjOk S o)∧s'=⟨0,[(0,.imm sv),(5,.osl 0 0 1 S.length (some S.length)),(6,int64 S.length),(18,avb false)],[.flat (tBool.row F) false]⟩)∨(e=.ret∧(¬∀(k:Nat) (o:Obj),F[k]?=some true→S[k]?=some o→ObjOk S o)∧s'=⟨0,[(4,avb false)],[.flat (tBool.row F) false]⟩)):=by
   intro s0 hst0
   refine zjp (fun n s=>∃(i:Nat),i+n=S.length∧(∀(k:Nat) (o:Obj),k<i→F[k]?=some true→S[k]?=some o→ObjOk S o)∧s.tidy [0,5,6]=⟨0,[(0,.imm sv),(5,.osl 0 0 1 S.length (some S.length)),(6,int64 (i:Nat))],[.flat (tBool.row F) false]⟩) _ ?_ S.length _ ⟨0,by simp,fun k o h=>by omega,hst0⟩
   clear hst0 s0
   rintro n s ⟨i,hi,hall,hst⟩
   rw[hst]
   by_cases hlt:i<S.length
   ·have hif:i<F.length:=by omega
    obtain⟨row,off,cap,hsv,hc,hcut,hget⟩:=zps hr (List.getElem?_eq_getElem hlt)
    have hqf:(tBool.row F)[i]?=some (.val (.bool F[i])):=by
     have:=zd2 (zgi (t:=tBool) (List.getElem?_eq_getElem hif))
     rwa [show tBool.sz=1 from rfl,Nat.mul_one]at this
    have e1:IntKind.wrap .i64 ((i:Int)+1)=(i:Int)+1:=wrapI64 (by omega) (by omega)
    have hFi:=List.getElem?_eq_getElem hif
    have hSi:=List.getElem?_eq_getElem hlt
    obtain⟨b,hob,hbo⟩:=zpy (ext:=ext) h h' h2 h3 h4 h5 hr S[i]
    generalize S[i]=o at hget hSi hob hbo
    simp only[tObj]at hget
    have next:(F[i]=true→ObjOk S o)→∀(k:Nat) (o:Obj),k<i+1→F[k]?=some true→S[k]?=some o→ObjOk S o:=by
     intro hn k p hk hFk hSk
     by_cases hki:k<i
     ·exact hall k p hki hFk hSk
     ·have:k=i:=by omega
      subst this
      rw[hSi]at hSk;cases hSk
      exact hn (by rw[hFi]at hFk;simpa using hFk)
    cases hb:F[i]with
    |false=>
     rw[hb]at hqf
     refine⟨.normal,⟨0,[(0,.imm sv),(5,.osl 0 0 1 S.length (some S.length)),(6,int64 ((i:Int)+1))],[.flat (tBool.row F) false]⟩,?_,.inl ⟨rfl,n-1,by omega,i+1,by omega,next (by rw[hb];simp),by simp -implicitDefEqProofs⟩⟩
     subst hsv
     simp -implicitDefEqProofs [x500L1,hif,hqf,hlt,e1]
    |true=>
     rw[hb]at hqf hFi
     cases hbb:b with
     |true=>
      rw[hbb]at hob hbo
      refine⟨.normal,⟨0,[(0,.imm sv),(5,.osl 0 0 1 S.length (some S.length)),(6,int64 ((i:Int)+1))],[.flat (tBool.row F) false]⟩,?_,.inl ⟨rfl,n-1,by omega,i+1,by omega,next (fun _=>hbo.1 rfl),by simp -implicitDefEqProofs⟩⟩
      subst hsv
      simp -implicitDefEqProofs [x500L1,hif,hqf,hlt,e1,hlt,hget,hob]
     |false=>
      rw[hbb]at hob hbo
      refine⟨.ret,⟨0,[(4,avb false)],[.flat (tBool.row F) false]⟩,?_,.inr ⟨by simp,.inr ⟨rfl,fun hc=>?_,rfl⟩⟩⟩
      ·subst hsv
       simp -implicitDefEqProofs [x500L1,hif,hqf,hlt,e1,hlt,hget,hob]
      ·have:=hbo.2 (hc i o hFi hSi)
       cases this
   ·have:i=S.length:=by omega
    subst this
    refine⟨.exit 0,_,?_,.inr ⟨by simp,.inl ⟨rfl,fun k o hF hSo=>hall k o (List.getElem?_eq_some_iff.1 hSo).1 hF hSo,rfl⟩⟩⟩
    simp -implicitDefEqProofs [x500L1]
  obtain⟨e,s',l1,_,⟨rfl,hall,rfl⟩|⟨rfl,hall,rfl⟩⟩:=loop ⟨0,[(0,.imm sv),(5,.osl 2 0 1 S.length (some S.length)),(6,int64 0)],[.rich [.imm (.val (.int .u8 v.k)),int64 v.n],.flat [.val (.int .u8 v.k),.val (.int .i64 v.n)] false,.flat (tBool.row F) false]⟩ (by simp -implicitDefEqProofs)
  ·refine⟨true,?_,?_⟩
   ·simp -implicitDefEqProofs [x500,hv,hre,hpl,l1]
   ·simp only[CheckOk,hvv,true_and,true_iff]
    exact fun k o hk ho=>hall k o ((hI.done k).2 hk) ho
  ·refine⟨false,?_,?_⟩
   ·simp -implicitDefEqProofs [x500,hv,hre,hpl,l1]
   ·simp only[Bool.false_eq_true,CheckOk,hvv,true_and,false_iff]
    exact fun hc=>hall fun k o hF ho=>hc k o ((hI.done k).1 hF) ho
end
end Go.EX


namespace Go.EX
section
variable {code:Nat→Option XFun} {ext:Calls'}
def didV(k n:Int)(t:ByteArray)(w:Int):AV:=.agg [.imm (.val (.int .u8 k)),int64 n,strV t,int64 w]
theorem zh8(h:code 558=some x558)(n:Int):∃m,callW code ext 558 [int64 n] []=some (.agg [.imm (.val (.int .u8 2)),int64 n],m):=by
 refine mem_of ?_
 rw[zb5 code ext h]
 simp -implicitDefEqProofs [x558]
theorem zbx(h:code 557=some x557)(b:Bool):∃m,callW code ext 557 [avb b] []=some (.agg [.imm (.val (.int .u8 1)),int64 (if b then 1 else 0)],m):=by
 refine mem_of ?_
 rw[zb5 code ext h]
 cases b<;>simp -implicitDefEqProofs [x557]
theorem zuo(h:code 562=some x562)(t:ByteArray):∃m,callW code ext 562 [strV t] []=some (didV 0 0 t 0,m):=by
 refine mem_of ?_
 rw[zb5 code ext h]
 simp -implicitDefEqProofs [x562,didV]
end
end Go.EX


namespace Go.EX
section
variable {code:Nat→Option XFun} {ext:Calls'}
theorem zhh(h:code 641=some x641V)(sv:IV)(v:Val){b:Bool}(hc:callW code ext 646 [.imm sv,.agg [.imm (.val (.int .u8 v.k)),int64 v.n]] []=some (avb b,[])):
  callW code ext 641 [.agg [.imm (.val (.int .u8 v.k)),int64 v.n],.optr 0 0] [.rich [.imm sv]]=some (avb (!b),[.rich [.imm sv]]):=by
 rw[zb5 code ext h]
 simp -implicitDefEqProofs [x641V,hc]
theorem any_of(c:DoQ code)(sv:IV)(vs:List Val)(ck:Val→Bool)(hl:vs.length≤1000)(h:∀v∈vs,callW code ext 646 [.imm sv,.agg [.imm (.val (.int .u8 v.k)),int64 v.n]] []=some (avb (ck v),[])):
  AnyQ code ext sv vs (vs.any fun v=> !ck v):=by
 have loop:∃e s',den code ext (.loop [0,1,7,8] x759L1) ⟨2,[(0,.osl 0 0 2 vs.length (some vs.length)),(1,.clo 641 [.optr 1 0]),(7,int64 vs.length),(8,int64 0)],[.flat (tVal.row vs) false,.rich [.imm sv]]⟩=some (e,s')∧e≠ .normal∧
   ((e=.exit 0∧(vs.any fun v=> !ck v)=false∧s'=⟨2,[(0,.osl 0 0 2 vs.length (some vs.length)),(1,.clo 641 [.optr 1 0]),(7,int64 vs.length),(8,int64 vs.length),(9,avb false)],[.flat (tVal.row vs) false,.rich [.imm sv]]⟩)∨
    (e=.ret∧(vs.any fun v=> !ck v)=true∧∃i:Nat,i<vs.length∧s'=⟨2,[(4,int64 (i:Nat))],[.flat (tVal.row vs) false,.rich [.imm sv]]⟩)):=by
  refine zjp (fun n s=>∃(i:Nat),i+n=vs.length∧(∀v∈vs.take i,ck v=true)∧s=⟨2,[(0,.osl 0 0 2 vs.length (some vs.length)),(1,.clo 641 [.optr 1 0]),(7,int64 vs.length),(8,int64 (i:Nat))],[.flat (tVal.row vs) false,.rich [.imm sv]]⟩) _ ?_ vs.length _ ⟨0,by simp,by simp,rfl⟩
  rintro n _ ⟨i,hi,hok,rfl⟩
  by_cases hlt:i<vs.length
  ·have e1:IntKind.wrap .i64 ((i:Int)+1)=(i:Int)+1:=wrapI64 (by omega) (by omega)
   have hx:=List.getElem?_eq_getElem hlt
   have hget:=zgi (t:=tVal) hx
   have hs:=zhh (ext:=ext) c.c641 sv _ (h _ (List.getElem_mem hlt))
   have hmem:=List.getElem_mem hlt
   have htk:vs.take (i+1)=vs.take i++[vs[i]]:=by rw[List.take_add_one,hx];rfl
   simp only[tVal]at hget
   generalize vs[i]=v at *
   have hget':cut (tVal.row vs) (i*2) 2=some [.val (.int .u8 v.k),.val (.int .i64 v.n)]:=hget
   cases hck:ck v with
   |true=>
    refine⟨.normal,⟨2,[(0,.osl 0 0 2 vs.length (some vs.length)),(1,.clo 641 [.optr 1 0]),(7,int64 vs.length),(8,int64 ((i:Int)+1))],[.flat (tVal.row vs) false,.rich [.imm sv]]⟩,?_,.inl ⟨rfl,n-1,by omega,i+1,by omega,?_,rfl⟩⟩
    ·rw[hck]at hs
     clear hget h hok htk
     generalize tVal.row vs=R at *
     generalize vs.length=n at *
     simp only[Bool.not_true]at hs
     simp -implicitDefEqProofs [x759L1,hlt,hget',hs,e1]
    ·intro u hu
     rw[htk]at hu
     rcases List.mem_append.1 hu with hu|hu
     ·exact hok u hu
     ·rw[List.mem_singleton.1 hu];exact hck
   |false=>
    refine⟨.ret,⟨2,[(4,int64 (i:Nat))],[.flat (tVal.row vs) false,.rich [.imm sv]]⟩,?_,.inr ⟨by simp,.inr ⟨rfl,List.any_eq_true.2 ⟨v,hmem,by simp[hck]⟩,i,hlt,rfl⟩⟩⟩
    rw[hck]at hs
    clear hget h hok htk
    generalize tVal.row vs=R at *
    generalize vs.length=n at *
    simp only[Bool.not_false]at hs
    simp -implicitDefEqProofs [x759L1,hlt,hget',hs,e1]
  ·have:i=vs.length:=by omega
   subst this
   refine⟨.exit 0,_,?_,.inr ⟨by simp,.inl ⟨rfl,?_,rfl⟩⟩⟩
   ·clear hok
    generalize tVal.row vs=R at *
    generalize vs.length=n at *
    simp -implicitDefEqProofs [x759L1]
   ·rw[List.any_eq_false]
    intro v hv
    rw[List.take_length]at hok
    simp[hok v hv]
 obtain⟨e,s',g1,_,hq⟩:=loop
 unfold AnyQ
 rcases hq with⟨rfl,hr,rfl⟩|⟨rfl,hr,i,hi,rfl⟩
 ·rw[hr]
  have h759:callW code ext 759 [.osl 0 0 2 vs.length (some vs.length),.clo 641 [.optr 1 0]] [.flat (tVal.row vs) false,.rich [.imm sv]]=some (int64 (-1),[.flat (tVal.row vs) false,.rich [.imm sv]]):=by
   rw[zb5 code ext c.c759]
   clear h hr
   generalize tVal.row vs=R at *
   generalize vs.length=n at *
   simp -implicitDefEqProofs [x759,g1]
  rw[zb5 code ext c.c749]
  clear h g1 hr
  generalize tVal.row vs=R at *
  generalize vs.length=n at *
  simp -implicitDefEqProofs [x749,h759]
 ·rw[hr]
  have h759:callW code ext 759 [.osl 0 0 2 vs.length (some vs.length),.clo 641 [.optr 1 0]] [.flat (tVal.row vs) false,.rich [.imm sv]]=some (int64 (i:Nat),[.flat (tVal.row vs) false,.rich [.imm sv]]):=by
   rw[zb5 code ext c.c759]
   clear h hr hi
   generalize tVal.row vs=R at *
   generalize vs.length=n at *
   simp -implicitDefEqProofs [x759,g1]
  have h0:(0:Int)≤i:=by omega
  rw[zb5 code ext c.c749]
  clear h g1 hr hi
  generalize tVal.row vs=R at *
  generalize vs.length=n at *
  simp -implicitDefEqProofs [x749,h759,h0]
theorem zge(h:code 152=some x152){sv lv:IV}{vs:List Val}(hr:Reads tVal lv vs)(hl:vs.length≤1000){ck:Val→Bool}(h5:∀v∈vs,callW code ext 500 [.imm sv,.agg [.imm (.val (.int .u8 v.k)),int64 v.n]] []=some (avb (ck v),[])):
  ∃m,callW code ext 152 [.imm (.ptr [sv] 0),.imm lv] []=some (avb (vs.all fun v=>decide (v.k≠7)&&ck v),m):=by
 have elen:=zpr hr
 have loop:∃e s',den code ext (.loop [0,1,5] x152L1) ⟨0,[(0,.imm (.ptr [sv] 0)),(1,.imm lv),(5,int64 0)],[]⟩=some (e,s')∧e≠ .normal∧
   (((vs.all fun v=>decide (v.k≠7)&&ck v)=true∧e=.exit 0∧∃x y z,s'=⟨0,[(0,x),(1,y),(5,z),(9,avb false)],[]⟩)∨((vs.all fun v=>decide (v.k≠7)&&ck v)=false∧e=.ret∧s'=⟨0,[(4,avb false)],[]⟩)):=by
  refine zjp (fun n s=>∃i:Nat,i+n=vs.length∧(∀v∈vs.take i,(decide (v.k≠7)&&ck v)=true)∧s=⟨0,[(0,.imm (.ptr [sv] 0)),(1,.imm lv),(5,int64 (i:Nat))],[]⟩) _ ?_ vs.length _ ⟨0,by simp,by simp,rfl⟩
  rintro n _ ⟨i,hi,hok,rfl⟩
  by_cases hlt:i<vs.length
  ·have e1:IntKind.wrap .i64 ((i:Int)+1)=(i:Int)+1:=wrapI64 (by omega) (by omega)
   obtain⟨v,hv⟩:∃v,vs[i]?=some v:=⟨_,List.getElem?_eq_getElem hlt⟩
   have hmem:=List.mem_of_getElem? hv
   have htk:vs.take (i+1)=vs.take i++[v]:=by rw[List.take_add_one,hv];rfl
   obtain⟨row,off,cap,rfl,_,_,hcut⟩:=zps hr hv
   have hs:=h5 v hmem
   have hcut':cut row (off+i*2) 2=some [.val (.int .u8 v.k),.val (.int .i64 v.n)]:=hcut
   have hg:row[off+i*2]?=some (.val (.int .u8 v.k)):=by simpa using zdz hcut' 0 (by decide)
   cases hx:(decide (v.k≠7)&&ck v)with
   |true=>
    refine⟨.normal,⟨0,[(0,.imm (.ptr [sv] 0)),(1,.imm (.slice row off vs.length cap)),(5,int64 ((i:Int)+1))],[]⟩,?_,.inl ⟨rfl,n-1,by omega,i+1,by omega,?_,rfl⟩⟩
    ·rw[Bool.and_eq_true,decide_eq_true_eq]at hx
     rw[hx.2]at hs
     have k7:=hx.1
     clear h5 hok htk
     generalize vs.length=n at *
     simp -implicitDefEqProofs [x152L1,k7,hs,hcut',hg,hlt,e1]
    ·intro u hu
     rw[htk]at hu
     rcases List.mem_append.1 hu with hu|hu
     ·exact hok u hu
     ·rw[List.mem_singleton.1 hu];exact hx
   |false=>
    refine⟨.ret,⟨0,[(4,avb false)],[]⟩,?_,.inr ⟨by simp,.inr ⟨List.all_eq_false.2 ⟨v,hmem,by rw[hx];decide⟩,rfl,rfl⟩⟩⟩
    clear h5 hok htk
    by_cases k7:v.k=7
    ·generalize vs.length=n at *
     simp -implicitDefEqProofs [x152L1,k7,hcut',hg,hlt]
    ·have hc:ck v=false:=by simpa [k7]using hx
     rw[hc]at hs
     generalize vs.length=n at *
     simp -implicitDefEqProofs [x152L1,k7,hs,hcut',hg,hlt]
  ·have:i=vs.length:=by omega
   subst this
   refine⟨.exit 0,⟨0,[(0,.imm (.ptr [sv] 0)),(1,.imm lv),(5,int64 vs.length),(9,avb false)],[]⟩,?_,.inr ⟨by simp,.inl ⟨?_,rfl,_,_,_,rfl⟩⟩⟩
   ·clear hok h5
    generalize vs.length=n at *
    simp -implicitDefEqProofs [x152L1,elen]
   ·rw[List.all_eq_true]
    intro v hv
    rw[List.take_length]at hok
    exact hok v hv
 refine mem_of ?_
 rw[zb5 code ext h]
 unfold x152
 generalize x152L1=L at *
 obtain⟨e,s',l1,_,⟨hb,rfl,x,y,z,rfl⟩|⟨hb,rfl,rfl⟩⟩:=loop
 ·rw[hb]
  simp -implicitDefEqProofs [l1]
 ·rw[hb]
  simp -implicitDefEqProofs [l1]
end
end Go.EX


namespace Go.EX
section
variable {code:Nat→Option XFun} {ext:Calls'}
theorem zq8(h:code 166=some x166){sv:IV}{S:List Obj}(hr:Reads tObj sv S){v:Val}{k:Nat}{o:Obj}(hk:(k:Int)=v.n-1)(ho:S[k]?=some o):
  ∃m,callW code ext 166 [.imm (.ptr [sv] 0),.agg [.imm (.val (.int .u8 v.k)),int64 v.n]] []=some (.agg [.imm (.val (.int .u8 o.k)),strV o.s,.imm o.l.iv,int64 o.room,int64 o.fn],m):=by
 obtain⟨row,off,cap,rfl,hc,hcut,hget⟩:=zps hr ho
 simp only[tObj]at hget
 have hks:=(List.getElem?_eq_some_iff.1 ho).1
 have hb:=hr.2.1
 have e1:IntKind.wrap .i64 (v.n-1)=(k:Nat):=by rw[←hk];exact wrapI64 (by omega) (by omega)
 have h2:(k:Int)<S.length:=by omega
 refine mem_of ?_
 rw[zb5 code ext h]
 simp -implicitDefEqProofs [x166,e1,hks,h2,hget]
theorem zhm(h:code 488=some x488){iv:IV}{S:List Obj}(ht:callW code ext 377 [.imm iv] []=some (.osl 0 0 5 S.length (some (S.length+1)),[.flat (tObj.row (S.map twinObj++[spObj])) false])):
  callW code ext 488 [.imm iv] []=some (.optr 0 0,[.rich [.osl 1 0 5 S.length (some (S.length+1))],.flat (tObj.row (S.map twinObj++[spObj])) false]):=by
 rw[zb5 code ext h]
 generalize tObj.row (S.map twinObj++[spObj])=R at *
 have hown:(R.all IV.plain=true)∨¬(R.all IV.plain=true):=by cases R.all IV.plain<;>simp
 simp -implicitDefEqProofs [x488,ht]
end
end Go.EX


namespace Go.EX
section
variable {code:Nat→Option XFun} {ext:Calls'}
theorem zsu(h:code 357=some x357){iv jv:IV}{xs:List Val}(hr:Reads tVal iv xs)(hs:Reads tVal jv xs):callW code ext 357 [.imm iv,.imm jv] []=some (avb true,[]):=by
 have hl:=zpr hr
 have hl2:=zpr hs
 have hb:=hr.2.1
 have loop:∃e s',den code ext (.loop [0,1,5] x357L1) ⟨0,[(0,.imm iv),(1,.imm jv),(5,int64 0)],[]⟩=some (e,s')∧e≠ .normal∧(e=.exit 0∧s'=⟨0,[(0,.imm iv),(1,.imm jv),(5,int64 xs.length),(14,avb false)],[]⟩):=by
  refine zjp (fun n s=>∃i,i+n=xs.length∧s=⟨0,[(0,.imm iv),(1,.imm jv),(5,int64 (i:Nat))],[]⟩) _ ?_ xs.length _ ⟨0,by simp,rfl⟩
  rintro n _ ⟨i,hi,rfl⟩
  by_cases hlt:i<xs.length
  ·have hx:=List.getElem?_eq_getElem hlt
   obtain⟨r1,o1,c1,rfl,_,_,g1⟩:=zps hr hx
   obtain⟨r2,o2,c2,rfl,_,_,g2⟩:=zps hs hx
   generalize xs[i]=v at g1 g2
   simp only[tVal]at g1 g2
   have e1:IntKind.wrap .i64 ((i:Int)+1)=(i:Int)+1:=wrapI64 (by omega) (by omega)
   have hlt':(i:Int)<xs.length:=by omega
   refine⟨.normal,⟨0,[(0,.imm (.slice r1 o1 xs.length c1)),(1,.imm (.slice r2 o2 xs.length c2)),(5,int64 ((i:Int)+1))],[]⟩,?_,.inl ⟨rfl,n-1,by omega,i+1,by omega,rfl⟩⟩
   simp -implicitDefEqProofs [x357L1,hlt,hlt',g1,g2,e1]
  ·have:i=xs.length:=by omega
   subst this
   refine⟨.exit 0,⟨0,[(0,.imm iv),(1,.imm jv),(5,int64 xs.length),(14,avb false)],[]⟩,?_,.inr ⟨by simp,rfl,rfl⟩⟩
   simp -implicitDefEqProofs [x357L1,hl]
 obtain⟨e,s',l1,_,rfl,rfl⟩:=loop
 rw[zb5 code ext h]
 unfold x357
 generalize x357L1=L at *
 simp -implicitDefEqProofs [hl,hl2,l1]
def LikeObj(a b:Obj):Prop:=a.k=b.k∧a.s=b.s∧a.l.xs=b.l.xs∧a.room=b.room∧a.fn=b.fn
theorem zsm(h:code 351=some x351)(h1:code 357=some x357){a b:Obj}(hab:LikeObj a b):
  ∃m,callW code ext 351 [.agg [.imm (.val (.int .u8 a.k)),.imm (.val (.string a.s)),.imm a.l.iv,int64 a.room,int64 a.fn],.agg [.imm (.val (.int .u8 b.k)),.imm (.val (.string b.s)),.imm b.l.iv,int64 b.room,int64 b.fn]] []=some (avb true,m):=by
 obtain⟨e1,e2,e3,e4,e5⟩:=hab
 have hb:=b.l.ok
 rw[←e3]at hb
 have hv:=zsu (ext:=ext) h1 a.l.ok hb
 refine mem_of ?_
 rw[zb5 code ext h,←e1,←e2,←e4,←e5]
 simp -implicitDefEqProofs [x351,hv]
theorem zsn(h:code 352=some x352)(h1:code 351=some x351)(h2:code 357=some x357){iv jv:IV}{A B:List Obj}(hr:Reads tObj iv A)(hs:Reads tObj jv B)(hl:A.length=B.length)(hab:∀(i:Nat) (a b:Obj),A[i]?=some a→B[i]?=some b→LikeObj a b):callW code ext 352 [.imm iv,.imm jv] []=some (avb true,[]):=by
 have hlA:=zpr hr
 have hlB:=zpr hs
 rw[←hl]at hlB
 have hb:=hr.2.1
 have loop:∃e s',den code ext (.loop [0,1,5] x352L1) ⟨0,[(0,.imm iv),(1,.imm jv),(5,int64 0)],[]⟩=some (e,s')∧e≠ .normal∧(e=.exit 0∧s'=⟨0,[(0,.imm iv),(1,.imm jv),(5,int64 A.length),(14,avb false)],[]⟩):=by
  refine zjp (fun n s=>∃i,i+n=A.length∧s=⟨0,[(0,.imm iv),(1,.imm jv),(5,int64 (i:Nat))],[]⟩) _ ?_ A.length _ ⟨0,by simp,rfl⟩
  rintro n _ ⟨i,hi,rfl⟩
  by_cases hlt:i<A.length
  ·have hx:=List.getElem?_eq_getElem hlt
   have hy:=List.getElem?_eq_getElem (l:=B) (i:=i) (by omega)
   obtain⟨r1,o1,c1,rfl,_,_,g1⟩:=zps hr hx
   obtain⟨r2,o2,c2,rfl,_,_,g2⟩:=zps hs hy
   obtain⟨m,hso⟩:=zsm (ext:=ext) h1 h2 (hab i _ _ hx hy)
   generalize A[i]=a at *
   generalize B[i]'(by omega)=b at *
   simp only[tObj]at g1 g2
   rw[←hl]
   have e1:IntKind.wrap .i64 ((i:Int)+1)=(i:Int)+1:=wrapI64 (by omega) (by omega)
   have hlt':(i:Int)<A.length:=by omega
   refine⟨.normal,⟨0,[(0,.imm (.slice r1 o1 A.length c1)),(1,.imm (.slice r2 o2 A.length c2)),(5,int64 ((i:Int)+1))],[]⟩,?_,.inl ⟨rfl,n-1,by omega,i+1,by omega,rfl⟩⟩
   simp -implicitDefEqProofs [x352L1,hlt,hlt',g1,g2,e1,hso]
  ·have:i=A.length:=by omega
   subst this
   refine⟨.exit 0,⟨0,[(0,.imm iv),(1,.imm jv),(5,int64 A.length),(14,avb false)],[]⟩,?_,.inr ⟨by simp,rfl,rfl⟩⟩
   simp -implicitDefEqProofs [x352L1,hlA]
 obtain⟨e,s',l1,_,rfl,rfl⟩:=loop
 rw[zb5 code ext h]
 unfold x352
 generalize x352L1=L at *
 simp -implicitDefEqProofs [hlA,hlB,l1]
theorem zso(h0:code 355=some x355)(h:code 352=some x352)(h1:code 351=some x351)(h2:code 357=some x357){iv jv:IV}{A B:List Obj}(hr:Reads tObj iv A)(hs:Reads tObj jv B)(hl:A.length=B.length)(hab:∀(i:Nat) (a b:Obj),A[i]?=some a→B[i]?=some b→LikeObj a b):callW code ext 355 [.imm iv,.imm jv] []=some (avb true,[]):=by
 have hv:=zsn (ext:=ext) h h1 h2 hr hs hl hab
 rw[zb5 code ext h0]
 simp -implicitDefEqProofs [x355,hv]
end
end Go.EX


namespace Go.EX
section
variable {code:Nat→Option XFun} {ext:Calls'}
def badOf(T:List Obj)(o:Obj)(v:Val):Bool:= !valOf T v||(decide (v.k=7) != decide (o.k=6))
theorem zas(T:List Obj)(o:Obj)(l:List Val):l.any (badOf T o)= !heldOf T l (decide (o.k=6)):=by
 unfold heldOf
 induction l with
 |nil=>rfl
 |cons v l ih=>
  rw[List.any_cons,List.all_cons,ih,Bool.not_and]
  congr 1
  unfold badOf
  cases valOf T v<;>cases decide (v.k=7)<;>cases decide (o.k=6)<;>rfl
end
end Go.EX

namespace Go.EX
def normOf(T:List Obj)(v:Val):Int×Int×ByteArray:=
 if v.k=3 then match leadsOf T v with
  |some i=>(3,0,sAt T i)
  |none=>(v.k,v.n,.empty)
 else(v.k,v.n,.empty)
def keyAV(x:Int×Int×ByteArray):AV:=.agg [.imm (.val (.int .u8 x.1)),int64 x.2.1,.imm (.val (.string x.2.2))]
def normMap(acc:List (Int×Int×ByteArray)):List (AV×AV):=acc.map fun x=>(keyAV x,avb true)
open Classical in
noncomputable def addNorm (acc:List (Int×Int×ByteArray)) (x:Int×Int×ByteArray):List (Int×Int×ByteArray):=if x∈acc then acc else acc++[x]
@[simp] theorem refs_norm1(acc:List (Int×Int×ByteArray)):AV.refs.refsL (List.map (fun x=>x.1) (normMap acc))=[]:=by
 unfold normMap
 induction acc with
 |nil=>rfl
 |cons x r ih=>
  have hk:(keyAV x).refs=[]:=rfl
  simp only[List.map_cons,AV.refs.refsL,ih,hk,List.append_nil]
@[simp] theorem refs_norm2(acc:List (Int×Int×ByteArray)):AV.refs.refsL (List.map (fun x=>x.2) (normMap acc))=[]:=by
 unfold normMap
 induction acc with
 |nil=>rfl
 |cons x r ih=>simp only[List.map_cons,AV.refs.refsL,ih,AV.refs];rfl
@[simp] theorem norm_ren(f:Nat→Option Nat)(acc:List (Int×Int×ByteArray)):List.map (fun p=>(AV.ren f p.1,AV.ren f p.2)) (normMap acc)=normMap acc:=by
 simp[normMap,keyAV,AV.ren,AV.ren.renL]
theorem key57(x:Int×Int×ByteArray):isKeyAV 57 (keyAV x)=true:=by
 have e:isKeyAV 57 (keyAV x)=(sameCells [0,0,2] [.imm (.val (.int .u8 x.1)),int64 x.2.1,.imm (.val (.string x.2.2))] [.imm (.val (.int .u8 x.1)),int64 x.2.1,.imm (.val (.string x.2.2))]).isSome:=rfl
 rw[e];simp[sameCells]
theorem zbz(a b:ByteArray):(a==b)=decide (a=b):=by rw[Go.beq_toListBytes,bytes_beq]
theorem keyEq57(m:Mem)(x y:Int×Int×ByteArray):keyEq m 57 (keyAV x) (keyAV y)=some (decide (x=y)):=by
 obtain⟨a,b,c⟩:=x
 obtain⟨a',b',c'⟩:=y
 have e:keyEq m 57 (keyAV (a,b,c)) (keyAV (a',b',c'))=sameCells [0,0,2] [.imm (.val (.int .u8 a)),int64 b,.imm (.val (.string c))] [.imm (.val (.int .u8 a')),int64 b',.imm (.val (.string c'))]:=rfl
 rw[e]
 simp only[sameCells,if_true,Option.map_some,Bool.and_true,Option.some.injEq,zbz]
 by_cases h1:a=a'<;>by_cases h2:b=b'<;>by_cases h3:c=c'<;>simp[h1,h2,h3]
theorem findK57(x:Int×Int×ByteArray):∀(acc:List (Int×Int×ByteArray)) (i:Nat),
  (x ∉ acc∧∀m,findK m 57 (keyAV x) (normMap acc) i=some none)∨(x∈acc∧∃j,(∀m,findK m 57 (keyAV x) (normMap acc) i=some (some (i+j)))∧acc[j]?=some x)
 |[],i=>.inl ⟨by simp,fun _=>rfl⟩
 |y::r,i=>by
  have hk:=fun m=>keyEq57 m x y
  by_cases h:x=y
  ·subst h
   refine .inr ⟨by simp,0,fun m=>?_,rfl⟩
   simp only[normMap,List.map_cons,findK,hk,decide_true,Nat.add_zero]
  ·have hf:∀m,findK m 57 (keyAV x) (normMap (y::r)) i=findK m 57 (keyAV x) (normMap r) (i+1):=fun m=>by simp only[normMap,List.map_cons,findK,hk,h,decide_false]
   rcases findK57 x r (i+1)with⟨h1,h2⟩|⟨h1,j,h2,h3⟩
   ·exact .inl ⟨by simp[h,h1],fun m=>by rw[hf,h2]⟩
   ·refine .inr ⟨by simp[h1],j+1,fun m=>?_,h3⟩
    rw[hf,h2];congr 2;omega
theorem zms(acc:List (Int×Int×ByteArray))(j:Nat)(x:Int×Int×ByteArray)(h:acc[j]?=some x):(normMap acc).set j (keyAV x,avb true)=normMap acc:=by
 refine List.ext_getElem? fun i=>?_
 rw[List.getElem?_set]
 split
 ·rename_i hij;subst hij
  split
  ·simp[normMap,h]
  ·rename_i hl
   rw[List.getElem?_eq_none (by omega)]
 ·rfl
theorem zmt(acc:List (Int×Int×ByteArray))(x:Int×Int×ByteArray):normMap acc++[(keyAV x,avb true)]=normMap (acc++[x]):=by simp[normMap]
section
variable {code:Nat→Option XFun} {ext:Calls'}
noncomputable def normsTo(T:List Obj)(l:List Val):Nat→List (Int×Int×ByteArray)
 |0=>[]
 |i+1=>if i%2=0 then(match l[i]? with|some v=>addNorm (normsTo T l i) (normOf T v)|none=>normsTo T l i)else normsTo T l i
theorem zmu(T:List Obj)(l:List Val)(i:Nat)(v:Val)(hi:i%2=0)(hv:l[i]?=some v):normsTo T l (i+2)=addNorm (normsTo T l i) (normOf T v):=by
 rw[normsTo,if_neg (by omega),normsTo,if_pos hi,hv]
end
end Go.EX

