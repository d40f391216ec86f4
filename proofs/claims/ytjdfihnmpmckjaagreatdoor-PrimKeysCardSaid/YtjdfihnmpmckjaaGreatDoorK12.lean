import Derived.Test.YtjdfihnmpmckjaaGreatDoorK11
import Derived.Test.YtjdfihnmpmckjaaGreatDoorK8
set_option linter.unusedVariables false
set_option linter.unusedSimpArgs false
namespace Go.EX
def rU(R:List IV)(N q:Nat)(W:List IV)(n:Nat)(cap:Option Nat)(u:Int):Mem:=[.rich [.osl 1 0 5 N (some N),zaa 1152921504606846976,zaa u],.rich (zak R (q*5+2) (.osl 2 0 2 n cap)),.flat W false]
def rV(R:List IV)(N q:Nat)(W W2:List IV)(n:Nat)(cap:Option Nat)(u:Int):Mem:=[.rich [.osl 1 0 5 N (some N),zaa 1152921504606846976,zaa u],.rich (zak R (q*5+2) (.osl 3 0 2 n cap)),.flat W false,.flat W2 false]
def zbm(step:Int)(n:Nat)(room:Int):Int:=if room<(n:Int)+step then(if 4*step<2*room then 2*room else 4*step)else room
def zca(step:Int)(n:Nat)(room:Int):Int:=if room<(n:Int)+step then 1+2*zbm step n room else 0
def zbi(R:List IV)(q:Nat)(room:Int):List IV:=R.set (q*5+3) (.val (.int .i64 room))
theorem zkx{R:List IV}{q:Nat}{room:Int}(h:R[q*5+3]?=some (.val (.int .i64 room))):zbi R q room=R:=by
 unfold zbi
 obtain⟨hl,he⟩:=xaa.1 h
 rw[<-he]
 exact List.set_getElem_self hl
structure zgn (code:Nat->Option zab):Prop where
 c206:code 206=some zeg
 c209:code 209=some zhj
 c213:code 213=some zhk
 c215:code 215=some zeh
 c216:code 216=some zfo
 c218:code 218=some zjz
 c580:code 580=some zhm
 c581:code 581=some zi1
theorem zow:∀(xs:List Val) (i:Nat) (x:Val),i<xs.length->setAll (tVal.row xs) (i*2) [.val (.int .u8 x.k),.val (.int .i64 x.n)]=tVal.row (xs.set i x)
 |[],i,x,h=>absurd h (xcn _)
 |y::r,0,x,h=>by simp[Ty.row,tVal,setAll]
 |y::r,i+1,x,h=>by
  have ih:=zow r i x (by simpa using h)
  have e:(i+1)*2=i*2+1+1:=by omega
  have c1:tVal.row (y::r)=.val (.int .u8 y.k):: .val (.int .i64 y.n)::tVal.row r:=by simp[Ty.row,tVal]
  have c2:tVal.row (y::r.set i x)=.val (.int .u8 y.k):: .val (.int .i64 y.n)::tVal.row (r.set i x):=by simp[Ty.row,tVal]
  rw[xce,c1,c2,<-ih,e]
  simp[setAll]
section
variable {code:Nat->Option zab} {ext:zac}
abbrev zag(v:Val):AV:=.agg [.imm (.val (.int .u8 v.k)),zaa v.n]
theorem yd7(c:zgn code){T:List Obj}(hn:T.length<=100000000){q:Nat}(hq:q<T.length){v k x:Val}(v4:v.k=4)(k2:k.k=2)(hv:(q:Int)=v.n-1)(xs:List Val)(hl:xs.length<=1000000)(cap:Option Nat){i:Nat}(hk:k.n=i)(hi:i<xs.length):
  callW code ext 215 [.optr 0 0,zag v,zag k,zag x] (rM T q (tVal.row xs) xs.length cap)=some (zbk 0 0 .empty,rU (tObj.row T) T.length q (tVal.row (xs.set i x)) xs.length cap 0):=by
 have p1:=zc7
 have hrl:(tObj.row T).length=T.length*5:=zbg tObj T
 have hrf:∀v:AV,AV.refs.refsL (zak (tObj.row T) (q*5+2) v)=v.refs:=fun v=>zch (by omega)
 have hgt:∀v,(zak (tObj.row T) (q*5+2) v)[q*5+2]?=some v:=fun v=>zh1 (by omega)
 have f1:=zfv (ext:=ext) c.c581 v k
 have f2:=zme (ext:=ext) c.c213 hq (tVal.row xs) xs.length cap v.k v.n hv hq (by omega)
 have e1:¬k.n<0:=by omega
 have e2:¬(xs.length:Int)<k.n:=by omega
 have e3:k.n<xs.length:=by omega
 have hset:setAll (tVal.row xs) (i*2) [.val (.int .u8 x.k),.val (.int .i64 x.n)]=tVal.row (xs.set i x):=zow xs i x hi
 have hrl2:(tVal.row xs).length=xs.length*2:=zbg tVal xs
 rw[v4,k2]at f1
 rw[v4]at f2
 simp only[decide_true,Bool.or_true,Bool.true_or,xb9]at f1
 unfold zag
 rw[v4,k2]
 rw[zad code ext c.c215]
 unfold rM rU at *
 rw[hk]at *
 generalize tVal.row (xs.set i x)=W2 at *
 generalize tVal.row xs=W at *
 generalize tObj.row T=R at *
 generalize T.length=N at *
 generalize xs.length=n at *
 have hi':(i:Int)<n:=by omega
 have hle:i*2+2<=W.length:=by omega
 simp -implicitDefEqProofs [zeh,f1,f2,zax,hrf,p1,hgt,e1,e2,e3,hset,hle]
theorem ydz(c:zgn code){T:List Obj}(hn:T.length<=100000000){q:Nat}(hq:q<T.length){v k x:Val}(v5:v.k=5)(hv:(q:Int)=v.n-1)(xs:List Val)(hl:xs.length<=1000000)(cap:Option Nat){j:Nat}(hj:2*j+1<xs.length)
  (hat:callW code ext 209 [.optr 0 0,.osl 1 0 2 xs.length cap,zag k] (rA T q (tVal.row xs) xs.length cap)=some (zaa ((2*j:Nat):Int),rA T q (tVal.row xs) xs.length cap)):
  callW code ext 215 [.optr 0 0,zag v,zag k,zag x] (rM T q (tVal.row xs) xs.length cap)=some (zbk 0 0 .empty,rU (tObj.row T) T.length q (tVal.row (xs.set (2*j+1) x)) xs.length cap 0):=by
 have p1:=zc7
 have hrl:(tObj.row T).length=T.length*5:=zbg tObj T
 have hrf:∀v:AV,AV.refs.refsL (zak (tObj.row T) (q*5+2) v)=v.refs:=fun v=>zch (by omega)
 have hgt:∀v,(zak (tObj.row T) (q*5+2) v)[q*5+2]?=some v:=fun v=>zh1 (by omega)
 have f1:=zfv (ext:=ext) c.c581 v k
 have f2:=zme (ext:=ext) c.c213 hq (tVal.row xs) xs.length cap v.k v.n hv hq (by omega)
 obtain⟨i,hi⟩:∃i,i=2*j+1:=⟨_,rfl⟩
 obtain⟨i0,hi0⟩:∃i,i=2*j:=⟨_,rfl⟩
 rw[<-hi]at hj ⊢
 rw[<-hi0]at hat
 have w1:IntKind.wrap .i64 ((i0:Int)+1)=(i:Int):=by rw[zap (by omega) (by omega)];omega
 have e0:(0:Int)<=(i0:Int):=by omega
 have e1:¬(i:Int)<0:=by omega
 have e2:¬(xs.length:Int)<(i:Int):=by omega
 have e3:(i:Int)<xs.length:=by omega
 have hset:setAll (tVal.row xs) (i*2) [.val (.int .u8 x.k),.val (.int .i64 x.n)]=tVal.row (xs.set i x):=zow xs i x hj
 have hrl2:(tVal.row xs).length=xs.length*2:=zbg tVal xs
 rw[v5]at f1 f2
 simp only[decide_true,Bool.true_or]at f1
 unfold zag at hat ⊢
 rw[v5]
 rw[zad code ext c.c215]
 unfold rM rU rA at *
 generalize tVal.row (xs.set i x)=W2 at *
 generalize tVal.row xs=W at *
 generalize tObj.row T=R at *
 generalize T.length=N at *
 generalize xs.length=n at *
 have hle:i*2+2<=W.length:=by omega
 simp -implicitDefEqProofs [zeh,f1,f2,zax,zcv,hat,w1,e0,hrf,p1,hgt,e1,e2,e3,hset,hle]
theorem z2o(h:code 218=some zjz){R:List IV}{N q:Nat}(hq:q*5+2<R.length)(W:List IV)(n:Nat)(cap:Option Nat){w:Int}(h0:0<=w)(h1:w<=1000000):
  callW code ext 218 [.optr 0 0,zaa w] (rU R N q W n cap 0)=some (avb true,rU R N q W n cap w):=by
 have e1:IntKind.wrap .i64 w=w:=zap (by omega) (by omega)
 have h2:¬(1152921504606846976:Int)<w:=by omega
 have p1:=zc7
 have hrf:∀v:AV,AV.refs.refsL (zak R (q*5+2) v)=v.refs:=fun v=>zch hq
 rw[zad code ext h]
 unfold rU
 simp -implicitDefEqProofs [zjz,e1,h2]
end
theorem zx2{T:List Obj}{xs:List Val}{k:Val}{r r':Int}(h:AtV T xs k r)(h':AtV T xs k r'):r=r':=by
 rcases h with⟨rfl,h⟩|⟨j,a,rfl,h1,h2,h3⟩
 ·rcases h' with⟨rfl,_⟩|⟨j,a,rfl,h1,h2,h3⟩
  ·rfl
  ·rw[h j a h1]at h2;cases h2
 ·rcases h' with⟨rfl,h⟩|⟨j',a',rfl,h1',h2',h3'⟩
  ·rw[h j a h1]at h2;cases h2
  ·rcases Nat.lt_trichotomy j j' with hlt|rfl|hlt
   ·rw[h3' j a hlt h1]at h2;cases h2
   ·rfl
   ·rw[h3 j' a' hlt h1']at h2';cases h2'
section
variable {code:Nat->Option zab} {ext:zac}
theorem ye9(c161:code 161=some zic)(c166:code 166=some zhi){sv:IV}{T:List Obj}(hrd:zao tObj sv T){iv:IV}{xs:List Val}(hr:zao tVal iv xs)(hl:xs.length<=1000000){k:Val}(hk:zbw T k)(hx:∀(j:Nat) a,xs[2*j]?=some a->zbw T a):
  ∀(m:Nat) (st:St),(∃j,m+2*j=xs.length+2/\(∀(i:Nat) b,i<j->xs[2*i]?=some b->zdw T b k=false)/\st.tidy [0,1,5,7]=⟨0,[(0,.imm (.ptr [sv] 0)),(1,.imm iv),(5,.optr 0 0),(7,zaa (2*j:Nat))],[.rich [.imm (.val (.int .u8 k.k)),zaa k.n]]⟩)->
   ∃x s',den code ext (.loop [0,1,5,7] zmz) st=some (x,s')/\x≠ .normal/\∃r,AtV T xs k r/\((x=.exit 0/\r= -1/\∃env,s'=⟨0,env,[.rich [.imm (.val (.int .u8 k.k)),zaa k.n]]⟩)\/(x=.ret/\s'=⟨0,[(6,zaa r)],[.rich [.imm (.val (.int .u8 k.k)),zaa k.n]]⟩)):=by
 have elen:=zaz hr
 refine zb1 _ _ ?_
 rintro m st ⟨j,hm,hno,hst⟩
 rw[hst]
 by_cases hlt:2*j<xs.length
 ·obtain⟨a,ha⟩:∃a,xs[2*j]?=some a:=⟨_,xab hlt⟩
  obtain⟨row,off,cap,rfl,_,_,hcut⟩:=zb6 hr ha
  have hcut':cut row (off+(2*j)*2) 2=some [.val (.int .u8 a.k),.val (.int .i64 a.n)]:=hcut
  obtain⟨m1,f1⟩:=yfq (ext:=ext) c161 c166 hrd (hx j a ha) hk
  obtain⟨i,hi⟩:∃i,i=2*j:=⟨_,rfl⟩
  obtain⟨i2,hi2⟩:∃i2,i2=2*j+2:=⟨_,rfl⟩
  rw[<-hi]at hcut' hlt ⊢
  have e1:(i:Int)<xs.length:=by omega
  have e2:IntKind.wrap .i64 ((i:Int)+2)=(i2:Int):=by rw[zap (by omega) (by omega)];omega
  cases hs:zdw T a k with
  |true=>
   rw[hs]at f1
   refine⟨.ret,⟨0,[(6,zaa i)],[.rich [.imm (.val (.int .u8 k.k)),zaa k.n]]⟩,?_,.inr ⟨by simp,(i:Int),.inr ⟨j,a,by omega,ha,hs,hno⟩,.inr ⟨rfl,rfl⟩⟩⟩
   generalize xs.length=n at *
   simp -implicitDefEqProofs [zmz,f1,hcut',e1]
  |false=>
   rw[hs]at f1
   refine⟨.normal,⟨0,[(0,.imm (.ptr [sv] 0)),(1,.imm (.slice row off xs.length cap)),(5,.optr 0 0),(7,zaa i2)],[.rich [.imm (.val (.int .u8 k.k)),zaa k.n]]⟩,?_,.inl ⟨rfl,m-2,by omega,j+1,by omega,?_,?_⟩⟩
   ·generalize xs.length=n at *
    simp -implicitDefEqProofs [zmz,f1,hcut',e1,e2]
   ·intro q b hq hb
    by_cases hqj:q=j
    ·subst hqj
     rw[ha]at hb
     cases hb
     exact hs
    ·exact hno q b (by omega) hb
   ·have hjj:2*(j+1)=i2:=by omega
    rw[hjj]
    generalize xs.length=n at *
    simp -implicitDefEqProofs []
 ·refine⟨.exit 0,⟨0,[(0,.imm (.ptr [sv] 0)),(1,.imm iv),(5,.optr 0 0),(7,zaa (2*j:Nat)),(11,avb false)],[.rich [.imm (.val (.int .u8 k.k)),zaa k.n]]⟩,?_,.inr ⟨by simp,-1,.inl ⟨rfl,fun q b hb=>?_⟩,.inl ⟨rfl,rfl,_,rfl⟩⟩⟩
  ·obtain⟨i,hi⟩:∃i,i=2*j:=⟨_,rfl⟩
   rw[<-hi]at hlt ⊢
   have e1:¬(i:Int)<xs.length:=by omega
   generalize xs.length=n at *
   simp -implicitDefEqProofs [zmz,elen,e1]
  ·have:=(xaa.1 hb).1
   exact hno q b (by omega) hb
theorem zq6(h:code 164=some zr0)(c161:code 161=some zic)(c166:code 166=some zhi){sv:IV}{T:List Obj}(hrd:zao tObj sv T){iv:IV}{xs:List Val}(hr:zao tVal iv xs)(hl:xs.length<=1000000){k:Val}(hk:zbw T k)(hx:∀(j:Nat) a,xs[2*j]?=some a->zbw T a){r:Int}(hat:AtV T xs k r):
  ∃m,callW code ext 164 [.imm (.ptr [sv] 0),.imm iv,.agg [.imm (.val (.int .u8 k.k)),zaa k.n]] []=some (zaa r,m):=by
 obtain⟨x,s',h1,_,r',hr',hq⟩:=ye9 (code:=code) (ext:=ext) c161 c166 hrd hr hl hk hx (xs.length+2) ⟨0,[(0,.imm (.ptr [sv] 0)),(1,.imm iv),(5,.optr 0 0),(7,zaa 0)],[.rich [.imm (.val (.int .u8 k.k)),zaa k.n]]⟩ ⟨0,by omega,fun i b hi=>absurd hi (xcn i),by simp -implicitDefEqProofs []⟩
 have e:=zx2 hat hr'
 subst e
 refine zfw ?_
 rw[zad code ext h]
 unfold zr0
 generalize zmz=L at *
 rcases hq with⟨rfl,rfl,env,rfl⟩|⟨rfl,rfl⟩
 ·simp -implicitDefEqProofs [h1]
 ·simp -implicitDefEqProofs [h1]
theorem z2d(h:code 560=some zk9)(kk:Int)(s:ByteArray)(iv:IV)(n:Nat)(room fn step:Int)(hs:step=1\/step=2)(hn:n<=1000000)(h0:0<=room)(h1:room<=1000000):
  ∃m,callW code ext 560 [.agg [.imm (.val (.int .u8 kk)),zaq s,.imm iv,zaa room,zaa fn],zaa ((n:Int)+step),zaa (4*step)] []=some (.tup [zaa (zbm step n room),zaa (zca step n room)],m):=by
 have w1:IntKind.wrap .i64 (2*room)=2*room:=zap (by omega) (by omega)
 have w2:IntKind.wrap .i64 (2*(2*room))=2*(2*room):=zap (by omega) (by omega)
 have w3:IntKind.wrap .i64 (1+2*(2*room))=1+2*(2*room):=zap (by omega) (by omega)
 have w4:IntKind.wrap .i64 (2*(4*step))=2*(4*step):=by rcases hs with rfl|rfl<;>rfl
 have w5:IntKind.wrap .i64 (1+2*(4*step))=1+2*(4*step):=by rcases hs with rfl|rfl<;>rfl
 refine zfw ?_
 rw[zad code ext h]
 unfold zca zbm
 by_cases hc:room<(n:Int)+step
 ·rw[if_pos hc,if_pos hc]
  have hc':¬(n:Int)+step<=room:=by omega
  by_cases h4:4*step<2*room
  ·rw[if_pos h4]
   have h4':¬2*room<4*step:=by omega
   generalize (n:Int)+step=z at *
   generalize 4*step=y at *
   simp -implicitDefEqProofs [zk9,hc',h4',w1,w2,w3]
  ·rw[if_neg h4]
   by_cases h5:2*room<4*step
   ·generalize (n:Int)+step=z at *
    generalize 4*step=y at *
    simp -implicitDefEqProofs [zk9,hc',h5,w1,w4,w5]
   ·have h6:2*room=4*step:=by omega
    rw[<-h6]at w4 w5 ⊢
    have h7:¬2*room<2*room:=by omega
    generalize (n:Int)+step=z at *
    simp -implicitDefEqProofs [zk9,hc',w1,w4,w5]
 ·rw[if_neg hc,if_neg hc]
  have hc':(n:Int)+step<=room:=by omega
  generalize (n:Int)+step=z at *
  generalize 4*step=y at *
  simp -implicitDefEqProofs [zk9,hc']
end
set_option maxHeartbeats 1000000
section
variable {code:Nat->Option zab} {ext:zac}
theorem yd3 (c:zgn code) {T:List Obj} (hn:T.length<=100000000) {q:Nat} (hq:q<T.length) {v k x:Val} (v4:v.k=4) (k2:k.k=2) (hv:(q:Int)=v.n-1) (xs:List Val) (hl:xs.length<65536) (hk:k.n=xs.length) {o:Obj} (ho:T[q]?=some o) (hr0:(xs.length:Int)<=o.room) (hr1:o.room<=262144):
  callW code ext 215 [.optr 0 0,zag v,zag k,zag x] (rM T q (tVal.row xs) xs.length (some xs.length))=some (zbk 0 0 .empty,rV (zbi (tObj.row T) q (zbm 1 xs.length o.room)) T.length q (tVal.row xs) (tVal.row (xs++[x])) (xs.length+1) none (zca 1 xs.length o.room)):=by
 have p1:=zc7
 have hrl:(tObj.row T).length=T.length*5:=zbg tObj T
 have hcell:(tObj.row T)[q*5+3]?=some (.val (.int .i64 o.room)):=zai (zdc (t:=tObj) ho) 3 (by decide)
 have hR1:q*5+2+1<=(tObj.row T).length:=by omega
 have hR2:q*5+3+1<=(tObj.row T).length:=by omega
 have hrf:∀v:AV,AV.refs.refsL (zak (tObj.row T) (q*5+2) v)=v.refs:=fun v=>zch (by omega)
 have hgt:∀v,(zak (tObj.row T) (q*5+2) v)[q*5+2]?=some v:=fun v=>zh1 (by omega)
 have hgr:∀v,(zak (tObj.row T) (q*5+2) v)[q*5+3]?=some (.imm (.val (.int .i64 o.room))):=fun v=>zkw hcell (by omega)
 have hll:∀v,(zak (tObj.row T) (q*5+2) v).length=(tObj.row T).length:=fun v=>zh2 (tObj.row T) (q*5+2) v
 have hrr:∀v y,setAll (zak (tObj.row T) (q*5+2) v) (q*5+3) [.imm y]=zak ((tObj.row T).set (q*5+3) y) (q*5+2) v:=fun v y=>zot (by omega)
 have hrs:∀v w,setAll (zak (tObj.row T) (q*5+2) v) (q*5+2) [w]=zak (tObj.row T) (q*5+2) w:=fun v w=>zjv _ _ v w
 have hll2:∀v y,(zak ((tObj.row T).set (q*5+3) y) (q*5+2) v).length=(tObj.row T).length:=fun v y=>by rw[zh2,xaw]
 have hll3:∀y,((tObj.row T).set (q*5+3) y).length=(tObj.row T).length:=fun y=>xaw ..
 have hrf2:∀v y,AV.refs.refsL (zak ((tObj.row T).set (q*5+3) y) (q*5+2) v)=v.refs:=fun v y=>zch (by rw[xaw];omega)
 have hgt2:∀v y,(zak ((tObj.row T).set (q*5+3) y) (q*5+2) v)[q*5+2]?=some v:=fun v y=>zh1 (by rw[xaw];omega)
 have hrs2:∀v w y,setAll (zak ((tObj.row T).set (q*5+3) y) (q*5+2) v) (q*5+2) [w]=zak ((tObj.row T).set (q*5+3) y) (q*5+2) w:=fun v w y=>zjv _ _ v w
 have hmk:∀w,setAll ((tObj.row T).map AV.imm) (q*5+2) [w]=zak (tObj.row T) (q*5+2) w:=fun w=>ziv _ _ w
 have hmk2:∀w y,setAll (((tObj.row T).map AV.imm).set (q*5+3) (.imm y)) (q*5+2) [w]=zak ((tObj.row T).set (q*5+3) y) (q*5+2) w:=fun w y=>by rw[<-List.map_set];exact ziv _ _ w
 have f1:=zfv (ext:=ext) c.c581 v k
 have f2:=zme (ext:=ext) c.c213 hq (tVal.row xs) xs.length (some xs.length) v.k v.n hv hq (by omega)
 have e1:¬(xs.length:Int)<0:=by omega
 have hrl2:(tVal.row xs).length=xs.length*2:=zbg tVal xs
 have hcut:=zda _ hrl2
 have e4:¬(65536:Int)<=xs.length:=by omega
 have w2:IntKind.wrap .i64 ((xs.length:Int)+1)=(xs.length:Int)+1:=zap (by omega) (by omega)
 have hle1:(xs.length+1)*16<=140737488355328:=by omega
 have hno1:¬xs.length+1<=xs.length:=by omega
 have hap1:tVal.row xs++[.val (.int .u8 x.k),.val (.int .i64 x.n)]=tVal.row (xs++[x]):=by simp[Ty.row,tVal]
 have w1:IntKind.wrap .i64 (65536:Int)=65536:=rfl
 have w7:IntKind.wrap .i64 (65536:Int)=65536:=rfl
 have w6:IntKind.wrap .i64 (4:Int)=4:=rfl
 rw[v4,k2]at f1
 rw[v4]at f2
 simp only[decide_true,Bool.or_true,Bool.true_or,xb9]at f1
 unfold zag
 rw[v4,k2]
 rw[zad code ext c.c215]
 by_cases hroom:o.room<((xs.length:Nat):Int)+1
 ·obtain⟨room,hrm⟩:∃room:Int,room=if (4*1:Int)<2*o.room then 2*o.room else 4*1:=⟨_,rfl⟩
  have hg1:zbm 1 xs.length o.room=room:=by unfold zbm;rw[if_pos hroom,hrm]
  have hg2:zca 1 xs.length o.room=1+2*room:=by unfold zca;rw[if_pos hroom,hg1]
  have hrb:0<=room/\room<=262144:=by rw[hrm];split<;>omega
  have hrm:room=if (4:Int)<2*o.room then 2*o.room else 4:=hrm
  have w3:IntKind.wrap .i64 (2*o.room)=2*o.room:=zap (by omega) (by omega)
  have w4:IntKind.wrap .i64 (2*room)=2*room:=zap (by omega) (by omega)
  have w5:IntKind.wrap .i64 (1+2*room)=1+2*room:=zap (by omega) (by omega)
  have f3:=z2o (ext:=ext) c.c218 (R:=tObj.row T) (N:=T.length) (q:=q) (by omega) (tVal.row xs) xs.length (some xs.length) (w:=1+2*room) (by omega) (by omega)
  have hroom':o.room<(xs.length:Int)+1:=by omega
  clear hcell
  rw[hg1,hg2]
  unfold zbi
  try unfold rM at *
  try unfold rU at *
  try unfold rV at *
  try unfold rA at *
  rw[hk]at *
  generalize tVal.row (xs++[x])=W2 at *
  generalize tVal.row xs=W at *
  generalize tObj.row T=R at *
  generalize T.length=N at *
  generalize xs.length=n at *
  generalize o.room=rm at *
  simp -implicitDefEqProofs [zeh,f1,f2,zax,p1,w1,w2,w6,za0,za1,elems,hll,hll2,hrs2,hrr,hgt,hgt2,hgr,hrf,hrf2,hR1,hR2,e1,e4,hcut,hap1,hle1,hno1,f3,w3,<-hrm,w4,w5,hroom']
 ·have hg1:zbm 1 xs.length o.room=o.room:=by unfold zbm;rw[if_neg hroom]
  have hg2:zca 1 xs.length o.room=0:=by unfold zca;rw[if_neg hroom]
  have hroom':¬o.room<(xs.length:Int)+1:=by omega
  rw[hg1,hg2,zkx hcell]
  clear hcell
  try unfold rM at *
  try unfold rU at *
  try unfold rV at *
  try unfold rA at *
  rw[hk]at *
  generalize tVal.row (xs++[x])=W2 at *
  generalize tVal.row xs=W at *
  generalize tObj.row T=R at *
  generalize T.length=N at *
  generalize xs.length=n at *
  generalize o.room=rm at *
  simp -implicitDefEqProofs [zeh,f1,f2,zax,p1,w1,w2,za0,za1,elems,hll,hrs,hgt,hgr,hrf,hR1,e1,e4,hcut,hap1,hle1,hno1,hroom']
theorem yd6 (c:zgn code) {T:List Obj} (hn:T.length<=100000000) {q:Nat} (hq:q<T.length) {v k x:Val} (v4:v.k=4) (k2:k.k=2) (hv:(q:Int)=v.n-1) (hk:k.n=0) {o:Obj} (ho:T[q]?=some o) (hnil:o.l.iv=.val (.slice none 0 0)) (hr0:0<=o.room) (hr1:o.room<=262144):
  callW code ext 215 [.optr 0 0,zag v,zag k,zag x] (sM false T)=some (zbk 0 0 .empty,rU (zbi (tObj.row T) q (zbm 1 0 o.room)) T.length q (tVal.row [x]) 1 none (zca 1 0 o.room)):=by
 have p1:=zc7
 have hrl:(tObj.row T).length=T.length*5:=zbg tObj T
 have hcell:(tObj.row T)[q*5+3]?=some (.val (.int .i64 o.room)):=zai (zdc (t:=tObj) ho) 3 (by decide)
 have hR1:q*5+2+1<=(tObj.row T).length:=by omega
 have hR2:q*5+3+1<=(tObj.row T).length:=by omega
 have hrf:∀v:AV,AV.refs.refsL (zak (tObj.row T) (q*5+2) v)=v.refs:=fun v=>zch (by omega)
 have hgt:∀v,(zak (tObj.row T) (q*5+2) v)[q*5+2]?=some v:=fun v=>zh1 (by omega)
 have hgr:∀v,(zak (tObj.row T) (q*5+2) v)[q*5+3]?=some (.imm (.val (.int .i64 o.room))):=fun v=>zkw hcell (by omega)
 have hll:∀v,(zak (tObj.row T) (q*5+2) v).length=(tObj.row T).length:=fun v=>zh2 (tObj.row T) (q*5+2) v
 have hrr:∀v y,setAll (zak (tObj.row T) (q*5+2) v) (q*5+3) [.imm y]=zak ((tObj.row T).set (q*5+3) y) (q*5+2) v:=fun v y=>zot (by omega)
 have hrs:∀v w,setAll (zak (tObj.row T) (q*5+2) v) (q*5+2) [w]=zak (tObj.row T) (q*5+2) w:=fun v w=>zjv _ _ v w
 have hll2:∀v y,(zak ((tObj.row T).set (q*5+3) y) (q*5+2) v).length=(tObj.row T).length:=fun v y=>by rw[zh2,xaw]
 have hll3:∀y,((tObj.row T).set (q*5+3) y).length=(tObj.row T).length:=fun y=>xaw ..
 have hrf2:∀v y,AV.refs.refsL (zak ((tObj.row T).set (q*5+3) y) (q*5+2) v)=v.refs:=fun v y=>zch (by rw[xaw];omega)
 have hgt2:∀v y,(zak ((tObj.row T).set (q*5+3) y) (q*5+2) v)[q*5+2]?=some v:=fun v y=>zh1 (by rw[xaw];omega)
 have hrs2:∀v w y,setAll (zak ((tObj.row T).set (q*5+3) y) (q*5+2) v) (q*5+2) [w]=zak ((tObj.row T).set (q*5+3) y) (q*5+2) w:=fun v w y=>zjv _ _ v w
 have hmk:∀w,setAll ((tObj.row T).map AV.imm) (q*5+2) [w]=zak (tObj.row T) (q*5+2) w:=fun w=>ziv _ _ w
 have hmk2:∀w y,setAll (((tObj.row T).map AV.imm).set (q*5+3) (.imm y)) (q*5+2) [w]=zak ((tObj.row T).set (q*5+3) y) (q*5+2) w:=fun w y=>by rw[<-List.map_set];exact ziv _ _ w
 have f1:=zfv (ext:=ext) c.c581 v k
 have f2:=zhu (ext:=ext) c.c213 v.k v.n hv hq (by omega)
 have hcl:(tObj.row T)[q*5+2]?=some (.val (.slice none 0 0)):=by rw[<-hnil];exact zh4 ho
 have hsf:∀y,setAll (tObj.row T) (q*5+3) [y]=(tObj.row T).set (q*5+3) y:=fun y=>rfl
 have hcl2:∀y,((tObj.row T).set (q*5+3) y)[q*5+2]?=some (.val (.slice none 0 0)):=fun y=>by rw[xa0 (by omega)];exact hcl
 have w2:IntKind.wrap .i64 (1:Int)=1:=rfl
 have hrow:tVal.row [x]=[.val (.int .u8 x.k),.val (.int .i64 x.n)]:=rfl
 have w1:IntKind.wrap .i64 (65536:Int)=65536:=rfl
 have w7:IntKind.wrap .i64 (65536:Int)=65536:=rfl
 have w6:IntKind.wrap .i64 (4:Int)=4:=rfl
 rw[v4,k2]at f1
 rw[v4]at f2
 simp only[decide_true,Bool.or_true,Bool.true_or,xb9]at f1
 unfold zag
 rw[v4,k2]
 rw[zad code ext c.c215]
 by_cases hroom:o.room<((0:Nat):Int)+1
 ·obtain⟨room,hrm⟩:∃room:Int,room=if (4*1:Int)<2*o.room then 2*o.room else 4*1:=⟨_,rfl⟩
  have hg1:zbm 1 0 o.room=room:=by unfold zbm;rw[if_pos hroom,hrm]
  have hg2:zca 1 0 o.room=1+2*room:=by unfold zca;rw[if_pos hroom,hg1]
  have hrb:0<=room/\room<=262144:=by rw[hrm];split<;>omega
  have hrm:room=if (4:Int)<2*o.room then 2*o.room else 4:=hrm
  have w3:IntKind.wrap .i64 (2*o.room)=2*o.room:=zap (by omega) (by omega)
  have w4:IntKind.wrap .i64 (2*room)=2*room:=zap (by omega) (by omega)
  have w5:IntKind.wrap .i64 (1+2*room)=1+2*room:=zap (by omega) (by omega)
  have f3:=zvt (ext:=ext) c.c218 false T (w:=1+2*room) (by omega) (by omega)
  have hroom':o.room<1:=by omega
  rw[hg1,hg2]
  unfold zbi
  try unfold sM at *
  try unfold rU at *
  simp only[xar,if_false]at *
  rw[hk]at *
  generalize tObj.row T=R at *
  generalize T.length=N at *
  generalize o.room=rm at *
  simp -implicitDefEqProofs [zeh,f1,f2,zax,p1,w1,w2,w6,za0,za1,elems,hll3,hrf2,hR1,hR2,hmk2,hcl,hcl2,hrow,hcell,hsf,f3,w3,<-hrm,w4,w5,hroom']
 ·have hg1:zbm 1 0 o.room=o.room:=by unfold zbm;rw[if_neg hroom]
  have hg2:zca 1 0 o.room=0:=by unfold zca;rw[if_neg hroom]
  have hroom':¬o.room<1:=by omega
  rw[hg1,hg2,zkx hcell]
  try unfold sM at *
  try unfold rU at *
  simp only[xar,if_false]at *
  rw[hk]at *
  generalize tObj.row T=R at *
  generalize T.length=N at *
  generalize o.room=rm at *
  simp -implicitDefEqProofs [zeh,f1,f2,zax,p1,w1,w2,za0,za1,elems,hrf,hR1,hmk,hcl,hrow,hcell,hroom']
theorem yd4 (c:zgn code) {T:List Obj} (hn:T.length<=100000000) {q:Nat} (hq:q<T.length) {v k x:Val} (v5:v.k=5) (hv:(q:Int)=v.n-1) (xs:List Val) (hl:xs.length<131072) (hl2:xs.length%2=0) {o:Obj} (ho:T[q]?=some o) (hr0:(xs.length:Int)<=o.room) (hr1:o.room<=262144) (hat:callW code ext 209 [.optr 0 0,.osl 1 0 2 xs.length (some xs.length),zag k] (rA T q (tVal.row xs) xs.length (some xs.length))=some (zaa (-1),rA T q (tVal.row xs) xs.length (some xs.length))):
  callW code ext 215 [.optr 0 0,zag v,zag k,zag x] (rM T q (tVal.row xs) xs.length (some xs.length))=some (zbk 0 0 .empty,rV (zbi (tObj.row T) q (zbm 2 xs.length o.room)) T.length q (tVal.row xs) (tVal.row (xs++[k,x])) (xs.length+2) none (zca 2 xs.length o.room)):=by
 have p1:=zc7
 have hrl:(tObj.row T).length=T.length*5:=zbg tObj T
 have hcell:(tObj.row T)[q*5+3]?=some (.val (.int .i64 o.room)):=zai (zdc (t:=tObj) ho) 3 (by decide)
 have hR1:q*5+2+1<=(tObj.row T).length:=by omega
 have hR2:q*5+3+1<=(tObj.row T).length:=by omega
 have hrf:∀v:AV,AV.refs.refsL (zak (tObj.row T) (q*5+2) v)=v.refs:=fun v=>zch (by omega)
 have hgt:∀v,(zak (tObj.row T) (q*5+2) v)[q*5+2]?=some v:=fun v=>zh1 (by omega)
 have hgr:∀v,(zak (tObj.row T) (q*5+2) v)[q*5+3]?=some (.imm (.val (.int .i64 o.room))):=fun v=>zkw hcell (by omega)
 have hll:∀v,(zak (tObj.row T) (q*5+2) v).length=(tObj.row T).length:=fun v=>zh2 (tObj.row T) (q*5+2) v
 have hrr:∀v y,setAll (zak (tObj.row T) (q*5+2) v) (q*5+3) [.imm y]=zak ((tObj.row T).set (q*5+3) y) (q*5+2) v:=fun v y=>zot (by omega)
 have hrs:∀v w,setAll (zak (tObj.row T) (q*5+2) v) (q*5+2) [w]=zak (tObj.row T) (q*5+2) w:=fun v w=>zjv _ _ v w
 have hll2:∀v y,(zak ((tObj.row T).set (q*5+3) y) (q*5+2) v).length=(tObj.row T).length:=fun v y=>by rw[zh2,xaw]
 have hll3:∀y,((tObj.row T).set (q*5+3) y).length=(tObj.row T).length:=fun y=>xaw ..
 have hrf2:∀v y,AV.refs.refsL (zak ((tObj.row T).set (q*5+3) y) (q*5+2) v)=v.refs:=fun v y=>zch (by rw[xaw];omega)
 have hgt2:∀v y,(zak ((tObj.row T).set (q*5+3) y) (q*5+2) v)[q*5+2]?=some v:=fun v y=>zh1 (by rw[xaw];omega)
 have hrs2:∀v w y,setAll (zak ((tObj.row T).set (q*5+3) y) (q*5+2) v) (q*5+2) [w]=zak ((tObj.row T).set (q*5+3) y) (q*5+2) w:=fun v w y=>zjv _ _ v w
 have hmk:∀w,setAll ((tObj.row T).map AV.imm) (q*5+2) [w]=zak (tObj.row T) (q*5+2) w:=fun w=>ziv _ _ w
 have hmk2:∀w y,setAll (((tObj.row T).map AV.imm).set (q*5+3) (.imm y)) (q*5+2) [w]=zak ((tObj.row T).set (q*5+3) y) (q*5+2) w:=fun w y=>by rw[<-List.map_set];exact ziv _ _ w
 have f1:=zfv (ext:=ext) c.c581 v k
 have f2:=zme (ext:=ext) c.c213 hq (tVal.row xs) xs.length (some xs.length) v.k v.n hv hq (by omega)
 have e1:¬(xs.length:Int)<0:=by omega
 have hrl2:(tVal.row xs).length=xs.length*2:=zbg tVal xs
 have hcut:=zda _ hrl2
 have e4:¬(131072:Int)<=xs.length:=by omega
 have w2:IntKind.wrap .i64 ((xs.length:Int)+2)=(xs.length:Int)+2:=zap (by omega) (by omega)
 have hle1:(xs.length+1)*16<=140737488355328:=by omega
 have hno1:¬xs.length+1<=xs.length:=by omega
 have hle2:(xs.length+2)*16<=140737488355328:=by omega
 have hno2:¬xs.length+2<=xs.length:=by omega
 have hap1:tVal.row xs++[.val (.int .u8 k.k),.val (.int .i64 k.n)]=tVal.row (xs++[k]):=by simp[Ty.row,tVal]
 have hap2:tVal.row (xs++[k])++[.val (.int .u8 x.k),.val (.int .i64 x.n)]=tVal.row (xs++[k,x]):=by simp[Ty.row,tVal]
 have hcut2:cut (tVal.row (xs++[k])) 0 ((xs.length+1)*2)=some (tVal.row (xs++[k])):=zda _ (by have:=zbg tVal (xs++[k]);rw[xao]at this;exact this)
 have hrl3:(tVal.row (xs++[k])).length=(xs.length+1)*2:=by have:=zbg tVal (xs++[k]);rw[xao]at this;exact this
 have w1:IntKind.wrap .i64 (131072:Int)=131072:=rfl
 have w7:IntKind.wrap .i64 (65536:Int)=65536:=rfl
 have w6:IntKind.wrap .i64 (8:Int)=8:=rfl
 rw[v5]at f1 f2
 simp only[decide_true,Bool.true_or]at f1
 unfold zag at *
 rw[v5]
 rw[zad code ext c.c215]
 by_cases hroom:o.room<((xs.length:Nat):Int)+2
 ·obtain⟨room,hrm⟩:∃room:Int,room=if (4*2:Int)<2*o.room then 2*o.room else 4*2:=⟨_,rfl⟩
  have hg1:zbm 2 xs.length o.room=room:=by unfold zbm;rw[if_pos hroom,hrm]
  have hg2:zca 2 xs.length o.room=1+2*room:=by unfold zca;rw[if_pos hroom,hg1]
  have hrb:0<=room/\room<=262144:=by rw[hrm];split<;>omega
  have hrm:room=if (8:Int)<2*o.room then 2*o.room else 8:=hrm
  have w3:IntKind.wrap .i64 (2*o.room)=2*o.room:=zap (by omega) (by omega)
  have w4:IntKind.wrap .i64 (2*room)=2*room:=zap (by omega) (by omega)
  have w5:IntKind.wrap .i64 (1+2*room)=1+2*room:=zap (by omega) (by omega)
  have f3:=z2o (ext:=ext) c.c218 (R:=tObj.row T) (N:=T.length) (q:=q) (by omega) (tVal.row xs) xs.length (some xs.length) (w:=1+2*room) (by omega) (by omega)
  have hroom':o.room<(xs.length:Int)+2:=by omega
  clear hcell
  rw[hg1,hg2]
  unfold zbi
  try unfold rM at *
  try unfold rU at *
  try unfold rV at *
  try unfold rA at *
  generalize tVal.row (xs++[k,x])=W3 at *
  generalize tVal.row (xs++[k])=W2 at *
  generalize tVal.row xs=W at *
  generalize tObj.row T=R at *
  generalize T.length=N at *
  generalize xs.length=n at *
  generalize o.room=rm at *
  simp -implicitDefEqProofs [zeh,f1,f2,zax,zcv,p1,w1,w2,w6,za0,za1,elems,hll,hll2,hrs2,hrr,hgt,hgt2,hgr,hrf,hrf2,hR1,hR2,e1,e4,hcut,hap1,hle1,hno1,hap2,hcut2,hle2,hat,f3,w3,<-hrm,w4,w5,hroom']
 ·have hg1:zbm 2 xs.length o.room=o.room:=by unfold zbm;rw[if_neg hroom]
  have hg2:zca 2 xs.length o.room=0:=by unfold zca;rw[if_neg hroom]
  have hroom':¬o.room<(xs.length:Int)+2:=by omega
  rw[hg1,hg2,zkx hcell]
  clear hcell
  try unfold rM at *
  try unfold rU at *
  try unfold rV at *
  try unfold rA at *
  generalize tVal.row (xs++[k,x])=W3 at *
  generalize tVal.row (xs++[k])=W2 at *
  generalize tVal.row xs=W at *
  generalize tObj.row T=R at *
  generalize T.length=N at *
  generalize xs.length=n at *
  generalize o.room=rm at *
  simp -implicitDefEqProofs [zeh,f1,f2,zax,zcv,p1,w1,w2,za0,za1,elems,hll,hrs,hgt,hgr,hrf,hR1,e1,e4,hcut,hap1,hle1,hno1,hap2,hcut2,hle2,hat,hroom']
theorem yd5 (c:zgn code) {T:List Obj} (hn:T.length<=100000000) {q:Nat} (hq:q<T.length) {v k x:Val} (v5:v.k=5) (hv:(q:Int)=v.n-1) {o:Obj} (ho:T[q]?=some o) (hnil:o.l.iv=.val (.slice none 0 0)) (hr0:0<=o.room) (hr1:o.room<=262144) (hat:callW code ext 209 [.optr 0 0,zaf,zag k] (sM false T)=some (zaa (-1),sM false T)):
  callW code ext 215 [.optr 0 0,zag v,zag k,zag x] (sM false T)=some (zbk 0 0 .empty,rU (zbi (tObj.row T) q (zbm 2 0 o.room)) T.length q (tVal.row [k,x]) 2 none (zca 2 0 o.room)):=by
 have p1:=zc7
 have hrl:(tObj.row T).length=T.length*5:=zbg tObj T
 have hcell:(tObj.row T)[q*5+3]?=some (.val (.int .i64 o.room)):=zai (zdc (t:=tObj) ho) 3 (by decide)
 have hR1:q*5+2+1<=(tObj.row T).length:=by omega
 have hR2:q*5+3+1<=(tObj.row T).length:=by omega
 have hrf:∀v:AV,AV.refs.refsL (zak (tObj.row T) (q*5+2) v)=v.refs:=fun v=>zch (by omega)
 have hgt:∀v,(zak (tObj.row T) (q*5+2) v)[q*5+2]?=some v:=fun v=>zh1 (by omega)
 have hgr:∀v,(zak (tObj.row T) (q*5+2) v)[q*5+3]?=some (.imm (.val (.int .i64 o.room))):=fun v=>zkw hcell (by omega)
 have hll:∀v,(zak (tObj.row T) (q*5+2) v).length=(tObj.row T).length:=fun v=>zh2 (tObj.row T) (q*5+2) v
 have hrr:∀v y,setAll (zak (tObj.row T) (q*5+2) v) (q*5+3) [.imm y]=zak ((tObj.row T).set (q*5+3) y) (q*5+2) v:=fun v y=>zot (by omega)
 have hrs:∀v w,setAll (zak (tObj.row T) (q*5+2) v) (q*5+2) [w]=zak (tObj.row T) (q*5+2) w:=fun v w=>zjv _ _ v w
 have hll2:∀v y,(zak ((tObj.row T).set (q*5+3) y) (q*5+2) v).length=(tObj.row T).length:=fun v y=>by rw[zh2,xaw]
 have hll3:∀y,((tObj.row T).set (q*5+3) y).length=(tObj.row T).length:=fun y=>xaw ..
 have hrf2:∀v y,AV.refs.refsL (zak ((tObj.row T).set (q*5+3) y) (q*5+2) v)=v.refs:=fun v y=>zch (by rw[xaw];omega)
 have hgt2:∀v y,(zak ((tObj.row T).set (q*5+3) y) (q*5+2) v)[q*5+2]?=some v:=fun v y=>zh1 (by rw[xaw];omega)
 have hrs2:∀v w y,setAll (zak ((tObj.row T).set (q*5+3) y) (q*5+2) v) (q*5+2) [w]=zak ((tObj.row T).set (q*5+3) y) (q*5+2) w:=fun v w y=>zjv _ _ v w
 have hmk:∀w,setAll ((tObj.row T).map AV.imm) (q*5+2) [w]=zak (tObj.row T) (q*5+2) w:=fun w=>ziv _ _ w
 have hmk2:∀w y,setAll (((tObj.row T).map AV.imm).set (q*5+3) (.imm y)) (q*5+2) [w]=zak ((tObj.row T).set (q*5+3) y) (q*5+2) w:=fun w y=>by rw[<-List.map_set];exact ziv _ _ w
 have f1:=zfv (ext:=ext) c.c581 v k
 have f2:=zhu (ext:=ext) c.c213 v.k v.n hv hq (by omega)
 have hcl:(tObj.row T)[q*5+2]?=some (.val (.slice none 0 0)):=by rw[<-hnil];exact zh4 ho
 have hsf:∀y,setAll (tObj.row T) (q*5+3) [y]=(tObj.row T).set (q*5+3) y:=fun y=>rfl
 have hcl2:∀y,((tObj.row T).set (q*5+3) y)[q*5+2]?=some (.val (.slice none 0 0)):=fun y=>by rw[xa0 (by omega)];exact hcl
 have w2:IntKind.wrap .i64 (2:Int)=2:=rfl
 have hrow:tVal.row [k,x]=[.val (.int .u8 k.k),.val (.int .i64 k.n),.val (.int .u8 x.k),.val (.int .i64 x.n)]:=rfl
 have w1:IntKind.wrap .i64 (131072:Int)=131072:=rfl
 have w7:IntKind.wrap .i64 (65536:Int)=65536:=rfl
 have w6:IntKind.wrap .i64 (8:Int)=8:=rfl
 rw[v5]at f1 f2
 simp only[decide_true,Bool.true_or]at f1
 unfold zag at *
 rw[v5]
 rw[zad code ext c.c215]
 by_cases hroom:o.room<((0:Nat):Int)+2
 ·obtain⟨room,hrm⟩:∃room:Int,room=if (4*2:Int)<2*o.room then 2*o.room else 4*2:=⟨_,rfl⟩
  have hg1:zbm 2 0 o.room=room:=by unfold zbm;rw[if_pos hroom,hrm]
  have hg2:zca 2 0 o.room=1+2*room:=by unfold zca;rw[if_pos hroom,hg1]
  have hrb:0<=room/\room<=262144:=by rw[hrm];split<;>omega
  have hrm:room=if (8:Int)<2*o.room then 2*o.room else 8:=hrm
  have w3:IntKind.wrap .i64 (2*o.room)=2*o.room:=zap (by omega) (by omega)
  have w4:IntKind.wrap .i64 (2*room)=2*room:=zap (by omega) (by omega)
  have w5:IntKind.wrap .i64 (1+2*room)=1+2*room:=zap (by omega) (by omega)
  have f3:=zvt (ext:=ext) c.c218 false T (w:=1+2*room) (by omega) (by omega)
  have hroom':o.room<2:=by omega
  rw[hg1,hg2]
  unfold zbi
  try unfold sM at *
  try unfold rU at *
  simp only[xar,if_false]at *
  generalize tObj.row T=R at *
  generalize T.length=N at *
  generalize o.room=rm at *
  simp -implicitDefEqProofs [zeh,f1,f2,zax,zcv,p1,w1,w2,w6,za0,za1,elems,hll2,hll3,hrs2,hgt2,hrf2,hR1,hR2,hmk2,hcl,hcl2,hrow,hcell,hsf,hat,f3,w3,<-hrm,w4,w5,hroom']
 ·have hg1:zbm 2 0 o.room=o.room:=by unfold zbm;rw[if_neg hroom]
  have hg2:zca 2 0 o.room=0:=by unfold zca;rw[if_neg hroom]
  have hroom':¬o.room<2:=by omega
  rw[hg1,hg2,zkx hcell]
  try unfold sM at *
  try unfold rU at *
  simp only[xar,if_false]at *
  generalize tObj.row T=R at *
  generalize T.length=N at *
  generalize o.room=rm at *
  simp -implicitDefEqProofs [zeh,f1,f2,zax,zcv,p1,w1,w2,za0,za1,elems,hll,hrs,hgt,hrf,hR1,hmk,hcl,hrow,hcell,hat,hroom']
end
inductive PutIs (T:List Obj) (v k x:Val):ByteArray->Int->Option (Nat×List Val×Int×Bool)->Prop where
 |kind:¬(v.k=5\/(v.k=4/\k.k=2))->PutIs T v k x zdm 0 none
 |bounds {q:Nat} {o:Obj}:v.k=4->k.k=2->zau T v=some q->T[q]?=some o->(k.n<0\/(o.l.xs.length:Int)<k.n)->PutIs T v k x zho 0 none
 |set {q i:Nat} {o:Obj}:v.k=4->k.k=2->zau T v=some q->T[q]?=some o->k.n=i->i<o.l.xs.length->PutIs T v k x .empty 0 (some (q,o.l.xs.set i x,o.room,false))
 |push {q:Nat} {o:Obj}:v.k=4->k.k=2->zau T v=some q->T[q]?=some o->k.n=o.l.xs.length->PutIs T v k x .empty (zca 1 o.l.xs.length o.room) (some (q,o.l.xs++[x],zbm 1 o.l.xs.length o.room,true))
 |found {q j:Nat} {o:Obj}:v.k=5->zau T v=some q->T[q]?=some o->AtV T o.l.xs k (2*j:Nat)->2*j+1<o.l.xs.length->PutIs T v k x .empty 0 (some (q,o.l.xs.set (2*j+1) x,o.room,false))
 |key {q:Nat} {o:Obj}:v.k=5->zau T v=some q->T[q]?=some o->AtV T o.l.xs k (-1)->PutIs T v k x .empty (zca 2 o.l.xs.length o.room) (some (q,o.l.xs++[k,x],zbm 2 o.l.xs.length o.room,true))
def zcd(T:List Obj):Option (Nat×List Val×Int×Bool)->Mem
 |none=>zba (tObj.row (T++[zat])) T.length (T.length+1)
 |some (q,xs,room,false)=>zba ((tObj.row (T++[zat])).set (q*5+2) (.slice (tVal.row xs) 0 xs.length none)) T.length (T.length+1)
 |some (q,xs,room,true)=>[.rich [.osl 1 0 5 T.length (some (T.length+1))],.rich (zak (zbi (tObj.row (T++[zat])) q room) (q*5+2) (.osl 2 0 2 xs.length none)),.rich ((tVal.row xs).map .imm)]
structure zdr (code:Nat->Option zab):Prop where
 c161:code 161=some zic
 c163:code 163=some zpb
 c165:code 165=some zm0
 c166:code 166=some zhi
 c559:code 559=some zgk
 c562:code 562=some zpq
 c152:code 152=some zpa
 c154:code 154=some zf3
 c160:code 160=some zgj
 c164:code 164=some zr0
 c167:code 167=some zpc
 c560:code 560=some zk9
structure HeapK (T:List Obj):Prop where
 rd:zao tObj (.slice (tObj.row (T++[zat])) 0 T.length (some (T.length+1))) T
 n:T.length<=1000000
 l:∀o∈T,o.l.xs.length<=60000
section
variable {code:Nat->Option zab} {ext:zac} {T:List Obj}
theorem HeapK.cut(h:HeapK T):∀i o,T[i]?=some o->cut (tObj.row (T++[zat])) (i*5) 5=some (tObj.enc o):=fun i o ho=>zdc (t:=tObj) (xs:=T++[zat]) (by rw[xac (xaa.1 ho).1];exact ho)
theorem HeapK.obj(h:HeapK T)(c166:code 166=some zhi){v:Val}{q:Nat}{o:Obj}(hq:zau T v=some q)(ho:T[q]?=some o):
  callW code ext 166 [.optr 0 0,.agg [.imm (.val (.int .u8 v.k)),zaa v.n]] (zba (tObj.row (T++[zat])) T.length (T.length+1))=some (.agg [.imm (.val (.int .u8 o.k)),zaq o.s,.imm o.l.iv,zaa o.room,zaa o.fn],zba (tObj.row (T++[zat])) T.length (T.length+1)):=by
 obtain⟨l1,l2,_⟩:=zcg hq
 have hn:=h.n
 exact yfd c166 h.cut rfl (by omega) l2 ho
set_option maxHeartbeats 4000000 in
theorem ye8 (c:zdr code) (h:HeapK T) {v k x:Val} {q j:Nat} {o:Obj} (hq:zau T v=some q) (ho:T[q]?=some o) (hj:2*j+1<o.l.xs.length) (hk:zbw T k) (hx:∀(j:Nat) a,o.l.xs[2*j]?=some a->zbw T a) (hat:AtV T o.l.xs k (2*j:Nat)):
  callW code ext 167 [.optr 0 0,zag v,zag k,zag x,avb false] (zcd T none)=some (za2 0 0 .empty 0,zcd T (some (q,o.l.xs.set (2*j+1) x,o.room,false))):=by
 obtain⟨l1,l2,_⟩:=zcg hq
 have hn:=h.n
 have hll:=h.l o (xag ho)
 have f1:=h.obj (ext:=ext) c.c166 hq ho
 have hrx:zao tVal o.l.iv o.l.xs:=o.l.ok
 obtain⟨m1,f2⟩:=zq6 (ext:=ext) c.c164 c.c161 c.c166 h.rd hrx (by omega) hk hx hat
 have f3:∀m,elems m 2 (.imm o.l.iv)=some (o.l.xs.length,tVal.row o.l.xs):=fun m=>zlx (t:=tVal) m hrx
 have f4:=zaz hrx
 obtain⟨i,hi⟩:∃i,i=2*j+1:=⟨_,rfl⟩
 obtain⟨i0,hi0⟩:∃i,i=2*j:=⟨_,rfl⟩
 rw[<-hi]at hj ⊢
 rw[<-hi0]at f2
 have w1:IntKind.wrap .i64 ((i0:Int)+1)=(i:Int):=by rw[zap (by omega) (by omega)];omega
 have w2:IntKind.wrap .i64 (v.n-1)=(q:Nat):=by rw[zap (by omega) (by omega)];omega
 have e0:(0:Int)<=(i0:Int):=by omega
 have hset:setAll (tVal.row o.l.xs) (i*2) [.val (.int .u8 x.k),.val (.int .i64 x.n)]=tVal.row (o.l.xs.set i x):=zow o.l.xs i x hj
 simp only[setAll]at hset
 have hbig:¬q*5=9999999999998:=by omega
 have hrl2:(tVal.row o.l.xs).length=o.l.xs.length*2:=zbg tVal o.l.xs
 have hne:¬o.l.xs.length=0:=by omega
 have hsz:o.l.xs.length*16<=140737488355328:=by omega
 have hrl:(tObj.row (T++[zat])).length=(T++[zat]).length*5:=zbg tObj _
 rw[xao]at hrl
 simp only[xat,xa4,xau]at hrl
 have hls:(o.l.xs.set i x).length=o.l.xs.length:=xaw ..
 unfold zag
 rw[zad code ext c.c167]
 simp only[zcd]
 unfold zba za2 at *
 rw[hls]
 clear h hrx hat hx hk
 generalize o.l.iv=iv at *
 generalize tVal.row (o.l.xs.set i x)=W2 at *
 generalize tVal.row o.l.xs=W at *
 generalize tObj.row (T++[zat])=R at *
 generalize o.l.xs.length=n at *
 have hle:i*2+2<=W.length:=by omega
 have hle2:q*5+2+1<=R.length:=by omega
 have hij:(i:Int)<n:=by omega
 generalize T.length=N at *
 have hqN:(q:Int)<N:=by omega
 simp -implicitDefEqProofs [zpc,zax,zd3,za0,za1,f1,f2,f3,w1,w2,e0,hset,hne,hsz,hle,hle2,hij,hqN,setAll,hbig]
end
section
variable {code:Nat->Option zab} {ext:zac} {T:List Obj}
theorem z2k{R:List IV}{q:Nat}{room:Int}(v:AV):((R.map AV.imm).set (q*5+2) v).set (q*5+3) (.imm (.val (.int .i64 room)))=zak (zbi R q room) (q*5+2) v:=by
 unfold zak zbi
 rw[List.map_set,List.set_comm _ _ (by omega)]
set_option maxHeartbeats 4000000 in
theorem yfa (c:zdr code) (h:HeapK T) {v k x:Val} {q:Nat} {o:Obj} (hq:zau T v=some q) (ho:T[q]?=some o) (hr0:0<=o.room) (hr1:o.room<=262144) (hk:zbw T k) (hx:∀(j:Nat) a,o.l.xs[2*j]?=some a->zbw T a) (hat:AtV T o.l.xs k (-1)):
  callW code ext 167 [.optr 0 0,zag v,zag k,zag x,avb false] (zcd T none)=some (za2 0 0 .empty (zca 2 o.l.xs.length o.room),zcd T (some (q,o.l.xs++[k,x],zbm 2 o.l.xs.length o.room,true))):=by
 obtain⟨l1,l2,_⟩:=zcg hq
 have hn:=h.n
 have hll:=h.l o (xag ho)
 have f1:=h.obj (ext:=ext) c.c166 hq ho
 have hrx:zao tVal o.l.iv o.l.xs:=o.l.ok
 obtain⟨m1,f2⟩:=zq6 (ext:=ext) c.c164 c.c161 c.c166 h.rd hrx (by omega) hk hx hat
 have f3:∀m,elems m 2 (.imm o.l.iv)=some (o.l.xs.length,tVal.row o.l.xs):=fun m=>zlx (t:=tVal) m hrx
 have f4:=zaz hrx
 obtain⟨m2,f5⟩:=z2d (ext:=ext) c.c560 o.k o.s o.l.iv o.l.xs.length o.room o.fn 2 (.inr rfl) (by omega) hr0 (by omega)
 have e8:(4*2:Int)=8:=rfl
 rw[e8]at f5
 have w1:IntKind.wrap .i64 ((o.l.xs.length:Int)+2)=(o.l.xs.length:Int)+2:=zap (by omega) (by omega)
 have w2:IntKind.wrap .i64 (v.n-1)=(q:Nat):=by rw[zap (by omega) (by omega)];omega
 have e0:¬(131072:Int)<=o.l.xs.length:=by omega
 have hrl2:(tVal.row o.l.xs).length=o.l.xs.length*2:=zbg tVal o.l.xs
 have hcut:=zda _ hrl2
 have hsz:o.l.xs.length*16<=140737488355328:=by omega
 have hsz2:(o.l.xs.length+2)*16<=140737488355328:=by omega
 have hrl:(tObj.row (T++[zat])).length=(T++[zat]).length*5:=zbg tObj _
 rw[xao]at hrl
 simp only[xat,xa4,xau]at hrl
 have hls:(o.l.xs++[k,x]).length=o.l.xs.length+2:=by simp
 have happ:(tVal.row o.l.xs).map AV.imm++[.imm (.val (.int .u8 k.k)),zaa k.n,.imm (.val (.int .u8 x.k)),zaa x.n]=(tVal.row (o.l.xs++[k,x])).map AV.imm:=by simp[Ty.row,tVal]
 have hrow:=fun v=>z2k (R:=tObj.row (T++[zat])) (q:=q) (room:=zbm 2 o.l.xs.length o.room) v
 have hrf:∀v:AV,AV.refs.refsL (zak (zbi (tObj.row (T++[zat])) q (zbm 2 o.l.xs.length o.room)) (q*5+2) v)=v.refs:=fun v=>zch (by unfold zbi;rw[xaw];omega)
 have p1:=zc7
 have p2:=zon
 have hri:=zok
 have hw2:(tVal.row (o.l.xs++[k,x])).length=(o.l.xs.length+2)*2:=by rw[zbg tVal];simp[tVal]
 have hs1:(AV.osl 1 0 5 T.length (some (T.length+1))).same (.osl 1 0 5 T.length (some (T.length+1)))=true:=by simp[AV.same]
 have hs2:(zaa v.n).same (zaa v.n)=true:=by simp[AV.same,IV.same,zi0]
 unfold zag
 rw[zad code ext c.c167]
 simp only[zcd]
 unfold zba za2 at *
 rw[hls]
 clear h hrx hat hx hk
 generalize o.l.iv=iv at *
 generalize zca 2 o.l.xs.length o.room=gu at *
 generalize zbm 2 o.l.xs.length o.room=gr at *
 generalize tVal.row (o.l.xs++[k,x])=W2 at *
 generalize zbi (tObj.row (T++[zat])) q gr=R2 at *
 generalize tObj.row (T++[zat])=R at *
 have hle2:q*5+2+1<=R.length:=by omega
 have hle3:q*5+3+1<=R.length:=by omega
 generalize T.length=N at *
 have hqN:(q:Int)<N:=by omega
 by_cases h0:o.l.xs.length=0
 ·have hx0:o.l.xs=[]:=xav h0
  clear hq ho
  generalize o.l.xs=xs at *
  subst hx0
  simp only[xa4,Ty.row,List.map_nil,List.flatMap_nil,xbg,xau,Int.natCast_zero,Int.zero_add]at *
  have w0:IntKind.wrap .i64 2=2:=rfl
  have hcut2:cut W2 0 4=some W2:=zda _ hw2
  simp -implicitDefEqProofs [w0,hcut2,zpc,zax,zhr,zb4,zbq,zix,zmi,f1,f2,f3,f4,f5,w2,e0,hle2,hle3,hqN,setAll,hrow,hrf,p1,happ,hs1,hs2,p2,hri]
 ·generalize tVal.row o.l.xs=W at *
  generalize o.l.xs.length=n at *
  simp -implicitDefEqProofs [zpc,zax,zhr,zb4,zbq,zix,zmi,f1,f2,f3,f4,f5,w1,w2,e0,h0,hsz,hsz2,hcut,hle2,hle3,hqN,setAll,hrow,hrf,p1,happ,hs1,hs2,p2,hri]
end
set_option maxHeartbeats 4000000
abbrev zg9(v k x:Val):List IV:=[.val (.int .u8 v.k),.val (.int .i64 v.n),.val (.int .u8 k.k),.val (.int .i64 k.n),.val (.int .u8 x.k),.val (.int .i64 x.n)]
def zi7(code:Nat->Option zab)(ext:zac)(T:List Obj)(v k x:Val)(b:Bool):Prop:=
 ∃m,callW code ext 152 [.imm (.ptr [.slice (tObj.row (T++[zat])) 0 T.length (some (T.length+1))] 0),.imm (.slice (zg9 v k x) 0 3 (some 3))] []=some (avb b,m)
section
variable {code:Nat->Option zab} {ext:zac} {T:List Obj}
theorem yfl(c:zdr code){v k x:Val}(hf:zi7 code ext T v k x false):
  callW code ext 160 [.optr 0 0,zag v,zag k,zag x,avb false] (zcd T none)=some (za2 0 0 zdm 0,zcd T none):=by
 obtain⟨m1,hf⟩:=hf
 obtain⟨m2,hk⟩:=zmw (ext:=ext) c.c562 zdm
 unfold zag
 rw[zad code ext c.c160]
 simp only[zcd]
 unfold zba za2 at *
 generalize tObj.row (T++[zat])=R at *
 simp -implicitDefEqProofs [zgj,hf,hk]
theorem yfn(c:zdr code){v k x:Val}(hf:zi7 code ext T v k x true)(hno:¬(v.k=5\/(v.k=4/\k.k=2))):
  callW code ext 160 [.optr 0 0,zag v,zag k,zag x,avb false] (zcd T none)=some (za2 0 0 zdm 0,zcd T none):=by
 obtain⟨m1,hf⟩:=hf
 obtain⟨m2,hk⟩:=zmw (ext:=ext) c.c562 zdm
 unfold zag
 rw[zad code ext c.c160]
 simp only[zcd]
 unfold zba za2 at *
 generalize tObj.row (T++[zat])=R at *
 have v5:¬v.k=5:=fun e=>hno (.inl e)
 by_cases v4:v.k=4
 ·unfold zg9 at hf
  have k2:¬k.k=2:=fun e=>hno (.inr ⟨v4,e⟩)
  rw[v4]at hf ⊢
  simp -implicitDefEqProofs [zgj,hf,hk,k2]
 ·simp -implicitDefEqProofs [zgj,hf,hk,v4,v5]
theorem z2n(c:zdr code){v k x:Val}(hf:zi7 code ext T v k x true)(v5:v.k=5){d:Int}{ch:Option (Nat×List Val×Int×Bool)}
  (h:callW code ext 167 [.optr 0 0,zag v,zag k,zag x,avb false] (zcd T none)=some (za2 0 0 .empty d,zcd T ch)) (hch:∀q xs r,ch=some (q,xs,r,true)->q<T.length):
  callW code ext 160 [.optr 0 0,zag v,zag k,zag x,avb false] (zcd T none)=some (za2 0 0 .empty d,zcd T ch):=by
 obtain⟨m1,hf⟩:=hf
 have hrl:(tObj.row (T++[zat])).length=(T++[zat]).length*5:=zbg tObj _
 rw[xao]at hrl
 simp only[xat,xa4,xau]at hrl
 have p1:=zc7
 have p2:=zon
 have hri:=zok
 unfold zag at *
 unfold zg9 at hf
 rw[v5]at hf h ⊢
 rw[zad code ext c.c160]
 match ch,hch with
 |none,_=>
  simp only[zcd]at h ⊢
  unfold zba za2 at *
  generalize tObj.row (T++[zat])=R at *
  simp -implicitDefEqProofs [zgj,hf,h]
 |some (q,xs,r,false),_=>
  simp only[zcd]at h ⊢
  unfold zba za2 at *
  generalize (tObj.row (T++[zat])).set (q*5+2) (.slice (tVal.row xs) 0 xs.length none)=R2 at *
  generalize tObj.row (T++[zat])=R at *
  simp -implicitDefEqProofs [zgj,hf,h]
 |some (q,xs,r,true),hch=>
  have hq:=hch q xs r rfl
  have hrf:∀v:AV,AV.refs.refsL (zak (zbi (tObj.row (T++[zat])) q r) (q*5+2) v)=v.refs:=fun v=>zch (by unfold zbi;rw[xaw];omega)
  simp only[zcd]at h ⊢
  unfold zba za2 at *
  generalize zbi (tObj.row (T++[zat])) q r=R2 at *
  generalize tObj.row (T++[zat])=R at *
  generalize tVal.row xs=W at *
  simp -implicitDefEqProofs [zgj,hf,h,hrf,p1,p2,hri]
theorem yfm(c:zdr code)(h:HeapK T){v k x:Val}(hf:zi7 code ext T v k x true)(v4:v.k=4)(k2:k.k=2){q:Nat}{o:Obj}(hq:zau T v=some q)(ho:T[q]?=some o)(hb:k.n<0\/(o.l.xs.length:Int)<k.n):
  callW code ext 160 [.optr 0 0,zag v,zag k,zag x,avb false] (zcd T none)=some (za2 0 0 zho 0,zcd T none):=by
 obtain⟨m1,hf⟩:=hf
 obtain⟨m2,hk⟩:=zmw (ext:=ext) c.c562 zho
 have f1:=h.obj (ext:=ext) c.c166 hq ho
 have f4:=zaz (show zao tVal o.l.iv o.l.xs from o.l.ok)
 unfold zag
 rw[v4]at f1
 unfold zg9 at hf
 rw[v4,k2]at hf
 rw[v4,k2]
 rw[zad code ext c.c160]
 simp only[zcd]
 unfold zba za2 at *
 clear h
 generalize tObj.row (T++[zat])=R at *
 generalize o.l.iv=iv at *
 generalize o.l.xs.length=n at *
 by_cases h0:k.n<0
 ·simp -implicitDefEqProofs [zgj,zax,hf,f1,hk,h0]
 ·have h1:(n:Int)<k.n:=hb.resolve_left h0
  simp -implicitDefEqProofs [zgj,zax,hf,f1,f4,hk,h0,h1]
theorem yfp (c:zdr code) (h:HeapK T) {v k x:Val} (hf:zi7 code ext T v k x true) (v4:v.k=4) (k2:k.k=2) {q i:Nat} {o:Obj} (hq:zau T v=some q) (ho:T[q]?=some o) (hkn:k.n=i) (hj:i<o.l.xs.length):
  callW code ext 160 [.optr 0 0,zag v,zag k,zag x,avb false] (zcd T none)=some (za2 0 0 .empty 0,zcd T (some (q,o.l.xs.set i x,o.room,false))):=by
 obtain⟨l1,l2,_⟩:=zcg hq
 have hn:=h.n
 have hll:=h.l o (xag ho)
 have f1:=h.obj (ext:=ext) c.c166 hq ho
 have hrx:zao tVal o.l.iv o.l.xs:=o.l.ok
 obtain⟨m1,hf⟩:=hf
 have f3:∀m,elems m 2 (.imm o.l.iv)=some (o.l.xs.length,tVal.row o.l.xs):=fun m=>zlx (t:=tVal) m hrx
 have f4:=zaz hrx
 have w2:IntKind.wrap .i64 (v.n-1)=(q:Nat):=by rw[zap (by omega) (by omega)];omega
 have e0:¬(i:Int)<0:=by omega
 have e1:¬(o.l.xs.length:Int)<(i:Int):=by omega
 have hset:setAll (tVal.row o.l.xs) (i*2) [.val (.int .u8 x.k),.val (.int .i64 x.n)]=tVal.row (o.l.xs.set i x):=zow o.l.xs i x hj
 simp only[setAll]at hset
 have hbig:¬q*5=9999999999998:=by omega
 have hrl2:(tVal.row o.l.xs).length=o.l.xs.length*2:=zbg tVal o.l.xs
 have hne:¬o.l.xs.length=0:=by omega
 have hsz:o.l.xs.length*16<=140737488355328:=by omega
 have hrl:(tObj.row (T++[zat])).length=(T++[zat]).length*5:=zbg tObj _
 rw[xao]at hrl
 simp only[xat,xa4,xau]at hrl
 have hls:(o.l.xs.set i x).length=o.l.xs.length:=xaw ..
 unfold zag
 rw[v4]at f1
 unfold zg9 at hf
 rw[v4,k2,hkn]at hf
 rw[v4,k2,hkn]
 rw[zad code ext c.c160]
 simp only[zcd]
 unfold zba za2 at *
 rw[hls]
 clear h hrx
 generalize o.l.iv=iv at *
 generalize tVal.row (o.l.xs.set i x)=W2 at *
 generalize tVal.row o.l.xs=W at *
 generalize tObj.row (T++[zat])=R at *
 generalize o.l.xs.length=n at *
 have hle:i*2+2<=W.length:=by omega
 have hle2:q*5+2+1<=R.length:=by omega
 have hij:(i:Int)<n:=by omega
 generalize T.length=N at *
 have hqN:(q:Int)<N:=by omega
 simp -implicitDefEqProofs [zgj,zax,zd3,za0,za1,hf,f1,f3,f4,w2,e0,e1,hset,hne,hsz,hle,hle2,hij,hqN,setAll,hbig]
theorem yfo (c:zdr code) (h:HeapK T) {v k x:Val} (hf:zi7 code ext T v k x true) (v4:v.k=4) (k2:k.k=2) {q:Nat} {o:Obj} (hq:zau T v=some q) (ho:T[q]?=some o) (hr0:0<=o.room) (hr1:o.room<=262144) (hkn:k.n=o.l.xs.length):
  callW code ext 160 [.optr 0 0,zag v,zag k,zag x,avb false] (zcd T none)=some (za2 0 0 .empty (zca 1 o.l.xs.length o.room),zcd T (some (q,o.l.xs++[x],zbm 1 o.l.xs.length o.room,true))):=by
 obtain⟨l1,l2,_⟩:=zcg hq
 have hn:=h.n
 have hll:=h.l o (xag ho)
 have f1:=h.obj (ext:=ext) c.c166 hq ho
 have hrx:zao tVal o.l.iv o.l.xs:=o.l.ok
 obtain⟨m1,hf⟩:=hf
 have f3:∀m,elems m 2 (.imm o.l.iv)=some (o.l.xs.length,tVal.row o.l.xs):=fun m=>zlx (t:=tVal) m hrx
 have f4:=zaz hrx
 obtain⟨m2,f5⟩:=z2d (ext:=ext) c.c560 o.k o.s o.l.iv o.l.xs.length o.room o.fn 1 (.inl rfl) (by omega) hr0 (by omega)
 have e8:(4*1:Int)=4:=rfl
 rw[e8]at f5
 have w1:IntKind.wrap .i64 ((o.l.xs.length:Int)+1)=(o.l.xs.length:Int)+1:=zap (by omega) (by omega)
 have w2:IntKind.wrap .i64 (v.n-1)=(q:Nat):=by rw[zap (by omega) (by omega)];omega
 have e0:¬(65536:Int)<=o.l.xs.length:=by omega
 have e1:¬(o.l.xs.length:Int)<0:=by omega
 have hrl2:(tVal.row o.l.xs).length=o.l.xs.length*2:=zbg tVal o.l.xs
 have hcut:=zda _ hrl2
 have hsz:o.l.xs.length*16<=140737488355328:=by omega
 have hsz2:(o.l.xs.length+1)*16<=140737488355328:=by omega
 have hrl:(tObj.row (T++[zat])).length=(T++[zat]).length*5:=zbg tObj _
 rw[xao]at hrl
 simp only[xat,xa4,xau]at hrl
 have hls:(o.l.xs++[x]).length=o.l.xs.length+1:=by simp
 have happ:(tVal.row o.l.xs).map AV.imm++[.imm (.val (.int .u8 x.k)),zaa x.n]=(tVal.row (o.l.xs++[x])).map AV.imm:=by simp[Ty.row,tVal]
 have hrow:=fun v=>z2k (R:=tObj.row (T++[zat])) (q:=q) (room:=zbm 1 o.l.xs.length o.room) v
 have hrf:∀v:AV,AV.refs.refsL (zak (zbi (tObj.row (T++[zat])) q (zbm 1 o.l.xs.length o.room)) (q*5+2) v)=v.refs:=fun v=>zch (by unfold zbi;rw[xaw];omega)
 have hW0:o.l.xs=[]->tVal.row (o.l.xs++[x])=[.val (.int .u8 x.k),.val (.int .i64 x.n)]:=fun e=>by rw[e];rfl
 have p1:=zc7
 have p2:=zon
 have hri:=zok
 have hw2:(tVal.row (o.l.xs++[x])).length=(o.l.xs.length+1)*2:=by rw[zbg tVal];simp[tVal]
 have hs1:(AV.osl 1 0 5 T.length (some (T.length+1))).same (.osl 1 0 5 T.length (some (T.length+1)))=true:=by simp[AV.same]
 have hs2:(zaa v.n).same (zaa v.n)=true:=by simp[AV.same,IV.same,zi0]
 unfold zag
 rw[v4]at f1
 unfold zg9 at hf
 rw[v4,k2,hkn]at hf
 rw[v4,k2,hkn]
 rw[zad code ext c.c160]
 simp only[zcd]
 unfold zba za2 at *
 rw[hls]
 clear h hrx hkn
 generalize o.l.iv=iv at *
 generalize zca 1 o.l.xs.length o.room=gu at *
 generalize zbm 1 o.l.xs.length o.room=gr at *
 generalize tVal.row (o.l.xs++[x])=W2 at *
 generalize zbi (tObj.row (T++[zat])) q gr=R2 at *
 generalize tObj.row (T++[zat])=R at *
 have hle2:q*5+2+1<=R.length:=by omega
 have hle3:q*5+3+1<=R.length:=by omega
 generalize T.length=N at *
 have hqN:(q:Int)<N:=by omega
 by_cases h0:o.l.xs.length=0
 ·have hx0:o.l.xs=[]:=xav h0
  clear hq ho
  have hW1:=hW0 hx0
  clear happ hw2 hW0
  generalize o.l.xs=xs at *
  subst hx0
  subst hW1
  simp only[xa4,Ty.row,List.flatMap_nil,xbg,xau,Int.natCast_zero,Int.zero_add]at *
  have w0:IntKind.wrap .i64 1=1:=rfl
  simp -implicitDefEqProofs [w0,zgj,zax,zhr,zb4,zbq,zix,zmi,hf,f1,f3,f4,f5,w2,e0,e1,hle2,hle3,hqN,setAll,hrow,hrf,p1,hs1,hs2]
 ·generalize tVal.row o.l.xs=W at *
  generalize o.l.xs.length=n at *
  simp -implicitDefEqProofs [zgj,zax,zhr,zb4,zbq,zix,zmi,hf,f1,f3,f4,f5,w1,w2,e0,e1,h0,hsz,hsz2,hcut,hle2,hle3,hqN,setAll,hrow,hrf,p1,happ,hs1,hs2,p2,hri]
end
inductive GetIs (T:List Obj) (v k:Val):Int->Int->ByteArray->List ByteArray->Prop where
 |kind:¬(v.k=5\/((v.k=4\/v.k=3)/\k.k=2))->GetIs T v k 0 0 zdm []
 |no {q:Nat} {o:Obj}:v.k=5->zau T v=some q->T[q]?=some o->AtV T o.l.xs k (-1)->GetIs T v k 0 0 .empty []
 |key {q j:Nat} {o:Obj} {a:Val}:v.k=5->zau T v=some q->T[q]?=some o->AtV T o.l.xs k (2*j:Nat)->o.l.xs[2*j+1]?=some a->GetIs T v k a.k a.n .empty []
 |bounds {q:Nat} {o:Obj}:(v.k=4\/v.k=3)->k.k=2->zau T v=some q->T[q]?=some o->o.s.size<=4096->(k.n<0\/((o.l.xs.length+o.s.size:Nat):Int)<=k.n)->GetIs T v k 0 0 zho []
 |item {q i:Nat} {o:Obj} {a:Val}:v.k=4->k.k=2->zau T v=some q->T[q]?=some o->o.s=.empty->k.n=i->o.l.xs[i]?=some a->GetIs T v k a.k a.n .empty []
 |byte {q i:Nat} {o:Obj}:v.k=3->k.k=2->zau T v=some q->T[q]?=some o->o.s.size<=4096->o.l.xs=[]->k.n=i->i<o.s.size->GetIs T v k 3 ((T.length+1:Nat):Int) .empty [o.s.extract i (i+1)]
abbrev zjl(v k:Val):List IV:=[.val (.int .u8 v.k),.val (.int .i64 v.n),.val (.int .u8 k.k),.val (.int .i64 k.n)]
def zif(code:Nat->Option zab)(ext:zac)(T:List Obj)(v k:Val)(b:Bool):Prop:=
 ∃m,callW code ext 152 [.imm (.ptr [.slice (tObj.row (T++[zat])) 0 T.length (some (T.length+1))] 0),.imm (.slice (zjl v k) 0 2 (some 2))] []=some (avb b,m)
section
variable {code:Nat->Option zab} {ext:zac} {T:List Obj}
theorem yex(c:zdr code){v k:Val}(hf:zif code ext T v k false):
  callW code ext 154 [.optr 0 0,zag v,zag k,avb false] (zc4 T [])=some (za2 0 0 zdm 0,zc4 T []):=by
 obtain⟨m1,hf⟩:=hf
 obtain⟨m2,hk⟩:=zmw (ext:=ext) c.c562 zdm
 unfold zag
 rw[zad code ext c.c154]
 simp only[zc4]
 unfold zba za2 at *
 generalize tObj.row (T++[zat])=R at *
 simp -implicitDefEqProofs [zf3,hf,hk]
theorem ye2(c:zdr code){v k:Val}(hf:zif code ext T v k true)(hno:¬(v.k=5\/((v.k=4\/v.k=3)/\k.k=2))):
  callW code ext 154 [.optr 0 0,zag v,zag k,avb false] (zc4 T [])=some (za2 0 0 zdm 0,zc4 T []):=by
 obtain⟨m1,hf⟩:=hf
 obtain⟨m2,hk⟩:=zmw (ext:=ext) c.c562 zdm
 unfold zag
 rw[zad code ext c.c154]
 simp only[zc4]
 unfold zba za2 at *
 generalize tObj.row (T++[zat])=R at *
 have v5:¬v.k=5:=fun e=>hno (.inl e)
 by_cases v4:v.k=4
 ·unfold zjl at hf
  have k2:¬k.k=2:=fun e=>hno (.inr ⟨.inl v4,e⟩)
  rw[v4]at hf ⊢
  simp -implicitDefEqProofs [zf3,hf,hk,k2]
 ·by_cases v3:v.k=3
  ·unfold zjl at hf
   have k2:¬k.k=2:=fun e=>hno (.inr ⟨.inr v3,e⟩)
   rw[v3]at hf ⊢
   simp -implicitDefEqProofs [zf3,hf,hk,k2]
  ·simp -implicitDefEqProofs [zf3,hf,hk,v3,v4,v5]
theorem ye3(c:zdr code)(h:HeapK T){v k:Val}(hf:zif code ext T v k true)(v5:v.k=5){q:Nat}{o:Obj}(hq:zau T v=some q)(ho:T[q]?=some o)(hk:zbw T k)(hx:∀(j:Nat) a,o.l.xs[2*j]?=some a->zbw T a)(hat:AtV T o.l.xs k (-1)):
  callW code ext 154 [.optr 0 0,zag v,zag k,avb false] (zc4 T [])=some (za2 0 0 .empty 0,zc4 T []):=by
 obtain⟨m1,hf⟩:=hf
 have hll:=h.l o (xag ho)
 have f1:=h.obj (ext:=ext) c.c166 hq ho
 obtain⟨m2,f2⟩:=zq6 (ext:=ext) c.c164 c.c161 c.c166 h.rd o.l.ok (by omega) hk hx hat
 unfold zag
 unfold zjl at hf
 rw[v5]at f1 hf ⊢
 rw[zad code ext c.c154]
 simp only[zc4]
 unfold zba za2 at *
 clear h
 generalize tObj.row (T++[zat])=R at *
 simp -implicitDefEqProofs [zf3,zax,hf,f1,f2]
theorem ye1(c:zdr code)(h:HeapK T){v k:Val}(hf:zif code ext T v k true)(v5:v.k=5){q j:Nat}{o:Obj}{a:Val}(hq:zau T v=some q)(ho:T[q]?=some o)(hk:zbw T k)(hx:∀(j:Nat) a,o.l.xs[2*j]?=some a->zbw T a)(hat:AtV T o.l.xs k (2*j:Nat))(ha:o.l.xs[2*j+1]?=some a):
  callW code ext 154 [.optr 0 0,zag v,zag k,avb false] (zc4 T [])=some (za2 a.k a.n .empty 0,zc4 T []):=by
 obtain⟨m1,hf⟩:=hf
 have hll:=h.l o (xag ho)
 have f1:=h.obj (ext:=ext) c.c166 hq ho
 obtain⟨m2,f2⟩:=zq6 (ext:=ext) c.c164 c.c161 c.c166 h.rd o.l.ok (by omega) hk hx hat
 have hj:=(xaa.1 ha).1
 obtain⟨row,off,cap,hiv,_,_,hcut⟩:=zb6 o.l.ok ha
 obtain⟨i1,hi1⟩:∃i1,i1=2*j+1:=⟨_,rfl⟩
 rw[<-hi1]at hcut
 have hcut':cut row (off+i1*2) 2=some [.val (.int .u8 a.k),.val (.int .i64 a.n)]:=hcut
 have e1:IntKind.wrap .i64 (((2*j:Nat):Int)+1)=(i1:Int):=by rw[zap (by omega) (by omega)];omega
 have e2:(i1:Int)<o.l.xs.length:=by omega
 have e2':i1<o.l.xs.length:=by omega
 obtain⟨r,hr0⟩:∃r,r=2*j:=⟨_,rfl⟩
 rw[<-hr0]at f2 e1
 have e3:¬(r:Int)<0:=by omega
 unfold zag
 unfold zjl at hf
 rw[hiv]at f1 f2
 rw[v5]at f1 hf ⊢
 rw[zad code ext c.c154]
 simp only[zc4]
 unfold zba za2 at *
 clear h
 generalize tObj.row (T++[zat])=R at *
 generalize o.l.xs.length=n at *
 simp -implicitDefEqProofs [zf3,zax,hf,f1,f2,e1,e2,e3,hcut']
theorem yey(c:zdr code)(h:HeapK T){v k:Val}(hf:zif code ext T v k true)(v43:v.k=4\/v.k=3)(k2:k.k=2){q:Nat}{o:Obj}(hq:zau T v=some q)(ho:T[q]?=some o)(hs:o.s.size<=4096)(hb:k.n<0\/((o.l.xs.length+o.s.size:Nat):Int)<=k.n):
  callW code ext 154 [.optr 0 0,zag v,zag k,avb false] (zc4 T [])=some (za2 0 0 zho 0,zc4 T []):=by
 obtain⟨m1,hf⟩:=hf
 obtain⟨m2,hk⟩:=zmw (ext:=ext) c.c562 zho
 have hll:=h.l o (xag ho)
 have f1:=h.obj (ext:=ext) c.c166 hq ho
 have f4:=zaz (show zao tVal o.l.iv o.l.xs from o.l.ok)
 have w1:IntKind.wrap .i64 ((o.l.xs.length:Int)+(o.s.size:Int))=((o.l.xs.length+o.s.size:Nat):Int):=by rw[zap (by omega) (by omega)];omega
 unfold zag
 unfold zjl at hf
 rw[zad code ext c.c154]
 simp only[zc4]
 unfold zba za2 at *
 clear h
 generalize tObj.row (T++[zat])=R at *
 generalize o.l.iv=iv at *
 generalize o.l.xs.length+o.s.size=z at *
 generalize o.l.xs.length=n at *
 rw[k2]at hf ⊢
 rcases v43 with v4|v3
 ·rw[v4]at hf f1 ⊢
  by_cases h0:k.n<0
  ·simp -implicitDefEqProofs [zf3,zax,hf,f1,hk,h0]
  ·have h1:(z:Int)<=k.n:=hb.resolve_left h0
   simp -implicitDefEqProofs [zf3,zax,hf,f1,f4,hk,h0,h1,w1]
 ·rw[v3]at hf f1 ⊢
  by_cases h0:k.n<0
  ·simp -implicitDefEqProofs [zf3,zax,hf,f1,hk,h0]
  ·have h1:(z:Int)<=k.n:=hb.resolve_left h0
   simp -implicitDefEqProofs [zf3,zax,hf,f1,f4,hk,h0,h1,w1]
theorem ye0(c:zdr code)(h:HeapK T){v k:Val}(hf:zif code ext T v k true)(v4:v.k=4)(k2:k.k=2){q i:Nat}{o:Obj}{a:Val}(hq:zau T v=some q)(ho:T[q]?=some o)(hs:o.s=.empty)(hkn:k.n=i)(ha:o.l.xs[i]?=some a):
  callW code ext 154 [.optr 0 0,zag v,zag k,avb false] (zc4 T [])=some (za2 a.k a.n .empty 0,zc4 T []):=by
 obtain⟨m1,hf⟩:=hf
 have hll:=h.l o (xag ho)
 have f1:=h.obj (ext:=ext) c.c166 hq ho
 have f4:=zaz (show zao tVal o.l.iv o.l.xs from o.l.ok)
 have hi:=(xaa.1 ha).1
 obtain⟨row,off,cap,hiv,_,_,hcut⟩:=zb6 o.l.ok ha
 have hcut':cut row (off+i*2) 2=some [.val (.int .u8 a.k),.val (.int .i64 a.n)]:=hcut
 have hz:ByteArray.empty.size=0:=rfl
 have w1:IntKind.wrap .i64 ((o.l.xs.length:Int)+0)=(o.l.xs.length:Int):=zap (by omega) (by omega)
 have w2:IntKind.wrap .i64 (o.l.xs.length:Int)=(o.l.xs.length:Int):=zap (by omega) (by omega)
 have e1:¬(i:Int)<0:=by omega
 have e2:¬(o.l.xs.length:Int)<=i:=by omega
 have e2':¬o.l.xs.length<=i:=by omega
 have e3:(i:Int)<o.l.xs.length:=by omega
 unfold zag
 unfold zjl at hf
 rw[hiv]at f1 f4
 rw[hs]at f1
 rw[v4]at f1
 rw[v4,k2,hkn]at hf ⊢
 rw[zad code ext c.c154]
 simp only[zc4]
 unfold zba za2 at *
 clear h
 generalize tObj.row (T++[zat])=R at *
 generalize o.l.xs.length=n at *
 simp -implicitDefEqProofs [zf3,zax,hf,f1,f4,w2,e1,e2,e3,hz,hcut']
theorem yez(c:zdr code)(h:HeapK T){v k:Val}(hf:zif code ext T v k true)(v3:v.k=3)(k2:k.k=2){q i:Nat}{o:Obj}(hq:zau T v=some q)(ho:T[q]?=some o)(hs:o.s.size<=4096)(hx:o.l.xs=[])(hkn:k.n=i)(hi:i<o.s.size):
  callW code ext 154 [.optr 0 0,zag v,zag k,avb false] (zc4 T [])=some (za2 3 ((T.length+1:Nat):Int) .empty (zbf (zb7 (o.s.extract i (i+1)))),zc4 T [o.s.extract i (i+1)]):=by
 obtain⟨m1,hf⟩:=hf
 have hn:=h.n
 have f1:=h.obj (ext:=ext) c.c166 hq ho
 have f4:=zaz (show zao tVal o.l.iv o.l.xs from o.l.ok)
 rw[hx,xa4]at f4
 have w1:IntKind.wrap .i64 ((0:Int)+(o.s.size:Int))=(o.s.size:Int):=by rw[zap (by omega) (by omega)];omega
 have w2:IntKind.wrap .i64 (o.s.size:Int)=(o.s.size:Int):=zap (by omega) (by omega)
 have e1:¬(i:Int)<0:=by omega
 have e2:¬(o.s.size:Int)<=i:=by omega
 have e2':¬o.s.size<=i:=by omega
 obtain⟨j1,hj1⟩:∃j1,j1=i+1:=⟨_,rfl⟩
 rw[<-hj1]
 have w3:IntKind.wrap .i64 ((i:Int)+1)=(j1:Int):=by rw[zap (by omega) (by omega)];omega
 have e4:(i:Int)<=j1:=by omega
 have e4':i<=j1:=by omega
 have e5:(j1:Int)<=o.s.size:=by omega
 have e5':j1<=o.s.size:=by omega
 have hsz:(o.s.extract i j1).size<=4096:=by rw[ByteArray.size_extract];omega
 have f3:=yfs (ext:=ext) c.c163 c.c165 c.c559 (T:=T) (by omega) (o.s.extract i j1) hsz
 unfold zag
 unfold zjl at hf
 rw[v3]at f1
 rw[v3,k2,hkn]at hf ⊢
 rw[zad code ext c.c154]
 simp only[zc4]at f3 ⊢
 clear h
 generalize zbf (zb7 (o.s.extract i j1))=w at *
 unfold zba za2 at *
 generalize tObj.row (T++[zb7 (o.s.extract i j1)])=R2 at *
 generalize tObj.row (T++[zat])=R at *
 generalize o.l.iv=iv at *
 generalize ((T.length+1:Nat):Int)=N1 at *
 simp -implicitDefEqProofs [zf3,zax,hf,f1,f3,f4,w2,w3,e1,e2,e4,e5]
end
set_option maxHeartbeats 1000000
section
variable {code:Nat->Option zab} {ext:zac}
theorem zvp(c:PlainFns code){T:List Obj}(hn:T.length<=100000000){iv:IV}{xs:List Val}(hr:zao tVal iv xs)(hl:xs.length<=1000000){k:Val}(hk:zbw T k)(hx:∀(j:Nat) a,xs[2*j]?=some a->zbw T a){r:Int}(hat:AtV T xs k r):
  callW code ext 209 [.optr 0 0,.imm iv,.agg [.imm (.val (.int .u8 k.k)),zaa k.n]] (sM false T)=some (zaa r,sM false T):=by
 obtain⟨r',h1,h2⟩:=ya2 (ext:=ext) c (nl:=false) (T:=T) (fun e=>by cases e) hn hr hl hk hx
 rw[zx2 hat h1];exact h2
theorem ya8 (c:PlainFns code) {T:List Obj} (hn:T.length<=100000000) {v k:Val} {q:Nat} {o:Obj} (v5:v.k=5) (hq:zau T v=some q) (ho:T[q]?=some o) (hl:o.l.xs.length<=1000000)
  (hk:zbw T k) (hx:∀(j:Nat) a,o.l.xs[2*j]?=some a->zbw T a) (hat:AtV T o.l.xs k (-1)):
  callW code ext 211 [.optr 0 0,zag v,zag k] (sM false T)=some (zbk 0 0 .empty,sM false T):=by
 have f1:=zfv (ext:=ext) c.c581 v k
 obtain⟨q1,q2,_⟩:=zcg hq
 have f2:=zhu (ext:=ext) c.c213 v.k v.n q2 q1 (by omega)
 have g1:=zh4 ho
 have f3:=zvp (ext:=ext) c hn o.l.ok hl hk hx hat
 unfold zag
 rw[v5]at f1 f2 ⊢
 rw[zad code ext c.c211]
 unfold sM at *
 simp only[xar,if_false]at f2 f3 ⊢
 generalize tObj.row T=R at *
 simp -implicitDefEqProofs [zgx,f1,f2,f3,g1,zax,zcv]
theorem ya6 (c:PlainFns code) {T:List Obj} (hn:T.length<=100000000) {v k:Val} {q j:Nat} {o:Obj} {x:Val} (v5:v.k=5) (hq:zau T v=some q) (ho:T[q]?=some o) (hl:o.l.xs.length<=1000000)
  (hk:zbw T k) (hx:∀(j:Nat) a,o.l.xs[2*j]?=some a->zbw T a) (hat:AtV T o.l.xs k (2*j:Nat)) (hx1:o.l.xs[2*j+1]?=some x):
  callW code ext 211 [.optr 0 0,zag v,zag k] (sM false T)=some (zbk x.k x.n .empty,sM false T):=by
 have f1:=zfv (ext:=ext) c.c581 v k
 obtain⟨q1,q2,_⟩:=zcg hq
 have f2:=zhu (ext:=ext) c.c213 v.k v.n q2 q1 (by omega)
 have g1:=zh4 ho
 have f3:=zvp (ext:=ext) c hn o.l.ok hl hk hx hat
 have hj:=(xaa.1 hx1).1
 obtain⟨row,off,cap,hiv,_,_,hcut⟩:=zb6 o.l.ok hx1
 obtain⟨i1,hi1⟩:∃i1,i1=2*j+1:=⟨_,rfl⟩
 rw[<-hi1]at hcut
 have hcut':cut row (off+i1*2) 2=some [.val (.int .u8 x.k),.val (.int .i64 x.n)]:=hcut
 have e1:IntKind.wrap .i64 (((2*j:Nat):Int)+1)=(i1:Int):=by rw[zap (by omega) (by omega)];omega
 have e2:(i1:Int)<o.l.xs.length:=by omega
 have e2':i1<o.l.xs.length:=by omega
 obtain⟨r,hr0⟩:∃r,r=2*j:=⟨_,rfl⟩
 rw[<-hr0]at f3 e1
 unfold zag
 rw[v5]at f1 f2 ⊢
 rw[hiv]at f3 g1
 rw[zad code ext c.c211]
 unfold sM at *
 simp only[xar,if_false]at f2 f3 ⊢
 generalize tObj.row T=R at *
 generalize o.l.xs.length=n at *
 simp -implicitDefEqProofs [zgx,f1,f2,f3,g1,hcut',e1,e2,zax,zcv]
theorem ya3 (c:PlainFns code) {T:List Obj} (hn:T.length<=100000000) {v k:Val} {q:Nat} {o:Obj} (v43:v.k=4\/v.k=3) (k2:k.k=2) (hq:zau T v=some q) (ho:T[q]?=some o) (hl:o.l.xs.length<=1000000) (hs:o.s.size<=4096)
  (hb:k.n<0\/((o.l.xs.length+o.s.size:Nat):Int)<=k.n):
  callW code ext 211 [.optr 0 0,zag v,zag k] (sM false T)=some (zbk 0 0 zho,sM false T):=by
 have f1:=zfv (ext:=ext) c.c581 v k
 obtain⟨q1,q2,_⟩:=zcg hq
 have f2:=zhu (ext:=ext) c.c213 v.k v.n q2 q1 (by omega)
 have g1:=zh4 ho
 have g2:=zky ho
 have elen:=zaz (show zao tVal o.l.iv o.l.xs from o.l.ok)
 have w1:IntKind.wrap .i64 ((o.l.xs.length:Int)+(o.s.size:Int))=((o.l.xs.length+o.s.size:Nat):Int):=by rw[zap (by omega) (by omega)];omega
 unfold zag
 rw[zad code ext c.c211]
 unfold sM at *
 simp only[xar,if_false]at f2 ⊢
 generalize tObj.row T=R at *
 generalize o.l.xs.length+o.s.size=z at *
 generalize o.l.iv=iv at *
 generalize o.l.xs.length=n at *
 rw[k2]at f1 ⊢
 rcases v43 with v4|v3
 ·rw[v4]at f1 f2 ⊢
  by_cases h0:k.n<0
  ·simp -implicitDefEqProofs [zgx,f1,f2,h0,zax]
  ·have h1:(z:Int)<=k.n:=hb.resolve_left h0
   simp -implicitDefEqProofs [zgx,f1,f2,g1,g2,h0,h1,elen,w1,zax]
 ·rw[v3]at f1 f2 ⊢
  by_cases h0:k.n<0
  ·simp -implicitDefEqProofs [zgx,f1,f2,h0,zax]
  ·have h1:(z:Int)<=k.n:=hb.resolve_left h0
   simp -implicitDefEqProofs [zgx,f1,f2,g1,g2,h0,h1,elen,w1,zax]
theorem ya5 (c:PlainFns code) {T:List Obj} (hn:T.length<=100000000) {v k:Val} {q j:Nat} {o:Obj} {x:Val} (v4:v.k=4) (k2:k.k=2) (hq:zau T v=some q) (ho:T[q]?=some o) (hl:o.l.xs.length<=1000000) (hs:o.s=.empty) (hj:k.n=j) (hx1:o.l.xs[j]?=some x):
  callW code ext 211 [.optr 0 0,zag v,zag k] (sM false T)=some (zbk x.k x.n .empty,sM false T):=by
 have f1:=zfv (ext:=ext) c.c581 v k
 obtain⟨q1,q2,_⟩:=zcg hq
 have f2:=zhu (ext:=ext) c.c213 v.k v.n q2 q1 (by omega)
 have g1:=zh4 ho
 have g2:=zky ho
 have elen:=zaz (show zao tVal o.l.iv o.l.xs from o.l.ok)
 have hjl:=(xaa.1 hx1).1
 unfold zag
 rw[v4,k2]at f1
 rw[v4]at f2
 rw[v4,k2]
 have e0:IntKind.wrap .i64 ((o.l.xs.length:Int)+0)=(o.l.xs.length:Int):=zap (by omega) (by omega)
 have e0':IntKind.wrap .i64 (o.l.xs.length:Int)=(o.l.xs.length:Int):=zap (by omega) (by omega)
 have hz:ByteArray.empty.size=0:=rfl
 rw[hs]at g2
 obtain⟨row,off,cap,hiv,_,_,hcut⟩:=zb6 o.l.ok hx1
 have hcut':cut row (off+j*2) 2=some [.val (.int .u8 x.k),.val (.int .i64 x.n)]:=hcut
 have e2:(j:Int)<o.l.xs.length:=by omega
 have e2':j<o.l.xs.length:=by omega
 have e3:¬(o.l.xs.length:Int)<=j:=by omega
 have e3':¬o.l.xs.length<=j:=by omega
 rw[hj]at f1 ⊢
 have hj0:¬(j:Int)<0:=by omega
 rw[hiv]at g1
 rw[zad code ext c.c211]
 unfold sM at *
 simp only[xar,if_false]at f2 ⊢
 rw[hiv]at elen
 generalize tObj.row T=R at *
 generalize o.l.xs.length=n at *
 simp -implicitDefEqProofs [zgx,f1,f2,g1,g2,hj0,hcut',e0',e2,e3,elen,hz,zax]
theorem ya4 (c:PlainFns code) {T:List Obj} (hn:T.length<=100000000) {v k:Val} {q j:Nat} {o:Obj} (v3:v.k=3) (k2:k.k=2) (hq:zau T v=some q) (ho:T[q]?=some o) (hl:o.l.xs=[]) (hs:o.s.size<=4096) (hj:k.n=j) (hjs:j<o.s.size):
  callW code ext 211 [.optr 0 0,zag v,zag k] (sM false T)=some (zbk 3 ((T.length+1:Nat):Int) .empty,sK false T (zdd (o.s.extract j (j+1))) (zbf (zdd (o.s.extract j (j+1))))):=by
 have f1:=zfv (ext:=ext) c.c581 v k
 obtain⟨q1,q2,_⟩:=zcg hq
 have f2:=zhu (ext:=ext) c.c213 v.k v.n q2 q1 (by omega)
 have g1:=zh4 ho
 have g2:=zky ho
 have elen:=zaz (show zao tVal o.l.iv o.l.xs from o.l.ok)
 unfold zag
 rw[v3,k2]at f1
 rw[v3]at f2
 rw[v3,k2]
 rw[hl,xa4]at elen
 have e0:IntKind.wrap .i64 ((0:Int)+(o.s.size:Int))=(o.s.size:Int):=by rw[zap (by omega) (by omega)];omega
 have e0':IntKind.wrap .i64 (o.s.size:Int)=(o.s.size:Int):=zap (by omega) (by omega)
 obtain⟨j1,hj1⟩:∃j1,j1=j+1:=⟨_,rfl⟩
 rw[<-hj1]
 have e1:IntKind.wrap .i64 ((j:Int)+1)=(j1:Int):=by rw[zap (by omega) (by omega)];omega
 have e3:¬(o.s.size:Int)<=j:=by omega
 have e3':¬o.s.size<=j:=by omega
 have e4:(j:Int)<=j1:=by omega
 have e4':j<=j1:=by omega
 have e5:(j1:Int)<=o.s.size:=by omega
 have e5':j1<=o.s.size:=by omega
 have hsz:(o.s.extract j j1).size<=4096:=by rw[ByteArray.size_extract];omega
 have f3:=ycx (ext:=ext) c (nl:=false) (T:=T) (fun h=>by cases h) hn (o.s.extract j j1)
 rw[if_pos hsz]at f3
 rw[hj]at f1 ⊢
 have hj0:¬(j:Int)<0:=by omega
 rw[zad code ext c.c211]
 unfold sM sK at *
 simp only[xar,if_false]at f2 f3 ⊢
 generalize tObj.row (T++[zdd (o.s.extract j j1)])=R2 at *
 generalize zbf (zdd (o.s.extract j j1))=w at *
 generalize tObj.row T=R at *
 generalize ((T.length+1:Nat):Int)=N1 at *
 simp -implicitDefEqProofs [zgx,f1,f2,f3,g1,g2,hj0,e0',e1,e3,e4,e5,elen,zax]
end
section
variable {code:Nat->Option zab} {ext:zac}
theorem yd0(c:zgn code)(nl:Bool)(T:List Obj){v k x:Val}(h:¬(v.k=5\/(v.k=4/\k.k=2))):
  callW code ext 215 [.optr 0 0,zag v,zag k,zag x] (sM nl T)=some (zbk 0 0 zdm,sM nl T):=by
 have f1:=zfv (ext:=ext) c.c581 v k
 rw[zad code ext c.c215]
 unfold sM zag
 generalize tObj.row T=R at *
 by_cases h3:v.k=3
 ·rw[h3]at f1 ⊢
  by_cases k2:k.k=2
  ·rw[k2]at f1 ⊢
   simp only[decide_true,Bool.or_true,xb9]at f1
   cases nl<;>simp -implicitDefEqProofs [zeh,f1]
  ·have hf:(decide ((3:Int)=5)||((decide ((3:Int)=4)||decide ((3:Int)=3))&&decide (k.k=2)))=false:=by simp[k2]
   rw[hf]at f1
   cases nl<;>simp -implicitDefEqProofs [zeh,f1]
 ·have hf:(decide (v.k=5)||((decide (v.k=4)||decide (v.k=3))&&decide (k.k=2)))=false:=by
   cases hh:(decide (v.k=5)||((decide (v.k=4)||decide (v.k=3))&&decide (k.k=2)))with
   |false=>rfl
   |true=>
    simp at hh
    omega
  rw[hf]at f1
  cases nl<;>simp -implicitDefEqProofs [zeh,f1]
theorem ydx(c:zgn code){T:List Obj}(hn:T.length<=100000000){q:Nat}(hq:q<T.length){v k x:Val}(v4:v.k=4)(k2:k.k=2)(hv:(q:Int)=v.n-1){o:Obj}(ho:T[q]?=some o)(hl:o.l.xs.length<=1000000)(hk:k.n<0\/(o.l.xs.length:Int)<k.n):
  callW code ext 215 [.optr 0 0,zag v,zag k,zag x] (sM false T)=some (zbk 0 0 zho,sM false T):=by
 have f1:=zfv (ext:=ext) c.c581 v k
 have f2:=zhu (ext:=ext) c.c213 v.k v.n hv hq (by omega)
 have g1:=zh4 ho
 have elen:=zaz o.l.ok
 rw[v4,k2]at f1
 rw[v4]at f2
 simp only[decide_true,Bool.or_true,Bool.true_or,xb9]at f1
 unfold zag
 rw[v4,k2]
 rw[zad code ext c.c215]
 unfold sM at *
 simp only[xar,if_false]at *
 generalize tObj.row T=R at *
 generalize T.length=N at *
 generalize o.l.iv=iv at *
 generalize o.l.xs.length=n at *
 by_cases h0:k.n<0
 ·simp -implicitDefEqProofs [zeh,f1,f2,zax,g1,elen,h0]
 ·have h1:(n:Int)<k.n:=by omega
  simp -implicitDefEqProofs [zeh,f1,f2,zax,g1,elen,h0,h1]
theorem zzb(c206:code 206=some zeg)(c580:code 580=some zhm)(nl:Bool)(T:List Obj){v k x:Val}(hw:∀y∈[v,k,x],tVal.wf y)(h7:([v,k,x].any fun v=>decide (v.k=7))=false)(t:ByteArray)
  (f2:callW code ext 215 [.optr 0 0,zag v,zag k,zag x] (sM nl T)=some (zbk 0 0 t,sM nl T)):
  callW code ext 206 [.optr 0 0,.agg [.imm (.val (.int .u8 25)),zaa 0,.osl 1 0 2 3 (some 3),zaf]] (sL nl T (tVal.row [v,k,x]) 0)=some (zbk 0 0 t,sL nl T (tVal.row [v,k,x]) 0):=by
 obtain⟨m,f1⟩:=zkd (ext:=ext) c580 (lv:=.slice (tVal.row [v,k,x]) 0 3 (some 3)) (zfj _ _ hw (by simp) (fun c h=>by cases h;exact xan _)) (by simp)
 have hrow:tVal.row [v,k,x]=[.val (.int .u8 v.k),.val (.int .i64 v.n),.val (.int .u8 k.k),.val (.int .i64 k.n),.val (.int .u8 x.k),.val (.int .i64 x.n)]:=rfl
 rw[h7]at f1
 rw[hrow]at f1 ⊢
 unfold zag at f2
 rw[zad code ext c206]
 unfold sL sM at *
 generalize tObj.row T=R at *
 cases nl
 ·simp only[xar,if_false]at f2 ⊢
  simp -implicitDefEqProofs [zeg,f1,f2]
 ·simp only[if_true]at f2 ⊢
  simp -implicitDefEqProofs [zeg,f1,f2]
def rL(R:List IV)(N q:Nat)(L W:List IV)(n:Nat)(cap:Option Nat)(u:Int):Mem:=[.rich [.osl 2 0 5 N (some N),zaa 1152921504606846976,zaa u],.flat L false,.rich (zak R (q*5+2) (.osl 3 0 2 n cap)),.flat W false]
def rLV(R:List IV)(N q:Nat)(L W W2:List IV)(n:Nat)(cap:Option Nat)(u:Int):Mem:=[.rich [.osl 2 0 5 N (some N),zaa 1152921504606846976,zaa u],.flat L false,.rich (zak R (q*5+2) (.osl 4 0 2 n cap)),.flat W false,.flat W2 false]
theorem zza(c206:code 206=some zeg)(c580:code 580=some zhm){T:List Obj}{q:Nat}(hq:q<T.length){v k x:Val}(hw:∀y∈[v,k,x],tVal.wf y)(h7:([v,k,x].any fun v=>decide (v.k=7))=false)(W W2:List IV)(n:Nat)(cap:Option Nat)
  (f2:callW code ext 215 [.optr 0 0,zag v,zag k,zag x] (rM T q W n cap)=some (zbk 0 0 .empty,rU (tObj.row T) T.length q W2 n cap 0)):
  callW code ext 206 [.optr 0 0,.agg [.imm (.val (.int .u8 25)),zaa 0,.osl 1 0 2 3 (some 3),zaf]] (rL (tObj.row T) T.length q (tVal.row [v,k,x]) W n cap 0)=some (zbk 0 0 .empty,rL (tObj.row T) T.length q (tVal.row [v,k,x]) W2 n cap 0):=by
 obtain⟨m,f1⟩:=zkd (ext:=ext) c580 (lv:=.slice (tVal.row [v,k,x]) 0 3 (some 3)) (zfj _ _ hw (by simp) (fun c h=>by cases h;exact xan _)) (by simp)
 have hrow:tVal.row [v,k,x]=[.val (.int .u8 v.k),.val (.int .i64 v.n),.val (.int .u8 k.k),.val (.int .i64 k.n),.val (.int .u8 x.k),.val (.int .i64 x.n)]:=rfl
 have p1:=zc7
 have hrl:(tObj.row T).length=T.length*5:=zbg tObj T
 have hrf:∀v:AV,AV.refs.refsL (zak (tObj.row T) (q*5+2) v)=v.refs:=fun v=>zch (by omega)
 rw[h7]at f1
 rw[hrow]at f1 ⊢
 unfold zag at f2
 rw[zad code ext c206]
 unfold rL rM rU at *
 generalize tObj.row T=R at *
 generalize T.length=N at *
 simp -implicitDefEqProofs [zeg,f1,f2,hrf,p1]
theorem zy8(c206:code 206=some zeg)(c580:code 580=some zhm){T:List Obj}{q:Nat}(hq:q<T.length){v k x:Val}(hw:∀y∈[v,k,x],tVal.wf y)(h7:([v,k,x].any fun v=>decide (v.k=7))=false)(W W2:List IV)(n n2:Nat)(cap:Option Nat)(room u:Int)
  (f2:callW code ext 215 [.optr 0 0,zag v,zag k,zag x] (rM T q W n cap)=some (zbk 0 0 .empty,rV (zbi (tObj.row T) q room) T.length q W W2 n2 none u)):
  callW code ext 206 [.optr 0 0,.agg [.imm (.val (.int .u8 25)),zaa 0,.osl 1 0 2 3 (some 3),zaf]] (rL (tObj.row T) T.length q (tVal.row [v,k,x]) W n cap 0)=some (zbk 0 0 .empty,rLV (zbi (tObj.row T) q room) T.length q (tVal.row [v,k,x]) W W2 n2 none u):=by
 obtain⟨m,f1⟩:=zkd (ext:=ext) c580 (lv:=.slice (tVal.row [v,k,x]) 0 3 (some 3)) (zfj _ _ hw (by simp) (fun c h=>by cases h;exact xan _)) (by simp)
 have hrow:tVal.row [v,k,x]=[.val (.int .u8 v.k),.val (.int .i64 v.n),.val (.int .u8 k.k),.val (.int .i64 k.n),.val (.int .u8 x.k),.val (.int .i64 x.n)]:=rfl
 have p1:=zc7
 have hrl:(tObj.row T).length=T.length*5:=zbg tObj T
 have hrf:∀v:AV,AV.refs.refsL (zak (tObj.row T) (q*5+2) v)=v.refs:=fun v=>zch (by omega)
 have hrf2:∀v:AV,AV.refs.refsL (zak (zbi (tObj.row T) q room) (q*5+2) v)=v.refs:=fun v=>zch (by unfold zbi;rw[xaw];omega)
 rw[h7]at f1
 rw[hrow]at f1 ⊢
 unfold zag at f2
 rw[zad code ext c206]
 unfold rL rLV rM rV at *
 generalize zbi (tObj.row T) q room=R1 at *
 generalize tObj.row T=R at *
 generalize T.length=N at *
 simp -implicitDefEqProofs [zeg,f1,f2,hrf,hrf2,p1]
theorem zy9(c206:code 206=some zeg)(c580:code 580=some zhm){T:List Obj}{q:Nat}(hq:q<T.length){v k x:Val}(hw:∀y∈[v,k,x],tVal.wf y)(h7:([v,k,x].any fun v=>decide (v.k=7))=false)(W2:List IV)(n2:Nat)(room u:Int)
  (f2:callW code ext 215 [.optr 0 0,zag v,zag k,zag x] (sM false T)=some (zbk 0 0 .empty,rU (zbi (tObj.row T) q room) T.length q W2 n2 none u)):
  callW code ext 206 [.optr 0 0,.agg [.imm (.val (.int .u8 25)),zaa 0,.osl 1 0 2 3 (some 3),zaf]] (sL false T (tVal.row [v,k,x]) 0)=some (zbk 0 0 .empty,rL (zbi (tObj.row T) q room) T.length q (tVal.row [v,k,x]) W2 n2 none u):=by
 obtain⟨m,f1⟩:=zkd (ext:=ext) c580 (lv:=.slice (tVal.row [v,k,x]) 0 3 (some 3)) (zfj _ _ hw (by simp) (fun c h=>by cases h;exact xan _)) (by simp)
 have hrow:tVal.row [v,k,x]=[.val (.int .u8 v.k),.val (.int .i64 v.n),.val (.int .u8 k.k),.val (.int .i64 k.n),.val (.int .u8 x.k),.val (.int .i64 x.n)]:=rfl
 have p1:=zc7
 have hrl:(tObj.row T).length=T.length*5:=zbg tObj T
 have hrf2:∀v:AV,AV.refs.refsL (zak (zbi (tObj.row T) q room) (q*5+2) v)=v.refs:=fun v=>zch (by unfold zbi;rw[xaw];omega)
 rw[h7]at f1
 rw[hrow]at f1 ⊢
 unfold zag at f2
 rw[zad code ext c206]
 unfold sL sM rU rL at *
 simp only[xar,if_false]at *
 generalize zbi (tObj.row T) q room=R1 at *
 generalize tObj.row T=R at *
 generalize T.length=N at *
 simp -implicitDefEqProofs [zeg,f1,f2,hrf2,p1]
end
section
variable {code:Nat->Option zab} {ext:zac}
def ze8(o u:Obj):Int:=if zbf u=zbf o then 0 else 1+2*u.room
theorem z5v(h:code 639=some zi2)(h1:code 578=some zet){T:List Obj}{q:Nat}{o u:Obj}(ho:T[q]?=some o)(hr0:0<=u.room)(hr1:u.room<=1000000)(cap:Option Nat)(hn:T.length<=100000000):
  callW code ext 639 [.imm (.slice (tObj.row (T.set q u)) 0 T.length cap),.imm (.slice (zby T) 0 T.length none)] []=some (zaa (ze8 o u),[]):=by
 have hq:q<T.length:=(xaa.1 ho).1
 have hlen:(T.set q u).length=T.length:=xaw ..
 have w2:IntKind.wrap .i64 (2*u.room)=2*u.room:=zap (by omega) (by omega)
 have w3:IntKind.wrap .i64 (1+2*u.room)=1+2*u.room:=zap (by omega) (by omega)
 have loop:∃e s',den code ext (.loop [1,4,7,8,9] zg0) ⟨0,[(1,.imm (.slice (zby T) 0 T.length none)),(4,zaa 0),(7,.imm (.slice (tObj.row (T.set q u)) 0 T.length cap)),(8,zaa T.length),(9,zaa 0)],[]⟩=some (e,s')/\e≠ .normal/\(e=.exit 0/\
   s'=⟨0,[(1,.imm (.slice (zby T) 0 T.length none)),(4,zaa (ze8 o u)),(7,.imm (.slice (tObj.row (T.set q u)) 0 T.length cap)),(8,zaa T.length),(9,zaa T.length),(10,avb false)],[]⟩):=by
  refine zb1 (fun n s=>∃i,i+n=T.length/\s.tidy [1,4,7,8,9]=⟨0,[(1,.imm (.slice (zby T) 0 T.length none)),(4,zaa (if q<i then ze8 o u else 0)),(7,.imm (.slice (tObj.row (T.set q u)) 0 T.length cap)),(8,zaa T.length),(9,zaa (i:Nat))],[]⟩) _ ?_ T.length _ ⟨0,by simp,by
   rw[if_neg (xcn _)]
   generalize tObj.row (T.set q u)=C
   generalize zby T=W
   generalize T.length=N
   simp -implicitDefEqProofs⟩
  rintro n s ⟨i,hi,hst⟩
  rw[hst]
  by_cases hlt:i<T.length
  ·have e1:IntKind.wrap .i64 ((i:Int)+1)=(i:Int)+1:=zap (by omega) (by omega)
   have hlt':(i:Int)<T.length:=by omega
   have hge:¬(T.length:Int)<=i:=by omega
   obtain⟨z,hT⟩:∃z,T[i]?=some z:=⟨_,xab hlt⟩
   have hw:(zby T)[i]?=some (.val (.int .i64 (zbf z))):=by unfold zby;rw[xap,hT];rfl
   by_cases hiq:i=q
   ·subst hiq
    have hzo:z=o:=by rw[hT]at ho;exact xas ho
    subst hzo
    have hx:(T.set i u)[i]?=some u:=xbl hlt
    have hel:=zdc (t:=tObj) hx
    obtain⟨m,hs⟩:=zo0 (ext:=ext) h1 u
    simp only[tObj]at hel
    have hel':cut (tObj.row (T.set i u)) (i*5) 5=some [.val (.int .u8 u.k),.val (.string u.s),u.l.iv,.val (.int .i64 u.room),.val (.int .i64 u.fn)]:=hel
    rw[if_neg (Nat.lt_irrefl _)]
    unfold ze8
    by_cases heq:zbf u=zbf z
    ·rw[if_pos heq]
     rw[<-heq]at hw
     refine⟨.normal,⟨0,[(1,.imm (.slice (zby T) 0 T.length none)),(4,zaa 0),(7,.imm (.slice (tObj.row (T.set i u)) 0 T.length cap)),(8,zaa T.length),(9,zaa ((i:Int)+1))],[.rich [.imm (.val (.int .u8 u.k)),zaq u.s,.imm u.l.iv,zaa u.room,zaa u.fn]]⟩,?_,.inl ⟨rfl,n-1,by omega,i+1,by omega,?_⟩⟩
     ·clear hel hT
      generalize zbf u=w at *
      generalize tObj.row (T.set i u)=C at *
      generalize zby T=W at *
      generalize T.length=N at *
      simp -implicitDefEqProofs [zg0,hlt',hge,hel',hs,hw,e1]
     ·rw[if_pos (by omega)]
      generalize tObj.row (T.set i u)=C at *
      generalize zby T=W at *
      generalize T.length=N at *
      simp -implicitDefEqProofs
    ·rw[if_neg heq]
     have hne:¬zbf u=zbf z:=heq
     refine⟨.normal,⟨0,[(1,.imm (.slice (zby T) 0 T.length none)),(4,zaa (1+2*u.room)),(7,.imm (.slice (tObj.row (T.set i u)) 0 T.length cap)),(8,zaa T.length),(9,zaa ((i:Int)+1))],[.rich [.imm (.val (.int .u8 u.k)),zaq u.s,.imm u.l.iv,zaa u.room,zaa u.fn]]⟩,?_,.inl ⟨rfl,n-1,by omega,i+1,by omega,?_⟩⟩
     ·clear hel hT
      generalize zbf z=w0 at *
      generalize zbf u=w at *
      generalize tObj.row (T.set i u)=C at *
      generalize zby T=W at *
      generalize T.length=N at *
      simp -implicitDefEqProofs [zg0,hlt',hge,hel',hs,hw,e1,hne,w2,w3]
     ·rw[if_pos (by omega)]
      generalize tObj.row (T.set i u)=C at *
      generalize zby T=W at *
      generalize T.length=N at *
      simp -implicitDefEqProofs
   ·have hx:(T.set q u)[i]?=some z:=by rw[xa0 (fun e=>hiq e.symm)];exact hT
    have hel:=zdc (t:=tObj) hx
    obtain⟨m,hs⟩:=zo0 (ext:=ext) h1 z
    have hel':cut (tObj.row (T.set q u)) (i*5) 5=some [.val (.int .u8 z.k),.val (.string z.s),z.l.iv,.val (.int .i64 z.room),.val (.int .i64 z.fn)]:=hel
    have hif:(if q<i+1 then ze8 o u else 0)=if q<i then ze8 o u else 0:=by
     by_cases hqi:q<i
     ·rw[if_pos hqi,if_pos (by omega)]
     ·rw[if_neg hqi,if_neg (by omega)]
    generalize (if q<i then ze8 o u else 0)=a at *
    refine⟨.normal,⟨0,[(1,.imm (.slice (zby T) 0 T.length none)),(4,zaa a),(7,.imm (.slice (tObj.row (T.set q u)) 0 T.length cap)),(8,zaa T.length),(9,zaa ((i:Int)+1))],[.rich [.imm (.val (.int .u8 z.k)),zaq z.s,.imm z.l.iv,zaa z.room,zaa z.fn]]⟩,?_,.inl ⟨rfl,n-1,by omega,i+1,by omega,?_⟩⟩
    ·clear hel hT hx
     generalize zbf z=w at *
     generalize tObj.row (T.set q u)=C at *
     generalize zby T=W at *
     generalize T.length=N at *
     simp -implicitDefEqProofs [zg0,hlt',hge,hel',hs,hw,e1]
    ·rw[hif]
     generalize tObj.row (T.set q u)=C at *
     generalize zby T=W at *
     generalize T.length=N at *
     simp -implicitDefEqProofs
  ·have:i=T.length:=by omega
   subst this
   rw[if_pos hq]
   refine⟨.exit 0,_,?_,.inr ⟨by simp,rfl,rfl⟩⟩
   generalize tObj.row (T.set q u)=C at *
   generalize zby T=W at *
   generalize T.length=N at *
   simp -implicitDefEqProofs [zg0]
 obtain⟨e,s',l1,_,rfl,rfl⟩:=loop
 rw[zad code ext h]
 unfold zi2
 generalize zg0=L at *
 generalize tObj.row (T.set q u)=C at *
 generalize zby T=W at *
 generalize T.length=N at *
 simp -implicitDefEqProofs [l1]
end
def zfs(q:Nat)(v:AV):Nat->List Obj->List AV
 |_,[]=>[]
 |i,o::r=>[.imm (.val (.int .u8 o.k)),.imm (.val (.string o.s)),if i=q then v else .imm o.l.iv,zaa o.room,zaa o.fn]++zfs q v (i+1) r
theorem zx6(q:Nat)(v:AV):∀(T:List Obj) (i:Nat),q<i->zfs q v i T=(tObj.row T).map .imm
 |[],i,h=>rfl
 |o::r,i,h=>by
  rw[zfs,zx6 q v r (i+1) (by omega),if_neg (by omega)]
  simp[Ty.row,tObj]
theorem zx5(q:Nat)(v:AV):∀(T:List Obj) (i:Nat),i<=q->zfs q v i T=((tObj.row T).map AV.imm).set ((q-i)*5+2) v
 |[],i,h=>by simp[zfs,Ty.row]
 |o::r,i,h=>by
  have c:(tObj.row (o::r)).map AV.imm=[.imm (.val (.int .u8 o.k)),.imm (.val (.string o.s)),.imm o.l.iv,zaa o.room,zaa o.fn]++(tObj.row r).map AV.imm:=by simp[Ty.row,tObj]
  rw[zfs,c]
  by_cases e:i=q
  ·subst e
   rw[zx6 _ v r (i+1) (by omega),if_pos rfl,Nat.sub_self]
   rfl
  ·rw[zx5 q v r (i+1) (by omega),if_neg e,xbs _ _ (by simp;omega)]
   congr 2
   simp
   omega
theorem z5y(q:Nat)(v:AV)(T:List Obj):zfs q v 0 T=zak (tObj.row T) (q*5+2) v:=by
 rw[zx5 q v T 0 (xcg _)]
 rfl
theorem z34:∀xs:List Val,(tVal.row xs).all IV.plain=true
 |[]=>rfl
 |x::r=>by
  have h:tVal.row (x::r)=tVal.enc x++tVal.row r:=by simp[Ty.row]
  rw[h,xc2,z34 r,xb9]
  rfl
section
variable {code:Nat->Option zab} {ext:zac}
theorem ydf(h:code 742=some zd0)(l:Sl tVal)(hb:l.xs.length<=1000000000){M:Mem}{v:AV}(hv:v=.imm l.iv\/∃lid cp,v=.osl lid 0 2 l.xs.length cp/\M[lid]?=some (.flat (tVal.row l.xs) false)/\l.iv=.slice (tVal.row l.xs) 0 l.xs.length cp):
  (zbs l.iv=true/\∀K e,zcj (callW code ext) ⟨K,e,M⟩ 742 [v]=some (zaf,⟨K,e,M⟩))\/
  (zbs l.iv=false/\∃cap:Option Nat,(cap=none\/cap=some l.xs.length)/\∀K e,zcj (callW code ext) ⟨K,e,M⟩ 742 [v]=some (.osl M.length 0 2 l.xs.length cap,⟨K,e,M++[.flat (tVal.row l.xs) false]⟩)):=by
 have hf:[v].mapM (frz M)=some [.imm l.iv]:=by
  rcases hv with rfl|⟨lid,cp,rfl,h1,h2⟩
  ·rfl
  ·have:frz M (.osl lid 0 2 l.xs.length cp)=some (.imm l.iv):=by
    show(za5 M 20 _).map AV.imm=_
    have h3:za5 M 20 (.osl lid 0 2 l.xs.length cp)=some (.slice (tVal.row l.xs) 0 l.xs.length cp):=by
     show(match M[lid]? with
      |some (.flat cells _)=>some (IV.slice cells 0 l.xs.length cp)
      |some (.rich cells)=>(cells.mapM (za5 M 19)).map fun row=>.slice row 0 l.xs.length cp
      |_=>none)=_
     rw[h1]
    rw[h3,h2];rfl
   rw[xba,this];rfl
 have hp:=z34 l.xs
 rcases zyq (ext:=ext) h l hb with⟨hz,c⟩|⟨hz,cap,hcap,c⟩
 ·refine .inl ⟨hz,fun K e=>?_⟩
  simp only[zcj,hf,c]
  rw[if_pos (by simp[AV.own,AV.own2,AV.own1])]
  simp[AV.ren]
 ·refine .inr ⟨hz,cap,hcap,fun K e=>?_⟩
  simp only[zcj,hf,c]
  rw[if_pos (by simp[AV.own,AV.own2,AV.own1,AObj.own,hp])]
  simp[AV.ren,AObj.ren]
theorem yha(h:code 742=some zd0)(h2:code 740=some zeu){T:List Obj}(hT:∀o∈T,o.l.xs.length<=1000000)(hn:T.length<=100000000){K:Nat}{Pm:Mem}{cap:Option Nat}{o0:AObj}{q lid n:Nat}{cq:Option Nat}{W:List IV}(hPl:Pm[lid]?=some (.flat W false))(hq:∀o,T[q]?=some o->o.l.xs.length=n/\tVal.row o.l.xs=W/\o.l.iv=.slice W 0 n cq)(ho0:za3 (zfs q (.osl lid 0 2 n cq) 0 T) o0){s:St}
  (hst:s.tidy [1000000,3,8,9]=⟨K,[(1000000,.junk),(3,.osl Pm.length 0 5 T.length cap),(8,zaa T.length),(9,zaa 0)],Pm++[o0]⟩):
  ∃e s',den code ext (.loop [1000000,3,8,9] zhn) s=some (e,s')/\e≠ .normal/\
   (e=.exit 0/\∃o,za3 (zay (clR (Pm.length+1) T)) o/\s'=⟨K,[(3,.osl Pm.length 0 5 T.length cap),(8,zaa T.length),(9,zaa T.length),(10,avb false)],Pm++o::clM T⟩):=by
 refine zb1 (fun m s=>∃(i:Nat) (o:AObj),i+m=T.length/\za3 (zay (clR (Pm.length+1) (T.take i))++zfs q (.osl lid 0 2 n cq) i (T.drop i)) o/\s.tidy [1000000,3,8,9]=⟨K,[(1000000,.junk),(3,.osl Pm.length 0 5 T.length cap),(8,zaa T.length),(9,zaa (i:Nat))],Pm++o::clM (T.take i)⟩) _ ?_ T.length _
  ⟨0,o0,by simp,by simpa [clR,zay]using ho0,by simpa [clM]using hst⟩
 clear hst
 rintro m s ⟨i,o,hi,ho,hst⟩
 rw[hst]
 by_cases hlt:i<T.length
 ·have hx:=xab hlt
  have hb:=hT _ (xa7 hlt)
  have e1:IntKind.wrap .i64 ((i:Int)+1)=(i:Int)+1:=zap (by omega) (by omega)
  have hlt':(i:Int)<T.length:=by omega
  have htk:T.take (i+1)=T.take i++[T[i]]:=by rw[xbk,hx];rfl
  have hdr:T.drop i=T[i]::T.drop (i+1):=xb2 hlt
  have hqi:i=q->T[i].l.xs.length=n/\tVal.row T[i].l.xs=W/\T[i].l.iv=.slice W 0 n cq:=fun e=>hq _ (by rw[<-e];exact hx)
  have hcl:(zay (clR (Pm.length+1) (T.take i))).length=i*5:=by rw[zh3,znw,xca];omega
  rw[hdr,zfs]at ho
  have hR2:zay (clR (Pm.length+1) (T.take (i+1)))=zay (clR (Pm.length+1) (T.take i))++(clO (Pm.length+1+(clM (T.take i)).length) T[i]).cells:=by rw[htk,zug,zwd]
  have hM2:clM (T.take (i+1))=clM (T.take i)++clL T[i]:=by rw[htk,zyg]
  generalize T[i]=w at *
  generalize zay (clR (Pm.length+1) (T.take i))=A at *
  generalize clM (T.take i)=C at *
  have hll:lid<Pm.length:=(xaa.1 hPl).1
  have hMl:(Pm++o::C)[lid]?=some (.flat W false):=by rw[xac hll];exact hPl
  have hcc:=ydf (ext:=ext) h w.l (by omega) (M:=Pm++o::C) (v:=if i=q then .osl lid 0 2 n cq else .imm w.l.iv) (by
   by_cases e:i=q
   ·rw[if_pos e]
    obtain⟨e1,e2,e3⟩:=hqi e
    exact .inr ⟨lid,cq,by rw[e1],by rw[e2];exact hMl,by rw[e1,e2];exact e3⟩
   ·rw[if_neg e];exact .inl rfl)
  have hv0:∀f:Nat->Option Nat,f lid=some lid->AV.ren f (if i=q then .osl lid 0 2 n cq else .imm w.l.iv)=if i=q then .osl lid 0 2 n cq else .imm w.l.iv:=fun f hf=>by
   by_cases e:i=q
   ·rw[if_pos e];simp[AV.ren,hf]
   ·rw[if_neg e];rfl
  generalize (if i=q then AV.osl lid 0 2 n cq else .imm w.l.iv)=v0 at *
  have hMq:(Pm++o::C)[Pm.length]?=some o:=by simp
  have hld:loadAt (Pm++o::C) none (.optr Pm.length (i*5+2))=some v0:=by
   rw[z2g hMq ho,xah (by omega),hcl,xbn];rfl
  have hset:∀v,setAll (A++([.imm (.val (.int .u8 w.k)),.imm (.val (.string w.s)),v0,zaa w.room,zaa w.fn]++zfs q (.osl lid 0 2 n cq) (i+1) (T.drop (i+1)))) (i*5+2) [v]=A++([.imm (.val (.int .u8 w.k)),.imm (.val (.string w.s)),v,zaa w.room,zaa w.fn]++zfs q (.osl lid 0 2 n cq) (i+1) (T.drop (i+1))):=by
   intro v
   simp only[setAll]
   rw[xbs _ _ (by omega),hcl,xbn];rfl
  have hfit:∀v:AV,i*5+2+[v].length<=(A++([.imm (.val (.int .u8 w.k)),.imm (.val (.string w.s)),v0,zaa w.room,zaa w.fn]++zfs q (.osl lid 0 2 n cq) (i+1) (T.drop (i+1)))).length:=by
   intro v;simp[hcl];omega
  have hlen:(Pm++o::C).length=Pm.length+1+C.length:=by simp;omega
  rcases hcc with⟨hz,c1⟩|⟨hz,cp,hcp,c1⟩
  ·obtain⟨o',hr',hs'⟩:=zov (vs:=[zaf]) hMq ho (hfit _)
   rw[hset]at hr'
   have hs2:(Pm++o::C).set Pm.length o'=Pm++o'::C:=by rw[xbs _ _ (xan _)];simp
   rw[hs2]at hs'
   have c2:=zyp (ext:=ext) h2 (Pm++o::C)
   have hmo:=ziw ho
   have hmW:(AObj.flat W false).moved=false:=rfl
   refine⟨.normal,⟨K,[(3,.osl Pm.length 0 5 T.length cap),(8,zaa T.length),(9,zaa ((i:Int)+1))],Pm++o'::C⟩,?_,.inl ⟨rfl,m-1,by omega,i+1,o',by omega,?_,?_⟩⟩
   ·generalize Pm++o::C=N at *
    generalize Pm.length=q at *
    simp -implicitDefEqProofs [zhn,hlt',hld,-loadAt,-zcj,c1,c2,hMq,hmo,-AObj.moved,hs',-storeAt,e1,hMl,hmW,hv0]
   ·rw[hR2]
    unfold clO RO.cells
    rw[if_pos hz]
    rw[xbj]
    exact hr'
   ·rw[hM2]
    simp -implicitDefEqProofs [clL,hz]
  ·have hMq2:((Pm++o::C)++[.flat (tVal.row w.l.xs) false])[Pm.length]?=some o:=by rw[xac (by simp)];exact hMq
   obtain⟨o',hr',hs'⟩:=zov (vs:=[.osl (Pm++o::C).length 0 2 w.l.xs.length (some w.l.xs.length)]) hMq2 ho (hfit _)
   rw[hset]at hr'
   have hs2:((Pm++o::C)++[AObj.flat (tVal.row w.l.xs) false]).set Pm.length o'=Pm++o'::(C++[.flat (tVal.row w.l.xs) false]):=by
    rw[xbj,xby,xbs _ _ (xan _)];simp
   rw[hs2]at hs'
   have c2:=zyo (ext:=ext) h2 ((Pm++o::C)++[.flat (tVal.row w.l.xs) false]) (Pm++o::C).length w.l.xs.length hcp
   have hmo:=ziw ho
   have hmW:(AObj.flat W false).moved=false:=rfl
   have hmf:(AObj.flat (tVal.row w.l.xs) false).moved=false:=rfl
   have hMl2:((Pm++o::C)++[.flat (tVal.row w.l.xs) false])[lid]?=some (.flat W false):=by rw[xac (by simp;omega)];exact hMl
   have hgl:((Pm++o::C)++[AObj.flat (tVal.row w.l.xs) false])[(Pm++o::C).length]?=some (.flat (tVal.row w.l.xs) false):=zfe _ _
   refine⟨.normal,⟨K,[(3,.osl Pm.length 0 5 T.length cap),(8,zaa T.length),(9,zaa ((i:Int)+1))],Pm++o'::(C++[.flat (tVal.row w.l.xs) false])⟩,?_,.inl ⟨rfl,m-1,by omega,i+1,o',by omega,?_,?_⟩⟩
   ·generalize Pm++o::C=N at *
    generalize Pm.length=q at *
    simp -implicitDefEqProofs [zhn,hlt',hld,-loadAt,-zcj,c1,c2,hMq2,hmo,hmf,-AObj.moved,hs',-storeAt,e1,hMl2,hmW,hv0]
   ·rw[hR2]
    unfold clO RO.cells
    rw[if_neg (by rw[hz];decide),xbj,<-hlen]
    exact hr'
   ·rw[hM2]
    simp -implicitDefEqProofs [clL,hz]
 ·have:i=T.length:=by omega
  subst this
  rw[xb0,List.drop_length]at ho
  rw[xb0]
  refine⟨.exit 0,⟨K,[(3,.osl Pm.length 0 5 T.length cap),(8,zaa T.length),(9,zaa T.length),(10,avb false)],Pm++o::clM T⟩,?_,.inr ⟨by simp,rfl,o,by simpa [zfs]using ho,rfl⟩⟩
  simp -implicitDefEqProofs [zhn]
theorem yhb(c:zp4 code){T:List Obj}{q:Nat}{o:Obj}(ho:T[q]?=some o)(hT:∀o∈T,o.l.xs.length<=1000000)(hn:T.length<=100000000)(cap cap0:Option Nat)(hiv:o.l.iv=.slice (tVal.row o.l.xs) 0 o.l.xs.length cap):
  ∃ob,za3 (zay (clR 3 T)) ob/\callW code ext 643 [.osl 0 0 5 T.length cap0] [.rich (zak (tObj.row T) (q*5+2) (.osl 1 0 2 o.l.xs.length cap)),.flat (tVal.row o.l.xs) false]=
   some (.osl 2 0 5 T.length (some T.length),.rich (zak (tObj.row T) (q*5+2) (.osl 1 0 2 o.l.xs.length cap)):: .flat (tVal.row o.l.xs) false::ob::clM T):=by
 have hq:q<T.length:=(xaa.1 ho).1
 have h1:=z6n (ext:=ext) c.c743 (T:=T) (by omega) hn cap0 (q*5+2) (by omega) o.l.xs.length cap (tVal.row o.l.xs)
 have hb:=z5y q (.osl 1 0 2 o.l.xs.length cap) T
 have hrl:(tObj.row T).length=T.length*5:=zbg tObj T
 have hrf:=zch (R:=tObj.row T) (p:=q*5+2) (v:=.osl 1 0 2 o.l.xs.length cap) (by omega)
 have p1:=zc7
 obtain⟨e,s',h2,_,rfl,ob,hr,rfl⟩:=yha (ext:=ext) c.c742 c.c740 hT hn (K:=2) (Pm:=[.rich (zak (tObj.row T) (q*5+2) (.osl 1 0 2 o.l.xs.length cap)),.flat (tVal.row o.l.xs) false]) (cap:=none) (o0:=.rich (zak (tObj.row T) (q*5+2) (.osl 1 0 2 o.l.xs.length cap))) (q:=q) (lid:=1) (n:=o.l.xs.length) (cq:=cap) (W:=tVal.row o.l.xs) rfl
  (fun o' h=>by rw[ho]at h;cases h;exact⟨rfl,rfl,hiv⟩) (.inl (by rw[hb]))
  (s:=⟨2,[(3,.osl 2 0 5 T.length none),(8,zaa T.length),(9,zaa 0)],[.rich (zak (tObj.row T) (q*5+2) (.osl 1 0 2 o.l.xs.length cap)),.flat (tVal.row o.l.xs) false,.rich (zak (tObj.row T) (q*5+2) (.osl 1 0 2 o.l.xs.length cap))]⟩) (by simp -implicitDefEqProofs [])
 refine⟨ob,hr,?_⟩
 simp only[xat,xa4,xau,xby,xbg]at h2 hr
 have h3:=zuj (ext:=ext) c.c741 (.rich (zak (tObj.row T) (q*5+2) (.osl 1 0 2 o.l.xs.length cap)):: .flat (tVal.row o.l.xs) false::ob::clM T) 2 T.length (cap:=none) (.inl rfl)
 have hmo:=ziw hr
 rw[zad code ext c.c643]
 generalize tObj.row T=R at *
 generalize clM T=C at *
 generalize T.length=N at *
 generalize tVal.row o.l.xs=W at *
 generalize o.l.xs.length=n at *
 have hmf:(AObj.flat W false).moved=false:=rfl
 have hmr:∀c,(AObj.rich c).moved=false:=fun _=>rfl
 simp -implicitDefEqProofs [znd,h1,h2,h3,hmo,hmf,hmr,hrf,p1,-AObj.moved]
end
theorem zwg:∀(xs:List Obj) (i:Nat) (o:Obj) (room:Int),xs[i]?=some o->zbi (tObj.row xs) i room=tObj.row (xs.set i { o with room:=room })
 |[],i,o,room,h=>by cases h
 |x::r,0,o,room,h=>by
  cases h
  simp[Ty.row,tObj,zbi]
 |x::r,i+1,o,room,h=>by
  have ih:=zwg r i o room (by simpa using h)
  have c:∀(y:Obj) (l:List Obj),tObj.row (y::l)=tObj.enc y++tObj.row l:=fun y l=>by simp[Ty.row]
  have e:(i+1)*5+3=(tObj.enc x).length+(i*5+3):=by show _=5+_;omega
  unfold zbi at ih ⊢
  rw[xce,c,c,e,<-ih,xbs _ _ (by omega)]
  congr 2
  omega
theorem ye6(R:List IV)(p:Nat)(y:IV)(v:AV):zak (R.set p y) p v=zak R p v:=by
 unfold zak
 rw[List.map_set,List.set_set]
theorem ye7{T:List Obj}{q:Nat}{o:Obj}(ho:T[q]?=some o)(l:Sl tVal)(room:Int)(v:AV):zak (zbi (tObj.row T) q room) (q*5+2) v=zak (tObj.row (T.set q { o with room:=room,l:=l })) (q*5+2) v:=by
 have hq:=(xaa.1 ho).1
 rw[zwg T q o room ho]
 have h2:(T.set q { o with room:=room })[q]?=some { o with room:=room }:=xbl hq
 have h3:=zq8 (T.set q { o with room:=room }) q _ l h2
 rw[List.set_set]at h3
 rw[<-h3,ye6]
structure z42 (code:Nat->Option zab) (idx:Nat):Prop extends zgn code,TwinCode code idx where
 c578:code 578=some zet
 c639:code 639=some zi2
 c640:code 640=some z4h
 c641:code 641=some znc
 c642:code 642=some zlb
 c749:code 749=some zbr
 c759:code 759=some zbp
section
variable {code:Nat->Option zab} {ext:zac}
end
section
variable {code:Nat->Option zab} {ext:zac}
structure zp3 (code:Nat->Option zab) (ext:zac) (q:Nat):Prop where
 imm:∀{sv:IV} {S:List Obj},zao tObj sv S->zbs sv=false->(∀o∈S,o.l.xs.length<=1000000)->S.length<=10000000->callW code ext 643 [.imm sv] []=some (.osl 0 0 5 S.length (some S.length),zdy S q (decide (q<S.length)) (tObj.row (S.map zae)))
 obj:∀{T:List Obj} {o:Obj},T[q]?=some o->∀(cap cap0:Option Nat),(∀o∈T,o.l.xs.length<=1000000)->T.length<=100000000->o.l.iv=.slice (tVal.row o.l.xs) 0 o.l.xs.length cap->
  ∃X,XM 2 T X/\callW code ext 643 [.osl 0 0 5 T.length cap0] [.rich (zak (tObj.row T) (q*5+2) (.osl 1 0 2 o.l.xs.length cap)),.flat (tVal.row o.l.xs) false]=
   some (.osl 2 0 5 T.length (some T.length),.rich (zak (tObj.row T) (q*5+2) (.osl 1 0 2 o.l.xs.length cap)):: .flat (tVal.row o.l.xs) false::X)
theorem ydd{m:Mem}{rid lid:Nat}{cs:List AV}{W:List IV}{b:Bool}(h:m[rid]?=some (.rich cs))(hr:AV.refs.refsL cs=[lid])(hl:m[lid]?=some (.flat W b))(hne:lid≠rid):order 0 [rid] m=[rid,lid]:=by
 have h1:rid<m.length:=(xaa.1 h).1
 have h2:lid<m.length:=(xaa.1 hl).1
 unfold order
 simp only[List.take_zero,Mem.refs,xay,List.range_zero]
 rw[show(1000000000000:Nat)=999999999997+1+1+1 from rfl,reach]
 simp only[xb4,if_false,h1,if_true,h,xa2,AObj.refs,hr,xbg]
 rw[reach]
 have hn:lid ∉ [rid]:=by simp[hne]
 simp only[hn,if_false,h2,if_true,hl,xa2,AObj.refs,xay]
 rw[reach]
 rfl
theorem z9w{q:Nat}(k:zp3 code ext q){T:List Obj}{o:Obj}(ho:T[q]?=some o)(cap cap0:Option Nat)(hT:∀o∈T,o.l.xs.length<=1000000)(hn:T.length<=100000000)(hiv:o.l.iv=.slice (tVal.row o.l.xs) 0 o.l.xs.length cap):
  ∃Xf:Nat->Mem,(∀n,XM n T (Xf n))/\∀(s:St) (rid lid:Nat),s.mem[rid]?=some (.rich (zak (tObj.row T) (q*5+2) (.osl lid 0 2 o.l.xs.length cap)))->s.mem[lid]?=some (.flat (tVal.row o.l.xs) false)->lid≠rid->
   zax (callW code ext) s 643 [.osl rid 0 5 T.length cap0]=some (.osl s.mem.length 0 5 T.length (some T.length),{ s with mem:=s.mem++Xf s.mem.length }):=by
 obtain⟨X,hX,h⟩:=k.obj (T:=T) ho cap cap0 hT hn hiv
 have hq:q<T.length:=(xaa.1 ho).1
 have hrl:(tObj.row T).length=T.length*5:=zbg tObj T
 refine⟨fun n=>X.map (AObj.ren fun i=>some (n+(i-2))),fun n=>zng hX fun i hi=>by simp,fun s rid lid hrid hlid hne=>?_⟩
 have hrl':rid<s.mem.length:=(xaa.1 hrid).1
 have hrf:∀v:AV,AV.refs.refsL (zak (tObj.row T) (q*5+2) v)=v.refs:=fun v=>zch (by omega)
 have hord:=ydd hrid (by rw[hrf];rfl) hlid hne
 have hro:AV.refs.refsL [.osl rid 0 5 T.length cap0]=[rid]:=rfl
 have pl0:place [rid,lid] rid=some 0:=by simp[place]
 have pl1:place [rid,lid] lid=some 1:=by simp[place,hne]
 have hpk:s.mem.pickAll [rid,lid]=[.rich (zak (tObj.row T) (q*5+2) (.osl 1 0 2 o.l.xs.length cap)),.flat (tVal.row o.l.xs) false]:=by
  simp only[Mem.pickAll,xa1,List.map_nil,hrid,hlid,xa2,AObj.ren,zc7,AV.ren,pl1]
 have hrn:AV.ren.renL (place [rid,lid]) [.osl rid 0 5 T.length cap0]=[.osl 0 0 5 T.length cap0]:=by simp[AV.ren.renL,AV.ren]
 have hl1:0<X.length:=by obtain⟨ob,rfl,_⟩:=hX;simp
 have hmap:∀n,X.map (AObj.ren fun i=>if i<2 then[rid,lid][i]? else some (n+(i-2)))=X.map (AObj.ren fun i=>some (n+(i-2))):=fun n=>by
  refine xbo fun o ho=>zir o fun id hid=>?_
  have:=znf hX o ho id hid
  rw[if_neg (by omega)]
 have hX2:=znf hX
 generalize hB:zak (tObj.row T) (q*5+2) (.osl 1 0 2 o.l.xs.length cap)=B at *
 have hBr:(AObj.rich B).refs=[1]:=by simp only[AObj.refs];rw[<-hB,hrf];rfl
 have hall:(((AV.osl 2 0 5 T.length (some T.length)).refs.all fun j=>decide (j<(AObj.rich B::AObj.flat (tVal.row o.l.xs) false::X).length))&&(AObj.rich B::AObj.flat (tVal.row o.l.xs) false::X).all fun z=>z.refs.all fun j=>decide (j<(AObj.rich B::AObj.flat (tVal.row o.l.xs) false::X).length))=true:=by
  rw[xaf]
  refine⟨by simp[AV.refs,hl1],?_⟩
  rw[xcl,xaf]
  refine⟨by rw[hBr];simp,?_⟩
  rw[xcl,xaf]
  refine⟨by simp[AObj.refs],?_⟩
  rw[xai]
  intro o ho
  rw[xai]
  intro r hr
  have:=hX2 o ho r hr
  simp;omega
 unfold zax
 rw[hro,hord]
 dsimp only
 rw[hpk,hrn,h]
 simp only[xat,xa4,xau]at hmap hall ⊢
 rw[if_pos]
 ·simp only[List.drop_succ_cons,List.drop_zero,hmap]
  simp[AV.ren]
 ·refine⟨by simp,?_⟩
  rw[xaf]
  refine⟨?_,hall⟩
  simp[hrid,hlid,AObj.isFix,AObj.moved,AObj.refs,hrf,AV.refs]
set_option maxHeartbeats 8000000 in
theorem z7a {q:Nat} (c:DoQ code) (kt:zp3 code ext q) {sv:IV} {S:List Obj} (hrd:zao tObj sv S) (hz:zbs sv=false) (hSl:∀o∈S,o.l.xs.length<=1000000) (hlen:S.length<=10000000) {o0:Obj} (ho:S[q]?=some o0) {xsv:List Val} (hl3:xsv.length=3) (ha:zg2 code ext sv xsv false)
  (xs2:List Val) (hx2:xs2.length<=1000000) (cap2:Option Nat) (l2:Sl tVal) (hl2:l2.xs=xs2) (hiv:l2.iv=.slice (tVal.row xs2) 0 xs2.length cap2) (room u:Int) (hr0:0<=room) (hr1:room<=1000000)
  (hd:(zbs o0.l.iv=false/\(callW code ext 206 [.optr 0 0,.agg [.imm (.val (.int .u8 25)),zaa 0,.osl 1 0 2 3 (some 3),zaf]] (rL (tObj.row (S.map zae)) S.length q (tVal.row xsv) (tVal.row o0.l.xs) o0.l.xs.length (some o0.l.xs.length) 0)=some (zbk 0 0 .empty,rL (zbi (tObj.row (S.map zae)) q room) S.length q (tVal.row xsv) (tVal.row xs2) xs2.length cap2 u)\/
    callW code ext 206 [.optr 0 0,.agg [.imm (.val (.int .u8 25)),zaa 0,.osl 1 0 2 3 (some 3),zaf]] (rL (tObj.row (S.map zae)) S.length q (tVal.row xsv) (tVal.row o0.l.xs) o0.l.xs.length (some o0.l.xs.length) 0)=some (zbk 0 0 .empty,rLV (zbi (tObj.row (S.map zae)) q room) S.length q (tVal.row xsv) (tVal.row o0.l.xs) (tVal.row xs2) xs2.length cap2 u)))\/
   (zbs o0.l.iv=true/\callW code ext 206 [.optr 0 0,.agg [.imm (.val (.int .u8 25)),zaa 0,.osl 1 0 2 3 (some 3),zaf]] [.rich [.osl 2 0 5 S.length (some S.length),zaa 1152921504606846976,zaa 0],.flat (tVal.row xsv) false,.flat (tObj.row (S.map zae)) false]=some (zbk 0 0 .empty,rL (zbi (tObj.row (S.map zae)) q room) S.length q (tVal.row xsv) (tVal.row xs2) xs2.length cap2 u))):
  ∃X,XM 1 ((S.map zae).set q { zae o0 with room:=room,l:=l2 }) X/\callW code ext 640 [.imm sv,.imm (.val (.int .u8 25)),zaa 0,.osl 0 0 2 3 (some 3)] [.flat (tVal.row xsv) false]=
   some (.agg [.osl 1 0 5 S.length (some S.length),.imm (.val (.int .u8 0)),zaa 0,zaq .empty,zaa (ze8 (zae o0) { zae o0 with room:=room,l:=l2 })],.flat (tVal.row xsv) false::X):=by
 unfold zg2 at ha
 rw[hl3]at ha
 generalize tVal.row xsv=L at *
 have hq:q<S.length:=(xaa.1 ho).1
 have hml:(S.map zae).length=S.length:=xam ..
 have hoT:(S.map zae)[q]?=some (zae o0):=by rw[xap,ho];rfl
 have hxc:(zae o0).l.xs=o0.l.xs:=by
  unfold zae zea
  dsimp only
  split<;>rfl
 have hrich:=fun v=>ye7 hoT l2 room v
 obtain⟨u2,hu2⟩:∃u2:Obj,u2={ zae o0 with room:=room,l:=l2 }:=⟨_,rfl⟩
 rw[<-hu2]at hrich ⊢
 have hu2x:u2.l.xs=xs2:=by rw[hu2];exact hl2
 have hu2i:u2.l.iv=.slice (tVal.row xs2) 0 xs2.length cap2:=by rw[hu2];exact hiv
 have hu2r:u2.room=room:=by rw[hu2]
 have hT2g:((S.map zae).set q u2)[q]?=some u2:=xbl (by omega)
 have hT2l:((S.map zae).set q u2).length=S.length:=by rw[xaw,hml]
 have h1:=kt.imm hrd hz hSl hlen
 have h2:=zwr (ext:=ext) (T:=S.map zae) c.c642 c.c578 (some S.length) (zg6 tObj _) (by rw[hml];omega)
 have hT2x:∀o∈(S.map zae).set q u2,o.l.xs.length<=1000000:=by
  intro y hy
  obtain⟨i,hi⟩:=xa3 hy
  by_cases hiq:i=q
  ·subst hiq
   rw[hT2g]at hi
   cases hi
   rw[hu2x];exact hx2
  ·rw[xa0 (fun e=>hiq e.symm)]at hi
   exact zuk hSl y (xag hi)
 obtain⟨Xf,hX,h3⟩:=z9w kt hT2g cap2 (some S.length) hT2x (by omega) (by rw[hu2x];exact hu2i)
 have h4:=z5v (ext:=ext) c.c639 c.c578 hoT (u:=u2) (by rw[hu2r];exact hr0) (by rw[hu2r];exact hr1) (some S.length) (by omega)
 rw[hu2x,hT2l]at h3
 unfold zfz zfy at h2
 rw[hml]at h2 h4
 rw[if_neg (by omega),if_neg (by omega)]at h2
 have hW:=zwq (S.map zae)
 have p1:=zc7
 have hrl:(tObj.row (S.map zae)).length=S.length*5:=by have:=zbg tObj (S.map zae);rw[hml]at this;exact this
 have hrl2:(tObj.row ((S.map zae).set q u2)).length=S.length*5:=by have:=zbg tObj ((S.map zae).set q u2);rw[hT2l]at this;exact this
 have hrf:∀v:AV,AV.refs.refsL (zak (tObj.row (S.map zae)) (q*5+2) v)=v.refs:=fun v=>zch (by omega)
 have hrf2:∀v:AV,AV.refs.refsL (zak (tObj.row ((S.map zae).set q u2)) (q*5+2) v)=v.refs:=fun v=>zch (by omega)
 have hfz2:=fun m id (hm:m[id]?=some (AObj.flat (tVal.row xs2) false))=>zz8 m (id:=id) (n:=xs2.length) (cap:=cap2) (R:=tObj.row ((S.map zae).set q u2)) (p:=q*5+2) (by rw[<-hu2i];exact zh4 hT2g) hm
 unfold zdy at h1
 rw[ho,show decide (q<S.length)=true by simpa using hq]at h1
 simp only[true_and]at h1
 rw[zad code ext c.c640]
 rcases hd with⟨hnz,hd⟩|⟨hnz,hd⟩
 ·rw[if_pos hnz]at h1
  have hci:(zae o0).l.iv=.slice (tVal.row o0.l.xs) 0 o0.l.xs.length (some o0.l.xs.length):=by
   unfold zae zea
   dsimp only
   rw[if_neg (by simp[hnz])]
  have hfz:=fun m id (hm:m[id]?=some (AObj.flat (tVal.row o0.l.xs) false))=>zz8 m (id:=id) (n:=o0.l.xs.length) (cap:=some o0.l.xs.length) (R:=tObj.row (S.map zae)) (p:=q*5+2) (by rw[<-hci];exact zh4 hoT) hm
  unfold rL rLV at hd
  simp only[hrich]at hd
  clear hrich hT2g hoT
  generalize ze8 (zae o0) u2=ask at *
  have hTl:((S.map zae).set q u2).length<=10000000:=by rw[hT2l];exact hlen
  generalize tObj.row ((S.map zae).set q u2)=R2 at *
  generalize (S.map zae).set q u2=T2 at *
  generalize zby (S.map zae)=Z at *
  generalize tObj.row (S.map zae)=R1 at *
  generalize tVal.row xs2=W2 at *
  generalize tVal.row o0.l.xs=W at *
  generalize xs2.length=n2 at *
  generalize o0.l.xs.length=n at *
  generalize S.length=N at *
  rcases hd with hd|hd
  ·have h3:=fun s=>h3 s 3 4
   have hb:∃P b q',XM b T2 (Xf b)/\P.length=b/\1<=b/\P[0]?=some (.flat L false)/\P[q']?=some (.rich [.osl b 0 5 N (some N),.imm (.val (.int .u8 0)),zaa 0,zaq .empty,zaa ask])/\
     den code ext x640Q.body ⟨1,enter 0 [.imm sv,.imm (.val (.int .u8 25)),zaa 0,.osl 0 0 2 3 (some 3)],[.flat L false]⟩=some (.ret,⟨1,[(8,.optr q' 0)],P++Xf b⟩):=by
    refine⟨[.flat L false,.rich [.imm sv],.rich [.osl 8 0 5 N (some N),.imm (.val (.int .u8 0)),zaa 0,zaq .empty,zaa ask],.rich (zak R2 (q*5+2) (.osl 4 0 2 n2 cap2)),.flat W2 false,.rich [.osl 3 0 5 N (some N),zaa 1152921504606846976,zaa u],.flat Z false,.rich [.imm (.val (.int .u8 0)),zaa 0,zaq .empty,avb false]],8,2,hX 8,rfl,by decide,rfl,rfl,?_⟩
    simp -implicitDefEqProofs [-IV.plain,x640Q,-zax,h1,h2,h3,h4,ha,hd,hW,hrf,p1,hfz,hfz2]
   obtain⟨P,b,q',g1,g2,g3,g4,g5,g6⟩:=hb
   obtain⟨X',g7,g8⟩:=zjj g1 g2 g3 hTl g4 g5
   refine⟨X',g7,?_⟩
   simp only[xat,xa4,xau]
   rw[g6]
   exact g8
  ·have h3:=fun s=>h3 s 3 7
   have hb:∃P b q',XM b T2 (Xf b)/\P.length=b/\1<=b/\P[0]?=some (.flat L false)/\P[q']?=some (.rich [.osl b 0 5 N (some N),.imm (.val (.int .u8 0)),zaa 0,zaq .empty,zaa ask])/\
     den code ext x640Q.body ⟨1,enter 0 [.imm sv,.imm (.val (.int .u8 25)),zaa 0,.osl 0 0 2 3 (some 3)],[.flat L false]⟩=some (.ret,⟨1,[(8,.optr q' 0)],P++Xf b⟩):=by
    refine⟨[.flat L false,.rich [.imm sv],.rich [.osl 9 0 5 N (some N),.imm (.val (.int .u8 0)),zaa 0,zaq .empty,zaa ask],.rich (zak R2 (q*5+2) (.osl 7 0 2 n2 cap2)),.flat W false,.rich [.osl 3 0 5 N (some N),zaa 1152921504606846976,zaa u],.flat Z false,.flat W2 false,.rich [.imm (.val (.int .u8 0)),zaa 0,zaq .empty,avb false]],9,2,hX 9,rfl,by decide,rfl,rfl,?_⟩
    simp -implicitDefEqProofs [-IV.plain,x640Q,-zax,h1,h2,h3,h4,ha,hd,hW,hrf,p1,hfz,hfz2]
   obtain⟨P,b,q',g1,g2,g3,g4,g5,g6⟩:=hb
   obtain⟨X',g7,g8⟩:=zjj g1 g2 g3 hTl g4 g5
   refine⟨X',g7,?_⟩
   simp only[xat,xa4,xau]
   rw[g6]
   exact g8
 ·rw[if_neg (by simp[hnz])]at h1
  unfold rL at hd
  simp only[hrich]at hd
  clear hrich hT2g hoT
  generalize ze8 (zae o0) u2=ask at *
  have hTl:((S.map zae).set q u2).length<=10000000:=by rw[hT2l];exact hlen
  generalize tObj.row ((S.map zae).set q u2)=R2 at *
  generalize (S.map zae).set q u2=T2 at *
  generalize zby (S.map zae)=Z at *
  generalize tObj.row (S.map zae)=R1 at *
  generalize tVal.row xs2=W2 at *
  generalize xs2.length=n2 at *
  generalize S.length=N at *
  have h3:=fun s=>h3 s 3 6
  have hb:∃P b q',XM b T2 (Xf b)/\P.length=b/\1<=b/\P[0]?=some (.flat L false)/\P[q']?=some (.rich [.osl b 0 5 N (some N),.imm (.val (.int .u8 0)),zaa 0,zaq .empty,zaa ask])/\
    den code ext x640Q.body ⟨1,enter 0 [.imm sv,.imm (.val (.int .u8 25)),zaa 0,.osl 0 0 2 3 (some 3)],[.flat L false]⟩=some (.ret,⟨1,[(8,.optr q' 0)],P++Xf b⟩):=by
   refine⟨[.flat L false,.rich [.imm sv],.rich [.osl 8 0 5 N (some N),.imm (.val (.int .u8 0)),zaa 0,zaq .empty,zaa ask],.rich (zak R2 (q*5+2) (.osl 6 0 2 n2 cap2)),.rich [.osl 3 0 5 N (some N),zaa 1152921504606846976,zaa u],.flat Z false,.flat W2 false,.rich [.imm (.val (.int .u8 0)),zaa 0,zaq .empty,avb false]],8,2,hX 8,rfl,by decide,rfl,rfl,?_⟩
   simp -implicitDefEqProofs [-IV.plain,x640Q,-zax,h1,h2,h3,h4,ha,hd,hW,p1,hfz2]
  obtain⟨P,b,q',g1,g2,g3,g4,g5,g6⟩:=hb
  obtain⟨X',g7,g8⟩:=zjj g1 g2 g3 hTl g4 g5
  refine⟨X',g7,?_⟩
  simp only[xat,xa4,xau]
  rw[g6]
  exact g8
end
section
variable {code:Nat->Option zab} {ext:zac}
theorem yhp(t:ByteArray)(ht:t.size<=4096):0<=zbf (zb7 t)/\zbf (zb7 t)<=1000:=by
 have e1:IntKind.wrap .i64 ((t.size:Int)+7)=(t.size:Int)+7:=zap (by omega) (by omega)
 have e2:((t.size:Int)+7).tdiv 8=((t.size:Int)+7) / 8:=Int.tdiv_eq_ediv_of_nonneg (by omega)
 have e3:IntKind.wrap .i64 (((t.size:Int)+7) / 8)=((t.size:Int)+7) / 8:=zap (by omega) (by omega)
 have e4:IntKind.wrap .i64 (2+((t.size:Int)+7) / 8)=2+((t.size:Int)+7) / 8:=zap (by omega) (by omega)
 have:zbf (zb7 t)=2+((t.size:Int)+7) / 8:=by
  unfold zbf
  rw[if_pos (show(zb7 t).k=3 from rfl)]
  show IntKind.wrap .i64 (2+IntKind.wrap .i64 ((IntKind.wrap .i64 ((t.size:Int)+7)).tdiv 8))=_
  rw[e1,e2,e3,e4]
 rw[this]
 omega
end
end Go.EX

