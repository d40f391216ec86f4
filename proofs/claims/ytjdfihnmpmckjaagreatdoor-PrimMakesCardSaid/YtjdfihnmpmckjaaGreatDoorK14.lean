import Derived.Test.YtjdfihnmpmckjaaGreatDoorK13
import Derived.Test.YtjdfihnmpmckjaaGreatDoorK12
set_option linter.unusedVariables false
set_option linter.unusedSimpArgs false
namespace Go.EX
def zf3(code:Nat->Option zab)(ext:zac)(sv:IV)(T:List Obj)(pf:Nat)(pargs:List AV)(o:Obj):Prop:=
 ∃X,XM 0 (T.map zaf++[o]) X/\callW code ext pf (.imm sv::pargs) []=some (zb1 (T.length+1) o.k ((T.length+1:Nat):Int) .empty (zay o) 0,X)
def zf4(code:Nat->Option zab)(ext:zac)(sv:IV)(T:List Obj)(pf:Nat)(pargs:List AV)(t:ByteArray):Prop:=
 ∃TD X,zhq T TD/\XM 0 TD X/\callW code ext pf (.imm sv::pargs) []=some (zb1 T.length 0 0 t 0 0,X)
structure zlx (code:Nat->Option zab) (eN e0 eK:zac) (sv:IV) (T:List Obj):Prop where
 n:∃X,XM 0 T X/\callW code eN 643 [.imm sv] []=some (.osl 0 0 5 T.length (some T.length),X)
 z:zkl code e0
 p:zny code eK T.length
 r:zak tObj sv T
 nn:zbt sv=false
 s:∀o∈T,o.l.xs.length<=50000
 l:T.length<=50000
def zc6(ck:Val->Bool)(xs:List Val):Bool:=xs.all fun v=>decide (v.k≠7)&&ck v
theorem zox{ck:Val->Bool}{xs:List Val}(h:zc6 ck xs=true):(xs.any fun v=> !ck v)=false/\(xs.any fun v=>decide (v.k=7))=false:=by
 unfold zc6 at h
 rw[xai]at h
 constructor
 ·rw[xb3]
  intro v hv
  have:=h v hv
  simp only[xae]at this
  simp[this.2]
 ·rw[xb3]
  intro v hv
  have:=h v hv
  simp only[xae]at this
  simpa using this.1
theorem zwp{ck:Val->Bool}{xs:List Val}(h:zc6 ck xs=false)(hc:(xs.any fun v=> !ck v)=false):(xs.any fun v=>decide (v.k=7))=true:=by
 cases h7:(xs.any fun v=>decide (v.k=7))with
 |true=>rfl
 |false=>
  rw[xb3]at hc h7
  have:zc6 ck xs=true:=by
   unfold zc6
   rw[xai]
   intro v hv
   have h1:=hc v hv
   have h2:=h7 v hv
   simp at h1 h2
   simp[h1,h2]
  rw[this]at h;cases h
def slC(xs:List Val)(hw:∀x∈xs,tVal.wf x)(hl:xs.length<=60000):Sl tVal:=⟨.slice (tVal.row xs) 0 xs.length (zg6 xs.length),xs,zi0 _ _ hw (by omega) (fun c h=>by
 unfold zg6 at h
 split at h
 ·cases h;omega
 ·cases h)⟩
def slA(xs:List Val)(cap:Option Nat)(hw:∀x∈xs,tVal.wf x)(hl:xs.length<=60000)(hc:∀c,cap=some c->xs.length<=c):Sl tVal:=if h:xs.length=0 then⟨.val (.slice none 0 0),[],⟨by simp,by simp,.inl ⟨rfl,rfl⟩⟩⟩else⟨.slice (tVal.row xs) 0 xs.length cap,xs,zi0 _ _ hw (by omega) hc⟩
theorem zsh{xs:List Val}{cap:Option Nat}(hw:∀x∈xs,tVal.wf x)(hl:xs.length<=60000)(hc:∀c,cap=some c->xs.length<=c):LAt (slA xs cap hw hl hc) xs cap:=by
 unfold slA
 by_cases h:xs.length=0
 ·rw[dif_pos h]
  exact⟨(xat h).symm,by rw[if_pos h]⟩
 ·rw[dif_neg h]
  exact⟨rfl,by rw[if_neg h]⟩
theorem zj0{k room fn:Int}(h0:0<=k)(h1:k<=255)(h2:0<=room)(h3:room<=1000000)(h4:0<=fn)(h5:fn<=9223372036854775807)(l:Sl tVal):tObj.wf (zal k room fn l):=by
 refine⟨wfU8.2 ⟨h0,h1⟩,?_,wfI64.2 ⟨?_,?_⟩,wfI64.2 ⟨?_,?_⟩⟩
 ·exact(zx6 (t:=.empty) (by decide)).2.1
 all_goals
  show _<=_
  simp only[zal]
  omega
section
variable {code:Nat->Option zab} {eN e0 eK:zac} {sv:IV} {T:List Obj}
theorem yat(c:zkj code)(tw:zlx code eN e0 eK sv T){ck:Val->Bool}{lv:IV}{xs:List Val}(hr:zak tVal lv xs)(hz:zbt lv=false)(hl:xs.length<=60000)
  (h646:∀e,(e=eN\/e=e0\/e=eK)->∀y∈xs,callW code e 646 [.imm sv,.agg [.imm (.val (.int .u8 y.k)),zaa y.n]] []=some (avb (ck y),[])):
  ∃e,(e=eN\/e=e0\/e=eK)/\(zc6 ck xs=true->∃l:Sl tVal,l.xs=xs/\zf3 code e sv T 632 [.imm lv] (zal 4 xs.length 0 l))/\(zc6 ck xs=false->zf4 code e sv T 632 [.imm lv] zcg):=by
 have hS:∀o∈T,o.l.xs.length<=1000000:=fun o ho=>xb1 (tw.s o ho) (by decide)
 have hn:=tw.l
 have hTl:(T.map zaf).length=T.length:=xam ..
 have hany:∀e,(e=eN\/e=e0\/e=eK)->zg4 code e sv lv (xs.any fun v=> !ck v):=fun e he=>zu8 (ext:=e) c.c749 c.c759 hr hl fun v hv=>zv9 c.c641 sv v (h646 e he v hv)
 cases hm:zc6 ck xs with
 |true=>
  obtain⟨a1,a2⟩:=zox hm
  refine⟨eK,.inr (.inr rfl),fun _=>⟨slC xs hr.1 hl,rfl,?_⟩,fun h=>by cases h⟩
  have ha:=hany eK (.inr (.inr rfl))
  rw[a1]at ha
  have hd:=z8j (ext:=eK) c.toPlainFns (T:=T.map zaf) (by omega) hr hz hl a2 (slC xs hr.1 hl) rfl rfl
  rw[hTl]at hd
  obtain⟨X,hX,h1⟩:=zxc c.c632 (by rw[xak,hTl];simp;omega) (zvp c.toDoQ tw.p tw.r tw.nn hS (by omega) ha 22 0 4 _ .empty (o:=zal 4 xs.length 0 (slC xs hr.1 hl)) rfl rfl (show xs.length<=1000000 by omega) rfl _ hd)
  have hw:=zm9 4 xs.length 0 (slC xs hr.1 hl) (by omega) (by omega) (by show xs.length<=_;omega)
  rw[zn4 hw.1 (by omega)]at h1
  exact⟨X,hX,h1⟩
 |false=>
  cases hc:(xs.any fun v=> !ck v)with
  |true=>
   refine⟨eN,.inl rfl,(fun h=>by cases h),fun _=>?_⟩
   have ha:=hany eN (.inl rfl)
   rw[hc]at ha
   obtain⟨X0,hX0,h0⟩:=tw.n
   obtain⟨X,hX,h1⟩:=zxc c.c632 (by omega) (zvo c.toDoQ hX0 (by omega) h0 ha 22 0)
   exact⟨T,X,zn2 tw.r.1,hX,h1⟩
  |false=>
   refine⟨e0,.inr (.inl rfl),(fun h=>by cases h),fun _=>?_⟩
   have ha:=hany e0 (.inr (.inl rfl))
   rw[hc]at ha
   have hd:=zz7 (ext:=e0) c.toPlainFns (T.map zaf) 22 0 (by decide) (by decide) hr hl (zwp hm hc)
   obtain⟨X,hX,h1⟩:=zxc c.c632 (by rw[hTl];omega) (zq3 c.toDoQ tw.z tw.r tw.nn hS (by omega) ha 22 0 0 0 zcg hd)
   exact⟨_,X,zl4 tw.r.1,hX,h1⟩
theorem z89(c:zkj code)(tw:zlx code eN e0 eK sv T){ck:Val->Bool}{lv:IV}{xs:List Val}(hr:zak tVal lv xs)(hz:zbt lv=false)(hl:xs.length<=60000)
  (h646:∀e,(e=eN\/e=e0\/e=eK)->∀y∈xs,callW code e 646 [.imm sv,.agg [.imm (.val (.int .u8 y.k)),zaa y.n]] []=some (avb (ck y),[])):
  ∃e,(e=eN\/e=e0\/e=eK)/\∀fn:Int,(ze0 ck xs=true->∃l:Sl tVal,l.xs=xs/\zf3 code e sv T 629 [zaa fn,.imm lv] (zal 6 0 fn l))/\(ze0 ck xs=false->zf4 code e sv T 629 [zaa fn,.imm lv] zcg):=by
 have hS:∀o∈T,o.l.xs.length<=1000000:=fun o ho=>xb1 (tw.s o ho) (by decide)
 have hn:=tw.l
 have hTl:(T.map zaf).length=T.length:=xam ..
 have hany:∀e,(e=eN\/e=e0\/e=eK)->zg4 code e sv lv (xs.any fun v=> !ck v):=fun e he=>zu8 (ext:=e) c.c749 c.c759 hr hl fun v hv=>zv9 c.c641 sv v (h646 e he v hv)
 cases hm:ze0 ck xs with
 |true=>
  have hm':=hm
  unfold ze0 at hm'
  rw[xai]at hm'
  have a1:(xs.any fun v=> !ck v)=false:=by
   rw[xb3]
   intro v hv
   have:=hm' v hv
   simp only[xae]at this
   simp[this.2]
  have a2:(xs.any fun v=>decide (v.k≠7))=false:=by
   rw[xb3]
   intro v hv
   have:=hm' v hv
   simp only[xae]at this
   simpa using this.1
  refine⟨eK,.inr (.inr rfl),fun fn=>⟨fun _=>⟨slC xs hr.1 hl,rfl,?_⟩,fun h=>by cases h⟩⟩
  have ha:=hany eK (.inr (.inr rfl))
  rw[a1]at ha
  have hd:=z8i (ext:=eK) c.toPlainFns c.c749 c.c759 c.c207 (T:=T.map zaf) (by omega) fn hr hz hl a2 (slC xs hr.1 hl) rfl rfl
  rw[hTl]at hd
  obtain⟨X,hX,h1⟩:=zxb c.c629 (by rw[xak,hTl];simp;omega) (zvp c.toDoQ tw.p tw.r tw.nn hS (by omega) ha 26 fn 6 _ .empty (o:=zal 6 0 fn (slC xs hr.1 hl)) rfl rfl (show xs.length<=1000000 by omega) rfl _ hd)
  have hw:=zm9 6 0 fn (slC xs hr.1 hl) (by omega) (by omega) (by show xs.length<=_;omega)
  rw[zn4 hw.1 (by omega)]at h1
  exact⟨X,hX,h1⟩
 |false=>
  cases hc:(xs.any fun v=> !ck v)with
  |true=>
   refine⟨eN,.inl rfl,fun fn=>⟨(fun h=>by cases h),fun _=>?_⟩⟩
   have ha:=hany eN (.inl rfl)
   rw[hc]at ha
   obtain⟨X0,hX0,h0⟩:=tw.n
   obtain⟨X,hX,h1⟩:=zxb c.c629 (by omega) (zvo c.toDoQ hX0 (by omega) h0 ha 26 fn)
   exact⟨T,X,zn2 tw.r.1,hX,h1⟩
  |false=>
   refine⟨e0,.inr (.inl rfl),fun fn=>⟨(fun h=>by cases h),fun _=>?_⟩⟩
   have ha:=hany e0 (.inr (.inl rfl))
   have h7:(xs.any fun v=>decide (v.k≠7))=true:=by
    cases h7:(xs.any fun v=>decide (v.k≠7))with
    |true=>rfl
    |false=>
     rw[xb3]at hc h7
     have:ze0 ck xs=true:=by
      unfold ze0
      rw[xai]
      intro v hv
      have h1:=hc v hv
      have h2:=h7 v hv
      simp at h1 h2
      simp[h1,h2]
     rw[this]at hm;cases hm
   rw[hc]at ha
   have hd:=z8h (ext:=e0) c.toPlainFns c.c749 c.c759 c.c207 (T.map zaf) fn hr hl h7
   obtain⟨X,hX,h1⟩:=zxb c.c629 (by rw[hTl];omega) (zq3 c.toDoQ tw.z tw.r tw.nn hS (by omega) ha 26 fn 0 0 zcg hd)
   exact⟨_,X,zl4 tw.r.1,hX,h1⟩
theorem yhu(c:zkj code)(tw:zlx code eN e0 eK sv T)(t:ByteArray):
  (t.size<=4096->zf3 code e0 sv T 638 [zaj t] (zb0 t))/\(¬t.size<=4096->zf4 code e0 sv T 638 [zaj t] zhy):=by
 have hS:∀o∈T,o.l.xs.length<=1000000:=fun o ho=>xb1 (tw.s o ho) (by decide)
 have hn:=tw.l
 obtain⟨h1,h2⟩:=ye9 c tw.z tw.r tw.nn hS (by omega) t
 refine⟨fun ht=>h1 ht,fun ht=>?_⟩
 obtain⟨X,hX,h3⟩:=h2 ht
 exact⟨_,X,zl4 tw.r.1,hX,h3⟩
theorem z68(c:zkj code)(tw:zlx code eN e0 eK sv T){ck:Val->Bool}{v:Val}(hw:tVal.wf v)
  (h646:∀e,(e=eN\/e=e0\/e=eK)->∀y∈[v],callW code e 646 [.imm sv,.agg [.imm (.val (.int .u8 y.k)),zaa y.n]] []=some (avb (ck y),[])):
  ∃e,(e=eN\/e=e0\/e=eK)/\(zc6 ck [v]=true->∃l:Sl tVal,l.xs=[v]/\zf3 code e sv T 628 [zc7 v] (zal 7 0 0 l))/\(zc6 ck [v]=false->zf4 code e sv T 628 [zc7 v] zcg):=by
 have hS:∀o∈T,o.l.xs.length<=1000000:=fun o ho=>xb1 (tw.s o ho) (by decide)
 have hn:=tw.l
 have hTl:(T.map zaf).length=T.length:=xam ..
 have hw1:∀x∈[v],tVal.wf x:=fun x hx=>by rw[xav.1 hx];exact hw
 have hany:∀e,(e=eN\/e=e0\/e=eK)->zii code e sv [v] ([v].any fun v=> !ck v):=fun e he=>z57 (ext:=e) c.toDoQ sv [v] ck (by simp) (h646 e he)
 cases hm:zc6 ck [v]with
 |true=>
  obtain⟨a1,a2⟩:=zox hm
  refine⟨eK,.inr (.inr rfl),fun _=>⟨slC [v] hw1 (by simp),rfl,?_⟩,fun h=>by cases h⟩
  have ha:=hany eK (.inr (.inr rfl))
  rw[a1]at ha
  have h7:v.k≠7:=by simpa using a2
  have hd:=z8e (ext:=eK) c.toPlainFns (T:=T.map zaf) (by omega) hw h7 (slC [v] hw1 (by simp)) rfl rfl
  rw[hTl]at hd
  obtain⟨X,hX,h1⟩:=zxa c.c628 (by rw[xak,hTl];simp;omega) (z8d c.toDoQ tw.p tw.r tw.nn hS (by omega) ha 7 0 7 _ .empty (o:=zal 7 0 0 (slC [v] hw1 (by simp))) rfl rfl (show([v]:List Val).length<=1000000 by simp) rfl _ hd)
  have hw:=zm9 7 0 0 (slC [v] hw1 (by simp)) (by omega) (by omega) (by show([v]:List Val).length<=_;simp)
  rw[zn4 hw.1 (by omega)]at h1
  exact⟨X,hX,h1⟩
 |false=>
  cases hc:([v].any fun v=> !ck v)with
  |true=>
   refine⟨eN,.inl rfl,(fun h=>by cases h),fun _=>?_⟩
   have ha:=hany eN (.inl rfl)
   rw[hc]at ha
   obtain⟨X0,hX0,h0⟩:=tw.n
   obtain⟨X,hX,h1⟩:=zxa c.c628 (by omega) (z8b c.toDoQ hX0 (by omega) h0 ha 7 0)
   exact⟨T,X,zn2 tw.r.1,hX,h1⟩
  |false=>
   refine⟨e0,.inr (.inl rfl),(fun h=>by cases h),fun _=>?_⟩
   have ha:=hany e0 (.inr (.inl rfl))
   rw[hc]at ha
   have hd:=z8f (ext:=e0) c.toPlainFns false (T.map zaf) 7 0 (by decide) (by decide) (xs:=[v]) (by simp) hw1 (zwp hm hc)
   obtain⟨X,hX,h1⟩:=zxa c.c628 (by rw[hTl];omega) (z8c c.toDoQ tw.z tw.r tw.nn hS (by omega) (by simp) ha 7 0 0 0 zcg hd)
   exact⟨_,X,zl4 tw.r.1,hX,h1⟩
end
theorem z6n{T:List Obj}{xs:List Val}{k:Val}{r:Int}(ha:AtV T xs k r):AtV (T.map zaf) xs k r:=by
 rcases ha with⟨rfl,h1⟩|⟨j,a,rfl,h1,h2,h3⟩
 ·exact .inl ⟨rfl,fun j a hj=>by rw[zxt];exact h1 j a hj⟩
 ·exact .inr ⟨j,a,rfl,h1,by rw[zxt];exact h2,fun i b hi hb=>by rw[zxt];exact h3 i b hi hb⟩
theorem z6m(T:List Obj)(xs:List Val)(k:Val):atI (T.map zaf) xs k=atI T xs k:=zqy (zqx _ xs k) (z6n (zqx T xs k))
theorem zrt(T:List Obj):∀(n:Nat) (acc xs:List Val),xs.length<=n->zbo (T.map zaf) acc xs=zbo T acc xs
 |n,acc,[],h=>rfl
 |n,acc,[a],h=>rfl
 |0,acc,a::b::r,h=>by simp at h
 |n+1,acc,a::b::r,h=>by
  show zbo (T.map zaf) (zdf (T.map zaf) acc a b) r=zbo T (zdf T acc a b) r
  have:zdf (T.map zaf) acc a b=zdf T acc a b:=by unfold zdf;rw[z6m]
  rw[this]
  exact zrt T n _ r (by simp at h;omega)
theorem yhr{T:List Obj}{v:Val}(h:zch T v):zch (T.map zaf) v:=fun h3=>by
 obtain⟨q,hq⟩:=h h3
 exact⟨q,by rw[z1z (z14 T)];exact hq⟩
def zef(ck:Val->Bool)(xs:List Val):Bool:=zc6 ck xs&&decide (xs.length%2=0)
section
variable {code:Nat->Option zab} {eN e0 eK:zac} {sv:IV} {T:List Obj}
theorem ybc(c:zkj code)(tw:zlx code eN e0 eK sv T){ck:Val->Bool}{lv:IV}{xs:List Val}(hr:zak tVal lv xs)(hl:xs.length<=60000)(hck:∀y∈xs,ck y=true->zch T y)
  (h646:∀e,(e=eN\/e=e0\/e=eK)->∀y∈xs,callW code e 646 [.imm sv,.agg [.imm (.val (.int .u8 y.k)),zaa y.n]] []=some (avb (ck y),[])):
  ∃e,(e=eN\/e=e0\/e=eK)/\(zef ck xs=true->∃l:Sl tVal,LAt l (zbo T [] xs) none/\zf3 code e sv T 633 [.imm lv] (zal 5 xs.length 0 l))/\(zef ck xs=false->zf4 code e sv T 633 [.imm lv] zcg):=by
 have hS:∀o∈T,o.l.xs.length<=1000000:=fun o ho=>xb1 (tw.s o ho) (by decide)
 have hn:=tw.l
 have hTl:(T.map zaf).length=T.length:=xam ..
 have hany:∀e,(e=eN\/e=e0\/e=eK)->zg4 code e sv lv (xs.any fun v=> !ck v):=fun e he=>zu8 (ext:=e) c.c749 c.c759 hr hl fun v hv=>zv9 c.c641 sv v (h646 e he v hv)
 cases hc:(xs.any fun v=> !ck v)with
 |true=>
  have hm:zef ck xs=false:=by
   cases h:zef ck xs with
   |false=>rfl
   |true=>
    unfold zef at h
    rw[xae]at h
    rw[(zox h.1).1]at hc;cases hc
  rw[hm]
  refine⟨eN,.inl rfl,(fun h=>by cases h),fun _=>?_⟩
  have ha:=hany eN (.inl rfl)
  rw[hc]at ha
  obtain⟨X0,hX0,h0⟩:=tw.n
  obtain⟨X,hX,h1⟩:=zo7 c.c633 (by omega) (zvo c.toDoQ hX0 (by omega) h0 ha 23 0)
  exact⟨T,X,zn2 tw.r.1,hX,h1⟩
 |false=>
  cases h7:(xs.any fun v=>decide (v.k=7))with
  |true=>
   have hm:zef ck xs=false:=by
    cases h:zef ck xs with
    |false=>rfl
    |true=>
     unfold zef at h
     rw[xae]at h
     rw[(zox h.1).2]at h7;cases h7
   rw[hm]
   refine⟨e0,.inr (.inl rfl),(fun h=>by cases h),fun _=>?_⟩
   have ha:=hany e0 (.inr (.inl rfl))
   rw[hc]at ha
   have hd:=zz7 (ext:=e0) c.toPlainFns (T.map zaf) 23 0 (by decide) (by decide) hr hl h7
   obtain⟨X,hX,h1⟩:=zo7 c.c633 (by rw[hTl];omega) (zq3 c.toDoQ tw.z tw.r tw.nn hS (by omega) ha 23 0 0 0 zcg hd)
   exact⟨_,X,zl4 tw.r.1,hX,h1⟩
  |false=>
   have hml:zc6 ck xs=true:=by
    cases h:zc6 ck xs with
    |true=>rfl
    |false=>rw[zwp h hc]at h7;cases h7
   by_cases hev:xs.length%2=0
   ·have hm:zef ck xs=true:=by unfold zef;rw[hml,Bool.true_and];exact decide_eq_true hev
    rw[hm]
    have htx:∀y∈xs,zch (T.map zaf) y:=fun y hy=>yhr (hck y hy (by
     have h1:=xb3.1 hc y hy
     simpa using h1))
    have hpe:=zo5 (T:=T) xs.length [] xs (xap _) rfl
    have hpl:(zbo T [] xs).length<=xs.length:=by simpa using hpe.2.1
    have hpw:∀x∈zbo T [] xs,tVal.wf x:=fun x hx=>by
     rcases hpe.2.2 x hx with h|h
     ·simp at h
     ·exact hr.1 x h
    have hlA:=zsh (cap:=none) hpw (by omega) (fun c h=>by cases h)
    generalize slA (zbo T [] xs) none hpw (by omega) (fun c h=>by cases h)=l at *
    have hf:=z2h (ext:=e0) c.toPlainFns (T:=T.map zaf) (by omega) hr hl hev htx (l:=l) (by rw[zrt T xs.length [] xs (xap _)];exact hlA)
    have hf':=z2h (ext:=eK) c.toPlainFns (T:=T.map zaf) (by omega) hr hl hev htx (l:=l) (by rw[zrt T xs.length [] xs (xap _)];exact hlA)
    rw[zrt T xs.length [] xs (xap _)]at hf hf'
    have hwo:=zm9 5 xs.length 0 l (by omega) (by omega) (by rw[hlA.xs];omega)
    by_cases h0:(zbo T [] xs).length=0
    ·refine⟨e0,.inr (.inl rfl),fun _=>⟨l,hlA,?_⟩,fun h=>by cases h⟩
     have ha:=hany e0 (.inr (.inl rfl))
     rw[hc]at ha
     rw[if_pos h0]at hf
     have hd:=zvq (ext:=e0) c.toPlainFns (T.map zaf) hr hl h7 hf (.inr (.inl ⟨_,_,rfl⟩))
     rw[hTl]at hd
     obtain⟨X,hX,h1⟩:=zo7 c.c633 (by rw[xak,hTl];simp;omega) (z79 c.toDoQ tw.z tw.r tw.nn hS (by omega) ha 23 0 5 _ .empty (o:=zal 5 xs.length 0 l) (by show l.xs.length<=_;rw[hlA.xs];omega) _ hd)
     rw[zn4 hwo.1 (by omega)]at h1
     exact⟨X,hX,h1⟩
    ·refine⟨eK,.inr (.inr rfl),fun _=>⟨l,hlA,?_⟩,fun h=>by cases h⟩
     have ha:=hany eK (.inr (.inr rfl))
     rw[hc]at ha
     rw[if_neg h0]at hf'
     have hd:=zvq (ext:=eK) c.toPlainFns (T.map zaf) hr hl h7 hf' (.inr (.inr ⟨_,_,_,_,_,rfl⟩))
     rw[hTl]at hd
     have hiv:=hlA.iv
     rw[if_neg h0]at hiv
     obtain⟨X,hX,h1⟩:=zo7 c.c633 (by rw[xak,hTl];simp;omega) (zvp c.toDoQ tw.p tw.r tw.nn hS (by omega) ha 23 0 5 _ .empty (o:=zal 5 xs.length 0 l) (by show _=tVal.row l.xs;rw[hlA.xs]) (by show _=l.xs.length;rw[hlA.xs]) (show(zbo T [] xs).length<=1000000 by omega) hiv _ hd)
     rw[zn4 hwo.1 (by omega)]at h1
     exact⟨X,hX,h1⟩
   ·have hm:zef ck xs=false:=by unfold zef;rw[hml,Bool.true_and];exact decide_eq_false hev
    rw[hm]
    refine⟨e0,.inr (.inl rfl),(fun h=>by cases h),fun _=>?_⟩
    have ha:=hany e0 (.inr (.inl rfl))
    rw[hc]at ha
    have hd:=zvq (ext:=e0) c.toPlainFns (T.map zaf) hr hl h7 (yd6 (ext:=e0) c.toPlainFns (T.map zaf) hr (by omega)) (.inl rfl)
    obtain⟨X,hX,h1⟩:=zo7 c.c633 (by rw[hTl];omega) (zq3 c.toDoQ tw.z tw.r tw.nn hS (by omega) ha 23 0 0 0 zcg hd)
    exact⟨_,X,zl4 tw.r.1,hX,h1⟩
end
section
variable {code:Nat->Option zab} {ext:zac}
theorem zv5(h152:code 152=some zj2){S:List Obj}{lv:IV}{xs:List Val}(hrl:zak tVal lv xs)(hl:xs.length<=60000){ck:Val->Bool}
  (h500:∀y∈xs,callW code ext 500 [.imm (tsv S),.agg [.imm (.val (.int .u8 y.k)),zaa y.n]] []=some (avb (ck y),[])):zjb code ext (S.map zam) lv (zc6 ck xs):=by
 have hlm:(S.map zam).length=S.length:=xam ..
 have:=z84 (ext:=ext) h152 (sv:=tsv S) hrl hl h500
 rw[show tsv S=IV.slice (tObj.row (S.map zam++[zap])) 0 (S.map zam).length (some ((S.map zam).length+1))from by rw[hlm]]at this
 exact this
theorem yas(c:zek code)(h152:code 152=some zj2)(sf:zhs code){sv:IV}{S:List Obj}(hr:zak tObj sv S)(hh:zhr (S.map zam)){ck:Val->Bool}{lv lv':IV}{xs:List Val}(hrl:zak tVal lv xs)(hl:xs.length<=60000)
  (h500:∀y∈xs,callW code ext 500 [.imm (tsv S),.agg [.imm (.val (.int .u8 y.k)),zaa y.n]] []=some (avb (ck y),[]))
  (h1:zc6 ck xs=true->∃l:Sl tVal,l.xs=xs/\zf3 code ext (tsv S) (S.map zam) 632 [.imm lv'] (zal 4 xs.length 0 l)) (h2:zc6 ck xs=false->zf4 code ext (tsv S) (S.map zam) 632 [.imm lv'] zcg):
  zex code ext sv S 632 [.imm lv'] 156 [.imm lv,avb false]:=by
 have hTn:=hh.n
 have hlm:(S.map zam).length=S.length:=xam ..
 have hf:=zv5 h152 hrl hl h500
 cases hm:zc6 ck xs with
 |true=>
  obtain⟨l,hlx,X,hX,hp⟩:=h1 hm
  rw[hm]at hf
  have hlA:=zsh (cap:=none) hrl.1 hl (fun c h=>by cases h)
  generalize slA xs none hrl.1 hl (fun c h=>by cases h)=l' at *
  have hq:=yf9 (ext:=ext) c (T:=S.map zam) (by omega) hrl hl hf hlA
  rw[hlm]at hp hq
  refine zoz sf hr hh (o:=zal 4 xs.length 0 l) (o':=zal 4 xs.length 0 l') ⟨rfl,rfl,by show l'.xs=l.xs;rw[hlA.xs,hlx],rfl,rfl⟩ (zj0 (by omega) (by omega) (by omega) (by omega) (by omega) (by omega) l) (zj0 (by omega) (by omega) (by omega) (by omega) (by omega) (by omega) l') (by show l.xs.length<=_;rw[hlx];omega) (zrm (cap:=none) fun h0=>?_) ⟨X,hX,hp⟩ hq
  have hiv:=hlA.iv
  have h0':¬xs.length=0:=by rw[<-hlA.xs];exact h0
  rw[if_neg h0']at hiv
  show l'.iv=.slice (tVal.row l'.xs) 0 l'.xs.length none
  rw[hlA.xs];exact hiv
 |false=>
  obtain⟨TD,X,hA,hX,hp⟩:=h2 hm
  rw[hm]at hf
  have hq:=yf8 (ext:=ext) c hf
  rw[hlm]at hp hq
  exact zoy sf hr hh hA ⟨X,hX,hp⟩ hq
theorem ybb(c:zek code)(h152:code 152=some zj2)(sf:zhs code){sv:IV}{S:List Obj}(hr:zak tObj sv S)(hh:zhr (S.map zam)){ck:Val->Bool}{lv lv':IV}{xs:List Val}(hrl:zak tVal lv xs)(hl:xs.length<=60000)(hck:∀y∈xs,ck y=true->zch (S.map zam) y)
  (h500:∀y∈xs,callW code ext 500 [.imm (tsv S),.agg [.imm (.val (.int .u8 y.k)),zaa y.n]] []=some (avb (ck y),[]))
  (h1:zef ck xs=true->∃l:Sl tVal,LAt l (zbo (S.map zam) [] xs) none/\zf3 code ext (tsv S) (S.map zam) 633 [.imm lv'] (zal 5 xs.length 0 l)) (h2:zef ck xs=false->zf4 code ext (tsv S) (S.map zam) 633 [.imm lv'] zcg):
  zex code ext sv S 633 [.imm lv'] 157 [.imm lv,avb false]:=by
 have hTn:=hh.n
 have hlm:(S.map zam).length=S.length:=xam ..
 have hf:=zv5 h152 hrl hl h500
 have hrT:zak tObj (.slice (tObj.row (S.map zam++[zap])) 0 (S.map zam).length (some ((S.map zam).length+1))) (S.map zam):=zxx hh
 by_cases hm:zef ck xs=true
 ·have hm':=hm
  unfold zef at hm'
  rw[xae]at hm'
  obtain⟨hml,hev⟩:=hm'
  have hev:xs.length%2=0:=by simpa using hev
  obtain⟨l,hlA,X,hX,hp⟩:=h1 hm
  rw[hml]at hf
  have htx:∀y∈xs,zch (S.map zam) y:=fun y hy=>hck y hy (by
   have:=xb3.1 (zox hml).1 y hy
   simpa using this)
  have hpl:=(zo5 (T:=S.map zam) xs.length [] xs (xap _) rfl).2.1
  simp only[xaz,xaw]at hpl
  have hq:=yge (ext:=ext) c (T:=S.map zam) (by omega) hrT hrl hl hev htx hf hlA
  rw[hlm]at hp hq
  refine zoz sf hr hh (o:=zal 5 xs.length 0 l) (o':=zal 5 xs.length 0 l) ⟨rfl,rfl,rfl,rfl,rfl⟩ (zj0 (by omega) (by omega) (by omega) (by omega) (by omega) (by omega) l) (zj0 (by omega) (by omega) (by omega) (by omega) (by omega) (by omega) l) (by show l.xs.length<=_;rw[hlA.xs];omega) (zrm (cap:=none) fun h0=>?_) ⟨X,hX,hp⟩ hq
  have hiv:=hlA.iv
  have h0':¬(zbo (S.map zam) [] xs).length=0:=by rw[<-hlA.xs];exact h0
  rw[if_neg h0']at hiv
  show l.iv=.slice (tVal.row l.xs) 0 l.xs.length none
  rw[hlA.xs];exact hiv
 ·have hm:zef ck xs=false:=by simpa using hm
  obtain⟨TD,X,hA,hX,hp⟩:=h2 hm
  have hq:callW code ext 157 [.optr 0 0,.imm lv,avb false] (za6 (tObj.row (S.map zam++[zap])) (S.map zam).length ((S.map zam).length+1))=some (za1 0 0 zcg 0,za6 (tObj.row (S.map zam++[zap])) (S.map zam).length ((S.map zam).length+1)):=by
   cases hml:zc6 ck xs with
   |false=>rw[hml]at hf;exact ygb (ext:=ext) c hf
   |true=>
    rw[hml]at hf
    unfold zef at hm
    rw[hml,Bool.true_and]at hm
    have:¬xs.length%2=0:=by simpa using hm
    exact ygd (ext:=ext) c hrl hl (by omega) hf
  rw[hlm]at hp hq
  exact zoy sf hr hh hA ⟨X,hX,hp⟩ hq
theorem z88(c:zek code)(sf:zhs code){sv:IV}{S:List Obj}(hr:zak tObj sv S)(hh:zhr (S.map zam)){ck:Val->Bool}{lv lv':IV}{xs:List Val}(hrl:zak tVal lv xs)(hl:xs.length<=60000){fn:Int}(hf0:0<=fn)(hf1:fn<=9223372036854775807)
  (h500:∀y∈xs,callW code ext 500 [.imm (tsv S),.agg [.imm (.val (.int .u8 y.k)),zaa y.n]] []=some (avb (ck y),[]))
  (h1:ze0 ck xs=true->∃l:Sl tVal,l.xs=xs/\zf3 code ext (tsv S) (S.map zam) 629 [zaa fn,.imm lv'] (zal 6 0 fn l)) (h2:ze0 ck xs=false->zf4 code ext (tsv S) (S.map zam) 629 [zaa fn,.imm lv'] zcg):
  zex code ext sv S 629 [zaa fn,.imm lv'] 153 [zaa fn,.imm lv,avb false]:=by
 have hTn:=hh.n
 have hlm:(S.map zam).length=S.length:=xam ..
 have h5:∀y∈xs,callW code ext 500 [.imm (.slice (tObj.row (S.map zam++[zap])) 0 (S.map zam).length (some ((S.map zam).length+1))),.agg [.imm (.val (.int .u8 y.k)),zaa y.n]] []=some (avb (ck y),[]):=by
  rw[show IV.slice (tObj.row (S.map zam++[zap])) 0 (S.map zam).length (some ((S.map zam).length+1))=tsv S from by rw[hlm]]
  exact h500
 cases hm:ze0 ck xs with
 |true=>
  obtain⟨l,hlx,X,hX,hp⟩:=h1 hm
  have hlA:=zsh (cap:=none) hrl.1 hl (fun c h=>by cases h)
  generalize slA xs none hrl.1 hl (fun c h=>by cases h)=l' at *
  have hq:=yf0 (ext:=ext) c (T:=S.map zam) (by omega) (fn:=fn) hrl hl h5 hm hlA
  rw[hlm]at hp hq
  refine zoz sf hr hh (o:=zal 6 0 fn l) (o':=zal 6 0 fn l') ⟨rfl,rfl,by show l'.xs=l.xs;rw[hlA.xs,hlx],rfl,rfl⟩ (zj0 (by omega) (by omega) (by omega) (by omega) hf0 hf1 l) (zj0 (by omega) (by omega) (by omega) (by omega) hf0 hf1 l') (by show l.xs.length<=_;rw[hlx];omega) (zrm (cap:=none) fun h0=>?_) ⟨X,hX,hp⟩ hq
  have hiv:=hlA.iv
  have h0':¬xs.length=0:=by rw[<-hlA.xs];exact h0
  rw[if_neg h0']at hiv
  show l'.iv=.slice (tVal.row l'.xs) 0 l'.xs.length none
  rw[hlA.xs];exact hiv
 |false=>
  obtain⟨TD,X,hA,hX,hp⟩:=h2 hm
  have hq:=yfz (ext:=ext) c (T:=S.map zam) (fn:=fn) hrl hl h5 hm
  rw[hlm]at hp hq
  exact zoy sf hr hh hA ⟨X,hX,hp⟩ hq
theorem z67(c:zek code)(h152:code 152=some zj2)(sf:zhs code){sv:IV}{S:List Obj}(hr:zak tObj sv S)(hh:zhr (S.map zam)){ck:Val->Bool}{v:Val}(hw:tVal.wf v)
  (h500:∀y∈[v],callW code ext 500 [.imm (tsv S),.agg [.imm (.val (.int .u8 y.k)),zaa y.n]] []=some (avb (ck y),[]))
  (h1:zc6 ck [v]=true->∃l:Sl tVal,l.xs=[v]/\zf3 code ext (tsv S) (S.map zam) 628 [zc7 v] (zal 7 0 0 l)) (h2:zc6 ck [v]=false->zf4 code ext (tsv S) (S.map zam) 628 [zc7 v] zcg):
  zex code ext sv S 628 [zc7 v] 151 [zc7 v,avb false]:=by
 have hTn:=hh.n
 have hlm:(S.map zam).length=S.length:=xam ..
 have hw1:∀x∈[v],tVal.wf x:=fun x hx=>by rw[xav.1 hx];exact hw
 have hrl:zak tVal (.slice (tVal.row [v]) 0 1 (some 1)) [v]:=zi0 _ _ hw1 (by simp) (fun c h=>by cases h;exact xap _)
 have hf:=zv5 h152 hrl (by simp) h500
 rw[show tVal.row [v]=[.val (.int .u8 v.k),.val (.int .i64 v.n)]from rfl]at hf
 cases hm:zc6 ck [v]with
 |true=>
  obtain⟨l,hlx,X,hX,hp⟩:=h1 hm
  rw[hm]at hf
  have hlA:=zsh (xs:=[v]) (cap:=some 1) hw1 (by simp) (fun c h=>by cases h;exact xap _)
  generalize slA [v] (some 1) hw1 (by simp) (fun c h=>by cases h;exact xap _)=l' at *
  have hq:=yfh (ext:=ext) c (T:=S.map zam) (by omega) hf hlA
  rw[hlm]at hp hq
  refine zoz sf hr hh (o:=zal 7 0 0 l) (o':=zal 7 0 0 l') ⟨rfl,rfl,by show l'.xs=l.xs;rw[hlA.xs,hlx],rfl,rfl⟩ (zj0 (by omega) (by omega) (by omega) (by omega) (by omega) (by omega) l) (zj0 (by omega) (by omega) (by omega) (by omega) (by omega) (by omega) l') (by show l.xs.length<=_;rw[hlx];simp) (zrm (cap:=some 1) fun h0=>?_) ⟨X,hX,hp⟩ hq
  have hiv:=hlA.iv
  rw[if_neg (by simp)]at hiv
  show l'.iv=.slice (tVal.row l'.xs) 0 l'.xs.length (some 1)
  rw[hlA.xs];exact hiv
 |false=>
  obtain⟨TD,X,hA,hX,hp⟩:=h2 hm
  rw[hm]at hf
  have hq:=yfg (ext:=ext) c hf
  rw[hlm]at hp hq
  exact zoy sf hr hh hA ⟨X,hX,hp⟩ hq
theorem yht(c:zek code)(sf:zhs code){sv:IV}{S:List Obj}(hr:zak tObj sv S)(hh:zhr (S.map zam))(t:ByteArray)
  (h1:t.size<=4096->zf3 code ext (tsv S) (S.map zam) 638 [zaj t] (zb0 t)) (h2:¬t.size<=4096->zf4 code ext (tsv S) (S.map zam) 638 [zaj t] zhy):
  zex code ext sv S 638 [zaj t] 163 [zaj t,avb false]:=by
 have hTn:=hh.n
 have hlm:(S.map zam).length=S.length:=xam ..
 have hq:=ygl (ext:=ext) c.c163 c.c165 c.c559 c.c562 (T:=S.map zam) (by omega) t
 unfold zla at hq
 by_cases ht:t.size<=4096
 ·obtain⟨X,hX,hp⟩:=h1 ht
  rw[if_pos ht]at hq
  have hm:=z17 (S.map zam) (zd8 t)
  simp only[zwa,zx7]at hq
  rw[hlm]at hp hq hm
  exact zoz sf hr hh (o:=zb0 t) (o':=zd8 t) ⟨rfl,rfl,rfl,rfl,rfl⟩ (zx6 ht) (zx6 ht) (by simp[zb0]) hm ⟨X,hX,hp⟩ hq
 ·obtain⟨TD,X,hA,hX,hp⟩:=h2 ht
  rw[if_neg ht]at hq
  simp only[zwa,zx7]at hq
  rw[hlm]at hp hq
  exact zoy sf hr hh hA ⟨X,hX,hp⟩ hq
end
abbrev zzc:AObj:=.rich [zaa 0,zae,zae,zae,zae,zae,zae,zae,zae,zae,zae,zae,zae,zae,zae,zae,zae,zae,zae,zae,zae]
section
variable {code:Nat->Option zab} {ext:zac}
set_option maxHeartbeats 4000000 in
theorem yae {M M1 M2 M3 M4 M5 M6 M7 M8:Mem} {N n b8 N1 N2 N3 b1 b2 b3:Nat} {k1 n1 w1 k2 n2 w2 k3 n3 w3:Int} {t1 t2 t3:ByteArray} {F1 F2 F3 F4 F5:Nat->Option Nat} {BB:Nat} (hBB:M.length=BB)
  (h489:∃m,callW code ext 489 [] []=some (avb true,m))
  (h14:∀e,zdk (callW code ext) ⟨0,e,M++[zzc]⟩ 14 [.optr BB 0,.osl b8 0 2 n (some (n+1))]=some (.tup [],⟨0,e.ren F1,M1⟩))
  (h632:∀e,zbk (callW code ext) ⟨0,e,M1⟩ 632 [.osl 0 0 5 N (some (N+1)),.osl b8 0 2 n (some (n+1))]=some (zb1 N1 k1 n1 t1 w1 b1,⟨0,e,M2⟩))
  (h12a:∀e,zdk (callW code ext) ⟨0,e,M2⟩ 12 [.optr BB 0,.osl b1 0 5 N1 (some N1)]=some (.tup [],⟨0,e.ren F2,M3⟩))
  (h633:∀e,zbk (callW code ext) ⟨0,e,M3⟩ 633 [.osl 0 0 5 N (some (N+1)),.osl b8 0 2 n (some (n+1))]=some (zb1 N2 k2 n2 t2 w2 b2,⟨0,e,M4⟩))
  (h12b:∀e,zdk (callW code ext) ⟨0,e,M4⟩ 12 [.optr BB 0,.osl b2 0 5 N2 (some N2)]=some (.tup [],⟨0,e.ren F3,M5⟩))
  (h629:∀e,zbk (callW code ext) ⟨0,e,M5⟩ 629 [.osl 0 0 5 N (some (N+1)),zaa 0,.osl b8 0 2 n (some (n+1))]=some (zb1 N3 k3 n3 t3 w3 b3,⟨0,e,M6⟩))
  (h12c:∀e,zdk (callW code ext) ⟨0,e,M6⟩ 12 [.optr BB 0,.osl b3 0 5 N3 (some N3)]=some (.tup [],⟨0,e.ren F4,M7⟩))
  (h1:∀e,zdk (callW code ext) ⟨0,e,M7⟩ 1 [.optr BB 0]=some (avb true,⟨0,e.ren F5,M8⟩))
  (f0:∀F∈[F1,F2,F3,F4],F 0=some 0/\F b8=some b8/\F BB=some BB)
  {st:St} (sk:st.k=0) (sm:st.mem=M) (s7:st.env.get 7=.osl 0 0 5 N (some (N+1))) (s8:st.env.get 8=.osl b8 0 2 n (some (n+1))):
  ∃M',den code ext znj st=some (.ret,⟨0,[(6,avb true)],M'⟩):=by
 obtain⟨m2,h489⟩:=h489
 have e489:∀s,zbl (callW code ext) s 489 []=some (avb true,s):=fun s=>by simp -implicitDefEqProofs [zbl,h489]
 obtain⟨a1,a2,a3⟩:=f0 F1 (by simp)
 obtain⟨c1,c2,c3⟩:=f0 F2 (by simp)
 obtain⟨d1,d2,d3⟩:=f0 F3 (by simp)
 obtain⟨g1,g2,g3⟩:=f0 F4 (by simp)
 obtain⟨k,env,mem⟩:=st
 simp only at sk sm s7 s8
 subst sk sm
 refine⟨M8,?_⟩
 clear f0 h489
 simp -implicitDefEqProofs [znj,-zbk,-zdk,-zbl,s7,s8,hBB,h14,h632,h12a,h633,h12b,h629,h12c,h1,e489,a1,a2,a3,c1,c2,c3,d1,d2,d3,g1,g2,g3]
end
abbrev zl6:AObj:=.rich [.imm (.val (.int .u8 0)),zaa 0,zaj .empty,zaa 0]
section
variable {code:Nat->Option zab} {ext:zac}
def zu2(code:Nat->Option zab)(ext:zac)(M:Mem)(N b8 n:Nat):Prop:=
 ∀st:St,st.k=0->st.mem=M->st.env.get 7=.osl 0 0 5 N (some (N+1))->st.env.get 8=.osl b8 0 2 n (some (n+1))->∃M',den code ext znj st=some (.ret,⟨0,[(6,avb true)],M'⟩)
theorem yaf{st:St}{M:Mem}{sv lv:IV}{t:ByteArray}{N b8 n:Nat}(h0:n=0)(hlen:lenOf (.imm lv)=some n)(k:st.k=0)(m:st.mem=M)(e0:st.env.get 0=.imm sv)(e2:st.env.get 2=.imm lv)(e7:st.env.get 7=.osl 0 0 5 N (some (N+1)))(e8:st.env.get 8=.osl b8 0 2 n (some (n+1)))(hB:zu2 code ext M N b8 n):
  ∃M',den code ext zlj st=some (.ret,⟨0,[(6,avb true)],M'⟩):=by
 obtain⟨k',env,mem⟩:=st
 simp only at k m e0 e2 e7 e8
 subst k m
 obtain⟨M',h⟩:=hB ⟨0,[(0,.imm sv),(2,.imm lv),(7,.osl 0 0 5 N (some (N+1))),(8,.osl b8 0 2 n (some (n+1))),(104,avb false)],mem⟩ rfl rfl rfl rfl
 refine⟨M',?_⟩
 unfold zlj
 generalize znj=L at *
 subst h0
 simp -implicitDefEqProofs [e0,e2,e7,e8,hlen,h]
set_option maxHeartbeats 4000000 in
theorem yag {st:St} {M M1 M2 M3 M4:Mem} {sv:IV} {row:List IV} {off:Nat} {cap:Option Nat} {N b8 n N4 b4 qa qb:Nat} {v:Val} {k4 n4 w4 u4:Int} {t4:ByteArray} (h0:0<n) (hcut:cut row off 2=some [.val (.int .u8 v.k),.val (.int .i64 v.n)])
  (h488:∀e,zbk (callW code ext) ⟨0,e,M⟩ 488 [.imm sv]=some (.optr qa 0,⟨0,e,M1⟩))
  (h151:∀e,zb2 (callW code ext) ⟨0,e,M1⟩ 151 [.optr qa 0,zc7 v,avb false]=some (za1 k4 n4 t4 u4,⟨0,e,M2⟩))
  (hqb:M2.length=qb)
  (s3:storeAt (M2++[zl6]) (.optr qb 0) [.imm (.val (.int .u8 k4)),zaa n4,zaj t4,zaa u4]=some M3)
  (h628:∀e,zbk (callW code ext) ⟨0,e,M3⟩ 628 [.osl 0 0 5 N (some (N+1)),zc7 v]=some (zb1 N4 k4 n4 t4 w4 b4,⟨0,e,M4⟩))
  (gb:M4[qb]?=some (.rich [.imm (.val (.int .u8 k4)),zaa n4,zaj t4,zaa u4]))
  (h490:∀e,zbl (callW code ext) ⟨0,e,M4⟩ 490 [zb1 N4 k4 n4 t4 w4 b4,.optr qa 0,za1 k4 n4 t4 u4,.osl 0 0 5 N (some (N+1)),.imm sv]=some (avb true,⟨0,e,M4⟩))
  (k:st.k=0) (m:st.mem=M) (e0:st.env.get 0=.imm sv) (e2:st.env.get 2=.imm (.slice row off n cap)) (e7:st.env.get 7=.osl 0 0 5 N (some (N+1))) (e8:st.env.get 8=.osl b8 0 2 n (some (n+1))) (hB:zu2 code ext M4 N b8 n):
  ∃M',den code ext zlj st=some (.ret,⟨0,[(6,avb true)],M'⟩):=by
 obtain⟨k',env,mem⟩:=st
 simp only at k m e0 e2 e7 e8
 subst k m
 obtain⟨M',h⟩:=hB ⟨0,[(7,.osl 0 0 5 N (some (N+1))),(8,.osl b8 0 2 n (some (n+1))),(122,avb false)],M4⟩ rfl rfl rfl rfl
 refine⟨M',?_⟩
 unfold zlj
 generalize znj=L at *
 clear hB
 unfold za1 zc7 at *
 have h0':(0:Int)<n:=by omega
 simp -implicitDefEqProofs [-zbk,-zb2,-storeAt,-zbl,e0,e2,e7,e8,h0,h0',hcut,h488,h151,hqb,s3,h628,gb,h490,h]
end
set_option maxHeartbeats 8000000
section
variable {code:Nat->Option zab} {ext:zac}
def zu3(code:Nat->Option zab)(ext:zac)(M:Mem)(sv lv:IV)(N b8 n:Nat):Prop:=
 ∀st:St,st.k=0->st.mem=M->st.env.get 0=.imm sv->st.env.get 2=.imm lv->st.env.get 7=.osl 0 0 5 N (some (N+1))->st.env.get 8=.osl b8 0 2 n (some (n+1))->∃M',den code ext zlj st=some (.ret,⟨0,[(6,avb true)],M'⟩)
theorem yai {st:St} {M M1 M2 M3 M4:Mem} {sv lv:IV} {t:ByteArray} {N b8 n N4 b4 qa qb:Nat} {k4 n4 w4 u4:Int} {t4:ByteArray}
  (h488:∀e,zbk (callW code ext) ⟨0,e,M⟩ 488 [.imm sv]=some (.optr qa 0,⟨0,e,M1⟩))
  (h153:∀e,zb2 (callW code ext) ⟨0,e,M1⟩ 153 [.optr qa 0,zaa t.size,.imm lv,avb false]=some (za1 k4 n4 t4 u4,⟨0,e,M2⟩))
  (hqb:M2.length=qb)
  (s3:storeAt (M2++[zl6]) (.optr qb 0) [.imm (.val (.int .u8 k4)),zaa n4,zaj t4,zaa u4]=some M3)
  (h629:∀e,zbk (callW code ext) ⟨0,e,M3⟩ 629 [.osl 0 0 5 N (some (N+1)),zaa t.size,.osl b8 0 2 n (some (n+1))]=some (zb1 N4 k4 n4 t4 w4 b4,⟨0,e,M4⟩))
  (gb:M4[qb]?=some (.rich [.imm (.val (.int .u8 k4)),zaa n4,zaj t4,zaa u4]))
  (h490:∀e,zbl (callW code ext) ⟨0,e,M4⟩ 490 [zb1 N4 k4 n4 t4 w4 b4,.optr qa 0,za1 k4 n4 t4 u4,.osl 0 0 5 N (some (N+1)),.imm sv]=some (avb true,⟨0,e,M4⟩))
  (h336:∀e,zbl (callW code ext) ⟨0,e,M4⟩ 336 [.osl b8 0 2 n (some (n+1)),.imm lv]=some (avb true,⟨0,e,M4⟩))
  (k:st.k=0) (m:st.mem=M) (e0:st.env.get 0=.imm sv) (e1:st.env.get 1=zaj t) (e2:st.env.get 2=.imm lv) (e7:st.env.get 7=.osl 0 0 5 N (some (N+1))) (e8:st.env.get 8=.osl b8 0 2 n (some (n+1))) (hC:zu3 code ext M4 sv lv N b8 n):
  ∃M',den code ext zni st=some (.ret,⟨0,[(6,avb true)],M'⟩):=by
 obtain⟨k',env,mem⟩:=st
 simp only at k m e0 e1 e2 e7 e8
 subst k m
 obtain⟨M',h⟩:=hC ⟨0,[(0,.imm sv),(2,.imm lv),(7,.osl 0 0 5 N (some (N+1))),(8,.osl b8 0 2 n (some (n+1))),(101,avb false)],M4⟩ rfl rfl rfl rfl rfl rfl
 refine⟨M',?_⟩
 unfold zni
 generalize zlj=L at *
 clear hC
 unfold za1 at *
 simp -implicitDefEqProofs [-zbk,-zb2,-storeAt,-zbl,e0,e1,e2,e7,e8,h488,h153,hqb,s3,h629,gb,h490,h336,h]
def zys(code:Nat->Option zab)(ext:zac)(M:Mem)(sv lv:IV)(t:ByteArray)(N b8 n:Nat):Prop:=
 ∀st:St,st.k=0->st.mem=M->st.env.get 0=.imm sv->st.env.get 1=zaj t->st.env.get 2=.imm lv->st.env.get 7=.osl 0 0 5 N (some (N+1))->st.env.get 8=.osl b8 0 2 n (some (n+1))->∃M',den code ext zni st=some (.ret,⟨0,[(6,avb true)],M'⟩)
theorem z1y(h:code 482=some znh){sv lv:IV}{t:ByteArray}{n:Nat}{b:Bool}(hlen:lenOf (.imm lv)=some n)(hb:b=true\/2000<n)
  (h487:∃m,callW code ext 487 [.imm sv] []=some (avb b,m)) (h489:∃m,callW code ext 489 [] []=some (avb true,m)):
  callW code ext 482 [.imm sv,zaj t,.imm lv] []=some (avb true,[]):=by
 obtain⟨m1,h487⟩:=h487
 obtain⟨m2,h489⟩:=h489
 rw[zad code ext h]
 unfold znh
 generalize zni=L
 cases b with
 |true=>simp -implicitDefEqProofs [h487,h489]
 |false=>
  have hn:2000<n:=by simpa using hb
  have hn':(2000:Int)<n:=by omega
  simp -implicitDefEqProofs [h487,h489,hlen,hn']
theorem yah (h:code 482=some znh) {sv lv:IV} {t:ByteArray} {n:Nat} (hlen:lenOf (.imm lv)=some n) (hn:n<=2000) {M1 M2 M3 M4 M5 M6 M7 M8 M9 Ma Mb Mc Md Me:Mem} {N b8 q9 q10 q11 q12 q13 q14 N1 N2 N3 b1 b2 b3:Nat} {k1 n1 w1 u1 k2 n2 w2 u2 k3 n3 w3 u3:Int} {t1 t2 t3:ByteArray}
  (h487:∃m,callW code ext 487 [.imm sv] []=some (avb false,m))
  (h377:∀e,zbk (callW code ext) ⟨0,e,[]⟩ 377 [.imm sv]=some (.osl 0 0 5 N (some (N+1)),⟨0,e,M1⟩))
  (h379:∀e,zbk (callW code ext) ⟨0,e,M1⟩ 379 [.imm lv]=some (.osl b8 0 2 n (some (n+1)),⟨0,e,M2⟩))
  (h488a:∀e,zbk (callW code ext) ⟨0,e,M2⟩ 488 [.imm sv]=some (.optr q9 0,⟨0,e,M3⟩))
  (h163:∀e,zb2 (callW code ext) ⟨0,e,M3⟩ 163 [.optr q9 0,zaj t,avb false]=some (za1 k1 n1 t1 u1,⟨0,e,M4⟩))
  (hq10:M4.length=q10)
  (s5:storeAt (M4++[zl6]) (.optr q10 0) [.imm (.val (.int .u8 k1)),zaa n1,zaj t1,zaa u1]=some M5)
  (h488b:∀e,zbk (callW code ext) ⟨0,e,M5⟩ 488 [.imm sv]=some (.optr q11 0,⟨0,e,M6⟩))
  (h156:∀e,zb2 (callW code ext) ⟨0,e,M6⟩ 156 [.optr q11 0,.imm lv,avb false]=some (za1 k2 n2 t2 u2,⟨0,e,M7⟩))
  (hq12:M7.length=q12)
  (s8:storeAt (M7++[zl6]) (.optr q12 0) [.imm (.val (.int .u8 k2)),zaa n2,zaj t2,zaa u2]=some M8)
  (h488c:∀e,zbk (callW code ext) ⟨0,e,M8⟩ 488 [.imm sv]=some (.optr q13 0,⟨0,e,M9⟩))
  (h157:∀e,zb2 (callW code ext) ⟨0,e,M9⟩ 157 [.optr q13 0,.imm lv,avb false]=some (za1 k3 n3 t3 u3,⟨0,e,Ma⟩))
  (hq14:Ma.length=q14)
  (sb:storeAt (Ma++[zl6]) (.optr q14 0) [.imm (.val (.int .u8 k3)),zaa n3,zaj t3,zaa u3]=some Mb)
  (h638:∀e,zbk (callW code ext) ⟨0,e,Mb⟩ 638 [.osl 0 0 5 N (some (N+1)),zaj t]=some (zb1 N1 k1 n1 t1 w1 b1,⟨0,e,Mc⟩))
  (g1:Mc[q10]?=some (.rich [.imm (.val (.int .u8 k1)),zaa n1,zaj t1,zaa u1]))
  (h490a:∀e,zbl (callW code ext) ⟨0,e,Mc⟩ 490 [zb1 N1 k1 n1 t1 w1 b1,.optr q9 0,za1 k1 n1 t1 u1,.osl 0 0 5 N (some (N+1)),.imm sv]=some (avb true,⟨0,e,Mc⟩))
  (h632:∀e,zbk (callW code ext) ⟨0,e,Mc⟩ 632 [.osl 0 0 5 N (some (N+1)),.osl b8 0 2 n (some (n+1))]=some (zb1 N2 k2 n2 t2 w2 b2,⟨0,e,Md⟩))
  (g2:Md[q12]?=some (.rich [.imm (.val (.int .u8 k2)),zaa n2,zaj t2,zaa u2]))
  (h490b:∀e,zbl (callW code ext) ⟨0,e,Md⟩ 490 [zb1 N2 k2 n2 t2 w2 b2,.optr q11 0,za1 k2 n2 t2 u2,.osl 0 0 5 N (some (N+1)),.imm sv]=some (avb true,⟨0,e,Md⟩))
  (h633:∀e,zbk (callW code ext) ⟨0,e,Md⟩ 633 [.osl 0 0 5 N (some (N+1)),.osl b8 0 2 n (some (n+1))]=some (zb1 N3 k3 n3 t3 w3 b3,⟨0,e,Me⟩))
  (g3:Me[q14]?=some (.rich [.imm (.val (.int .u8 k3)),zaa n3,zaj t3,zaa u3]))
  (h490c:∀e,zbl (callW code ext) ⟨0,e,Me⟩ 490 [zb1 N3 k3 n3 t3 w3 b3,.optr q13 0,za1 k3 n3 t3 u3,.osl 0 0 5 N (some (N+1)),.imm sv]=some (avb true,⟨0,e,Me⟩))
  (hF:zys code ext Me sv lv t N b8 n):
  ∃m,callW code ext 482 [.imm sv,zaj t,.imm lv] []=some (avb true,m):=by
 obtain⟨m1,h487⟩:=h487
 have hn':¬(2000:Int)<n:=by omega
 have e487:∀s,zbl (callW code ext) s 487 [.imm sv]=some (avb false,s):=fun s=>by simp -implicitDefEqProofs [zbl,h487]
 obtain⟨M',h'⟩:=hF ⟨0,[(0,.imm sv),(1,zaj t),(2,.imm lv),(7,.osl 0 0 5 N (some (N+1))),(8,.osl b8 0 2 n (some (n+1))),(77,avb false)],Me⟩ rfl rfl rfl rfl rfl rfl rfl
 refine zga ?_
 rw[zad code ext h]
 unfold znh
 generalize zni=L at *
 clear hF h487
 unfold za1 at *
 simp -implicitDefEqProofs [-zbk,-zb2,-storeAt,-zbl,hlen,hn',e487,h377,h379,h488a,h163,hq10,s5,h488b,h156,hq12,s8,h488c,h157,hq14,sb,h638,g1,h490a,h632,g2,h490b,h633,g3,h490c,h']
 split<;>rfl
end
section
variable {code:Nat->Option zab} {ext:zac}
theorem zmu{fn:Nat}{rest rest':List AV}{sv:IV}{T:List Obj}{X:Mem}{N N2 b1:Nat}{kk n w:Int}{t:ByteArray}(hX:XM 0 T X){M1:Mem}(hf:frz M1 (.osl b1 0 5 N (some (N+1)))=some (.imm sv))(hrest:rest.mapM (frz M1)=some rest')
  (h:callW code ext fn (.imm sv::rest') []=some (zb1 N2 kk n t w 0,X)):
  ∃M2,(∀e,zbk (callW code ext) ⟨0,e,M1⟩ fn (.osl b1 0 5 N (some (N+1))::rest)=some (zb1 N2 kk n t w M1.length,⟨0,e,M2⟩))/\znu M2 M1.length T/\M1.length<M2.length/\∀id,id<M1.length->M2[id]?=M1[id]?:=by
 have hX':XM M1.length T (X.map (AObj.ren fun i=>some (M1.length+i))):=zkf hX fun i _=>by rw[xaw]
 have hl:=zhp hX
 have hown:=yjs hX
 refine⟨M1++X.map (AObj.ren fun i=>some (M1.length+i)),fun e=>?_,?_,by simp;omega,fun id hid=>xac hid⟩
 ·have hm:(AV.osl b1 0 5 N (some (N+1))::rest).mapM (frz M1)=some (.imm sv::rest'):=by
   rw[xa5,hf,hrest];rfl
  simp only[zbk,hm,h]
  rw[if_pos (by rw[hown];simp[AV.own,AV.own2,AV.own1,AV.isImm])]
  simp[AV.ren,AV.ren.renL]
 ·obtain⟨ob,e,hr⟩:=hX'
  rw[e]
  refine⟨⟨ob,by rw[xag (xap _),xcl];rfl,hr⟩,fun i a ha=>?_⟩
  rw[xag (by omega)]
  have e2:M1.length+1+i-M1.length=i+1:=by omega
  rw[e2,xba];exact ha
theorem zpd{sv:IV}{N:Nat}{R:List IV}(h488:callW code ext 488 [.imm sv] []=some (.optr 0 0,[.rich [.osl 1 0 5 N (some (N+1))],.flat R false])){rf:Nat}{rargs:List AV}(hr1:AV.refs.refsL rargs=[])(hr2:∀f,AV.ren.renL f rargs=rargs){kk n w:Int}{t:ByteArray}{mc:Mem}(hl:2<=mc.length)(hm0:((mc[0]?).getD AObj.dead).moved=false)(hm1:((mc[1]?).getD AObj.dead).moved=false)
  (h:callW code ext rf (.optr 0 0::rargs) (za6 R N (N+1))=some (za1 kk n t w,mc)) (M:Mem):
  ∃M1 M2 M3,(∀e,zbk (callW code ext) ⟨0,e,M⟩ 488 [.imm sv]=some (.optr M.length 0,⟨0,e,M1⟩))/\(∀e,zb2 (callW code ext) ⟨0,e,M1⟩ rf (.optr M.length 0::rargs)=some (za1 kk n t w,⟨0,e,M2⟩))/\
   storeAt (M2++[zl6]) (.optr M2.length 0) [.imm (.val (.int .u8 kk)),zaa n,zaj t,zaa w]=some M3/\zik M3 M.length mc/\M3[M2.length]?=some (.rich [.imm (.val (.int .u8 kk)),zaa n,zaj t,zaa w])/\M.length<=M2.length/\M3.length=M2.length+1/\∀id,id<M.length->M3[id]?=M[id]?:=by
 have c1:=yer (ext:=ext) h488 M
 have c2:=yhc (ext:=ext) (fn:=rf) (rest:=rargs) hr1 hr2 (A:=M) (z77 kk n w t) hl hm0 hm1 h
 have ha:=z9t M mc
 refine⟨_,_,_,c1,c2,yhm _ _ _ rfl,zmd ha fun id h=>xac h,ze2 _ _,by simp,by simp;omega,fun id h=>?_⟩
 rw[xac (by rw[xak];omega),xac h]
theorem zp2{sv:IV}{S TD:List Obj}{M:Mem}{A b:Nat}{kk n w w':Int}{t:ByteArray}{mc:Mem}{hv:IV}(ht:zht M 0 S)(hd:znu M b TD)(ha:zik M A mc)(hf:znv mc hv)
  (h:∃m,callW code ext 490 [.agg [.imm (.slice (tObj.row (TD.map zaf)) 0 TD.length (some TD.length)),.imm (.val (.int .u8 kk)),zaa n,zaj t,zaa w],.imm (.ptr [hv] 0),za1 kk n t w',.imm (tsv S),.imm sv] []=some (avb true,m)):
  ∀e,zbl (callW code ext) ⟨0,e,M⟩ 490 [zb1 TD.length kk n t w b,.optr A 0,za1 kk n t w',.osl 0 0 5 S.length (some (S.length+1)),.imm sv]=some (avb true,⟨0,e,M⟩):=by
 intro e
 obtain⟨m,h⟩:=h
 have f1:=zlb ht
 have f2:=hf M A ha
 have hm:[zb1 TD.length kk n t w b,.optr A 0,za1 kk n t w',.osl 0 0 5 S.length (some (S.length+1)),.imm sv].mapM (frz M)=some [.agg [.imm (.slice (tObj.row (TD.map zaf)) 0 TD.length (some TD.length)),.imm (.val (.int .u8 kk)),zaa n,zaj t,zaa w],.imm (.ptr [hv] 0),za1 kk n t w',.imm (tsv S),.imm sv]:=by
  have hdv:frz M (za1 kk n t w')=some (za1 kk n t w'):=rfl
  rw[xa5,z9j hd,xa5,f2,xa5,hdv,xa5,f1];rfl
 simp only[zbl,hm,h]
 rfl
theorem yes{lv:IV}{n:Nat}{R:List IV}(h:callW code ext 379 [.imm lv] []=some (.osl 0 0 2 n (some (n+1)),[.flat R false]))(M:Mem):
  ∀e,zbk (callW code ext) ⟨0,e,M⟩ 379 [.imm lv]=some (.osl M.length 0 2 n (some (n+1)),⟨0,e,M++[.flat R false]⟩):=by
 intro e
 simp only[zbk,xa5,List.mapM_nil,frz,za5,xao,xch,xb0,xbe,h]
 simp[AV.isImm,AV.ren,AObj.ren]
theorem zop{M:Mem}{b n:Nat}{cap:Option Nat}{R:List IV}(h:M[b]?=some (.flat R false)):frz M (.osl b 0 2 n cap)=some (.imm (.slice R 0 n cap)):=by
 have hv:za5 M 20 (.osl b 0 2 n cap)=some (.slice R 0 n cap):=by
  show(match M[b]? with
    |some (.flat cells _)=>some (IV.slice cells 0 n cap)
    |some (.rich cells)=>(cells.mapM (za5 M 19)).map fun row=>.slice row 0 n cap
    |_=>none)=_
  rw[h]
 simp only[frz,hv,xao]
end
structure BI (M0 M:Mem) (n:Int) (vx ox:AV) (EV EO:List KE):Prop where
 k:Bk M M0.length n vx (zcn EV) EV.length ox (zcn EO) EO.length
 n0:0<=n
 nV:∀e∈EV,0<=e.n/\e.n<=1000000000
 nO:∀e∈EO,0<=e.n/\e.n<=1000000000
 xV:∀e∈EV,KX M 2 e.x e.len e.cells/\e.len<=1000000000
 xO:∀e∈EO,KX M 5 e.x e.len e.cells/\e.len<=1000000000
 dV:(za2 EV).Nodup
 dO:(za2 EO).Nodup
 dd:∀id∈za2 EV,id ∉ za2 EO
 fV:∀id∈za2 EV,id≠M0.length/\id ∉ vx.refs/\id ∉ ox.refs
 fO:∀id∈za2 EO,id≠M0.length/\id ∉ vx.refs/\id ∉ ox.refs
 vb:∀id∈vx.refs,M0.length<id
 ob:∀id∈ox.refs,M0.length<id
 old:∀id,id<M0.length->M[id]?=M0[id]?
 len:M0.length<M.length
theorem z6s(M0:Mem):BI M0 (M0++[zzc]) 0 zae zae [] []:=by
 refine⟨z60 M0,by decide,by simp,by simp,by simp,by simp,by simp[za2],by simp[za2],by simp[za2],by simp[za2],by simp[za2],by simp[AV.refs],by simp[AV.refs],fun id h=>xac h,by simp⟩
theorem zn8{M0 M:Mem}{n:Int}{vx ox:AV}{EV EO:List KE}(h:BI M0 M n vx ox EV EO):∀id∈za2 EV,id<M.length:=fun id hid=>by
 obtain⟨e,he,hid⟩:=xa2.1 hid
 exact zee (h.xV e he).1 id hid
theorem zn7{M0 M:Mem}{n:Int}{vx ox:AV}{EV EO:List KE}(h:BI M0 M n vx ox EV EO):∀id∈za2 EO,id<M.length:=fun id hid=>by
 obtain⟨e,he,hid⟩:=xa2.1 hid
 exact zee (h.xO e he).1 id hid
theorem z6u{M M':Mem}{b:Nat}{n:Int}{vx ox:AV}{vc oc:List AV}{vn on:Nat}(k:Bk M b n vx vc vn ox oc on)(hl:M.length<=M'.length)(hs:∀id,id<M.length->M'[id]?=M[id]?):Bk M' b n vx vc vn ox oc on:=by
 obtain⟨B,hM,h⟩:=k.B
 have hbl:b<M.length:=(xab.1 hM).1
 exact⟨⟨B,by rw[hs b hbl];exact hM,h⟩,zgr k.v fun id hid=>hs id (k.vr id hid).1,zgr k.o fun id hid=>hs id (k.or id hid).1,fun id hid=>⟨by have:=(k.vr id hid).1;omega,(k.vr id hid).2⟩,fun id hid=>⟨by have:=(k.or id hid).1;omega,(k.or id hid).2⟩,k.vo⟩
theorem z6q{M0 M M':Mem}{n:Int}{vx ox:AV}{EV EO:List KE}(h:BI M0 M n vx ox EV EO)(hl:M.length<=M'.length)(hs:∀id,id<M.length->M'[id]?=M[id]?):BI M0 M' n vx ox EV EO:=
 ⟨z6u h.k hl hs,h.n0,h.nV,h.nO,fun e he=>⟨zdn (h.xV e he).1 fun id hid=>hs id (zee (h.xV e he).1 id hid),(h.xV e he).2⟩,fun e he=>⟨zdn (h.xO e he).1 fun id hid=>hs id (zee (h.xO e he).1 id hid),(h.xO e he).2⟩,h.dV,h.dO,h.dd,h.fV,h.fO,h.vb,h.ob,fun id hid=>by rw[hs id (by have:=h.len;omega)];exact h.old id hid,by have:=h.len;omega⟩
section
variable {code:Nat->Option zab} {ext:zac}
theorem z6r(c:zij code){M0 M:Mem}{n:Int}{vx ox:AV}{EV EO:List KE}(h:BI M0 M n vx ox EV EO)(hn:n<=100000000)(hv:EV.length<=100000000){b8 m:Nat}{R:List IV}(hb:b8<M0.length)(hR:M0[b8]?=some (.flat R false))(hl:R.length=(m+1)*2)(hm:m<=1000000000)(hV:b8 ∉ za2 EV)(hO:b8 ∉ za2 EO):
  ∃M' vx',callW code ext 14 [.optr M0.length 0,.osl b8 0 2 m (some (m+1))] M=some (.tup [],M')/\BI M0 M' (n+1) vx' ox (EV++[⟨.osl b8 0 2 m (some (m+1)),zae,n+1,m,R.map .imm⟩]) EO:=by
 have hn0:=h.n0
 obtain⟨M',c1,k1,f1,l1⟩:=zzb (ext:=ext) c.c64 h.k (x:=.osl b8 0 2 m (some (m+1))) h.n0 (by omega) (by omega) rfl
 obtain⟨B',hB',_⟩:=k1.B
 have c2:=z4y (ext:=ext) c.c14 hB' c1
 have hlen:=h.len
 have keep:∀id,id<M.length->id≠M0.length->id ∉ vx.refs->M'[id]?=M[id]?:=f1.same
 have hbM:M[b8]?=some (.flat R false):=by rw[h.old b8 hb];exact hR
 have hbv:b8 ∉ vx.refs:=fun hm=>by have:=h.vb b8 hm;omega
 have hbo:b8 ∉ ox.refs:=fun hm=>by have:=h.ob b8 hm;omega
 have hrx:∀(x:AV) n2 l2 c2,za2 [⟨x,zae,n2,l2,c2⟩]=x.refs:=fun x n2 l2 c2=>by simp[za2]
 refine⟨M',.osl (M.length+1) 0 3 (EV.length+1) none,c2,⟨?_,by omega,?_,h.nO,?_,?_,?_,h.dO,?_,?_,?_,?_,h.ob,?_,by omega⟩⟩
 ·rw[zvu,xak]
  exact k1
 ·intro e he
  rcases xaj.1 he with he|he
  ·exact h.nV e he
  ·rw[xav.1 he];exact⟨by dsimp only;omega,by dsimp only;omega⟩
 ·intro e he
  rcases xaj.1 he with he|he
  ·refine⟨zdn (h.xV e he).1 fun id hid=>?_,(h.xV e he).2⟩
   have hr:id∈za2 EV:=xa2.2 ⟨e,he,hid⟩
   have:=h.fV id hr
   exact keep id (zn8 h id hr) this.1 this.2.1
  ·rw[xav.1 he]
   refine⟨.inl ⟨b8,m+1,_,rfl,by rw[keep b8 (by omega) (by omega) hbv];exact hbM,.inr ⟨_,rfl,rfl⟩,by dsimp only;rw[xam];exact hl,by dsimp only;omega,by dsimp only;omega⟩,by dsimp only;omega⟩
 ·intro e he
  refine⟨zdn (h.xO e he).1 fun id hid=>?_,(h.xO e he).2⟩
  have hr:id∈za2 EO:=xa2.2 ⟨e,he,hid⟩
  have:=h.fO id hr
  exact keep id (zn7 h id hr) this.1 this.2.1
 ·rw[zpe,hrx,xco]
  refine⟨h.dV,by simp[AV.refs],fun a ha d hd=>?_⟩
  simp only[AV.refs,xav]at hd
  rintro rfl;subst hd;exact hV ha
 ·intro id hid
  rw[zpe,hrx]at hid
  rcases xaj.1 hid with hid|hid
  ·exact h.dd id hid
  ·simp only[AV.refs,xav]at hid
   rw[hid];exact hO
 ·intro id hid
  rw[zpe,hrx]at hid
  rcases xaj.1 hid with hid|hid
  ·have h1:=h.fV id hid
   have h2:=zn8 h id hid
   exact⟨h1.1,by simp[AV.refs];omega,h1.2.2⟩
  ·simp only[AV.refs,xav]at hid
   rw[hid];exact⟨by omega,by simp[AV.refs];omega,hbo⟩
 ·intro id hid
  have h1:=h.fO id hid
  have h2:=zn7 h id hid
  exact⟨h1.1,by simp[AV.refs];omega,h1.2.2⟩
 ·intro id hid
  simp only[AV.refs,xav]at hid
  omega
 ·intro id hid
  rw[keep id (by omega) (by omega) (fun hm=>by have:=h.vb id hm;omega)]
  exact h.old id hid
theorem z6t(c:zij code){M0 Mo M:Mem}{n:Int}{vx ox:AV}{EV EO:List KE}(ho:BI M0 Mo n vx ox EV EO)(hl:Mo.length<=M.length)(hs:∀id,id<Mo.length->M[id]?=Mo[id]?)(hn:n<=100000000)(hv:EV.length<=100000000)(hoo:EO.length<=100000000){sid N cp:Nat}{P:List KL}(hk:zyx M sid N cp P)(hfr:∀id∈sid::refsL P,Mo.length<=id)(hnd:(sid::refsL P).Nodup):
  ∃M' vx' ox' EV' EO',callW code ext 12 [.optr M0.length 0,.osl sid 0 5 N (some cp)] M=some (.tup [],M')/\BI M0 M' (n+N+1) vx' ox' EV' EO'/\EV'.length=EV.length+N/\EO'.length=EO.length+1:=by
 have h:=z6q ho hl hs
 have hn0:=h.n0
 have hlen:=h.len
 have hlo:=ho.len
 obtain⟨o1,L1,rest1,r1,r2,r3,r4,r5,r6⟩:=hk.row
 have n1:=hk.n
 have pl1:P.length=N:=by
  have:=congrArg List.length r3
  simp only[xam]at this
  omega
 have hsl:sid<M.length:=(xab.1 r1).1
 have hPl:∀id∈refsL P,id<M.length:=fun id hid=>by
  obtain⟨p,hp,hid⟩:=xa2.1 hid
  exact zee (hk.kx p hp).1 id hid
 have hso:=hfr sid (xbh ..)
 have hPo:∀id∈refsL P,Mo.length<=id:=fun id hid=>hfr id (xbc _ hid)
 have vlt:∀id∈vx.refs,id<Mo.length:=fun id hid=>(ho.k.vr id hid).1
 have olt:∀id∈ox.refs,id<Mo.length:=fun id hid=>(ho.k.or id hid).1
 have evlt:=zn8 ho
 have eolt:=zn7 ho
 obtain⟨M',v1,id1,q1,q2,q3,q4,q5,q6⟩:=z6y (ext:=ext) c.c12 c.c10 c.c62 c.c9 c.c14 c.c64 h.k (L:=L1) (by omega) h.n0 (by omega) (by omega) (by omega) r6 (cap:=some cp) r1 r2 (by omega) (fun hm=>by have:=vlt sid hm;omega) (fun hm=>by have:=olt sid hm;omega)
 rw[r4]at q1 q2
 have keep:∀id,id<M.length->id≠M0.length->id ∉ vx.refs->id ∉ ox.refs->M'[id]?=M[id]?:=q6
 obtain⟨EV',hEV⟩:∃EV',EV'=EV++zgq n P:=⟨_,rfl⟩
 obtain⟨EO',hEO⟩:∃EO',EO'=EO++[KE.mk (.osl sid 0 5 N (some cp)) zae (n+N+1) N (zav L1++rest1)]:=⟨_,rfl⟩
 have rV:za2 EV'=za2 EV++refsL P:=by rw[hEV,zpe,z0g]
 have rO:za2 EO'=za2 EO++[sid]:=by rw[hEO,zpe];rfl
 have lV:EV'.length=EV.length+N:=by rw[hEV,xak,z0f];omega
 have lO:EO'.length=EO.length+1:=by rw[hEO,xak];rfl
 have hnd1:=(List.nodup_cons.1 hnd).1
 have hnd2:=(List.nodup_cons.1 hnd).2
 have v1b:∀id∈v1.refs,id∈vx.refs\/M.length<=id:=q5
 refine⟨M',v1,.osl id1 0 3 (EO.length+1) none,EV',EO',q1,⟨?_,by omega,?_,?_,?_,?_,?_,?_,?_,?_,?_,?_,?_,?_,by omega⟩,lV,lO⟩
 ·rw[hEV,zvu,z0e,<-r3,<-hEV,lV,hEO,zvu,<-hEO,lO]
  exact q2
 ·intro e he
  rw[hEV]at he
  rcases xaj.1 he with he|he
  ·exact h.nV e he
  ·obtain⟨_,h2,h3⟩:=zvv _ _ _ he
   exact⟨by omega,by omega⟩
 ·intro e he
  rw[hEO]at he
  rcases xaj.1 he with he|he
  ·exact h.nO e he
  ·rw[xav.1 he];exact⟨by dsimp only;omega,by dsimp only;omega⟩
 ·intro e he
  rw[hEV]at he
  rcases xaj.1 he with he|he
  ·refine⟨zdn (h.xV e he).1 fun id hid=>?_,(h.xV e he).2⟩
   have hr:id∈za2 EV:=xa2.2 ⟨e,he,hid⟩
   have:=h.fV id hr
   exact keep id (zn8 h id hr) this.1 this.2.1 this.2.2
  ·obtain⟨⟨p,hp,g1,g2,g3⟩,_⟩:=zvv _ _ _ he
   rw[g1,g2,g3]
   refine⟨zdn (hk.kx p hp).1 fun id hid=>?_,(hk.kx p hp).2⟩
   have hr:id∈refsL P:=xa2.2 ⟨p,hp,hid⟩
   have:=hPo id hr
   exact keep id (hPl id hr) (by omega) (fun hm=>by have:=vlt id hm;omega) (fun hm=>by have:=olt id hm;omega)
 ·intro e he
  rw[hEO]at he
  rcases xaj.1 he with he|he
  ·refine⟨zdn (h.xO e he).1 fun id hid=>?_,(h.xO e he).2⟩
   have hr:id∈za2 EO:=xa2.2 ⟨e,he,hid⟩
   have:=h.fO id hr
   exact keep id (zn7 h id hr) this.1 this.2.1 this.2.2
  ·rw[xav.1 he]
   exact⟨.inl ⟨sid,cp,o1,rfl,by rw[keep sid hsl (by omega) (fun hm=>by have:=vlt sid hm;omega) (fun hm=>by have:=olt sid hm;omega)];exact r1,r2,r5,hk.cap.1,hk.cap.2⟩,by dsimp only;omega⟩
 ·rw[rV,xco]
  refine⟨h.dV,hnd2,fun a ha d hd=>?_⟩
  rintro rfl
  have:=evlt a ha
  have:=hPo a hd
  omega
 ·rw[rO,xco]
  refine⟨h.dO,by simp,fun a ha d hd=>?_⟩
  rintro rfl
  rw[xav.1 hd]at ha
  have:=eolt sid ha
  omega
 ·intro id hid
  rw[rV]at hid
  rw[rO,xaj,xav]
  rcases xaj.1 hid with hid|hid
  ·rintro(hm|rfl)
   ·exact h.dd id hid hm
   ·have:=evlt id hid;omega
  ·rintro(hm|rfl)
   ·have:=eolt id hm;have:=hPo id hid;omega
   ·exact hnd1 hid
 ·intro id hid
  rw[rV]at hid
  have hlt:id<M.length:=by
   rcases xaj.1 hid with hid|hid
   ·exact zn8 h id hid
   ·exact hPl id hid
  have hf:id≠M0.length/\id ∉ vx.refs:=by
   rcases xaj.1 hid with hid|hid
   ·have:=h.fV id hid;exact⟨this.1,this.2.1⟩
   ·have:=hPo id hid;exact⟨by omega,fun hm=>by have:=vlt id hm;omega⟩
  refine⟨hf.1,fun hm=>?_,by simp[AV.refs];omega⟩
  rcases v1b id hm with hm|hm
  ·exact hf.2 hm
  ·omega
 ·intro id hid
  rw[rO]at hid
  have hlt:id<M.length:=by
   rcases xaj.1 hid with hid|hid
   ·exact zn7 h id hid
   ·rw[xav.1 hid];exact hsl
  have hf:id≠M0.length/\id ∉ vx.refs:=by
   rcases xaj.1 hid with hid|hid
   ·have:=h.fO id hid;exact⟨this.1,this.2.1⟩
   ·rw[xav.1 hid];exact⟨by omega,fun hm=>by have:=vlt sid hm;omega⟩
  refine⟨hf.1,fun hm=>?_,by simp[AV.refs];omega⟩
  rcases v1b id hm with hm|hm
  ·exact hf.2 hm
  ·omega
 ·intro id hid
  rcases v1b id hid with hm|hm
  ·exact h.vb id hm
  ·omega
 ·intro id hid
  simp only[AV.refs,xav]at hid
  omega
 ·intro id hid
  rw[keep id (by omega) (by omega) (fun hm=>by have:=h.vb id hm;omega) (fun hm=>by have:=h.ob id hm;omega)]
  exact h.old id hid
end
def zil(code:Nat->Option zab)(ext:zac)(sv:IV)(pf:Nat)(pargs:List AV):Prop:=
 ∃(X:Mem) (TD:List Obj) (kk n w:Int) (t:ByteArray),XM 0 TD X/\TD.length<=1000000/\(∀o∈TD,o.l.xs.length<=1000000)/\callW code ext pf (.imm sv::pargs) []=some (zb1 TD.length kk n t w 0,X)
abbrev zpu(M:Mem):Nat->Option Nat:=fun id=>if ((M[id]?).getD .dead).moved then none else some id
theorem zjd{M0 M:Mem}{n:Int}{vx ox:AV}{EV EO:List KE}(h:BI M0 M n vx ox EV EO){id:Nat}{o:AObj}(hid:M0[id]?=some o)(hm:o.moved=false):zpu M id=some id:=by
 unfold zpu
 rw[h.old id (xab.1 hid).1,hid]
 simp only[xa0,hm,xan,if_false]
theorem zq0{M0 M:Mem}{n:Int}{vx ox:AV}{EV EO:List KE}(h:BI M0 M n vx ox EV EO):zpu M M0.length=some M0.length:=by
 obtain⟨B,hB,_⟩:=h.k.B
 unfold zpu
 rw[hB]
 rfl
section
variable {code:Nat->Option zab} {ext:zac}
theorem zp3{fn:Nat}{args:List AV}{M M':Mem}{r:AV}(h:callW code ext fn args M=some (r,M')):∀e,zdk (callW code ext) ⟨0,e,M⟩ fn args=some (r,⟨0,e.ren (zpu M'),M'⟩):=fun e=>by
 unfold zdk
 rw[h]
theorem zvc(c:zij code){S:List Obj}{M0 M:Mem}{n:Int}{vx ox:AV}{EV EO:List KE}(h:BI M0 M n vx ox EV EO)(ht:zht M0 0 S)(hn:n<=50000000)(hv:EV.length<=50000000)(hoo:EO.length<=50000000){pf:Nat}{rest rest':List AV}(hrest:∀M',(∀id,id<M0.length->M'[id]?=M0[id]?)->rest.mapM (frz M')=some rest')(hp:zil code ext (tsv S) pf rest'):
  ∃M1 M2 vx' ox' EV' EO' n',∃(N:Nat) (kk nn w:Int) (t:ByteArray),(∀e,zbk (callW code ext) ⟨0,e,M⟩ pf (.osl 0 0 5 S.length (some (S.length+1))::rest)=some (zb1 N kk nn t w M.length,⟨0,e,M1⟩))/\
   callW code ext 12 [.optr M0.length 0,.osl M.length 0 5 N (some N)] M1=some (.tup [],M2)/\BI M0 M2 n' vx' ox' EV' EO'/\n'<=n+1000001/\EV'.length<=EV.length+1000000/\EO'.length=EO.length+1:=by
 obtain⟨X,TD,kk,nn,w,t,hX,hTn,hTl,hc⟩:=hp
 have htM:=zgz ht h.old
 obtain⟨M1,c1,d1,l1,p1⟩:=zmu (ext:=ext) hX (zlb htM) (hrest M h.old) hc
 have hk:=z76 d1 hTl hTn
 have hr:=zzn TD (M.length+1)
 obtain⟨M2,vx',ox',EV',EO',c2,h2,e1,e2⟩:=z6t (ext:=ext) c h (by omega) p1 (by omega) (by omega) (by omega) hk (fun id hid=>by
  rcases xca.1 hid with rfl|hid
  ·exact xap _
  ·rw[hr,xc1]at hid;omega) (by
  rw[List.nodup_cons,hr]
  exact⟨by rw[xc1];omega,List.nodup_range'⟩)
 exact⟨M1,M2,vx',ox',EV',EO',_,TD.length,kk,nn,w,t,c1,c2,h2,by omega,by omega,e2⟩
theorem zzd(c:zij code)(m:zkk code)(tc:zki code ext)(h489:∃m,callW code ext 489 [] []=some (avb true,m)){S:List Obj}{M:Mem}(ht:zht M 0 S){b8 n:Nat}{R:List IV}(hR:M[b8]?=some (.flat R false))(hl:R.length=(n+1)*2)(hn:n<=1000000)
  (h632:zil code ext (tsv S) 632 [.imm (.slice R 0 n (some (n+1)))]) (h633:zil code ext (tsv S) 633 [.imm (.slice R 0 n (some (n+1)))]) (h629:zil code ext (tsv S) 629 [zaa 0,.imm (.slice R 0 n (some (n+1)))]):
  zu2 code ext M S.length b8 n:=by
 have hb:b8<M.length:=(xab.1 hR).1
 have b0:=z6s M
 obtain⟨M1,v1,c14,b1⟩:=z6r (ext:=ext) c b0 (by decide) (by simp) hb hR hl (by omega) (by simp[za2]) (by simp[za2])
 have fz:∀M',(∀id,id<M.length->M'[id]?=M[id]?)->[AV.osl b8 0 2 n (some (n+1))].mapM (frz M')=some [.imm (.slice R 0 n (some (n+1)))]:=fun M' h=>by
  rw[xa5,zop (by rw[h b8 hb];exact hR)];rfl
 have fz0:∀M',(∀id,id<M.length->M'[id]?=M[id]?)->[zaa 0,AV.osl b8 0 2 n (some (n+1))].mapM (frz M')=some [zaa 0,.imm (.slice R 0 n (some (n+1)))]:=fun M' h=>by
  rw[xa5,fz M' h];rfl
 obtain⟨M2,M3,v3,o3,EV3,EO3,n3,N3,k3,nn3,w3,t3,c632,c12a,b3,i3,j3,l3⟩:=zvc (ext:=ext) c b1 ht (by decide) (by simp) (by simp) fz h632
 simp only[xak,xaz,xax,xaw]at j3 l3
 obtain⟨M4,M5,v5,o5,EV5,EO5,n5,N5,k5,nn5,w5,t5,c633,c12b,b5,i5,j5,l5⟩:=zvc (ext:=ext) c b3 ht (by omega) (by omega) (by omega) fz h633
 obtain⟨M6,M7,v7,o7,EV7,EO7,n7,N7,k7,nn7,w7,t7,c629,c12c,b7,i7,j7,l7⟩:=zvc (ext:=ext) c b5 ht (by omega) (by omega) (by omega) fz0 h629
 obtain⟨M8,c1,_⟩:=z6a (ext:=ext) c (ybf m) (ybe m tc) b7.k (by omega) (by omega) b7.nV b7.nO b7.xV b7.xO b7.dV b7.dO b7.dd b7.fV b7.fO
 obtain⟨o,ho,hro⟩:=ht.row
 have hmo:=zi4 hro
 intro st sk sm s7 s8
 refine yae (ext:=ext) rfl h489 (zp3 c14) c632 (zp3 c12a) c633 (zp3 c12b) c629 (zp3 c12c) (zp3 c1) (fun F hF=>?_) sk sm s7 s8
 simp only[xca,List.not_mem_nil,or_false]at hF
 rcases hF with rfl|rfl|rfl|rfl
 ·exact⟨zjd b1 ho hmo,zjd b1 hR rfl,zq0 b1⟩
 ·exact⟨zjd b3 ho hmo,zjd b3 hR rfl,zq0 b3⟩
 ·exact⟨zjd b5 ho hmo,zjd b5 hR rfl,zq0 b5⟩
 ·exact⟨zjd b7 ho hmo,zjd b7 hR rfl,zq0 b7⟩
end
abbrev lvT(xs:List Val):IV:=.slice (tVal.row (xs++[zby])) 0 xs.length (some (xs.length+1))
section
variable {code:Nat->Option zab} {ext:zac}
theorem zvn{sv:IV}{S:List Obj}{pf rf:Nat}{pargs rargs:List AV}(h:zex code ext sv S pf pargs rf rargs):zil code ext (tsv S) pf pargs:=by
 obtain⟨X,TD,kk,n,w,w',t,mc,hv,hX,h1,h2,h3,_⟩:=h
 exact⟨X,TD,kk,n,w,t,hX,h1,h2,h3⟩
abbrev z5y(M M':Mem):Prop:=∀id,id<M.length->M'[id]?=M[id]?
theorem yin{M:Mem}{b8:Nat}{xs:List Val}{lv:IV}(hR:M[b8]?=some (.flat (tVal.row (xs++[zby])) false))(h336:callW code ext 336 [.imm (lvT xs),.imm lv] []=some (avb true,[])):
  ∀e,zbl (callW code ext) ⟨0,e,M⟩ 336 [.osl b8 0 2 xs.length (some (xs.length+1)),.imm lv]=some (avb true,⟨0,e,M⟩):=by
 intro e
 have hm:[AV.osl b8 0 2 xs.length (some (xs.length+1)),.imm lv].mapM (frz M)=some [.imm (lvT xs),.imm lv]:=by
  rw[xa5,zop hR];rfl
 simp only[zbl,hm,h336]
 rfl
theorem z69(c:zij code)(m:zkk code)(tc:zki code ext)(h489:∃m,callW code ext 489 [] []=some (avb true,m)){sv lv:IV}{S:List Obj}{xs:List Val}(hrl:zak tVal lv xs)(hx:xs.length<=2000)
  (h488:callW code ext 488 [.imm sv] []=some (.optr 0 0,[.rich [.osl 1 0 5 S.length (some (S.length+1))],.flat (tObj.row (S.map zam++[zap])) false]))
  (a151:∀v,xs[0]?=some v->zex code ext sv S 628 [zc7 v] 151 [zc7 v,avb false])
  (h632:zil code ext (tsv S) 632 [.imm (lvT xs)]) (h633:zil code ext (tsv S) 633 [.imm (lvT xs)]) (h629:zil code ext (tsv S) 629 [zaa 0,.imm (lvT xs)])
  {M:Mem} (ht:zht M 0 S) {b8:Nat} (hR:M[b8]?=some (.flat (tVal.row (xs++[zby])) false)):zu3 code ext M sv lv S.length b8 xs.length:=by
 have hrow:(tVal.row (xs++[zby])).length=(xs.length+1)*2:=by rw[zca,xak];rfl
 have hbl:b8<M.length:=(xab.1 hR).1
 intro st k0 m0 e0 e2 e7 e8
 by_cases h0:xs.length=0
 ·exact yaf (t:=.empty) h0 (zau hrl) k0 m0 e0 e2 e7 e8 (zzd c m tc h489 ht hR hrow (by omega) h632 h633 h629)
 ·obtain⟨v,hv⟩:∃v,xs[0]?=some v:=⟨_,xaa (by omega)⟩
  obtain⟨row,off,cap,rfl,_,_,hcut⟩:=zbv hrl hv
  have hcut':cut row off 2=some [.val (.int .u8 v.k),.val (.int .i64 v.n)]:=by simpa [tVal]using hcut
  obtain⟨X,TD,kk,n,w,w',t,mc,hf,hX,_,_,hp,hq,hl,hm0,hm1,hfz,h490⟩:=a151 v hv
  obtain⟨M1,M2,M3,c1,c2,s3,ha,gb,l2,l3,p3⟩:=zpd (ext:=ext) h488 (rargs:=[zc7 v,avb false]) rfl (fun f=>rfl) hl hm0 hm1 hq M
  have t3:=zgz ht p3
  obtain⟨M4,c4,d4,l4,p4⟩:=zmu (ext:=ext) (rest:=[zc7 v]) (rest':=[zc7 v]) hX (zlb t3) rfl hp
  have t4:=zgz t3 p4
  have hR4:M4[b8]?=some (.flat (tVal.row (xs++[zby])) false):=by rw[p4 b8 (by omega),p3 b8 hbl];exact hR
  exact yag (by omega) hcut' c1 c2 rfl s3 c4 (by rw[p4 _ (by omega)];exact gb) (zp2 t4 d4 (zmd ha p4) hfz h490) k0 m0 e0 e2 e7 e8 (zzd c m tc h489 t4 hR4 hrow (by omega) h632 h633 h629)
theorem z9a{sv lv:IV}{t:ByteArray}{S:List Obj}{xs:List Val}(h336:callW code ext 336 [.imm (lvT xs),.imm lv] []=some (avb true,[]))
  (h488:callW code ext 488 [.imm sv] []=some (.optr 0 0,[.rich [.osl 1 0 5 S.length (some (S.length+1))],.flat (tObj.row (S.map zam++[zap])) false]))
  (a153:zex code ext sv S 629 [zaa t.size,.imm (lvT xs)] 153 [zaa t.size,.imm lv,avb false])
  (hC:∀{M:Mem},zht M 0 S->∀{b8:Nat},M[b8]?=some (.flat (tVal.row (xs++[zby])) false)->zu3 code ext M sv lv S.length b8 xs.length)
  {M:Mem} (ht:zht M 0 S) {b8:Nat} (hR:M[b8]?=some (.flat (tVal.row (xs++[zby])) false)):zys code ext M sv lv t S.length b8 xs.length:=by
 have hbl:b8<M.length:=(xab.1 hR).1
 obtain⟨X,TD,kk,n,w,w',tt,mc,hf,hX,_,_,hp,hq,hl,hm0,hm1,hfz,h490⟩:=a153
 obtain⟨M1,M2,M3,c1,c2,s3,ha,gb,l2,l3,p3⟩:=zpd (ext:=ext) h488 (rargs:=[zaa t.size,.imm lv,avb false]) rfl (fun f=>rfl) hl hm0 hm1 hq M
 have t3:=zgz ht p3
 have hR3:M3[b8]?=some (.flat (tVal.row (xs++[zby])) false):=by rw[p3 b8 hbl];exact hR
 obtain⟨M4,c4,d4,l4,p4⟩:=zmu (ext:=ext) (rest:=[zaa t.size,.osl b8 0 2 xs.length (some (xs.length+1))]) (rest':=[zaa t.size,.imm (lvT xs)]) hX (zlb t3) (by
  rw[xa5,xa5,zop hR3];rfl) hp
 have t4:=zgz t3 p4
 have hR4:M4[b8]?=some (.flat (tVal.row (xs++[zby])) false):=by rw[p4 b8 (by omega)];exact hR3
 intro st k0 m0 e0 e1 e2 e7 e8
 exact yai c1 c2 rfl s3 c4 (by rw[p4 _ (by omega)];exact gb) (zp2 t4 d4 (zmd ha p4) hfz h490) (yin hR4 h336) k0 m0 e0 e1 e2 e7 e8 (hC t4 hR4)
set_option maxHeartbeats 4000000 in
theorem ya8 (h482:code 482=some znh) (bk:zij code) (mk:zkk code) (tc:zki code ext) {sv lv:IV} {t:ByteArray} {S:List Obj} {xs:List Val} (hrl:zak tVal lv xs) (hx:xs.length<=2000)
  (h487:∃m,callW code ext 487 [.imm sv] []=some (avb false,m)) (h489:∃m,callW code ext 489 [] []=some (avb true,m))
  (h377:∃o,za3 (zav (twR 1 S)++zgy) o/\callW code ext 377 [.imm sv] []=some (.osl 0 0 5 S.length (some (S.length+1)),o::S.map zcw))
  (h379:callW code ext 379 [.imm lv] []=some (.osl 0 0 2 xs.length (some (xs.length+1)),[.flat (tVal.row (xs++[zby])) false]))
  (h336:callW code ext 336 [.imm (lvT xs),.imm lv] []=some (avb true,[]))
  (h488:callW code ext 488 [.imm sv] []=some (.optr 0 0,[.rich [.osl 1 0 5 S.length (some (S.length+1))],.flat (tObj.row (S.map zam++[zap])) false]))
  (a163:zex code ext sv S 638 [zaj t] 163 [zaj t,avb false]) (a156:zex code ext sv S 632 [.imm (lvT xs)] 156 [.imm lv,avb false]) (a157:zex code ext sv S 633 [.imm (lvT xs)] 157 [.imm lv,avb false])
  (a153:zex code ext sv S 629 [zaa t.size,.imm (lvT xs)] 153 [zaa t.size,.imm lv,avb false])
  (a151:∀v,xs[0]?=some v->zex code ext sv S 628 [zc7 v] 151 [zc7 v,avb false]) (d629:zil code ext (tsv S) 629 [zaa 0,.imm (lvT xs)]):
  ∃m,callW code ext 482 [.imm sv,zaj t,.imm lv] []=some (avb true,m):=by
 have d632:=zvn a156
 have d633:=zvn a157
 obtain⟨o,hro,h377⟩:=h377
 obtain⟨M1,c377,t1,l1,p1⟩:=yeu (ext:=ext) hro h377 []
 have c379:=yes (ext:=ext) h379 M1
 have p2:z5y M1 (M1++[.flat (tVal.row (xs++[zby])) false]):=fun id h=>xac h
 have hR2:(M1++[AObj.flat (tVal.row (xs++[zby])) false])[M1.length]?=some (.flat (tVal.row (xs++[zby])) false):=ze2 _ _
 have t2:=zgz t1 p2
 generalize M1++[AObj.flat (tVal.row (xs++[zby])) false]=M2 at *
 generalize M1.length=b8 at *
 have hb2:b8<M2.length:=(xab.1 hR2).1
 obtain⟨Xa,Ta,ka,na,wa,ua,ta,ma,va,hXa,_,_,hpa,hqa,hla,h0a,h1a,hfa,h490a⟩:=a163
 obtain⟨Xb,Tb,kb,nb,wb,ub,tb,mb,vb,hXb,_,_,hpb,hqb,hlb,h0b,h1b,hfb,h490b⟩:=a156
 obtain⟨Xc,Tc,kc,nc,wc,uc,tc',mc,vc,hXc,_,_,hpc,hqc,hlc,h0c,h1c,hfc,h490c⟩:=a157
 obtain⟨M3,M4,M5,r1,r2,r3,ha5,ga5,la,la',pa⟩:=zpd (ext:=ext) h488 (rargs:=[zaj t,avb false]) rfl (fun f=>rfl) hla h0a h1a hqa M2
 obtain⟨M6,M7,M8,s1,s2,s3,hb8,gb8,lb,lb',pb⟩:=zpd (ext:=ext) h488 (rargs:=[.imm lv,avb false]) rfl (fun f=>rfl) hlb h0b h1b hqb M5
 obtain⟨M9,Ma,Mb,u1,u2,u3,hcb,gcb,lc,lc',pc⟩:=zpd (ext:=ext) h488 (rargs:=[.imm lv,avb false]) rfl (fun f=>rfl) hlc h0c h1c hqc M8
 have tb2:=zgz (zgz (zgz t2 pa) pb) pc
 have hRb:Mb[b8]?=some (.flat (tVal.row (xs++[zby])) false):=by rw[pc b8 (by omega),pb b8 (by omega),pa b8 hb2];exact hR2
 have hbb:b8<Mb.length:=(xab.1 hRb).1
 obtain⟨Mc,v1,dc,lcc,pcc⟩:=zmu (ext:=ext) (rest:=[zaj t]) (rest':=[zaj t]) hXa (zlb tb2) rfl hpa
 have tc2:=zgz tb2 pcc
 have hRc:Mc[b8]?=some (.flat (tVal.row (xs++[zby])) false):=by rw[pcc b8 hbb];exact hRb
 obtain⟨Md,v2,dd,ldd,pdd⟩:=zmu (ext:=ext) (rest:=[.osl b8 0 2 xs.length (some (xs.length+1))]) (rest':=[.imm (lvT xs)]) hXb (zlb tc2) (by rw[xa5,zop hRc];rfl) hpb
 have td2:=zgz tc2 pdd
 have hRd:Md[b8]?=some (.flat (tVal.row (xs++[zby])) false):=by rw[pdd b8 (by omega)];exact hRc
 obtain⟨Me,v3,de,lee,pee⟩:=zmu (ext:=ext) (rest:=[.osl b8 0 2 xs.length (some (xs.length+1))]) (rest':=[.imm (lvT xs)]) hXc (zlb td2) (by rw[xa5,zop hRd];rfl) hpc
 have te2:=zgz td2 pee
 have hRe:Me[b8]?=some (.flat (tVal.row (xs++[zby])) false):=by rw[pee b8 (by omega)];exact hRd
 have q1:=(pcc M4.length (by omega)).trans ((pc _ (by omega)).trans ((pb _ (by omega)).trans ga5))
 have q2:=(pdd M7.length (by omega)).trans ((pcc _ (by omega)).trans ((pc _ (by omega)).trans gb8))
 have q3:=(pee Ma.length (by omega)).trans ((pdd _ (by omega)).trans ((pcc _ (by omega)).trans gcb))
 have haC:zik Mc M2.length ma:=zmd ha5 fun id h=>by rw[pcc _ (by omega),pc _ (by omega),pb _ (by omega)]
 have hbD:zik Md M5.length mb:=zmd hb8 fun id h=>by rw[pdd _ (by omega),pcc _ (by omega),pc _ (by omega)]
 have hcE:zik Me M8.length mc:=zmd hcb fun id h=>by rw[pee _ (by omega),pdd _ (by omega),pcc _ (by omega)]
 exact yah h482 (zau hrl) hx h487 c377 c379 r1 r2 rfl r3 s1 s2 rfl s3 u1 u2 rfl u3 v1 q1 (zp2 tc2 dc haC hfa h490a) v2 q2 (zp2 td2 dd hbD hfb h490b) v3 q3 (zp2 te2 de hcE hfc h490c)
  (z9a h336 h488 a153 (fun ht _ hR=>z69 bk mk tc h489 hrl hx h488 a151 d632 d633 d629 ht hR) te2 hRe)
end
section
variable {code:Nat->Option zab} {ext:zac}
theorem z4x{sA:AV}{t:TP}{T:List Obj}(hT:zbd code ext sA t T)(h':code 656=some zbq)(hb:T.length<=1048576)(v:Val)(hv:(zcs .i64).wf v.n):
  callW code ext 656 [sA,.agg [.imm (.val (.int .u8 v.k)),zaa v.n]] []=some (avb (zcd T v),[]):=by
 rw[zad code ext h']
 have hl:=hT.lead v hv
 by_cases k0:v.k=0
 ·simp -implicitDefEqProofs [zbq,zcd,k0]
 by_cases k1:v.k=1
 ·by_cases n0:v.n=0
  ·simp -implicitDefEqProofs [zbq,zcd,k1,n0]
  ·simp -implicitDefEqProofs [zbq,zcd,k1,n0]
 by_cases k2:v.k=2
 ·simp -implicitDefEqProofs [zbq,zcd,k2]
 cases hq:za7 T v with
 |none=>
  rw[hq,zde]at hl
  try simp only[TP.at]at hl
  simp -implicitDefEqProofs [zbq,hT.refs,hT.ren,zcd,k0,k1,k2,hq,hl]
 |some q=>
  rw[hq,zde]at hl
  try simp only[TP.at]at hl
  simp -implicitDefEqProofs [zbq,hT.refs,hT.ren,zcd,k0,k1,k2,hq,hl]
def zbh(sA:AV)(t:TP)(k:Nat):Mem:=[.rich [sA],.rich [t.at k]]
theorem z6p{sA:AV}{t:TP}{T:List Obj}(hT:zbd code ext sA t T)(h':code 656=some zbq)(h2:code 653=some zbs)(hb:T.length<=1048576)(k:Nat)(o:Obj)(ho:T[k]?=some o)(v:Val)(hv:(zcs .i64).wf v.n):
  callW code ext 653 [.agg [.imm (.val (.int .u8 v.k)),zaa v.n],.optr 0 0,.optr 1 0] (zbh sA t k)=some (avb (zez T o v),zbh sA t k):=by
 rw[zad code ext h2]
 have hval:=z4x (ext:=ext) hT h' hb v hv
 have g0:t.row[t.off+k*5]?=some (.val (.int .u8 o.k)):=zai (hT.obj k o ho) 0 (by omega)
 cases hvv:zcd T v with
 |false=>
  rw[hvv]at hval
  simp -implicitDefEqProofs [zbs,zbh,hT.refs,hT.ren,TP.at,  hval,zez,hvv]
 |true=>
  rw[hvv]at hval
  by_cases c7:v.k=7
  ·have hval7:=hval
   rw[c7]at hval7
   have hvv7:=hvv
   by_cases c6:o.k=6
   ·simp -implicitDefEqProofs [zbs,zbh,hT.refs,hT.ren,TP.at,  hval7,zez,hvv,g0,c7,c6]
   ·simp -implicitDefEqProofs [zbs,zbh,hT.refs,hT.ren,TP.at,  hval7,zez,hvv,g0,c7,c6]
  ·by_cases c6:o.k=6
   ·simp -implicitDefEqProofs [zbs,zbh,hT.refs,hT.ren,TP.at,  hval,zez,hvv,g0,c7,c6]
   ·simp -implicitDefEqProofs [zbs,zbh,hT.refs,hT.ren,TP.at,  hval,zez,hvv,g0,c7,c6]
theorem zcz{sA:AV}{t:TP}{T:List Obj}(hT:zbd code ext sA t T)(h':code 656=some zbq)(h2:code 653=some zbs)(h3:code 759=some zbc)(h4:code 749=some zbf)(hb:T.length<=1048576)(k:Nat)(o:Obj)(ho:T[k]?=some o){lv:IV}{l:List Val}(hl:zak tVal lv l):
  callW code ext 749 [.imm lv,.clo 653 [.optr 0 0,.optr 1 0]] (zbh sA t k)=some (avb (l.any (zez T o)),zbh sA t k):=by
 have hlen:=zau hl
 have hbl:=hl.2.1
 have loop:∃e s',den code ext (.loop [0,1,7,8] zet) ⟨2,[(0,.imm lv),(1,.clo 653 [.optr 0 0,.optr 1 0]),(7,zaa l.length),(8,zaa 0)],zbh sA t k⟩=some (e,s')/\e≠ .normal/\
   ((e=.exit 0/\l.any (zez T o)=false/\s'=⟨2,[(0,.imm lv),(1,.clo 653 [.optr 0 0,.optr 1 0]),(7,zaa l.length),(8,zaa l.length),(9,avb false)],zbh sA t k⟩)\/(e=.ret/\l.any (zez T o)=true/\∃i:Nat,s'=⟨2,[(4,zaa (i:Nat))],zbh sA t k⟩)):=by
  refine zbu (fun n s=>∃(i:Nat),i+n=l.length/\(l.take i).any (zez T o)=false/\s=⟨2,[(0,.imm lv),(1,.clo 653 [.optr 0 0,.optr 1 0]),(7,zaa l.length),(8,zaa (i:Nat))],zbh sA t k⟩) _ ?_ l.length _ ⟨0,by simp,by simp,rfl⟩
  rintro n _ ⟨i,hi,hall,rfl⟩
  by_cases hlt:i<l.length
  ·obtain⟨row,off,cap,rfl,hc,hcut,hget⟩:=zbv hl (xaa hlt)
   have e1:IntKind.wrap .i64 ((i:Int)+1)=(i:Int)+1:=zaw (by omega) (by omega)
   have htk:l.take (i+1)=l.take i++[l[i]]:=by rw[xbg,xaa hlt];rfl
   have hmem:=xa8 hlt
   have hw:=(hl.1 _ hmem).2
   generalize l[i]=v at hget htk hmem hw
   simp only[tVal]at hget
   have hs:=z6p (ext:=ext) hT h' h2 hb k o ho v hw
   simp only[zbh,TP.at]at hs
   cases hbv:zez T o v with
   |true=>
    rw[hbv]at hs
    refine⟨.ret,⟨2,[(4,zaa (i:Nat))],zbh sA t k⟩,?_,.inr ⟨by simp,.inr ⟨rfl,xcc.2 ⟨v,hmem,hbv⟩,i,rfl⟩⟩⟩
    simp -implicitDefEqProofs [zet,zbh,hT.refs,hT.ren,TP.at,  hlt,hget,hs]
   |false=>
    rw[hbv]at hs
    refine⟨.normal,⟨2,[(0,.imm (.slice row off l.length cap)),(1,.clo 653 [.optr 0 0,.optr 1 0]),(7,zaa l.length),(8,zaa ((i:Int)+1))],zbh sA t k⟩,?_,.inl ⟨rfl,n-1,by omega,i+1,by omega,by rw[htk,List.any_append,hall];simp[hbv],rfl⟩⟩
    simp -implicitDefEqProofs [zet,zbh,hT.refs,hT.ren,TP.at,  hlt,hget,hs,e1]
  ·have:i=l.length:=by omega
   subst this
   rw[xbp]at hall
   refine⟨.exit 0,_,?_,.inr ⟨by simp,.inl ⟨rfl,hall,rfl⟩⟩⟩
   simp -implicitDefEqProofs [zet,zbh,TP.at]
 have hidx:∃r:Int,callW code ext 759 [.imm lv,.clo 653 [.optr 0 0,.optr 1 0]] (zbh sA t k)=some (zaa r,zbh sA t k)/\((0<=r)↔l.any (zez T o)=true):=by
  obtain⟨e,s',g1,_,⟨rfl,ha,rfl⟩|⟨rfl,ha,i,rfl⟩⟩:=loop
  ·refine⟨-1,?_,by rw[ha];simp⟩
   rw[zad code ext h3]
   simp only[zbh,TP.at]at g1 ⊢
   simp -implicitDefEqProofs [zbc,hlen,g1]
  ·refine⟨i,?_,by rw[ha];simp⟩
   rw[zad code ext h3]
   simp only[zbh,TP.at]at g1 ⊢
   simp -implicitDefEqProofs [zbc,hlen,g1]
 obtain⟨r,hr,hri⟩:=hidx
 rw[zad code ext h4]
 have hdec:decide (0<=r)=l.any (zez T o):=by
  cases ha:l.any (zez T o)with
  |true=>simpa using hri.2 ha
  |false=>simp only[decide_eq_false_iff_not];intro hc;rw[hri.1 hc]at ha;cases ha
 simp only[zbh,TP.at]at hr ⊢
 simp -implicitDefEqProofs [zbf,hT.refs,hT.ren,hr,hdec]
end
section
variable {code:Nat->Option zab} {ext:zac}
def zfk(acc:List (Int×Int×ByteArray)):Mem:=[.map (zb5 acc)]
theorem yab{sA:AV}{t:TP}{T:List Obj}(hT:zbd code ext sA t T)(hb:T.length<=1048576){row:List IV}{off:Nat}{cap:Option Nat}{l:List Val}(hl:zak tVal (.slice row off l.length cap) l)(i:Nat)(v:Val)(hv:l[i]?=some v)(acc:List (Int×Int×ByteArray)):
  ∃s',den code ext zig ⟨0,[(0,sA),(1,.imm (.slice row off l.length cap)),(5,.omap 0),(6,zaa (i:Nat))],zfk acc⟩=some (.normal,s')/\
   s'.tidy [0,1,5,6]=⟨0,[(0,sA),(1,.imm (.slice row off l.length cap)),(5,.omap 0),(6,zaa ((i:Int)+2))],zfk (zea acc (zdo T v))⟩:=by
 have hlt:=(xab.1 hv).1
 obtain⟨row',off',cap',he,hc,hcut,hget⟩:=zbv hl hv
 cases he
 simp only[tVal]at hget
 have g0:row[off+i*2]?=some (.val (.int .u8 v.k)):=zai hget 0 (by omega)
 have hbl:=hl.2.1
 have hw:=(hl.1 v (xah hv)).2
 have e1:IntKind.wrap .i64 ((i:Int)+2)=(i:Int)+2:=zaw (by omega) (by omega)
 have hld:=hT.lead v hw
 have hkey:∀x:Int×Int×ByteArray,(zcy (zoh 64 53) [.imm (.val (.int .u8 x.1)),zaa x.2.1,.imm (.val (.string x.2.2))] [.imm (.val (.int .u8 x.1)),zaa x.2.1,.imm (.val (.string x.2.2))]).isSome=true:=z96
 by_cases k3:v.k=3
 ·rw[k3]at hget g0 hld
  cases hq:za7 T v with
  |none=>
   have hn:zdo T v=(3,v.n,.empty):=by simp[zdo,k3,hq]
   rw[hq,zde]at hld
   try simp only[TP.at]at hld
   rw[hn]
   have hk1:=hkey (3,v.n,.empty)
   rcases zq8 (3,v.n,.empty) acc 0 with⟨hm,hf⟩|⟨hm,j,hf,hj⟩
   ·have ha:zb5 (zea acc (3,v.n,.empty))=zb5 (acc++[(3,v.n,.empty)]):=by rw[zea,if_neg hm]
    have hsn:=zwt acc (3,v.n,.empty)
    simp only[zfk]
    rw[ha]
    clear ha hm
    simp only[zdm]at hf hk1 hsn ⊢
    simp -implicitDefEqProofs [zig,hT.refs,hT.ren,hget,g0,hld,e1,hlt,hf,hk1,hsn]
   ·have ha:zb5 (zea acc (3,v.n,.empty))=zb5 acc:=by rw[zea,if_pos hm]
    have hset:=zws _ _ _ hj
    simp only[zfk]
    rw[ha]
    clear ha hm
    simp only[zdm,xaw]at hf hk1 hset ⊢
    simp -implicitDefEqProofs [zig,hT.refs,hT.ren,hget,g0,hld,e1,hlt,hf,hk1,hset]
  |some p=>
   have hn:zdo T v=(3,0,sAt T p):=by simp[zdo,k3,hq]
   rw[hq,zde]at hld
   try simp only[TP.at]at hld
   obtain⟨hpl,_,_,_,o,ho,_⟩:=ze5 hq
   have hso:sAt T p=o.s:=by rw[sAt,ho]
   have g1:t.row[t.off+p*5+1]?=some (.val (.string o.s)):=by
    have hcg:=hT.obj p o ho
    exact zai hcg 1 (by omega)
   rw[hso]at hn
   rw[hn]
   have hk1:=hkey (3,0,o.s)
   rcases zq8 (3,0,o.s) acc 0 with⟨hm,hf⟩|⟨hm,j,hf,hj⟩
   ·have ha:zb5 (zea acc (3,0,o.s))=zb5 (acc++[(3,0,o.s)]):=by rw[zea,if_neg hm]
    have hsn:=zwt acc (3,0,o.s)
    simp only[zfk]
    rw[ha]
    clear ha hm
    simp only[zdm]at hf hk1 hsn ⊢
    simp -implicitDefEqProofs [zig,hT.refs,hT.ren,hget,g0,g1,hld,e1,hlt,hf,hk1,hsn]
   ·have ha:zb5 (zea acc (3,0,o.s))=zb5 acc:=by rw[zea,if_pos hm]
    have hset:=zws _ _ _ hj
    simp only[zfk]
    rw[ha]
    clear ha hm
    simp only[zdm,xaw]at hf hk1 hset ⊢
    simp -implicitDefEqProofs [zig,hT.refs,hT.ren,hget,g0,g1,hld,e1,hlt,hf,hk1,hset]
 ·have hn:zdo T v=(v.k,v.n,.empty):=by simp[zdo,k3]
  rw[hn]
  have hk1:=hkey (v.k,v.n,.empty)
  rcases zq8 (v.k,v.n,.empty) acc 0 with⟨hm,hf⟩|⟨hm,j,hf,hj⟩
  ·have ha:zb5 (zea acc (v.k,v.n,.empty))=zb5 (acc++[(v.k,v.n,.empty)]):=by rw[zea,if_neg hm]
   have hsn:=zwt acc (v.k,v.n,.empty)
   simp only[zfk]
   rw[ha]
   clear ha hm
   simp only[zdm]at hf hk1 hsn ⊢
   simp -implicitDefEqProofs [zig,hT.refs,hT.ren,hget,g0,k3,hld,e1,hlt,hf,hk1,hsn]
  ·have ha:zb5 (zea acc (v.k,v.n,.empty))=zb5 acc:=by rw[zea,if_pos hm]
   have hset:=zws _ _ _ hj
   simp only[zfk]
   rw[ha]
   clear ha hm
   simp only[zdm,xaw]at hf hk1 hset ⊢
   simp -implicitDefEqProofs [zig,hT.refs,hT.ren,hget,g0,k3,hld,e1,hlt,hf,hk1,hset]
theorem yaa{sA:AV}{t:TP}{T:List Obj}(hT:zbd code ext sA t T)(h':code 650=some zb3)(hb:T.length<=1048576){lv:IV}{l:List Val}(hl:zak tVal lv l)(hev:l.length%2=0):
  callW code ext 650 [sA,.imm lv] []=some (avb (decide ((zc2 T l l.length).length=l.length / 2)),[]):=by
 have hlen:=zau hl
 have hbl:=hl.2.1
 have loop:∃e s',den code ext (.loop [0,1,5,6] zig) ⟨0,[(0,sA),(1,.imm lv),(5,.omap 0),(6,zaa 0)],zfk []⟩=some (e,s')/\e≠ .normal/\
   (e=.exit 0/\s'=⟨0,[(0,sA),(1,.imm lv),(5,.omap 0),(6,zaa l.length),(13,avb false)],zfk (zc2 T l l.length)⟩):=by
  refine zbu (fun n s=>∃(i:Nat),i+n=l.length/\i%2=0/\s.tidy [0,1,5,6]=⟨0,[(0,sA),(1,.imm lv),(5,.omap 0),(6,zaa (i:Nat))],zfk (zc2 T l i)⟩) _ ?_ l.length _ ⟨0,by simp,rfl,by simp -implicitDefEqProofs [zfk,hT.refs,hT.ren,zc2,zb5]⟩
  rintro n s ⟨i,hi,hi2,hs⟩
  rw[hs]
  by_cases hlt:i<l.length
  ·obtain⟨row,off,cap,rfl,hc,hcut,hget⟩:=zbv hl (xaa hlt)
   obtain⟨s',g1,g2⟩:=yab (ext:=ext) hT hb hl i l[i] (xaa hlt) (zc2 T l i)
   refine⟨.normal,s',g1,.inl ⟨rfl,n-2,by omega,i+2,by omega,by omega,?_⟩⟩
   rw[g2,zwu T l i l[i] hi2 (xaa hlt)]
   rfl
  ·have:i=l.length:=by omega
   subst this
   refine⟨.exit 0,⟨0,[(0,sA),(1,.imm lv),(5,.omap 0),(6,zaa l.length),(13,avb false)],zfk (zc2 T l l.length)⟩,?_,.inr ⟨by simp,rfl,rfl⟩⟩
   simp -implicitDefEqProofs [zig,zfk,hlen]
 obtain⟨e,s',g1,_,rfl,rfl⟩:=loop
 rw[zad code ext h']
 have hnl:=yd3 (zc2 T l l.length)
 have e2:IntKind.wrap .i64 ((l.length:Int) / 2)=(l.length:Int) / 2:=zaw (by omega) (by omega)
 have hn0:zb5 []=[]:=rfl
 simp only[zfk,hn0]at g1
 simp -implicitDefEqProofs [zb3,hlen,g1,hnl,e2]
 omega
end
set_option maxHeartbeats 1000000
section
variable {code:Nat->Option zab} {ext:zac}
theorem ybh {sA:AV} {t:TP} {T:List Obj} (hT:zbd code ext sA t T) (h':code 656=some zbq) (h2:code 653=some zbs) (h3:code 759=some zbc) (h4:code 749=some zbf) (h5:code 650=some zb3) (h6:code 652=some zan) (hb:T.length<=1048576) (k:Nat) (o:Obj) (ho:T[k]?=some o) (k3:o.k=3) (cS:¬o.s=.empty):∃b:Bool,callW code ext 652 [sA,t.at k] []=some (avb b,[])/\(b=true↔zao T o):=by
 rw[zad code ext h6]
 have hlen:=zau o.l.ok
 have hok:zao T o↔(o.s.size<=4096/\o.l.xs=[]/\o.room=0/\o.fn=0):=by
  unfold zao
  rw[if_pos k3]
 rw[hok]
 clear hok
 have g0:t.row[t.off+k*5]?=some (.val (.int .u8 o.k)):=zai (hT.obj k o ho) 0 (by omega)
 have g1:t.row[t.off+k*5+1]?=some (.val (.string o.s)):=zai (hT.obj k o ho) 1 (by omega)
 have g2:t.row[t.off+k*5+2]?=some (o.l.iv):=zai (hT.obj k o ho) 2 (by omega)
 have g3:t.row[t.off+k*5+3]?=some (.val (.int .i64 o.room)):=zai (hT.obj k o ho) 3 (by omega)
 have g4:t.row[t.off+k*5+4]?=some (.val (.int .i64 o.fn)):=zai (hT.obj k o ho) 4 (by omega)
 have hba:=zcz (ext:=ext) hT h' h2 h3 h4 hb k o ho o.l.ok
 rw[zc0]at hba
 rw[show decide (o.k=6)=false by simp;omega]at hba
 simp only[zbh,TP.at]at hba
 have cSt:(o.s=.empty)=False:=eq_false cS
 by_cases hh:zar T o.l.xs false=true
 case neg=>
  have hhf:zar T o.l.xs false=false:=by simpa using hh
  rw[hhf]at hba
  refine⟨false,by simp -implicitDefEqProofs [zan,hT.refs,hT.ren,TP.at,hT.box,-AV.cells,zat,g1,g2,hlen,hba,cSt],?_⟩
  refine⟨fun c=>(by cases c),?_⟩
  rintro⟨_,c,_⟩
  rw[c]at hhf
  cases hhf
 rw[hh]at hba
 by_cases cBn:o.s.size<=4096
 case neg=>
  have cBt:((o.s.size:Int)<=4096)=False:=eq_false (by omega)
  exact⟨false,by simp -implicitDefEqProofs [zan,hT.refs,hT.ren,TP.at,hT.box,-AV.cells,zat,k3,g0,g1,g2,hlen,hba,cSt,cBt],by simp[cBn]⟩
 have cBt:((o.s.size:Int)<=4096)=True:=eq_true (by omega)
 by_cases cNn:o.l.xs=[]
 case neg=>
  have cN0t:(o.l.xs=[])=False:=eq_false cNn
  exact⟨false,by simp -implicitDefEqProofs [zan,hT.refs,hT.ren,TP.at,hT.box,-AV.cells,zat,k3,g0,g1,g2,hlen,hba,cSt,cBt,cN0t],by simp[cBn,cNn]⟩
 have cN0t:(o.l.xs=[])=True:=eq_true cNn
 by_cases cZ:o.room=0
 case neg=>
  have cZt:(o.room=0)=False:=eq_false cZ
  exact⟨false,by simp -implicitDefEqProofs [zan,hT.refs,hT.ren,TP.at,hT.box,-AV.cells,zat,k3,g0,g1,g2,g3,hlen,hba,cSt,cBt,cN0t,cZt],by simp[cBn,cNn,cZ]⟩
 have cZt:(o.room=0)=True:=eq_true cZ
 by_cases cF:o.fn=0
 case neg=>
  have cFt:(o.fn=0)=False:=eq_false cF
  exact⟨false,by simp -implicitDefEqProofs [zan,hT.refs,hT.ren,TP.at,hT.box,-AV.cells,zat,k3,g0,g1,g2,g3,g4,hlen,hba,cSt,cBt,cN0t,cZt,cFt],by simp[cBn,cNn,cZ,cF]⟩
 have cFt:(o.fn=0)=True:=eq_true cF
 exact⟨true,by simp -implicitDefEqProofs [zan,hT.refs,hT.ren,TP.at,hT.box,-AV.cells,zat,k3,g0,g1,g2,g3,g4,hlen,hba,cSt,cBt,cN0t,cZt,cFt],by simp[cBn,cNn,cZ,cF]⟩
theorem ybi {sA:AV} {t:TP} {T:List Obj} (hT:zbd code ext sA t T) (h':code 656=some zbq) (h2:code 653=some zbs) (h3:code 759=some zbc) (h4:code 749=some zbf) (h5:code 650=some zb3) (h6:code 652=some zan) (hb:T.length<=1048576) (k:Nat) (o:Obj) (ho:T[k]?=some o) (k3:o.k=3) (cS:o.s=.empty) (cF:¬o.fn=0):∃b:Bool,callW code ext 652 [sA,t.at k] []=some (avb b,[])/\(b=true↔zao T o):=by
 rw[zad code ext h6]
 have hlen:=zau o.l.ok
 have hok:zao T o↔(o.s.size<=4096/\o.l.xs=[]/\o.room=0/\o.fn=0):=by
  unfold zao
  rw[if_pos k3]
 rw[hok]
 clear hok
 have g0:t.row[t.off+k*5]?=some (.val (.int .u8 o.k)):=zai (hT.obj k o ho) 0 (by omega)
 have g1:t.row[t.off+k*5+1]?=some (.val (.string o.s)):=zai (hT.obj k o ho) 1 (by omega)
 have g2:t.row[t.off+k*5+2]?=some (o.l.iv):=zai (hT.obj k o ho) 2 (by omega)
 have g3:t.row[t.off+k*5+3]?=some (.val (.int .i64 o.room)):=zai (hT.obj k o ho) 3 (by omega)
 have g4:t.row[t.off+k*5+4]?=some (.val (.int .i64 o.fn)):=zai (hT.obj k o ho) 4 (by omega)
 have hba:=zcz (ext:=ext) hT h' h2 h3 h4 hb k o ho o.l.ok
 rw[zc0]at hba
 rw[show decide (o.k=6)=false by simp;omega]at hba
 simp only[zbh,TP.at]at hba
 have cSt:(o.s=.empty)=True:=eq_true cS
 have cFt:(o.fn=0)=False:=eq_false cF
 by_cases hh:zar T o.l.xs false=true
 case neg=>
  have hhf:zar T o.l.xs false=false:=by simpa using hh
  rw[hhf]at hba
  refine⟨false,by simp -implicitDefEqProofs [zan,hT.refs,hT.ren,TP.at,hT.box,-AV.cells,zat,g1,g2,g4,hlen,hba,cSt,cFt],?_⟩
  refine⟨fun c=>(by cases c),?_⟩
  rintro⟨_,c,_⟩
  rw[c]at hhf
  cases hhf
 rw[hh]at hba
 have cB:o.s.size<=4096:=by rw[cS];decide
 have cBt:((o.s.size:Int)<=4096)=True:=eq_true (by omega)
 by_cases cNn:o.l.xs=[]
 case neg=>
  have cN0t:(o.l.xs=[])=False:=eq_false cNn
  exact⟨false,by simp -implicitDefEqProofs [zan,hT.refs,hT.ren,TP.at,hT.box,-AV.cells,zat,k3,g0,g1,g2,g4,hlen,hba,cSt,cFt,cBt,cN0t],by simp[cS,cF,cNn]⟩
 have cN0t:(o.l.xs=[])=True:=eq_true cNn
 by_cases cZ:o.room=0
 case neg=>
  have cZt:(o.room=0)=False:=eq_false cZ
  exact⟨false,by simp -implicitDefEqProofs [zan,hT.refs,hT.ren,TP.at,hT.box,-AV.cells,zat,k3,g0,g1,g2,g3,g4,hlen,hba,cSt,cFt,cBt,cN0t,cZt],by simp[cS,cF,cNn,cZ]⟩
 have cZt:(o.room=0)=True:=eq_true cZ
 exact⟨false,by simp -implicitDefEqProofs [zan,hT.refs,hT.ren,TP.at,hT.box,-AV.cells,zat,k3,g0,g1,g2,g3,g4,hlen,hba,cSt,cFt,cBt,cN0t,cZt],by simp[cS,cF,cNn,cZ]⟩
theorem ybj {sA:AV} {t:TP} {T:List Obj} (hT:zbd code ext sA t T) (h':code 656=some zbq) (h2:code 653=some zbs) (h3:code 759=some zbc) (h4:code 749=some zbf) (h5:code 650=some zb3) (h6:code 652=some zan) (hb:T.length<=1048576) (k:Nat) (o:Obj) (ho:T[k]?=some o) (k3:o.k=3) (cS:o.s=.empty) (cF:o.fn=0) (cR:¬(o.l.xs.length:Int)<=o.room):∃b:Bool,callW code ext 652 [sA,t.at k] []=some (avb b,[])/\(b=true↔zao T o):=by
 rw[zad code ext h6]
 have hlen:=zau o.l.ok
 have hok:zao T o↔(o.s.size<=4096/\o.l.xs=[]/\o.room=0/\o.fn=0):=by
  unfold zao
  rw[if_pos k3]
 rw[hok]
 clear hok
 have g0:t.row[t.off+k*5]?=some (.val (.int .u8 o.k)):=zai (hT.obj k o ho) 0 (by omega)
 have g1:t.row[t.off+k*5+1]?=some (.val (.string o.s)):=zai (hT.obj k o ho) 1 (by omega)
 have g2:t.row[t.off+k*5+2]?=some (o.l.iv):=zai (hT.obj k o ho) 2 (by omega)
 have g3:t.row[t.off+k*5+3]?=some (.val (.int .i64 o.room)):=zai (hT.obj k o ho) 3 (by omega)
 have g4:t.row[t.off+k*5+4]?=some (.val (.int .i64 o.fn)):=zai (hT.obj k o ho) 4 (by omega)
 have hba:=zcz (ext:=ext) hT h' h2 h3 h4 hb k o ho o.l.ok
 rw[zc0]at hba
 rw[show decide (o.k=6)=false by simp;omega]at hba
 simp only[zbh,TP.at]at hba
 have cSt:(o.s=.empty)=True:=eq_true cS
 have cFt:(o.fn=0)=True:=eq_true cF
 have cRt:((o.l.xs.length:Int)<=o.room)=False:=eq_false cR
 by_cases hh:zar T o.l.xs false=true
 case neg=>
  have hhf:zar T o.l.xs false=false:=by simpa using hh
  rw[hhf]at hba
  refine⟨false,by simp -implicitDefEqProofs [zan,hT.refs,hT.ren,TP.at,hT.box,-AV.cells,zat,g1,g2,g3,g4,hlen,hba,cSt,cFt,cRt],?_⟩
  refine⟨fun c=>(by cases c),?_⟩
  rintro⟨_,c,_⟩
  rw[c]at hhf
  cases hhf
 rw[hh]at hba
 have cB:o.s.size<=4096:=by rw[cS];decide
 have cBt:((o.s.size:Int)<=4096)=True:=eq_true (by omega)
 by_cases cNn:o.l.xs=[]
 case neg=>
  have cN0t:(o.l.xs=[])=False:=eq_false cNn
  exact⟨false,by simp -implicitDefEqProofs [zan,hT.refs,hT.ren,TP.at,hT.box,-AV.cells,zat,k3,g0,g1,g2,g3,g4,hlen,hba,cSt,cFt,cRt,cBt,cN0t],by simp[cS,cF,cNn]⟩
 have cN0t:(o.l.xs=[])=True:=eq_true cNn
 by_cases cZ:o.room=0
 case neg=>
  have cZt:(o.room=0)=False:=eq_false cZ
  exact⟨false,by simp -implicitDefEqProofs [zan,hT.refs,hT.ren,TP.at,hT.box,-AV.cells,zat,k3,g0,g1,g2,g3,g4,hlen,hba,cSt,cFt,cRt,cBt,cN0t,cZt],by simp[cS,cF,cNn,cZ]⟩
 have cZt:(o.room=0)=True:=eq_true cZ
 exact⟨true,by simp -implicitDefEqProofs [zan,hT.refs,hT.ren,TP.at,hT.box,-AV.cells,zat,k3,g0,g1,g2,g3,g4,hlen,hba,cSt,cFt,cRt,cBt,cN0t,cZt],by simp[cS,cF,cNn,cZ]⟩
theorem ybk {sA:AV} {t:TP} {T:List Obj} (hT:zbd code ext sA t T) (h':code 656=some zbq) (h2:code 653=some zbs) (h3:code 759=some zbc) (h4:code 749=some zbf) (h5:code 650=some zb3) (h6:code 652=some zan) (hb:T.length<=1048576) (k:Nat) (o:Obj) (ho:T[k]?=some o) (k3:o.k=3) (cS:o.s=.empty) (cF:o.fn=0) (cR:(o.l.xs.length:Int)<=o.room) (cQ:¬o.room<=262144):∃b:Bool,callW code ext 652 [sA,t.at k] []=some (avb b,[])/\(b=true↔zao T o):=by
 rw[zad code ext h6]
 have hlen:=zau o.l.ok
 have hok:zao T o↔(o.s.size<=4096/\o.l.xs=[]/\o.room=0/\o.fn=0):=by
  unfold zao
  rw[if_pos k3]
 rw[hok]
 clear hok
 have g0:t.row[t.off+k*5]?=some (.val (.int .u8 o.k)):=zai (hT.obj k o ho) 0 (by omega)
 have g1:t.row[t.off+k*5+1]?=some (.val (.string o.s)):=zai (hT.obj k o ho) 1 (by omega)
 have g2:t.row[t.off+k*5+2]?=some (o.l.iv):=zai (hT.obj k o ho) 2 (by omega)
 have g3:t.row[t.off+k*5+3]?=some (.val (.int .i64 o.room)):=zai (hT.obj k o ho) 3 (by omega)
 have g4:t.row[t.off+k*5+4]?=some (.val (.int .i64 o.fn)):=zai (hT.obj k o ho) 4 (by omega)
 have hba:=zcz (ext:=ext) hT h' h2 h3 h4 hb k o ho o.l.ok
 rw[zc0]at hba
 rw[show decide (o.k=6)=false by simp;omega]at hba
 simp only[zbh,TP.at]at hba
 have cSt:(o.s=.empty)=True:=eq_true cS
 have cFt:(o.fn=0)=True:=eq_true cF
 have cRt:((o.l.xs.length:Int)<=o.room)=True:=eq_true cR
 have cQt:(o.room<=262144)=False:=eq_false cQ
 by_cases hh:zar T o.l.xs false=true
 case neg=>
  have hhf:zar T o.l.xs false=false:=by simpa using hh
  rw[hhf]at hba
  refine⟨false,by simp -implicitDefEqProofs [zan,hT.refs,hT.ren,TP.at,hT.box,-AV.cells,zat,g1,g2,g3,g4,hlen,hba,cSt,cFt,cRt,cQt],?_⟩
  refine⟨fun c=>(by cases c),?_⟩
  rintro⟨_,c,_⟩
  rw[c]at hhf
  cases hhf
 rw[hh]at hba
 have cB:o.s.size<=4096:=by rw[cS];decide
 have cBt:((o.s.size:Int)<=4096)=True:=eq_true (by omega)
 by_cases cNn:o.l.xs=[]
 case neg=>
  have cN0t:(o.l.xs=[])=False:=eq_false cNn
  exact⟨false,by simp -implicitDefEqProofs [zan,hT.refs,hT.ren,TP.at,hT.box,-AV.cells,zat,k3,g0,g1,g2,g3,g4,hlen,hba,cSt,cFt,cRt,cQt,cBt,cN0t],by simp[cS,cF,cNn]⟩
 have cN0t:(o.l.xs=[])=True:=eq_true cNn
 by_cases cZ:o.room=0
 case neg=>
  have cZt:(o.room=0)=False:=eq_false cZ
  exact⟨false,by simp -implicitDefEqProofs [zan,hT.refs,hT.ren,TP.at,hT.box,-AV.cells,zat,k3,g0,g1,g2,g3,g4,hlen,hba,cSt,cFt,cRt,cQt,cBt,cN0t,cZt],by simp[cS,cF,cNn,cZ]⟩
 have cZt:(o.room=0)=True:=eq_true cZ
 exact⟨true,by simp -implicitDefEqProofs [zan,hT.refs,hT.ren,TP.at,hT.box,-AV.cells,zat,k3,g0,g1,g2,g3,g4,hlen,hba,cSt,cFt,cRt,cQt,cBt,cN0t,cZt],by simp[cS,cF,cNn,cZ]⟩
theorem ybl {sA:AV} {t:TP} {T:List Obj} (hT:zbd code ext sA t T) (h':code 656=some zbq) (h2:code 653=some zbs) (h3:code 759=some zbc) (h4:code 749=some zbf) (h5:code 650=some zb3) (h6:code 652=some zan) (hb:T.length<=1048576) (k:Nat) (o:Obj) (ho:T[k]?=some o) (k3:o.k=3) (cS:o.s=.empty) (cF:o.fn=0) (cR:(o.l.xs.length:Int)<=o.room) (cQ:o.room<=262144):∃b:Bool,callW code ext 652 [sA,t.at k] []=some (avb b,[])/\(b=true↔zao T o):=by
 rw[zad code ext h6]
 have hlen:=zau o.l.ok
 have hok:zao T o↔(o.s.size<=4096/\o.l.xs=[]/\o.room=0/\o.fn=0):=by
  unfold zao
  rw[if_pos k3]
 rw[hok]
 clear hok
 have g0:t.row[t.off+k*5]?=some (.val (.int .u8 o.k)):=zai (hT.obj k o ho) 0 (by omega)
 have g1:t.row[t.off+k*5+1]?=some (.val (.string o.s)):=zai (hT.obj k o ho) 1 (by omega)
 have g2:t.row[t.off+k*5+2]?=some (o.l.iv):=zai (hT.obj k o ho) 2 (by omega)
 have g3:t.row[t.off+k*5+3]?=some (.val (.int .i64 o.room)):=zai (hT.obj k o ho) 3 (by omega)
 have g4:t.row[t.off+k*5+4]?=some (.val (.int .i64 o.fn)):=zai (hT.obj k o ho) 4 (by omega)
 have hba:=zcz (ext:=ext) hT h' h2 h3 h4 hb k o ho o.l.ok
 rw[zc0]at hba
 rw[show decide (o.k=6)=false by simp;omega]at hba
 simp only[zbh,TP.at]at hba
 have cSt:(o.s=.empty)=True:=eq_true cS
 have cFt:(o.fn=0)=True:=eq_true cF
 have cRt:((o.l.xs.length:Int)<=o.room)=True:=eq_true cR
 have cQt:(o.room<=262144)=True:=eq_true cQ
 by_cases hh:zar T o.l.xs false=true
 case neg=>
  have hhf:zar T o.l.xs false=false:=by simpa using hh
  rw[hhf]at hba
  refine⟨false,by simp -implicitDefEqProofs [zan,hT.refs,hT.ren,TP.at,hT.box,-AV.cells,zat,g1,g2,g3,g4,hlen,hba,cSt,cFt,cRt,cQt],?_⟩
  refine⟨fun c=>(by cases c),?_⟩
  rintro⟨_,c,_⟩
  rw[c]at hhf
  cases hhf
 rw[hh]at hba
 have cB:o.s.size<=4096:=by rw[cS];decide
 have cBt:((o.s.size:Int)<=4096)=True:=eq_true (by omega)
 by_cases cNn:o.l.xs=[]
 case neg=>
  have cN0t:(o.l.xs=[])=False:=eq_false cNn
  exact⟨false,by simp -implicitDefEqProofs [zan,hT.refs,hT.ren,TP.at,hT.box,-AV.cells,zat,k3,g0,g1,g2,g3,g4,hlen,hba,cSt,cFt,cRt,cQt,cBt,cN0t],by simp[cS,cF,cNn]⟩
 have cN0t:(o.l.xs=[])=True:=eq_true cNn
 by_cases cZ:o.room=0
 case neg=>
  have cZt:(o.room=0)=False:=eq_false cZ
  exact⟨false,by simp -implicitDefEqProofs [zan,hT.refs,hT.ren,TP.at,hT.box,-AV.cells,zat,k3,g0,g1,g2,g3,g4,hlen,hba,cSt,cFt,cRt,cQt,cBt,cN0t,cZt],by simp[cS,cF,cNn,cZ]⟩
 have cZt:(o.room=0)=True:=eq_true cZ
 exact⟨true,by simp -implicitDefEqProofs [zan,hT.refs,hT.ren,TP.at,hT.box,-AV.cells,zat,k3,g0,g1,g2,g3,g4,hlen,hba,cSt,cFt,cRt,cQt,cBt,cN0t,cZt],by simp[cS,cF,cNn,cZ]⟩
theorem ybg{sA:AV}{t:TP}{T:List Obj}(hT:zbd code ext sA t T)(h':code 656=some zbq)(h2:code 653=some zbs)(h3:code 759=some zbc)(h4:code 749=some zbf)(h5:code 650=some zb3)(h6:code 652=some zan)(hb:T.length<=1048576)(k:Nat)(o:Obj)(ho:T[k]?=some o)(k3:o.k=3):∃b:Bool,callW code ext 652 [sA,t.at k] []=some (avb b,[])/\(b=true↔zao T o):=by
 by_cases cS:o.s=.empty
 case neg=>exact ybh hT h' h2 h3 h4 h5 h6 hb k o ho k3 cS
 by_cases cF:o.fn=0
 case neg=>exact ybi hT h' h2 h3 h4 h5 h6 hb k o ho k3 cS cF
 by_cases cR:(o.l.xs.length:Int)<=o.room
 case neg=>exact ybj hT h' h2 h3 h4 h5 h6 hb k o ho k3 cS cF cR
 by_cases cQ:o.room<=262144
 case neg=>exact ybk hT h' h2 h3 h4 h5 h6 hb k o ho k3 cS cF cR cQ
 exact ybl hT h' h2 h3 h4 h5 h6 hb k o ho k3 cS cF cR cQ
end
set_option maxHeartbeats 1000000
section
variable {code:Nat->Option zab} {ext:zac}
theorem ybn {sA:AV} {t:TP} {T:List Obj} (hT:zbd code ext sA t T) (h':code 656=some zbq) (h2:code 653=some zbs) (h3:code 759=some zbc) (h4:code 749=some zbf) (h5:code 650=some zb3) (h6:code 652=some zan) (hb:T.length<=1048576) (k:Nat) (o:Obj) (ho:T[k]?=some o) (k4:o.k=4) (cS:¬o.s=.empty):∃b:Bool,callW code ext 652 [sA,t.at k] []=some (avb b,[])/\(b=true↔zao T o):=by
 rw[zad code ext h6]
 have hlen:=zau o.l.ok
 have hok:zao T o↔(o.s=.empty/\o.fn=0/\(o.l.xs.length:Int)<=65536/\(o.l.xs.length:Int)<=o.room/\o.room<=262144/\zar T o.l.xs false=true):=by
  unfold zao
  rw[if_neg (by omega),if_pos k4]
 rw[hok]
 clear hok
 have g0:t.row[t.off+k*5]?=some (.val (.int .u8 o.k)):=zai (hT.obj k o ho) 0 (by omega)
 have g1:t.row[t.off+k*5+1]?=some (.val (.string o.s)):=zai (hT.obj k o ho) 1 (by omega)
 have g2:t.row[t.off+k*5+2]?=some (o.l.iv):=zai (hT.obj k o ho) 2 (by omega)
 have g3:t.row[t.off+k*5+3]?=some (.val (.int .i64 o.room)):=zai (hT.obj k o ho) 3 (by omega)
 have g4:t.row[t.off+k*5+4]?=some (.val (.int .i64 o.fn)):=zai (hT.obj k o ho) 4 (by omega)
 have hba:=zcz (ext:=ext) hT h' h2 h3 h4 hb k o ho o.l.ok
 rw[zc0]at hba
 rw[show decide (o.k=6)=false by simp;omega]at hba
 simp only[zbh,TP.at]at hba
 have cSt:(o.s=.empty)=False:=eq_false cS
 by_cases hh:zar T o.l.xs false=true
 case neg=>
  have hhf:zar T o.l.xs false=false:=by simpa using hh
  rw[hhf]at hba
  exact⟨false,by simp -implicitDefEqProofs [zan,hT.refs,hT.ren,TP.at,hT.box,-AV.cells,zat,g1,g2,hlen,hba,cSt],by simp[hhf]⟩
 rw[hh]at hba
 exact⟨false,by simp -implicitDefEqProofs [zan,hT.refs,hT.ren,TP.at,hT.box,-AV.cells,zat,k4,g0,g1,g2,hlen,hba,cSt],by simp[cS,hh]⟩
theorem ybo {sA:AV} {t:TP} {T:List Obj} (hT:zbd code ext sA t T) (h':code 656=some zbq) (h2:code 653=some zbs) (h3:code 759=some zbc) (h4:code 749=some zbf) (h5:code 650=some zb3) (h6:code 652=some zan) (hb:T.length<=1048576) (k:Nat) (o:Obj) (ho:T[k]?=some o) (k4:o.k=4) (cS:o.s=.empty) (cF:¬o.fn=0):∃b:Bool,callW code ext 652 [sA,t.at k] []=some (avb b,[])/\(b=true↔zao T o):=by
 rw[zad code ext h6]
 have hlen:=zau o.l.ok
 have hok:zao T o↔(o.s=.empty/\o.fn=0/\(o.l.xs.length:Int)<=65536/\(o.l.xs.length:Int)<=o.room/\o.room<=262144/\zar T o.l.xs false=true):=by
  unfold zao
  rw[if_neg (by omega),if_pos k4]
 rw[hok]
 clear hok
 have g0:t.row[t.off+k*5]?=some (.val (.int .u8 o.k)):=zai (hT.obj k o ho) 0 (by omega)
 have g1:t.row[t.off+k*5+1]?=some (.val (.string o.s)):=zai (hT.obj k o ho) 1 (by omega)
 have g2:t.row[t.off+k*5+2]?=some (o.l.iv):=zai (hT.obj k o ho) 2 (by omega)
 have g3:t.row[t.off+k*5+3]?=some (.val (.int .i64 o.room)):=zai (hT.obj k o ho) 3 (by omega)
 have g4:t.row[t.off+k*5+4]?=some (.val (.int .i64 o.fn)):=zai (hT.obj k o ho) 4 (by omega)
 have hba:=zcz (ext:=ext) hT h' h2 h3 h4 hb k o ho o.l.ok
 rw[zc0]at hba
 rw[show decide (o.k=6)=false by simp;omega]at hba
 simp only[zbh,TP.at]at hba
 have cSt:(o.s=.empty)=True:=eq_true cS
 have cFt:(o.fn=0)=False:=eq_false cF
 by_cases hh:zar T o.l.xs false=true
 case neg=>
  have hhf:zar T o.l.xs false=false:=by simpa using hh
  rw[hhf]at hba
  exact⟨false,by simp -implicitDefEqProofs [zan,hT.refs,hT.ren,TP.at,hT.box,-AV.cells,zat,g1,g2,g4,hlen,hba,cSt,cFt],by simp[hhf]⟩
 rw[hh]at hba
 exact⟨false,by simp -implicitDefEqProofs [zan,hT.refs,hT.ren,TP.at,hT.box,-AV.cells,zat,k4,g0,g1,g2,g4,hlen,hba,cSt,cFt],by simp[cS,cF,hh]⟩
theorem ybp {sA:AV} {t:TP} {T:List Obj} (hT:zbd code ext sA t T) (h':code 656=some zbq) (h2:code 653=some zbs) (h3:code 759=some zbc) (h4:code 749=some zbf) (h5:code 650=some zb3) (h6:code 652=some zan) (hb:T.length<=1048576) (k:Nat) (o:Obj) (ho:T[k]?=some o) (k4:o.k=4) (cS:o.s=.empty) (cF:o.fn=0) (cR:¬(o.l.xs.length:Int)<=o.room):∃b:Bool,callW code ext 652 [sA,t.at k] []=some (avb b,[])/\(b=true↔zao T o):=by
 rw[zad code ext h6]
 have hlen:=zau o.l.ok
 have hok:zao T o↔(o.s=.empty/\o.fn=0/\(o.l.xs.length:Int)<=65536/\(o.l.xs.length:Int)<=o.room/\o.room<=262144/\zar T o.l.xs false=true):=by
  unfold zao
  rw[if_neg (by omega),if_pos k4]
 rw[hok]
 clear hok
 have g0:t.row[t.off+k*5]?=some (.val (.int .u8 o.k)):=zai (hT.obj k o ho) 0 (by omega)
 have g1:t.row[t.off+k*5+1]?=some (.val (.string o.s)):=zai (hT.obj k o ho) 1 (by omega)
 have g2:t.row[t.off+k*5+2]?=some (o.l.iv):=zai (hT.obj k o ho) 2 (by omega)
 have g3:t.row[t.off+k*5+3]?=some (.val (.int .i64 o.room)):=zai (hT.obj k o ho) 3 (by omega)
 have g4:t.row[t.off+k*5+4]?=some (.val (.int .i64 o.fn)):=zai (hT.obj k o ho) 4 (by omega)
 have hba:=zcz (ext:=ext) hT h' h2 h3 h4 hb k o ho o.l.ok
 rw[zc0]at hba
 rw[show decide (o.k=6)=false by simp;omega]at hba
 simp only[zbh,TP.at]at hba
 have cSt:(o.s=.empty)=True:=eq_true cS
 have cFt:(o.fn=0)=True:=eq_true cF
 have cRt:((o.l.xs.length:Int)<=o.room)=False:=eq_false cR
 by_cases hh:zar T o.l.xs false=true
 case neg=>
  have hhf:zar T o.l.xs false=false:=by simpa using hh
  rw[hhf]at hba
  exact⟨false,by simp -implicitDefEqProofs [zan,hT.refs,hT.ren,TP.at,hT.box,-AV.cells,zat,g1,g2,g3,g4,hlen,hba,cSt,cFt,cRt],by simp[hhf]⟩
 rw[hh]at hba
 exact⟨false,by simp -implicitDefEqProofs [zan,hT.refs,hT.ren,TP.at,hT.box,-AV.cells,zat,k4,g0,g1,g2,g3,g4,hlen,hba,cSt,cFt,cRt],by simp[cS,cF,cR,hh]⟩
theorem ybq {sA:AV} {t:TP} {T:List Obj} (hT:zbd code ext sA t T) (h':code 656=some zbq) (h2:code 653=some zbs) (h3:code 759=some zbc) (h4:code 749=some zbf) (h5:code 650=some zb3) (h6:code 652=some zan) (hb:T.length<=1048576) (k:Nat) (o:Obj) (ho:T[k]?=some o) (k4:o.k=4) (cS:o.s=.empty) (cF:o.fn=0) (cR:(o.l.xs.length:Int)<=o.room) (cQ:¬o.room<=262144):∃b:Bool,callW code ext 652 [sA,t.at k] []=some (avb b,[])/\(b=true↔zao T o):=by
 rw[zad code ext h6]
 have hlen:=zau o.l.ok
 have hok:zao T o↔(o.s=.empty/\o.fn=0/\(o.l.xs.length:Int)<=65536/\(o.l.xs.length:Int)<=o.room/\o.room<=262144/\zar T o.l.xs false=true):=by
  unfold zao
  rw[if_neg (by omega),if_pos k4]
 rw[hok]
 clear hok
 have g0:t.row[t.off+k*5]?=some (.val (.int .u8 o.k)):=zai (hT.obj k o ho) 0 (by omega)
 have g1:t.row[t.off+k*5+1]?=some (.val (.string o.s)):=zai (hT.obj k o ho) 1 (by omega)
 have g2:t.row[t.off+k*5+2]?=some (o.l.iv):=zai (hT.obj k o ho) 2 (by omega)
 have g3:t.row[t.off+k*5+3]?=some (.val (.int .i64 o.room)):=zai (hT.obj k o ho) 3 (by omega)
 have g4:t.row[t.off+k*5+4]?=some (.val (.int .i64 o.fn)):=zai (hT.obj k o ho) 4 (by omega)
 have hba:=zcz (ext:=ext) hT h' h2 h3 h4 hb k o ho o.l.ok
 rw[zc0]at hba
 rw[show decide (o.k=6)=false by simp;omega]at hba
 simp only[zbh,TP.at]at hba
 have cSt:(o.s=.empty)=True:=eq_true cS
 have cFt:(o.fn=0)=True:=eq_true cF
 have cRt:((o.l.xs.length:Int)<=o.room)=True:=eq_true cR
 have cQt:(o.room<=262144)=False:=eq_false cQ
 by_cases hh:zar T o.l.xs false=true
 case neg=>
  have hhf:zar T o.l.xs false=false:=by simpa using hh
  rw[hhf]at hba
  exact⟨false,by simp -implicitDefEqProofs [zan,hT.refs,hT.ren,TP.at,hT.box,-AV.cells,zat,g1,g2,g3,g4,hlen,hba,cSt,cFt,cRt,cQt],by simp[hhf]⟩
 rw[hh]at hba
 exact⟨false,by simp -implicitDefEqProofs [zan,hT.refs,hT.ren,TP.at,hT.box,-AV.cells,zat,k4,g0,g1,g2,g3,g4,hlen,hba,cSt,cFt,cRt,cQt],by simp[cS,cF,cR,cQ,hh]⟩
theorem ybr {sA:AV} {t:TP} {T:List Obj} (hT:zbd code ext sA t T) (h':code 656=some zbq) (h2:code 653=some zbs) (h3:code 759=some zbc) (h4:code 749=some zbf) (h5:code 650=some zb3) (h6:code 652=some zan) (hb:T.length<=1048576) (k:Nat) (o:Obj) (ho:T[k]?=some o) (k4:o.k=4) (cS:o.s=.empty) (cF:o.fn=0) (cR:(o.l.xs.length:Int)<=o.room) (cQ:o.room<=262144):∃b:Bool,callW code ext 652 [sA,t.at k] []=some (avb b,[])/\(b=true↔zao T o):=by
 rw[zad code ext h6]
 have hlen:=zau o.l.ok
 have hok:zao T o↔(o.s=.empty/\o.fn=0/\(o.l.xs.length:Int)<=65536/\(o.l.xs.length:Int)<=o.room/\o.room<=262144/\zar T o.l.xs false=true):=by
  unfold zao
  rw[if_neg (by omega),if_pos k4]
 rw[hok]
 clear hok
 have g0:t.row[t.off+k*5]?=some (.val (.int .u8 o.k)):=zai (hT.obj k o ho) 0 (by omega)
 have g1:t.row[t.off+k*5+1]?=some (.val (.string o.s)):=zai (hT.obj k o ho) 1 (by omega)
 have g2:t.row[t.off+k*5+2]?=some (o.l.iv):=zai (hT.obj k o ho) 2 (by omega)
 have g3:t.row[t.off+k*5+3]?=some (.val (.int .i64 o.room)):=zai (hT.obj k o ho) 3 (by omega)
 have g4:t.row[t.off+k*5+4]?=some (.val (.int .i64 o.fn)):=zai (hT.obj k o ho) 4 (by omega)
 have hba:=zcz (ext:=ext) hT h' h2 h3 h4 hb k o ho o.l.ok
 rw[zc0]at hba
 rw[show decide (o.k=6)=false by simp;omega]at hba
 simp only[zbh,TP.at]at hba
 have cSt:(o.s=.empty)=True:=eq_true cS
 have cFt:(o.fn=0)=True:=eq_true cF
 have cRt:((o.l.xs.length:Int)<=o.room)=True:=eq_true cR
 have cQt:(o.room<=262144)=True:=eq_true cQ
 by_cases hh:zar T o.l.xs false=true
 case neg=>
  have hhf:zar T o.l.xs false=false:=by simpa using hh
  rw[hhf]at hba
  exact⟨false,by simp -implicitDefEqProofs [zan,hT.refs,hT.ren,TP.at,hT.box,-AV.cells,zat,g1,g2,g3,g4,hlen,hba,cSt,cFt,cRt,cQt],by simp[hhf]⟩
 rw[hh]at hba
 by_cases cN4:(o.l.xs.length:Int)<=65536
 case neg=>
  have cN4t:((o.l.xs.length:Int)<=65536)=False:=eq_false cN4
  exact⟨false,by simp -implicitDefEqProofs [zan,hT.refs,hT.ren,TP.at,hT.box,-AV.cells,zat,k4,g0,g1,g2,g3,g4,hlen,hba,cSt,cFt,cRt,cQt,cN4t],by simp[cS,cF,cR,cQ,cN4]⟩
 have cN4t:((o.l.xs.length:Int)<=65536)=True:=eq_true cN4
 exact⟨true,by simp -implicitDefEqProofs [zan,hT.refs,hT.ren,TP.at,hT.box,-AV.cells,zat,k4,g0,g1,g2,g3,g4,hlen,hba,cSt,cFt,cRt,cQt,cN4t],by simp[cS,cF,cR,cQ,cN4,hh]⟩
theorem ybm{sA:AV}{t:TP}{T:List Obj}(hT:zbd code ext sA t T)(h':code 656=some zbq)(h2:code 653=some zbs)(h3:code 759=some zbc)(h4:code 749=some zbf)(h5:code 650=some zb3)(h6:code 652=some zan)(hb:T.length<=1048576)(k:Nat)(o:Obj)(ho:T[k]?=some o)(k4:o.k=4):∃b:Bool,callW code ext 652 [sA,t.at k] []=some (avb b,[])/\(b=true↔zao T o):=by
 by_cases cS:o.s=.empty
 case neg=>exact ybn hT h' h2 h3 h4 h5 h6 hb k o ho k4 cS
 by_cases cF:o.fn=0
 case neg=>exact ybo hT h' h2 h3 h4 h5 h6 hb k o ho k4 cS cF
 by_cases cR:(o.l.xs.length:Int)<=o.room
 case neg=>exact ybp hT h' h2 h3 h4 h5 h6 hb k o ho k4 cS cF cR
 by_cases cQ:o.room<=262144
 case neg=>exact ybq hT h' h2 h3 h4 h5 h6 hb k o ho k4 cS cF cR cQ
 exact ybr hT h' h2 h3 h4 h5 h6 hb k o ho k4 cS cF cR cQ
end
end Go.EX

