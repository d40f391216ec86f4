import Derived.Test.YtjdfihnmpmckjaaGreatDoorK5
import Derived.RangeFuncRecord
import Derived.LoopNIn
import Derived.Scope
import Derived.Test.YtjdfihnmpmckjaaGreatDoorK1
import Derived.RangeFuncLeaves
import Derived.Below
import Derived.ChangeOld
import Derived.WideShapes
import Derived.OpenShut
import Derived.WalkKit
import Derived.ProofKit
import Derived.ShutString
import Derived.Carry
set_option linter.unusedVariables false
set_option linter.unusedSimpArgs false
namespace Go.EX
theorem za7{s:St}{sz bytes:Nat}{a x r:AV}{s':St}(h:exAppend s sz bytes a x=some (r,s')):
  ∃f:Nat→Option Nat,s'.env=s.env.ren f∧s'.k=s.k∧∀e:Env,exAppend { s with env:=e } sz bytes a x=some (r,{ s' with env:=e.ren f }):=by
 unfold exAppend at h
 cases hel:elems s.mem sz x with
 |none=>simp[hel]at h
 |some nn=>
  obtain⟨n,news⟩:=nn
  simp only[hel]at h
  split at h
  ·split at h
   ·cases h
    refine⟨some,(zfc _).symm,rfl,fun e=>?_⟩
    simp[exAppend,hel,zfc, *]
   ·split at h
    ·simp only[fresh,Option.some.injEq,Prod.mk.injEq]at h
     obtain⟨rfl,rfl⟩:=h
     refine⟨some,(zfc _).symm,rfl,fun e=>?_⟩
     simp[exAppend,hel,zfc,fresh, *]
    ·cases h
  ·split at h
   ·cases h
    refine⟨some,(zfc _).symm,rfl,fun e=>?_⟩
    simp[exAppend,hel,zfc, *]
   ·split at h
    ·cases h
    ·split at h
     ·split at h
      ·simp only[fresh,Option.some.injEq,Prod.mk.injEq]at h
       obtain⟨rfl,rfl⟩:=h
       refine⟨some,(zfc _).symm,rfl,fun e=>?_⟩
       simp[exAppend,hel,zfc,fresh, *]
      ·cases h
     ·cases h
  ·split at h
   ·split at h
    ·split at h
     ·split at h
      ·simp only[Option.some.injEq,Prod.mk.injEq]at h
       obtain⟨rfl,rfl⟩:=h
       refine⟨some,(zfc _).symm,rfl,fun e=>?_⟩
       simp[exAppend,hel,zfc,fresh, *]
      ·cases h
     ·split at h
      ·split at h
       ·simp only[fresh,Option.some.injEq,Prod.mk.injEq]at h
        obtain⟨rfl,rfl⟩:=h
        refine⟨some,(zfc _).symm,rfl,fun e=>?_⟩
        simp[exAppend,hel,zfc,fresh, *]
       ·cases h
      ·cases h
    ·cases h
   ·cases h
  ·split at h
   ·split at h
    ·split at h
     ·split at h
      ·simp only[Option.some.injEq,Prod.mk.injEq]at h
       obtain⟨rfl,rfl⟩:=h
       rw[zsz]
       refine⟨hide _,rfl,rfl,fun e=>?_⟩
       simp[exAppend,hel,zsz, *]
      ·cases h
     ·cases h
    ·cases h
   ·cases h
  ·cases h
theorem za4{s:St}{sz bytes:Nat}{a x r:AV}{s':St}(h:exAppendR s sz bytes a x=some (r,s')):
  ∃f:Nat→Option Nat,s'.env=s.env.ren f∧s'.k=s.k∧∀e:Env,exAppendR { s with env:=e } sz bytes a x=some (r,{ s' with env:=e.ren f }):=by
 refine⟨some,?_⟩
 unfold exAppendR at h
 cases hel:elemsR s.mem sz x with
 |none=>simp[hel]at h
 |some nn=>
  obtain⟨n,news⟩:=nn
  simp only[hel]at h
  split at h
  ·cases h
  ·split at h
   ·split at h
    ·simp only[fresh,Option.some.injEq,Prod.mk.injEq]at h
     obtain⟨rfl,rfl⟩:=h
     exact⟨(zfc _).symm,rfl,fun e=>by simp[exAppendR,hel,zfc,fresh, *]⟩
    ·cases h
   ·split at h
    ·rename_i hsz
     subst hsz
     split at h
     ·split at h
      ·simp only[Option.some.injEq,Prod.mk.injEq]at h
       obtain⟨rfl,rfl⟩:=h
       exact⟨(zfc _).symm,rfl,fun e=>by simp[exAppendR,hel,zfc, *]⟩
      ·cases h
     ·cases h
    ·cases h
   ·split at h
    ·rename_i hsz
     obtain⟨rfl,hroom⟩:=hsz
     split at h
     ·split at h
      ·simp only[Option.some.injEq,Prod.mk.injEq]at h
       obtain⟨rfl,rfl⟩:=h
       exact⟨(zfc _).symm,rfl,fun e=>by simp[exAppendR,hel,zfc, *]⟩
      ·cases h
     ·cases h
    ·rename_i hno
     split at h
     ·rename_i hsz
      subst hsz
      have hno2:¬_:=fun q=>hno ⟨rfl,q⟩
      split at h
      ·split at h
       ·simp only[fresh,Option.some.injEq,Prod.mk.injEq]at h
        obtain⟨rfl,rfl⟩:=h
        exact⟨(zfc _).symm,rfl,fun e=>by simp[exAppendR,hel,zfc,fresh, *]⟩
       ·cases h
      ·cases h
     ·cases h
   ·cases h
theorem za6{s:St}{sz bytes:Nat}{a x r:AV}{s':St}(h:exAppendX s sz bytes a x=some (r,s')):
  ∃f:Nat→Option Nat,s'.env=s.env.ren f∧s'.k=s.k∧∀e:Env,exAppendX { s with env:=e } sz bytes a x=some (r,{ s' with env:=e.ren f }):=by
 unfold exAppendX at h
 split at h
 ·rename_i q hq
  cases h
  obtain⟨f,h1,h2,h3⟩:=za7 hq
  exact⟨f,h1,h2,fun e=>by simp only[exAppendX,h3 e]⟩
 ·rename_i hq
  obtain⟨f,h1,h2,h3⟩:=za4 h
  refine⟨f,h1,h2,fun e=>?_⟩
  have hn:exAppend { s with env:=e } sz bytes a x=none:=by
   cases hc:exAppend { s with env:=e } sz bytes a x with
   |none=>rfl
   |some q=>
    obtain⟨q1,q2⟩:=q
    obtain⟨_,_,_,h4⟩:=za7 hc
    have:=h4 s.env
    rw[show({ ({ s with env:=e }:St)with env:=s.env }:St)=s from rfl,hq]at this
    cases this
  simp only[exAppendX,hn,h3 e]
theorem za2{s:St}{sz bytes:Nat}{a x r:AV}{s':St}(h:exAppendN s sz bytes a x=some (r,s')):
  ∃f:Nat→Option Nat,s'.env=s.env.ren f∧s'.k=s.k∧∀e:Env,exAppendN { s with env:=e } sz bytes a x=some (r,{ s' with env:=e.ren f }):=by
 unfold exAppendN at h
 split at h
 ·rename_i ho
  split at h
  ·rename_i q hq
   cases h
   obtain⟨f,h1,h2,h3⟩:=za4 hq
   exact⟨f,h1,h2,fun e=>by simp only[exAppendN,ho,if_true,h3 e]⟩
  ·rename_i hq
   obtain⟨f,h1,h2,h3⟩:=za6 h
   refine⟨f,h1,h2,fun e=>?_⟩
   have hn:exAppendR { s with env:=e } sz bytes a x=none:=by
    cases hc:exAppendR { s with env:=e } sz bytes a x with
    |none=>rfl
    |some q=>
     obtain⟨q1,q2⟩:=q
     obtain⟨_,_,_,h4⟩:=za4 hc
     have:=h4 s.env
     rw[show({ ({ s with env:=e }:St)with env:=s.env }:St)=s from rfl,hq]at this
     cases this
   simp only[exAppendN,ho,if_true,hn,h3 e]
 ·rename_i ho
  obtain⟨f,h1,h2,h3⟩:=za6 h
  exact⟨f,h1,h2,fun e=>by simp only[exAppendN,if_neg ho,h3 e]⟩
theorem za5{s:St}{a x r:AV}{s':St}(h:exAppendS s a x=some (r,s')):
  ∃f:Nat→Option Nat,s'.env=s.env.ren f∧s'.k=s.k∧∀e:Env,exAppendS { s with env:=e } a x=some (r,{ s' with env:=e.ren f }):=by
 refine⟨some,?_⟩
 unfold exAppendS at h
 split at h
 ·cases h
 ·split at h
  ·split at h
   ·cases h
    exact⟨(zfc _).symm,rfl,fun e=>by simp[exAppendS,zfc, *]⟩
   ·split at h
    ·simp only[fresh,Option.some.injEq,Prod.mk.injEq]at h
     obtain⟨rfl,rfl⟩:=h
     exact⟨(zfc _).symm,rfl,fun e=>by simp[exAppendS,zfc,fresh, *]⟩
    ·cases h
  ·split at h
   ·split at h
    ·simp only[Option.some.injEq,Prod.mk.injEq]at h
     obtain⟨rfl,rfl⟩:=h
     exact⟨(zfc _).symm,rfl,fun e=>by simp[exAppendS,zfc, *]⟩
    ·cases h
   ·cases h
  ·cases h
theorem zth{call:Calls'}{s:St}{fn:Nat}{args:List AV}{r:AV}{s':St}(h:exShare call s fn args=some (r,s')):
  ∃f:Nat→Option Nat,s'.env=s.env.ren f∧s'.k=s.k∧∀e:Env,exShare call { s with env:=e } fn args=some (r,{ s' with env:=e.ren f }):=by
 unfold exShare at h
 dsimp only at h
 split at h
 ·cases h
 ·rename_i hok
  split at h
  ·cases h
  ·rename_i rv mc hc
   simp only[Option.some.injEq,Prod.mk.injEq]at h
   obtain⟨rfl,rfl⟩:=h
   refine⟨_,rfl,rfl,fun e=>?_⟩
   unfold exShare
   dsimp only
   rw[if_neg hok]
   simp only[hc]
   rfl
theorem zt3{s:St}{c n:Nat}{a x r:AV}{s':St}(h:exStoreF s c n a x=some (r,s')):
  ∃f:Nat→Option Nat,s'.env=s.env.ren f∧s'.k=s.k∧∀e:Env,exStoreF { s with env:=e } c n a x=some (r,{ s' with env:=e.ren f }):=by
 have one:∀{o:Option Mem} {r:AV} {s':St},(o.map fun m=>(AV.junk,{ s with mem:=m }))=some (r,s')→s'.env=s.env.ren some∧s'.k=s.k∧∀e:Env,(o.map fun m=>(AV.junk,{ ({ s with env:=e }:St)with mem:=m }))=some (r,{ s' with env:=e.ren some }):=by
  intro o r s' h
  cases o with
  |none=>cases h
  |some m=>
   cases h
   exact⟨(zfc _).symm,rfl,fun e=>by simp[zfc]⟩
 refine⟨some,?_⟩
 unfold exStoreF at h
 split at h
 ·split at h
  ·split at h
   ·obtain⟨h1,h2,h3⟩:=one h
    exact⟨h1,h2,fun e=>by simpa [exStoreF, *]using h3 e⟩
   ·cases h
  ·split at h
   ·split at h
    ·obtain⟨h1,h2,h3⟩:=one h
     exact⟨h1,h2,fun e=>by simpa [exStoreF, *]using h3 e⟩
    ·cases h
   ·cases h
 ·split at h
  ·obtain⟨h1,h2,h3⟩:=one h
   exact⟨h1,h2,fun e=>by simpa [exStoreF, *]using h3 e⟩
  ·cases h
 ·cases h
theorem st_eq{s t:St}(hm:t.mem=s.mem)(hk:t.k=s.k):t={ s with env:=t.env }:=by cases t;cases s;cases hm;cases hk;rfl
theorem zuf{call:Calls'}{x:XOp}(hc:tailOp x=true){s t:St}(hm:t.mem=s.mem)(hk:t.k=s.k)(he:∀n∈x.takes,t.env.get n=s.env.get n){r:AV}{s':St}(h:exOp call s x=some (r,s')):
  ∃f:Nat→Option Nat,s'.env=s.env.ren f∧s'.k=s.k∧exOp call t x=some (r,{ s' with env:=t.env.ren f }):=by
 have calm:calmOp x=true→(∀n∈x.reads,t.env.get n=s.env.get n)→∃f:Nat→Option Nat,s'.env=s.env.ren f∧s'.k=s.k∧exOp call t x=some (r,{ s' with env:=t.env.ren f }):=by
  intro hcalm hr
  obtain⟨rfl,h2,_⟩:=zb7 (K:=fun _=>True) hcalm (t:=t) ⟨fun _ _=>by rw[hm],fun _ _ _ _ _ _=>trivial⟩ hr (fun _ _ _ _=>trivial) h
  refine⟨some,(zfc _).symm,rfl,?_⟩
  rw[h2,zfc,←st_eq hm hk]
 have e1:∀y,(∀n∈srcTmp y,n∈x.takes)→t.env.ev y=s.env.ev y:=fun y hy=>zfh fun n hn=>he n (hy n hn)
 unfold tailOp at hc
 split at hc
 ·rename_i n a y
  have ha:=e1 a (by simp[XOp.takes];intros;simp[*])
  have hy:=e1 y (by simp[XOp.takes];intros;simp[*])
  refine⟨some,?_⟩
  simp only[exOp,ha,hy,hm]at h ⊢
  clear calm e1
  split at h
  ·split at h
   ·simp only[Option.map_eq_some_iff,Prod.mk.injEq]at h
    obtain⟨m,hm',rfl,rfl⟩:=h
    refine⟨(zfc _).symm,rfl,?_⟩
    simp only[*,if_true,Option.map_some,zfc]
   ·cases h
  ·cases h
 ·rename_i c n a y
  have ha:=e1 a (by simp[XOp.takes];intros;simp[*])
  have hy:=e1 y (by simp[XOp.takes];intros;simp[*])
  simp only[exOp,ha,hy]at h ⊢
  obtain⟨f,h1,h2,h3⟩:=zt3 h
  exact⟨f,h1,h2,by rw[st_eq hm hk];exact h3 t.env⟩
 ·rename_i n b a y
  have ha:=e1 a (by simp[XOp.takes];intros;simp[*])
  have hy:=e1 y (by simp[XOp.takes];intros;simp[*])
  simp only[exOp,ha,hy]at h ⊢
  obtain⟨f,h1,h2,h3⟩:=za6 h
  exact⟨f,h1,h2,by rw[st_eq hm hk];exact h3 t.env⟩
 ·cases h
 ·rename_i a y
  have ha:=e1 a (by simp[XOp.takes];intros;simp[*])
  have hy:=e1 y (by simp[XOp.takes];intros;simp[*])
  simp only[exOp,ha,hy]at h ⊢
  obtain⟨f,h1,h2,h3⟩:=za5 h
  exact⟨f,h1,h2,by rw[st_eq hm hk];exact h3 t.env⟩
 ·rename_i n b a y
  have ha:=e1 a (by simp[XOp.takes];intros;simp[*])
  have hy:=e1 y (by simp[XOp.takes];intros;simp[*])
  simp only[exOp,ha,hy]at h ⊢
  obtain⟨f,h1,h2,h3⟩:=za2 h
  exact⟨f,h1,h2,by rw[st_eq hm hk];exact h3 t.env⟩
 ·rename_i g l
  have hg:=e1 g (by simp[XOp.takes];intros;simp[*])
  have hl:l.map t.env.ev=l.map s.env.ev:=zfe fun n hn=>he n (by simp only[XOp.takes];exact List.mem_append.2 (.inr hn))
  simp only[exOp,hg,hl]at h ⊢
  clear calm e1
  split at h
  ·obtain⟨f,h1,h2,h3⟩:=zth h
   refine⟨f,h1,h2,?_⟩
   have h4:=h3 t.env
   rw[←st_eq hm hk]at h4
   simp only[*]
  ·cases h
 ·rename_i kd m k v
  have h1:=e1 m (by simp[XOp.takes];intros;simp[*])
  have h2:=e1 k (by simp[XOp.takes];intros;simp[*])
  have h3:=e1 v (by simp[XOp.takes];intros;simp[*])
  refine⟨some,?_⟩
  simp only[exOp,h1,h2,h3,hm]at h ⊢
  clear calm e1
  split at h
  ·split at h
   ·split at h
    ·split at h
     ·cases h
      refine⟨(zfc _).symm,rfl,?_⟩
      simp only[*,if_true,zfc]
     ·cases h
      refine⟨(zfc _).symm,rfl,?_⟩
      simp only[*,if_true,zfc]
     ·cases h
    ·cases h
   ·cases h
  ·cases h
 ·rename_i fn l
  have hl:l.map t.env.ev=l.map s.env.ev:=zfe fun n hn=>he n (by simp only[XOp.takes,XOp.reads];exact hn)
  simp only[exOp,hl]at h ⊢
  obtain⟨f,h1,h2,h3⟩:=zth h
  exact⟨f,h1,h2,by rw[st_eq hm hk];exact h3 t.env⟩
 ·cases h
 ·refine calm hc fun n hn=>he n ?_
  unfold XOp.takes
  split<;>first|exact hn|(cases hc;done)|(rename_i hx _;simp[XOp.reads]at hn)
theorem zqj(v:AV):v.ren some=v:=zqp v
theorem zug{call:Calls'}{x:XO}(hc:tailOp x.op=true){s t:St}(hm:t.mem=s.mem)(hk:t.k=s.k)(he:∀n∈x.takes,t.env.get n=s.env.get n){s':St}(h:exOne call s x=some s'):
  ∃(f:Nat→Option Nat) (v:AV) (t':St),exOne call t x=some t'∧t'.mem=s'.mem∧t'.k=s'.k∧s'.k=s.k∧(∀u,s'.env.get u=if x.dst=some u then v else(s.env.get u).ren f)∧∀u,t'.env.get u=if x.dst=some u then v else(t.env.get u).ren f:=by
 have r1:∀n∈x.op.takes,n∈x.takes:=fun n hn=>List.mem_append.2 (.inl hn)
 have r3:∀u b,x.guard=some (u,b)→u∈x.takes:=fun u b hg=>List.mem_append.2 (.inr (by simp[hg]))
 rcases zfm h with⟨v,s1,hx,rfl,hg⟩|⟨rfl,u,b,hg,hcc⟩
 ·obtain⟨f,h1,h2,h3⟩:=zuf hc hm hk (fun n hn=>he n (r1 n hn)) hx
  have hbm:∀(u:St),(u.bind x.dst v).mem=u.mem:=fun u=>by cases x.dst<;>rfl
  have hbk:∀(u:St),(u.bind x.dst v).k=u.k:=fun u=>by cases x.dst<;>rfl
  refine⟨f,v,({ s1 with env:=t.env.ren f }:St).bind x.dst v,?_,by rw[hbm,hbm],by rw[hbk,hbk],by rw[hbk,h2],fun u=>by rw[zbn,h1,ze7],fun u=>by rw[zbn,ze7]⟩
  unfold exOne
  rcases hg with hg|⟨u,b,hg,hcc⟩
  ·simp only[hg,h3,Option.map_some];cases x.dst<;>rfl
  ·have:t.env.get u=.imm (.val (.bool b)):=by rw[he u (r3 u b hg)];exact hcc
   simp only[hg,this,h3,Option.map_some,if_true];cases x.dst<;>rfl
 ·have hbm:∀(u:St),(u.bind x.dst (.tup [])).mem=u.mem:=fun u=>by cases x.dst<;>rfl
  have hbk:∀(u:St),(u.bind x.dst (.tup [])).k=u.k:=fun u=>by cases x.dst<;>rfl
  refine⟨some,.tup [],t.bind x.dst (.tup []),?_,by rw[hbm,hbm,hm],by rw[hbk,hbk,hk],by rw[hbk],fun u=>by rw[zbn,zqj],fun u=>by rw[zbn,zqj]⟩
  unfold exOne
  rcases hcc with⟨c,hcc,hne⟩|hcc
  ·have:t.env.get u=.imm (.val (.bool c)):=by rw[he u (r3 u b hg)];exact hcc
   simp only[hg,this,hne,if_false]
   cases x.dst<;>rfl
  ·have:t.env.get u=.tup []:=by rw[he u (r3 u b hg)];exact hcc
   simp only[hg,this]
   cases x.dst<;>rfl
section
variable {num:Names} {P:Program}
variable {call:Calls'} {N:Nat} {ops:Array Oper} {xs:List XO} {n:Nat} {s0 sF:St} {S:Nat→St}
theorem zit{i:Nat}(h:lateB ops xs n i=true):∃(x:XO) (y d:Nat),xs[i]?=some x∧x.op=.mv (.t y)∧x.dst=some d∧x.guard=none∧y≠d∧
  ∀(j:Nat) z,n≤j→xs[j]?=some z→z.dst≠some d∧z.dst≠some y∧(d∈z.takes→Region.waitsFor .any ops j i=true):=by
 unfold lateB at h
 split at h
 ·rename_i x hx
  split at h
  ·rename_i y d hop hd hg
   simp only[Bool.and_eq_true,bne_iff_ne,ne_eq,List.all_eq_true,List.mem_range,Bool.or_eq_true,decide_eq_true_eq]at h
   obtain⟨hyd,hall⟩:=h
   refine⟨x,y,d,hx,hop,hd,hg,hyd,fun j z hj hz=>?_⟩
   have hjl:j<xs.length:=(List.getElem?_eq_some_iff.1 hz).1
   rcases hall j hjl with h|h
   ·omega
   ·rw[hz]at h
    simp only[Bool.and_eq_true,bne_iff_ne,ne_eq,Bool.or_eq_true,Bool.not_eq_true',List.contains_eq_mem,decide_eq_false_iff_not]at h
    obtain⟨h1,h2,h3⟩:=h
    refine⟨h1,h2,fun hd=>?_⟩
    rcases h3 with h3|h3
    ·exact absurd hd h3
    ·exact h3
  ·cases h
 ·cases h
structure Floats (ops:Array Oper) (xs:List XO) (n:Nat):Prop where
 strong:∀(j:Nat) z,n≤j→xs[j]?=some z→tailOp z.op=true
 sink:∀i,i<n→lateB ops xs n i=false→∃j,j≤n∧i<j∧Region.waitsFor .any ops j i=true∧(j=n∨lateB ops xs n j=false)
 lt:n<ops.size
 chain:Region.chainB .any ops n=true
 low:∀(i:Nat) o,ops[i]?=some o→∀e∈o.after,Region.binds .any e=true→e.on<i
theorem zch(h:Region.chainB .any ops n=true){t:Nat}(hn:n<t)(ht:t<ops.size):Region.waitsFor .any ops t (t-1)=true:=by
 have:=List.all_eq_true.1 h t (List.mem_range.2 ht)
 simp only[Bool.or_eq_true,decide_eq_true_eq]at this
 rcases this with h|h
 ·omega
 ·exact h
theorem Floats.waits(fl:Floats ops xs n){listed:Array Bool}(inv:HeadInv .any ops n listed):∀(d i:Nat),n-i=d→i<n→lateB ops xs n i=false→listed.getD i true=false→∀t,n≤t→t ∉ Region.ready .any ops listed:=by
 intro d
 induction d using Nat.strongRecOn with
 |_ d ih=>
  intro i hd hi hlate hun t ht hr
  have htlt:t<ops.size:=by
   obtain⟨_,ot,hot,_⟩:=mem_ready.1 hr
   exact(Array.getElem?_eq_some_iff.1 hot).1
  by_cases htn:t=n
  ·subst htn
   obtain⟨j,hj1,hj2,hw,hj3⟩:=fl.sink i hi hlate
   by_cases hjt:j=t
   ·subst hjt
    have:=zpu hr hw
    rw[getD_both hun]at this;cases this
   ·have hjl:lateB ops xs t j=false:=by rcases hj3 with h|h;exact absurd h hjt;exact h
    cases hl:listed.getD j false with
    |true=>
     obtain⟨oj,hoj,e,he,hb,hon⟩:=Region.waitsFor_spec hw
     have h2:=inv.closed j oj hoj hl e he hb
     rw[hon,getD_both hun]at h2
     cases h2
    |false=>
     have hjs:j<listed.size:=by rw[inv.size];omega
     exact ih (t-j) (by omega) j rfl (by omega) hjl (getD_in hjs hl) t (Nat.le_refl _) hr
  ·have:=zpu hr (zch fl.chain (by omega) htlt)
   rw[getD_both (inv.tail (t-1) (by omega) (by omega))]at this
   cases this
theorem Floats.ready_some(fl:Floats ops xs n){listed:Array Bool}(hsz:listed.size=ops.size)(hl:left ops.size listed≠0):Region.ready .any ops listed≠[]:=by
 have hex:∃i,i<ops.size∧listed.getD i true=false:=by
  obtain⟨i,hi,h⟩:=List.countP_pos_iff.1 (Nat.pos_of_ne_zero hl)
  exact⟨i,List.mem_range.1 hi,by simpa using h⟩
 have:∃i,(i<ops.size∧listed.getD i true=false)∧∀j,j<i→¬(j<ops.size∧listed.getD j true=false):=by
  obtain⟨i,hi⟩:=hex
  induction i using Nat.strongRecOn with
  |_ i ih=>
   by_cases h:∃j,j<i∧(j<ops.size∧listed.getD j true=false)
   ·obtain⟨j,h1,h2⟩:=h;exact ih j h1 h2
   ·exact⟨i,hi,fun j hj h'=>h ⟨j,hj,h'⟩⟩
 obtain⟨i,⟨hi,hl⟩,hmin⟩:=this
 have ho:ops[i]?=some ops[i]:=Array.getElem?_eq_getElem hi
 have:i∈Region.ready .any ops listed:=by
  refine mem_ready.2 ⟨hl,_,ho,fun e he hb=>?_⟩
  have h1:=fl.low i _ ho e he hb
  have h2:listed.getD e.on true=true:=by
   cases h3:listed.getD e.on true with
   |true=>rfl
   |false=>exact absurd ⟨by omega,h3⟩ (hmin e.on h1)
  have h4:e.on<listed.size:=by omega
  simp[h4]at h2 ⊢;exact h2
 intro h
 rw[h]at this;cases this
structure Behind (ops:Array Oper) (xs:List XO) (n:Nat) (S:Nat→St) (listed:Array Bool) (t:St) (k:Nat):Prop where
 lo:n≤k
 hi:k≤ops.size
 size:listed.size=ops.size
 head:∀i,i<n→lateB ops xs n i=false→listed.getD i true=true
 done:∀i,n≤i→i<k→listed.getD i true=true
 todo:∀i,k≤i→i<ops.size→listed.getD i true=false
 mem:t.mem=(S k).mem
 kk:t.k=(S k).k
 env:∀u,(∀(i:Nat) x,i<n→lateB ops xs n i=true→xs[i]?=some x→x.dst=some u→listed.getD i true=true)→t.env.get u=(S k).env.get u
theorem Drawn.moved(d:Drawn call P num N ops xs n s0 sF S fun _=>false)(fl:Floats ops xs n){i:Nat}(hi:i<n){x:XO}{y dd:Nat}(hx:xs[i]?=some x)(hop:x.op=.mv (.t y))(hd:x.dst=some dd)(hg:x.guard=none)(hyd:y≠dd)
  (hno:∀(j:Nat) z,n≤j→xs[j]?=some z→z.dst≠some dd∧z.dst≠some y):∀k,n≤k→k≤ops.size→(S k).env.get dd=(S k).env.get y:=by
 intro k
 induction k with
 |zero=>intro h1 _;omega
 |succ k ih=>
  intro h1 h2
  rcases Nat.lt_or_ge k n with hk|hk
  ·have hkn:k+1=n:=by omega
   rw[hkn]
   have h3:(S (i+1)).env.get dd=(S i).env.get y∧(S (i+1)).env.get y=(S i).env.get y:=by
    have:=d.step i x hi hx
    simp only[exOne,hg,hop,exOp,Option.map_some,hd,Option.some.injEq]at this
    rw[←this]
    simp[Env.get,Env.ev,hyd,Ne.symm hyd]
   have h4:(S n).env.get dd=(S (i+1)).env.get dd:=d.get dd (i+1) n (by omega) (Nat.le_refl _) fun j z h5 h6 h7=>by
    rcases(d.one j i z x dd h6 hi h7 hx hd).1 with h|h
    ·omega
    ·exact h
   have h5:(S n).env.get y=(S (i+1)).env.get y:=d.get y (i+1) n (by omega) (Nat.le_refl _) fun j z h5 h6 h7 hz=>by
    have:=(d.one i j x z y hi h6 hx h7 hz).2 (by simp[XO.reads,hop,XOp.reads,srcTmp])
    omega
   rw[h4,h5,h3.1,h3.2]
  ·have ih':=ih hk (by omega)
   have hkl:k<xs.length:=by rw[d.len];omega
   have hz:xs[k]?=some xs[k]:=List.getElem?_eq_getElem hkl
   obtain⟨f,v,t',_,_,_,_,h6,_⟩:=zug (fl.strong k _ hk hz) rfl rfl (fun _ _=>rfl) (d.go k _ hz)
   obtain⟨h7,h8⟩:=hno k _ hk hz
   rw[h6,h6,if_neg h7,if_neg h8,ih']
theorem Drawn.behind{ro:Option Nat}(d:Drawn call P num N ops xs n s0 sF S fun _=>false)(fl:Floats ops xs n)(hcall:CallOK num P call){Q:Exit→Act→World→Prop}{k0:Nat}{C:Cx}{m:Mem}{a0:Act}(hN:N≤a0.tmps.size)(hQ:∀D a',Later num k0 C m a0 D sF a'→Q .normal a' D.w):
  ∀(c:Nat) (listed:Array Bool) (a:Act) (D:Cx) (t:St) (k:Nat),left ops.size listed=c→Behind ops xs n S listed t k→Later num k0 C m a0 D t a→wpAnyIn (fz ro) 0 P .any ops Q c listed a D.w:=by
 intro c
 induction c with
 |zero=>
  intro listed a D t k hl b hlat
  have hall:∀i,i<ops.size→listed.getD i true=true:=by
   intro i hi
   cases h:listed.getD i true with
   |true=>rfl
   |false=>
    have:=List.countP_eq_zero.1 hl i (List.mem_range.2 hi)
    simp[h]at this
  have hk:k=ops.size:=by
   rcases Nat.lt_or_ge k ops.size with h|h
   ·have:=b.todo k (Nat.le_refl _) h
    rw[hall k h]at this;cases this
   ·have:=b.hi;omega
  subst hk
  refine⟨?_,?_⟩
  ·rw[List.eq_nil_iff_forall_not_mem]
   intro i hi
   obtain⟨h1,o,ho,_⟩:=mem_ready.1 hi
   rw[hall i (Array.getElem?_eq_some_iff.1 ho).1]at h1;cases h1
  ·have hfin:S ops.size=sF:=by rw[←d.len];exact d.fin
   have henv:∀u,t.env.get u=sF.env.get u:=fun u=>by rw[←hfin];exact b.env u fun i x hi _ _ _=>hall i (by have:=d.hn;omega)
   have hmem:=b.mem
   have hkk:=b.kk
   rw[hfin]at hmem hkk
   exact hQ D a ⟨⟨by rw[←hmem];exact hlat.rep.mem,fun u=>by rw[←henv];exact hlat.rep.env u,by rw[←hmem,←hkk];exact hlat.rep.k⟩,by rw[←hmem];exact hlat.step,by rw[←hkk];exact hlat.k,hlat.size,hlat.marks⟩
 |succ c ih=>
  intro listed a D t k hl b hlat
  refine⟨fun h=>absurd h (fl.ready_some b.size (by omega)),fun i hi=>?_⟩
  obtain⟨hun,oi,hoi,_⟩:=mem_ready.1 hi
  have hisz:i<ops.size:=(Array.getElem?_eq_some_iff.1 hoi).1
  obtain⟨x,hx,htr⟩:=d.tr i oi rfl hoi
  have hleft:left ops.size (listed.setIfInBounds i true)=c:=by have:=zjc hisz hun;omega
  rcases Nat.lt_or_ge i n with hin|hin
  ·
   have hlate:lateB ops xs n i=true:=by
    cases h:lateB ops xs n i with
    |true=>rfl
    |false=>rw[b.head i hin h]at hun;cases hun
   obtain⟨x',y,dd,hx',hop,hd,hg,hyd,hno⟩:=zit hlate
   rw[hx]at hx'
   cases hx'
   have hy:t.env.get y=(S k).env.get y:=b.env y fun j z hj hlj hz hzd=>by
    have:=(d.one i j x z y hin hj hx hz hzd).2 (by simp[XO.reads,hop,XOp.reads,srcTmp])
    have h2:=zpu hi this.2
    exact zg6 h2
   have h1:exOne call t x=some (t.bind (some dd) (t.env.get y)):=by
    simp only[exOne,hg,hop,exOp,Option.map_some,hd]
    rfl
   unfold wpOpIn
   simp only[hoi]
   refine one_wp hcall htr hlat.rep (by rw[hlat.size];exact hN) h1 fun E a' hl' _=>?_
   rw[hlat.k]at hl'
   refine ih _ a' E _ k hleft ?_ (hlat.trans hl')
   refine⟨b.lo,b.hi,by simp[b.size],fun j hj hjl=>?_,fun j h2 h3=>?_,fun j h2 h3=>?_,b.mem,b.kk,fun u hu=>?_⟩
   ·have h4:=b.head j hj hjl
    by_cases hij:i=j
    ·subst hij;rw[hlate]at hjl;cases hjl
    ·rw[getD_set_ne true hij];exact h4
   ·rw[getD_set_ne true (by omega)];exact b.done j h2 h3
   ·rw[getD_set_ne true (by have:=b.lo;omega)];exact b.todo j h2 h3
   ·rw[zbn]
    by_cases hud:u=dd
    ·subst hud
     rw[if_pos rfl,hy]
     exact(d.moved fl hin hx hop hd hg hyd (fun j z hj hz=>⟨(hno j z hj hz).1,(hno j z hj hz).2.1⟩) k b.lo b.hi).symm
    ·rw[if_neg (by intro h;cases h;exact hud rfl)]
     refine b.env u fun j z hj hlj hz hzd=>?_
     have h5:=hu j z hj hlj hz hzd
     by_cases hij:i=j
     ·subst hij
      rw[hx]at hz;cases hz
      rw[hd]at hzd;cases hzd
      exact absurd rfl hud
     ·rw[getD_set_ne true hij]at h5;exact h5
  ·
   have hik:i=k:=by
    rcases Nat.lt_trichotomy i k with h|h|h
    ·rw[b.done i hin h]at hun;cases hun
    ·exact h
    ·have:=zpu hi (zch fl.chain (by have:=b.lo;omega) hisz)
     rw[getD_both (b.todo (i-1) (by omega) (by omega))]at this
     cases this
   subst hik
   have hst:=d.go i x hx
   have htail:=fl.strong i x hin hx
   obtain⟨f,v,t',h1,h2,h3,h4,h5,h6⟩:=zug htail b.mem b.kk (fun u hu=>b.env u fun j z hj hlj hz hzd=>by
    obtain⟨z',y,dd,hz',hop,hd,hg,hyd,hno⟩:=zit hlj
    rw[hz]at hz'
    cases hz'
    rw[hzd]at hd
    cases hd
    exact zg6 (zpu hi ((hno i x hin hx).2.2 hu))) hst
   unfold wpOpIn
   simp only[hoi]
   refine one_wp hcall htr hlat.rep (by rw[hlat.size];exact hN) h1 fun E a' hl' _=>?_
   rw[hlat.k]at hl'
   refine ih _ a' E _ (i+1) hleft ?_ (hlat.trans hl')
   refine⟨by omega,by omega,by simp[b.size],fun j hj hjl=>?_,fun j h7 h8=>?_,fun j h7 h8=>?_,h2,h3,fun u hu=>?_⟩
   ·rw[getD_set_ne true (by omega)];exact b.head j hj hjl
   ·by_cases hij:i=j
    ·subst hij;simp[b.size,hisz]
    ·rw[getD_set_ne true hij];exact b.done j h7 (by omega)
   ·rw[getD_set_ne true (by omega)];exact b.todo j (by omega) h8
   ·rw[h5,h6]
    by_cases hud:x.dst=some u
    ·rw[if_pos hud,if_pos hud]
    ·rw[if_neg hud,if_neg hud,b.env u fun j z hj hlj hz hzd=>?_]
     have h9:=hu j z hj hlj hz hzd
     rwa [getD_set_ne true (by omega)]at h9
theorem Drawn.late{ro:Option Nat}(d:Drawn call P num N ops xs n s0 sF S fun _=>false)(fl:Floats ops xs n)(hcall:CallOK num P call){Q:Exit→Act→World→Prop}{k0:Nat}{C:Cx}{m:Mem}{a0:Act}(hN:N≤a0.tmps.size)(hQ:∀D a',Later num k0 C m a0 D sF a'→Q .normal a' D.w):
  ∀(c:Nat) (listed:Array Bool) (a:Act) (D:Cx) (t:St),left ops.size listed=c→HeadInv .any ops n listed→Part xs n S listed t→Later num k0 C m a0 D t a→wpAnyIn (fz ro) 0 P .any ops Q c listed a D.w:=by
 intro c
 induction c with
 |zero=>
  intro listed a D t hl inv p hlat
  have:=List.countP_eq_zero.1 hl n (List.mem_range.2 fl.lt)
  rw[inv.tail n (Nat.le_refl _) fl.lt]at this
  simp at this
 |succ c ih=>
  intro listed a D t hl inv p hlat
  by_cases hall:∀i,i<n→lateB ops xs n i=false→listed.getD i true=true
  ·
   refine d.behind fl hcall hN hQ (c+1) listed a D t n hl ⟨Nat.le_refl _,d.hn,inv.size,hall,fun i h1 h2=>by omega,inv.tail,?_,p.k.trans (d.pre 0 n (Nat.zero_le _) (Nat.le_refl _)).2.2.symm,fun u hu=>?_⟩ hlat
   ·refine List.ext_getElem? fun id=>?_
    rcases Nat.lt_or_ge id (S n).mem.length with h|h
    ·refine p.live id h fun j hj h1 h2=>?_
     cases hlj:lateB ops xs n j with
     |false=>exact hall j hj hlj
     |true=>
      obtain⟨x,y,dd,hx,hop,hd,hg,_⟩:=zit hlj
      have:=d.step j x hj hx
      simp only[exOne,hg,hop,exOp,Option.map_some,hd,Option.some.injEq]at this
      rw[←this]at h2
      exact absurd h2 (by show ¬id<(S j).mem.length;omega)
    ·rw[List.getElem?_eq_none h,List.getElem?_eq_none (by rw[p.len];exact h)]
   ·by_cases hw:∃(j:Nat) (y:XO),j<n∧xs[j]?=some y∧y.dst=some u
    ·obtain⟨j,y,hj,hy,hd⟩:=hw
     have hlj:listed.getD j true=true:=by
      cases hl:lateB ops xs n j with
      |false=>exact hall j hj hl
      |true=>exact hu j y hj hl hy hd
     rw[(p.done j y u hj hy hd hlj).1]
     exact(d.get u (j+1) n (by omega) (Nat.le_refl _) fun k z h5 h6 h7=>by
      rcases(d.one k j z y u h6 hj h7 hy hd).1 with h|h
      ·omega
      ·exact h).symm
    ·rw[(p.not u fun j y h1 h2 h3=>absurd ⟨j,y,h1,h2,h3⟩ hw).1]
     exact(d.get u 0 n (Nat.zero_le _) (Nat.le_refl _) fun k z _ h6 h7 h8=>hw ⟨k,z,h6,h7,h8⟩).symm
  ·have hex:∃j,j<n∧lateB ops xs n j=false∧listed.getD j true=false:=by
    apply Classical.byContradiction
    intro hne
    apply hall
    intro i hi hli
    cases h:listed.getD i true with
    |true=>rfl
    |false=>exact absurd ⟨i,hi,hli,h⟩ hne
   obtain⟨j,hj,hlj,hjun⟩:=hex
   refine⟨fun h=>absurd h (fl.ready_some inv.size (by omega)),fun i hi=>?_⟩
   obtain⟨hun,oi,hoi,_⟩:=mem_ready.1 hi
   have hisz:i<ops.size:=(Array.getElem?_eq_some_iff.1 hoi).1
   have hin:i<n:=by
    rcases Nat.lt_or_ge i n with h|h
    ·exact h
    ·exact absurd hi (fl.waits inv _ j rfl hj hlj hjun i h)
   obtain⟨x,hx,htr⟩:=d.tr i oi rfl hoi
   obtain⟨t1,h1,hnext⟩:=d.part_step hcall p hin hi hx (fun fn l hop=>by rw[(zus htr).1];simp only[XO.wipe,hop,XOp.wipe]) hlat.rep
   unfold wpOpIn
   simp only[hoi]
   refine one_wp hcall htr hlat.rep (by rw[hlat.size];exact hN) h1 fun E a' hl' _=>?_
   obtain⟨t2,F,hw,hl2,p2⟩:=hnext E a' hl'.rep
   rw[←hw]
   refine ih _ a' F t2 (by have:=zjc hisz hun;omega) (inv.set hi hin) p2 ?_
   rw[hlat.k]at hl'
   rw[hl'.k]at hl2
   exact(hlat.trans hl').trans hl2
end
section
variable {num:Names} {P:Program}
theorem zp9{ro:Option Nat}{call:Calls'}(hcall:CallOK num P call)(hmix:P.follows .mixedOrders=true){N id:Nat}{ops:Array Oper}{draw:Bool}{keep:List Nat}{xs:List XO}(htr:trOps P num N ops ops.toList=xs.map XO.wipe)(hd:drawsOk (.region id ops draw) (.region keep xs)=true){C:Cx}{s s':St}{a:Act}(hs:SRep num C s a)(hN:N≤a.tmps.size)(h:exOps call s xs=some s')
  {Q:Exit→Act→World→Prop} (hQ:∀D a',Later num s.k C s.mem a D s' a'→Q .normal a' D.w):(Code.region id ops draw).wpIn (fz ro) 0 P Q a C.w:=by
 cases draw with
 |false=>exact wpIn_region_list (zje hcall ops.toList xs htr hs hN h hQ)
 |true=>
  simp only[drawsOk,Bool.and_eq_true,beq_iff_eq]at hd
  obtain⟨hd,hlen⟩:=hd
  obtain⟨n,hn,hok⟩:=List.any_eq_true.1 hd
  rw[Bool.or_eq_true]at hok
  rcases hok with hok|hok
  case inr=>
   simp only[drawOkL,Bool.and_eq_true]at hok
   obtain⟨⟨⟨⟨⟨⟨k1,k2⟩,k3⟩,k4⟩,k5⟩,k6⟩,k7⟩:=hok
   simp only[decide_eq_true_eq]at k6
   obtain⟨S,d⟩:=zev (call:=call) (s0:=s) htr hlen k1 k2 k3 (by omega) h
   have fl:Floats ops xs n:=by
    refine⟨fun j z hj hz=>?_,fun i hi hli=>?_,k6.1,k6.2,fun i o ho e he hb=>?_⟩
    ·refine List.all_eq_true.1 k4 z (List.mem_of_getElem? (i:=j-n) ?_)
     rw[List.getElem?_drop,←hz]
     congr 1;omega
    ·have:=List.all_eq_true.1 k5 i (List.mem_range.2 hi)
     rw[hli,Bool.false_or]at this
     obtain⟨j,hj,h2⟩:=List.any_eq_true.1 this
     simp only[Bool.and_eq_true,decide_eq_true_eq,Bool.or_eq_true,beq_iff_eq,Bool.not_eq_true']at h2
     exact⟨j,by have:=List.mem_range.1 hj;omega,h2.1,h2.2.1,h2.2.2⟩
    ·have:=List.all_eq_true.1 k7 i (List.mem_range.2 (Array.getElem?_eq_some_iff.1 ho).1)
     simp only[ho]at this
     have:=Array.all_eq_true_iff_forall_mem.1 this e he
     simpa [hb]using this
   refine wpIn_region_any hmix ?_
   have h0:=zes hs
   have h1:=zq9 h0.rep ((S n).mem.length-s.mem.length)
   exact d.late fl hcall (Q:=Q) (k0:=s.k) (C:=C) (m:=s.mem) (a0:=a) hN hQ ops.size (Array.replicate ops.size false) a _ _ (zqt ops.size ops.size (Nat.le_refl _))
    ⟨by simp,fun j oj _ hl=>(by rw[getD_replicate_false]at hl;cases hl),fun t ht h2=>getD_in (by simpa using h2) (getD_replicate_false _ _)⟩
    (d.start h0.rep) (h0.trans h1)
  simp only[drawOk,Bool.and_eq_true]at hok
  obtain⟨⟨⟨⟨k1,k2⟩,k3⟩,k4⟩,k5⟩:=hok
  have htail:n=ops.size∨(n<ops.size∧Region.sinkB .any ops n=true∧Region.chainB .any ops n=true):=by
   simp only[Bool.or_eq_true,beq_iff_eq,Bool.and_eq_true,decide_eq_true_eq]at k4
   rcases k4 with h|⟨⟨h,h'⟩,h''⟩
   ·exact .inl h
   ·exact .inr ⟨h,h',h''⟩
  have hn':n≤ops.size:=by rcases htail with h|h<;>omega
  obtain⟨S,d⟩:=zev (call:=call) (s0:=s) htr hlen k1 k2 k3 hn' h
  refine wpIn_region_any hmix ?_
  have h0:=zes hs
  have h1:=zq9 h0.rep ((S n).mem.length-s.mem.length)
  have:=d.any (ro:=ro) htail k5 hcall (Q:=Q) (k:=s.k) (C:=C) (m:=s.mem) (a0:=a) hN hQ n (Array.replicate ops.size false) a _ _ (zqt n ops.size hn')
   ⟨by simp,fun j oj _ hl=>(by rw[getD_replicate_false]at hl;cases hl),fun t ht h2=>getD_in (by simpa using h2) (getD_replicate_false _ _)⟩
   (d.start h0.rep) (h0.trans h1)
  rw[show n+(ops.size-n)=ops.size by omega]at this
  exact this
end
end Go.EX


namespace Go.EX
section
variable {num:Names} {P:Program}
theorem zwj{F:Fence}{n:Nat}{c:Code}{Q:Exit→Act→World→Prop}{a:Act}{w:World}(h:c.wpIn F n P (Exit.noGoto Q) a w):(Code.scope c).wpIn F n P Q a w:=by
 intro b k cs hro hb hr
 obtain⟨e,a₁,w₁,hq,harr⟩:=h b (.inScope c::k) cs hro hb hr
 have h0:(lone (b.atR a (.code (.scope c)::k)) cs w).fenced P F:=fenced_calm hb hr rfl
 have s0:step P (lone (b.atR a (.code (.scope c)::k)) cs w)=.next (lone (b.atR a (.code c:: .inScope c::k)) cs w):=step_lone_go (by simp[stepG,stepG.exec,Frame.atR])
 have s1:∀a w,step P (lone (b.atR a (.inScope c::k)) cs w)=.next (lone (b.atR a k) cs w):=fun a w=>step_lone_go (by simp[stepG,stepG.exec,Frame.atR])
 cases e with
 |normal=>exact⟨.normal,a₁,w₁,hq,.head h0 s0 (StepsIn.trans harr (.one (fenced_calm hb hr rfl) (s1 _ _)))⟩
 |goto l=>exact hq.elim
 |exit id=>exact⟨_,a₁,w₁,hq,.of_steps (.one h0 s0) ⟨fun k' hk=>harr.1 k' (by simp[exitTo,hk]),fun hr hk=>by
   obtain⟨k₁,h1,h2⟩:=harr.2 hr (by simp[exitTo,hk])
   exact⟨k₁,h1,h2⟩⟩⟩
 |ret=>exact⟨_,a₁,w₁,hq,.of_steps (.one h0 s0) harr⟩
 |panic ch=>exact⟨_,a₁,w₁,hq,.of_steps (.one h0 s0) harr⟩
 |outgrown=>exact⟨_,a₁,w₁,hq,.of_steps (.one h0 s0) harr⟩
theorem zpb{C:Cx}{b:Nat}{o:Obj}(hI:¬C.I b)(hb:∀arr e fz,C.w.heap[b]?≠some (.cells arr e fz)):Tr some C { C with w:=C.w.putObj b o }:=by
 refine⟨fun _ h=>h,fun c hc=>?_,fun i j hi hj=>?_⟩
 ·exact World.putObj_heap_other (fun h=>hI (by rw[←h];exact hc))
 ·cases hj
  refine⟨hi,rfl,fun n e h=>h.same ?_⟩
  refine World.putObj_heap_other fun heq=>?_
  obtain⟨arr,fz,h1,_⟩:=h
  rw[heq]at h1
  exact hb _ _ _ h1
theorem zpa{C D:Cx}{m m':Mem}{k:Nat}(hst:Step num k C m D m'){b:Nat}{o:Obj}(hlo:C.w.heap.size≤b)(hI:¬D.I b)(hb:∀arr e fz,D.w.heap[b]?≠some (.cells arr e fz))(hown:¬Own D m' b):
  Step num k C m { D with w:=D.w.putObj b o } m':=by
 have ht:=zpb (o:=o) hI hb
 refine⟨⟨hst.rep.len,fun i p hp=>?_,hst.rep.inj,hst.rep.imm,fun c hc=>by simp;exact hst.rep.bd c hc,num.up hst.rep.glo ht.imm ht.keep⟩,hst.os,hst.tape,hst.out,by simp;exact hst.size,fun c hc hno=>?_,fun c n e h=>?_,hst.imm,hst.imm',hst.own,hst.same,hst.len⟩
 ·by_cases hl:p.live=true
  ·exact znw ht rfl (fun x hx=>by rw[←hx];exact World.putObj_heap_other fun he=>hown ⟨i,p,hp,hl,he⟩) (hst.rep.obj i p hp)
  ·cases p with
   |dead=>trivial
   |_=>exact absurd rfl hl
 ·rw[←hst.keep c hc hno]
  exact World.putObj_heap_other (by omega)
 ·have h1:=hst.sz c n e h
  refine h1.same (World.putObj_heap_other fun heq=>?_)
  obtain⟨arr,fz,h2,_⟩:=h1
  rw[heq]at h2
  exact hb _ _ _ h2
end
end Go.EX


namespace Go.EX
def Le(c d:Calls'):Prop:=∀f a m r,c f a m=some r→d f a m=some r
theorem zf0{c d:Calls'}(h:Le c d){s:St}{fn:Nat}{as:List AV}{r:AV×St}(hr:exView c s fn as=some r):exView d s fn as=some r:=by
 unfold exView at *
 cases ha:as.mapM (frz s.mem)with
 |none=>simp[ha]at hr
 |some l=>
  simp only[ha]at hr ⊢
  cases hc:c fn l []with
  |none=>simp[hc]at hr
  |some p=>simp only[hc]at hr;simp only[h _ _ _ _ hc];exact hr
theorem zfw{c d:Calls'}(h:Le c d){s:St}{fn:Nat}{as:List AV}{r:AV×St}(hr:exOwn c s fn as=some r):exOwn d s fn as=some r:=by
 unfold exOwn at *
 cases ha:as.mapM (frz s.mem)with
 |none=>simp[ha]at hr
 |some l=>
  simp only[ha]at hr ⊢
  cases hc:c fn l []with
  |none=>simp[hc]at hr
  |some p=>simp only[hc]at hr;simp only[h _ _ _ _ hc];exact hr
theorem zfz{c d:Calls'}(h:Le c d){s:St}{fn:Nat}{as:List AV}{r:AV×St}(hr:exShare c s fn as=some r):exShare d s fn as=some r:=by
 unfold exShare at *
 dsimp only at *
 generalize hm:AV.ren.renL (place (order 0 (AV.refs.refsL as) s.mem)) as=l at *
 generalize hq:s.mem.pickAll (order 0 (AV.refs.refsL as) s.mem)=q at *
 cases hc:c fn l q with
 |none=>simp[hc]at hr
 |some p=>simp only[hc]at hr;simp only[h _ _ _ _ hc];exact hr
theorem zfx{c d:Calls'}(h:Le c d){s:St}{fn:Nat}{as:List AV}{r:AV×St}(hr:exPeek c s fn as=some r):exPeek d s fn as=some r:=by
 unfold exPeek at *
 dsimp only at *
 generalize hm:AV.ren.renL (place (order 0 (AV.refs.refsL as) s.mem)) as=l at *
 cases hc:c fn l (s.mem.pickAll (order 0 (AV.refs.refsL as) s.mem))with
 |none=>simp[hc]at hr
 |some p=>simp only[hc]at hr;simp only[h _ _ _ _ hc];exact hr
theorem zfl{c d:Calls'}(h:Le c d){s:St}{fn:Nat}{as:List AV}{r:AV×St}(hr:exLook c s fn as=some r):exLook d s fn as=some r:=by
 unfold exLook at *
 dsimp only at *
 generalize hm:AV.ren.renL (place (order 0 (AV.refs.refsL as) s.mem)) as=l at *
 cases hc:c fn l (s.mem.pickAll (order 0 (AV.refs.refsL as) s.mem))with
 |none=>simp[hc]at hr
 |some p=>simp only[hc]at hr;simp only[h _ _ _ _ hc];exact hr
theorem zf1{c d:Calls'}(h:Le c d){s:St}{fn:Nat}{as:List AV}{r:AV×St}(hr:exWhole c s fn as=some r):exWhole d s fn as=some r:=by
 unfold exWhole at *
 cases hc:c fn as s.mem with
 |none=>simp[hc]at hr
 |some p=>simp only[hc]at hr;simp only[h _ _ _ _ hc];exact hr
theorem zfr{c d:Calls'}(h:Le c d){s:St}{op:XOp}{r:AV×St}(hr:exOp c s op=some r):exOp d s op=some r:=by
 cases op with
 |call mode fn args=>
  cases mode with
  |view=>exact zf0 h hr
  |own=>exact zfw h hr
  |share=>exact zfz h hr
  |peek=>exact zfx h hr
  |look=>exact zfl h hr
  |touch=>cases hr
  |whole=>exact zf1 h hr
 |callV f args=>
  simp only[exOp]at hr ⊢
  split at hr
  ·rename_i heq;exact zfz h hr
  ·cases hr
 |callW f args=>
  simp only[exOp]at hr ⊢
  split at hr
  ·rename_i heq;exact zf1 h hr
  ·cases hr
 |_=>exact hr
theorem zfo{c d:Calls'}(h:Le c d){s:St}{o:XO}{r:St}(hr:exOne c s o=some r):exOne d s o=some r:=by
 unfold exOne at *
 have hop:∀x,exOp c s o.op=some x→exOp d s o.op=some x:=fun x hx=>zfr h hx
 have hgo:∀(g:AV×St→St),(exOp c s o.op).map g=some r→(exOp d s o.op).map g=some r:=by
  intro g hg
  cases hx:exOp c s o.op with
  |none=>simp[hx]at hg
  |some x=>rw[hop x hx];rwa [hx]at hg
 dsimp only at *
 split at hr
 ·exact hgo _ hr
 ·split at hr
  ·rename_i heq
   split at hr
   ·rename_i hcb;simp only[hcb,if_true]at *;exact hgo _ hr
   ·rename_i hcb;simp only[hcb,if_false]at *;exact hr
  ·exact hr
  ·cases hr
theorem zft{c d:Calls'}(h:Le c d)(l:List XO):∀{s:St} {r:St},exOps c s l=some r→exOps d s l=some r:=by
 induction l with
 |nil=>intro s r hr;exact hr
 |cons o l ih=>
  intro s r hr
  simp only[exOps]at *
  cases hx:exOne c s o with
  |none=>simp[hx]at hr
  |some s'=>rw[hx]at hr;rw[zfo h hx];exact ih hr
theorem zrb{f g:St→Option (XExit×St)}(h:∀s r,f s=some r→g s=some r):∀(n m:Nat),n≤m→∀{s r},rounds f n s=some r→rounds g m s=some r:=by
 intro n
 induction n with
 |zero=>intro m _ s r hr;simp[rounds]at hr
 |succ n ih=>
  intro m hm s r hr
  obtain⟨m,rfl⟩:∃k,m=k+1:=⟨m-1,by omega⟩
  simp only[rounds]at *
  cases hx:f s with
  |none=>simp[hx]at hr
  |some p=>
   rw[h _ _ hx]
   rw[hx]at hr
   obtain⟨e,s'⟩:=p
   cases e with
   |normal=>exact ih m (by omega) hr
   |exit id=>exact hr
   |ret=>exact hr
theorem zfj{c d:Calls'}(h:Le c d){n m:Nat}(hnm:n≤m)(x:XCode):∀{s r},exCode c n x s=some r→exCode d m x s=some r:=by
 induction x with
 |skip=>intro s r hr;exact hr
 |region keep ops=>
  intro s r hr
  simp only[exCode]at *
  cases hx:exOps c s ops with
  |none=>simp[hx]at hr
  |some s'=>rw[hx]at hr;rw[zft h ops hx];exact hr
 |lregion keep ops=>intro s r h;cases h
 |seq a b iha ihb=>
  intro s r hr
  simp only[exCode]at *
  cases hx:exCode c n a s with
  |none=>simp[hx]at hr
  |some p=>
   rw[iha hx]
   rw[hx]at hr
   obtain⟨e,s'⟩:=p
   cases e with
   |normal=>exact ihb hr
   |exit id=>exact hr
   |ret=>exact hr
 |cond k a b iha ihb=>
  intro s r hr
  simp only[exCode]at *
  split at hr
  ·split at hr
   ·rename_i ht;simp only[ht,if_true];exact iha hr
   ·rename_i ht;simp only[ht,if_false];exact ihb hr
  ·cases hr
 |block id b ih=>
  intro s r hr
  simp only[exCode]at *
  cases hx:exCode c n b s with
  |none=>simp[hx]at hr
  |some p=>rw[ih hx];rw[hx]at hr;exact hr
 |loop keep b ih=>
  intro s r hr
  simp only[exCode]at *
  exact zrb (fun s r hs=>ih hs) n m hnm hr
 |exit id=>intro s r hr;exact hr
 |ret=>intro s r hr;exact hr
 |rangeF f ps keep as b=>intro s r hr;cases hr
theorem zfk{c d:Calls'}(h:Le c d){n m:Nat}(hnm:n≤m){f:XFun}{as:List AV}{q:Mem}{r}(hr:exFun c n f as q=some r):exFun d m f as q=some r:=by
 unfold exFun at *
 cases hx:exCode c n f.body { k:=q.length,env:=enter 0 as,mem:=q }with
 |none=>simp[hx]at hr
 |some p=>rw[zfj h hnm f.body hx];rw[hx]at hr;exact hr
section
variable (code:Nat→Option XFun) (ext:Calls')
theorem zb3(n:Nat):Le (callN code ext n) (callN code ext (n+1)):=by
 induction n with
 |zero=>intro f a m r h;simp[callN]at h
 |succ n ih=>
  intro f a m r h
  unfold callN at h ⊢
  cases hc:code f with
  |none=>
   simp only[hc]at h ⊢
   split at h
   ·cases h
   ·rename_i hy;rw[if_neg hy];exact h
  |some x=>simp only[hc]at h ⊢;exact zfk ih (Nat.le_succ n) h
theorem zb2 {n m : Nat} (h : n ≤ m) : Le (callN code ext n) (callN code ext m) := by
  induction m with
  | zero => obtain rfl : n = 0 := by omega
            exact fun _ _ _ _ h => h
  | succ m ih =>
    rcases Nat.lt_or_ge n (m + 1) with h' | h'
    · exact fun f a q r hr => zb3 code ext m f a q r (ih (by omega) f a q r hr)
    · obtain rfl : n = m + 1 := by omega
      exact fun _ _ _ _ h => h
open Classical in
noncomputable def callW:Calls':=fun f a m=>if h:∃r,∃n,callN code ext n f a m=some r then some (Classical.choose h)else none
theorem zb6{f:Nat}{a:List AV}{m:Mem}{r:AV×Mem}:callW code ext f a m=some r↔ ∃n,callN code ext n f a m=some r:=by
 unfold callW
 constructor
 ·intro h
  split at h
  ·rename_i hx
   obtain⟨n,hn⟩:=Classical.choose_spec hx
   have:Classical.choose hx=r:=by simpa using h
   exact⟨n,this▸hn⟩
  ·cases h
 ·rintro⟨n,hn⟩
  have hx:∃r,∃n,callN code ext n f a m=some r:=⟨r,n,hn⟩
  rw[dif_pos hx]
  obtain⟨k,hk⟩:=Classical.choose_spec hx
  have h1:=zb2 code ext (Nat.le_max_left n k) f a m r hn
  have h2:=zb2 code ext (Nat.le_max_right n k) f a m _ hk
  rw[h1]at h2
  exact h2.symm
theorem zaa(n:Nat):Le (callN code ext n) (callW code ext):=fun _ _ _ _ h=>(zb6 code ext).2 ⟨n,h⟩
open Classical in
noncomputable def den (x:XCode) (s:St):Option (XExit×St):=if h:∃r,∃n,exCode (callW code ext) n x s=some r then some (Classical.choose h)else none
theorem zeg{x:XCode}{s:St}{r}:den code ext x s=some r↔ ∃n,exCode (callW code ext) n x s=some r:=by
 unfold den
 constructor
 ·intro h
  split at h
  ·rename_i hx
   obtain⟨n,hn⟩:=Classical.choose_spec hx
   have:Classical.choose hx=r:=by simpa using h
   exact⟨n,this▸hn⟩
  ·cases h
 ·rintro⟨n,hn⟩
  have hx:∃r,∃n,exCode (callW code ext) n x s=some r:=⟨r,n,hn⟩
  rw[dif_pos hx]
  obtain⟨k,hk⟩:=Classical.choose_spec hx
  have h1:=zfj (c:=callW code ext) (d:=callW code ext) (fun _ _ _ _ h=>h) (Nat.le_max_left n k) x hn
  have h2:=zfj (c:=callW code ext) (d:=callW code ext) (fun _ _ _ _ h=>h) (Nat.le_max_right n k) x hk
  rw[h1]at h2
  exact h2.symm
theorem zfy{s:St}{fn:Nat}{as:List AV}{r}(h:exShare (callW code ext) s fn as=some r):∃n,exShare (callN code ext n) s fn as=some r:=by
 unfold exShare at *
 dsimp only at *
 generalize AV.ren.renL (place (order 0 (AV.refs.refsL as) s.mem)) as=l at *
 generalize s.mem.pickAll (order 0 (AV.refs.refsL as) s.mem)=q at *
 cases hc:callW code ext fn l q with
 |none=>simp[hc]at h
 |some p=>obtain⟨n,hn⟩:=(zb6 code ext).1 hc;simp only[hc]at h;exact⟨n,by simp only[hn];exact h⟩
theorem zfq{s:St}{op:XOp}{r}(h:exOp (callW code ext) s op=some r):∃n,exOp (callN code ext n) s op=some r:=by
 have view:∀fn as,exView (callW code ext) s fn as=some r→∃n,exView (callN code ext n) s fn as=some r:=by
  intro fn as h
  unfold exView at *
  cases ha:as.mapM (frz s.mem)with
  |none=>simp[ha]at h
  |some l=>
   simp only[ha]at h ⊢
   cases hc:callW code ext fn l []with
   |none=>simp[hc]at h
   |some p=>obtain⟨n,hn⟩:=(zb6 code ext).1 hc;simp only[hc]at h;exact⟨n,by simp only[hn];exact h⟩
 have own:∀fn as,exOwn (callW code ext) s fn as=some r→∃n,exOwn (callN code ext n) s fn as=some r:=by
  intro fn as h
  unfold exOwn at *
  cases ha:as.mapM (frz s.mem)with
  |none=>simp[ha]at h
  |some l=>
   simp only[ha]at h ⊢
   cases hc:callW code ext fn l []with
   |none=>simp[hc]at h
   |some p=>obtain⟨n,hn⟩:=(zb6 code ext).1 hc;simp only[hc]at h;exact⟨n,by simp only[hn];exact h⟩
 have share:∀fn as,exShare (callW code ext) s fn as=some r→∃n,exShare (callN code ext n) s fn as=some r:=fun fn as h=>zfy code ext h
 have peek:∀fn as,exPeek (callW code ext) s fn as=some r→∃n,exPeek (callN code ext n) s fn as=some r:=by
  intro fn as h
  unfold exPeek at *
  dsimp only at *
  generalize AV.ren.renL (place (order 0 (AV.refs.refsL as) s.mem)) as=l at *
  cases hc:callW code ext fn l (s.mem.pickAll (order 0 (AV.refs.refsL as) s.mem))with
  |none=>simp[hc]at h
  |some p=>obtain⟨n,hn⟩:=(zb6 code ext).1 hc;simp only[hc]at h;exact⟨n,by simp only[hn];exact h⟩
 have look:∀fn as,exLook (callW code ext) s fn as=some r→∃n,exLook (callN code ext n) s fn as=some r:=by
  intro fn as h
  unfold exLook at *
  dsimp only at *
  generalize AV.ren.renL (place (order 0 (AV.refs.refsL as) s.mem)) as=l at *
  cases hc:callW code ext fn l (s.mem.pickAll (order 0 (AV.refs.refsL as) s.mem))with
  |none=>simp[hc]at h
  |some p=>obtain⟨n,hn⟩:=(zb6 code ext).1 hc;simp only[hc]at h;exact⟨n,by simp only[hn];exact h⟩
 have whole:∀fn as,exWhole (callW code ext) s fn as=some r→∃n,exWhole (callN code ext n) s fn as=some r:=by
  intro fn as h
  unfold exWhole at *
  cases hc:callW code ext fn as s.mem with
  |none=>simp[hc]at h
  |some p=>obtain⟨n,hn⟩:=(zb6 code ext).1 hc;simp only[hc]at h;exact⟨n,by simp only[hn];exact h⟩
 cases op with
 |call mode fn args=>
  cases mode with
  |view=>exact view _ _ h
  |own=>exact own _ _ h
  |share=>exact share _ _ h
  |peek=>exact peek _ _ h
  |look=>exact look _ _ h
  |touch=>cases h
  |whole=>exact whole _ _ h
 |callV f args=>
  simp only[exOp]at h ⊢
  split at h
  ·rename_i heq;exact share _ _ h
  ·cases h
 |callW f args=>
  simp only[exOp]at h ⊢
  split at h
  ·rename_i heq;exact whole _ _ h
  ·cases h
 |_=>exact⟨0,h⟩
theorem zfn{s:St}{o:XO}{r}(h:exOne (callW code ext) s o=some r):∃n,exOne (callN code ext n) s o=some r:=by
 unfold exOne at *
 have hgo:∀(g:AV×St→St),(exOp (callW code ext) s o.op).map g=some r→∃n,(exOp (callN code ext n) s o.op).map g=some r:=by
  intro g hg
  cases hx:exOp (callW code ext) s o.op with
  |none=>simp[hx]at hg
  |some x=>obtain⟨n,hn⟩:=zfq code ext hx;exact⟨n,by rw[hn];rwa [hx]at hg⟩
 dsimp only at *
 split at h
 ·exact hgo _ h
 ·split at h
  ·rename_i heq
   split at h
   ·rename_i hcb;simp only[hcb,if_true];exact hgo _ h
   ·rename_i hcb;simp only[hcb,if_false];exact⟨0,h⟩
  ·exact⟨0,h⟩
  ·cases h
theorem zfs(l:List XO):∀{s r},exOps (callW code ext) s l=some r→∃n,exOps (callN code ext n) s l=some r:=by
 induction l with
 |nil=>intro s r h;exact⟨0,h⟩
 |cons o l ih=>
  intro s r h
  simp only[exOps]at *
  cases hx:exOne (callW code ext) s o with
  |none=>simp[hx]at h
  |some s'=>
   rw[hx]at h
   obtain⟨n,hn⟩:=zfn code ext hx
   obtain⟨k,hk⟩:=ih h
   exact⟨max n k,by rw[zfo (zb2 code ext (Nat.le_max_left n k)) hn];exact zft (zb2 code ext (Nat.le_max_right n k)) l hk⟩
theorem zra{f:St→Option (XExit×St)}{g:Nat→St→Option (XExit×St)}(hg:∀n m,n≤m→∀s r,g n s=some r→g m s=some r)(h:∀s r,f s=some r→∃n,g n s=some r):
  ∀(k:Nat) {s r},rounds f k s=some r→∃n,rounds (g n) k s=some r:=by
 intro k
 induction k with
 |zero=>intro s r hr;simp[rounds]at hr
 |succ k ih=>
  intro s r hr
  simp only[rounds]at *
  cases hx:f s with
  |none=>simp[hx]at hr
  |some p=>
   rw[hx]at hr
   obtain⟨n,hn⟩:=h _ _ hx
   obtain⟨e,s'⟩:=p
   cases e with
   |normal=>
    obtain⟨j,hj⟩:=ih hr
    exact⟨max n j,by rw[hg n _ (Nat.le_max_left n j) _ _ hn];exact zrb (hg j _ (Nat.le_max_right n j)) k k (Nat.le_refl k) hj⟩
   |exit id=>exact⟨n,by rw[hn];exact hr⟩
   |ret=>exact⟨n,by rw[hn];exact hr⟩
theorem zfi(k:Nat)(x:XCode):∀{s r},exCode (callW code ext) k x s=some r→∃n,exCode (callN code ext n) k x s=some r:=by
 induction x with
 |skip=>intro s r h;exact⟨0,h⟩
 |region keep ops=>
  intro s r h
  simp only[exCode]at *
  cases hx:exOps (callW code ext) s ops with
  |none=>simp[hx]at h
  |some s'=>rw[hx]at h;obtain⟨n,hn⟩:=zfs code ext ops hx;exact⟨n,by rw[hn];exact h⟩
 |lregion keep ops=>intro s r h;cases h
 |seq a b iha ihb=>
  intro s r h
  simp only[exCode]at *
  cases hx:exCode (callW code ext) k a s with
  |none=>simp[hx]at h
  |some p=>
   rw[hx]at h
   obtain⟨n,hn⟩:=iha hx
   obtain⟨e,s'⟩:=p
   cases e with
   |normal=>
    obtain⟨j,hj⟩:=ihb h
    exact⟨max n j,by rw[zfj (zb2 code ext (Nat.le_max_left n j)) (Nat.le_refl k) a hn];exact zfj (zb2 code ext (Nat.le_max_right n j)) (Nat.le_refl k) b hj⟩
   |exit id=>exact⟨n,by rw[hn];exact h⟩
   |ret=>exact⟨n,by rw[hn];exact h⟩
 |cond c a b iha ihb=>
  intro s r h
  simp only[exCode]at *
  split at h
  ·split at h
   ·rename_i ht;simp only[ht,if_true];exact iha h
   ·rename_i ht;simp only[ht,if_false];exact ihb h
  ·cases h
 |block id b ih=>
  intro s r h
  simp only[exCode]at *
  cases hx:exCode (callW code ext) k b s with
  |none=>simp[hx]at h
  |some p=>rw[hx]at h;obtain⟨n,hn⟩:=ih hx;exact⟨n,by rw[hn];exact h⟩
 |loop keep b ih=>
  intro s r h
  simp only[exCode]at *
  exact zra (f:=fun s=>exCode (callW code ext) k b (s.tidy keep)) (g:=fun n s=>exCode (callN code ext n) k b (s.tidy keep)) (fun n m hnm s r hs=>zfj (zb2 code ext hnm) (Nat.le_refl k) b hs) (fun s r hs=>ih hs) k h
 |exit id=>intro s r h;exact⟨0,h⟩
 |ret=>intro s r h;exact⟨0,h⟩
 |rangeF f ps keep as b=>intro s r h;cases h
theorem zef(s:St):den code ext .skip s=some (.normal,s):=(zeg code ext).2 ⟨0,rfl⟩
theorem zea(id:Nat)(s:St):den code ext (.exit id) s=some (.exit id,s):=(zeg code ext).2 ⟨0,rfl⟩
theorem zed(s:St):den code ext .ret s=some (.ret,s):=(zeg code ext).2 ⟨0,rfl⟩
theorem znm{α:Type}{a b:Option α}(h:∀r,a=some r↔b=some r):a=b:=by
 cases a with
 |none=>cases b with
  |none=>rfl
  |some y=>exact absurd ((h y).2 rfl) (by simp)
 |some x=>exact((h x).1 rfl).symm
theorem zec(keep:List Nat)(ops:List XO)(s:St):
  den code ext (.region keep ops) s=(exOps (callW code ext) s ops).map fun s'=>(.normal,{ s' with env:=s'.env.keep keep }):=by
 refine znm fun r=>⟨fun h=>?_,fun h=>(zeg code ext).2 ⟨0,h⟩⟩
 obtain⟨n,hn⟩:=(zeg code ext).1 h
 exact hn
def andThen(p:Option (XExit×St))(f:St→Option (XExit×St)):Option (XExit×St):=
 match p with
 |some (.normal,s)=>f s
 |r=>r
theorem zee(a b:XCode)(s:St):den code ext (.seq a b) s=andThen (den code ext a s) (den code ext b):=by
 refine znm fun r=>⟨fun h=>?_,fun h=>?_⟩
 ·obtain⟨n,hn⟩:=(zeg code ext).1 h
  simp only[exCode]at hn
  cases hx:exCode (callW code ext) n a s with
  |none=>simp[hx]at hn
  |some p=>
   rw[hx]at hn
   rw[(zeg code ext).2 ⟨n,hx⟩]
   obtain⟨e,s'⟩:=p
   cases e with
   |normal=>exact(zeg code ext).2 ⟨n,hn⟩
   |exit id=>exact hn
   |ret=>exact hn
 ·cases hx:den code ext a s with
  |none=>simp[hx,andThen]at h
  |some p=>
   rw[hx]at h
   obtain⟨n,hn⟩:=(zeg code ext).1 hx
   obtain⟨e,s'⟩:=p
   cases e with
   |normal=>
    obtain⟨k,hk⟩:=(zeg code ext).1 h
    refine(zeg code ext).2 ⟨max n k,?_⟩
    simp only[exCode]
    rw[zfj (c:=callW code ext) (fun _ _ _ _ h=>h) (Nat.le_max_left n k) a hn]
    exact zfj (c:=callW code ext) (fun _ _ _ _ h=>h) (Nat.le_max_right n k) b hk
   |exit id=>exact(zeg code ext).2 ⟨n,by simp only[exCode];rw[hn];exact h⟩
   |ret=>exact(zeg code ext).2 ⟨n,by simp only[exCode];rw[hn];exact h⟩
theorem zd9(c:Src)(a b:XCode)(s:St)(t:Bool)(h:s.env.ev c=.imm (.val (.bool t))):den code ext (.cond c a b) s=if t then den code ext a s else den code ext b s:=by
 refine znm fun r=>⟨fun hr=>?_,fun hr=>?_⟩
 ·obtain⟨n,hn⟩:=(zeg code ext).1 hr
  simp only[exCode,h]at hn
  cases t
  ·exact(zeg code ext).2 ⟨n,hn⟩
  ·exact(zeg code ext).2 ⟨n,hn⟩
 ·cases t
  ·obtain⟨n,hn⟩:=(zeg code ext).1 hr
   exact(zeg code ext).2 ⟨n,by simp only[exCode,h];exact hn⟩
  ·obtain⟨n,hn⟩:=(zeg code ext).1 hr
   exact(zeg code ext).2 ⟨n,by simp only[exCode,h];exact hn⟩
def blockOut(id:Nat)(p:Option (XExit×St)):Option (XExit×St):=
 match p with
 |some (.exit j,s)=>if j=id then some (.normal,s)else some (.exit j,s)
 |r=>r
theorem zd8(id:Nat)(b:XCode)(s:St):den code ext (.block id b) s=blockOut id (den code ext b s):=by
 refine znm fun r=>⟨fun h=>?_,fun h=>?_⟩
 ·obtain⟨n,hn⟩:=(zeg code ext).1 h
  simp only[exCode]at hn
  cases hx:exCode (callW code ext) n b s with
  |none=>simp[hx]at hn
  |some p=>rw[(zeg code ext).2 ⟨n,hx⟩];rw[hx]at hn;exact hn
 ·cases hx:den code ext b s with
  |none=>simp[hx,blockOut]at h
  |some p=>
   obtain⟨n,hn⟩:=(zeg code ext).1 hx
   rw[hx]at h
   exact(zeg code ext).2 ⟨n,by simp only[exCode];rw[hn];exact h⟩
theorem zeb(keep:List Nat)(b:XCode)(s:St):den code ext (.loop keep b) s=andThen (den code ext b (s.tidy keep)) (den code ext (.loop keep b)):=by
 refine znm fun r=>⟨fun h=>?_,fun h=>?_⟩
 ·obtain⟨n,hn⟩:=(zeg code ext).1 h
  simp only[exCode]at hn
  cases n with
  |zero=>simp[rounds]at hn
  |succ n=>
   simp only[rounds]at hn
   cases hx:exCode (callW code ext) (n+1) b (s.tidy keep)with
   |none=>simp[hx]at hn
   |some p=>
    rw[(zeg code ext).2 ⟨n+1,hx⟩]
    rw[hx]at hn
    obtain⟨e,s'⟩:=p
    cases e with
    |normal=>exact(zeg code ext).2 ⟨n+1,by simp only[exCode];exact zrb (fun _ _ h=>h) n (n+1) (Nat.le_succ n) hn⟩
    |exit id=>exact hn
    |ret=>exact hn
 ·cases hx:den code ext b (s.tidy keep)with
  |none=>simp[hx,andThen]at h
  |some p=>
   rw[hx]at h
   obtain⟨n,hn⟩:=(zeg code ext).1 hx
   obtain⟨e,s'⟩:=p
   cases e with
   |normal=>
    obtain⟨k,hk⟩:=(zeg code ext).1 h
    refine(zeg code ext).2 ⟨max n k+1,?_⟩
    simp only[exCode,rounds]at hk ⊢
    rw[zfj (c:=callW code ext) (d:=callW code ext) (fun _ _ _ _ h=>h) (m:=max n k+1) (by omega) b hn]
    exact zrb (fun s r hs=>zfj (c:=callW code ext) (d:=callW code ext) (fun _ _ _ _ h=>h) (by omega) b hs) k (max n k) (by omega) hk
   |exit id=>
    refine(zeg code ext).2 ⟨n+1,?_⟩
    simp only[exCode,rounds]
    rw[zfj (c:=callW code ext) (d:=callW code ext) (fun _ _ _ _ h=>h) (m:=n+1) (by omega) b hn]
    exact h
   |ret=>
    refine(zeg code ext).2 ⟨n+1,?_⟩
    simp only[exCode,rounds]
    rw[zfj (c:=callW code ext) (d:=callW code ext) (fun _ _ _ _ h=>h) (m:=n+1) (by omega) b hn]
    exact h
def funOut(f:XFun)(p:Option (XExit×St)):Option (AV×Mem):=
 match p with
 |some (.normal,s)|some (.ret,s)=>leave s f
 |_=>none
theorem zb5{fn:Nat}{f:XFun}(hf:code fn=some f)(as:List AV)(m:Mem):
  callW code ext fn as m=funOut f (den code ext f.body { k:=m.length,env:=enter 0 as,mem:=m }):=by
 refine znm fun r=>⟨fun h=>?_,fun h=>?_⟩
 ·obtain⟨n,hn⟩:=(zb6 code ext).1 h
  cases n with
  |zero=>simp[callN]at hn
  |succ n=>
   simp only[callN,hf,exFun]at hn
   cases hx:exCode (callN code ext n) n f.body { k:=m.length,env:=enter 0 as,mem:=m }with
   |none=>simp[hx]at hn
   |some p=>
    rw[(zeg code ext).2 ⟨n,zfj (zaa code ext n) (Nat.le_refl n) f.body hx⟩]
    rw[hx]at hn
    exact hn
 ·cases hx:den code ext f.body { k:=m.length,env:=enter 0 as,mem:=m }with
  |none=>simp[hx,funOut]at h
  |some p=>
   rw[hx]at h
   obtain⟨n,hn⟩:=(zeg code ext).1 hx
   obtain⟨k,hk⟩:=zfi code ext n f.body hn
   refine(zb6 code ext).2 ⟨max n k+1,?_⟩
   simp only[callN,hf,exFun]
   rw[zfj (zb2 code ext (Nat.le_max_right n k)) (Nat.le_max_left n k) f.body hk]
   exact h
theorem zb4{fn:Nat}(hf:code fn=none)(hy:fn≠yieldNo)(as:List AV)(m:Mem):callW code ext fn as m=ext fn as m:=by
 refine znm fun r=>⟨fun h=>?_,fun h=>(zb6 code ext).2 ⟨1,by simpa [callN,hf,hy]using h⟩⟩
 obtain⟨n,hn⟩:=(zb6 code ext).1 h
 cases n with
 |zero=>simp[callN]at hn
 |succ n=>simpa [callN,hf,hy]using hn
end
end Go.EX


namespace Go.EX
section
variable {num:Names} {P:Program}
def exitOf:XExit→Exit
 |.normal=>.normal
 |.exit id=>.exit id
 |.ret=>.ret
theorem zuq{C:Cx}{s:St}{a:Act}(hs:SRep num C s a)(keep:List Nat):∃D,D.w=C.w∧Later num s.k C s.mem a D (s.tidy keep) a:=by
 obtain⟨D,hw,h1,h2,h3⟩:=zur hs keep
 exact⟨D,hw,h1,h2,h3,rfl,fun lo _ h=>h.step hs.mem h2⟩
theorem zif{C D:Cx}{m:Mem}{k:Nat}{s:St}{a a':Act}(h:Later num k C m a D s a')(keep:List Nat):Later num k C m a D { s with env:=s.env.keep keep } a':=
 ⟨⟨h.rep.mem,h.rep.env.keep keep,h.rep.k⟩,h.step,h.k,h.size,h.marks⟩
theorem zbk{call:Calls'}{n:Nat}{xc:XCode}{s:St}(h:(.cond (.c .nilFunc) .skip .skip:XCode)=xc.wipe):exCode call n xc s=none:=by
 cases xc<;>simp only[XCode.wipe,reduceCtorEq,XCode.cond.injEq]at h
 obtain⟨rfl,_,_⟩:=h
 rfl
theorem zdm{ro:Option Nat}{call:Calls'}(hcall:CallOK num P call)(hmix:P.follows .mixedOrders=true)(hL:∀a b ps N as bs,LoopOK P num a b ps N as bs→num.L a b ps N as bs){N n:Nat}:∀(c:Code) (xc:XCode) {s s':St} {e:XExit} {a:Act} {C:Cx} {Q:Exit→Act→World→Prop},tr P num N c=xc.wipe→drawsOk c xc=true→(ro=none∨xc.still=true)→
  exCode call n xc s=some (e,s')→SRep num C s a→N≤a.tmps.size→(∀D a',Later num s.k C s.mem a D s' a'→Q (exitOf e) a' D.w)→c.wpIn (fz ro) 0 P Q a C.w:=by
 intro c
 induction c with
 |skip=>
  intro xc s s' e a C Q htr _ _ h hs _ hQ
  cases xc<;>simp only[tr,XCode.wipe,reduceCtorEq]at htr
  cases h
  exact wpIn_skip (hQ C a (.refl hs))
 |exit id=>
  intro xc s s' e a C Q htr _ _ h hs _ hQ
  cases xc<;>simp only[tr,XCode.wipe,reduceCtorEq,XCode.exit.injEq]at htr
  subst htr
  cases h
  exact wpIn_exit (hQ C a (.refl hs))
 |ret=>
  intro xc s s' e a C Q htr _ _ h hs _ hQ
  cases xc<;>simp only[tr,XCode.wipe,reduceCtorEq]at htr
  cases h
  exact wpIn_ret (hQ C a (.refl hs))
 |region id ops draw=>
  intro xc s s' e a C Q htr hd hro h hs hN hQ
  cases xc<;>simp only[tr,XCode.wipe,reduceCtorEq,XCode.region.injEq,true_and]at htr
  case lregion keep xs=>cases h
  rename_i keep xs
  simp only[exCode]at h
  cases hx:exOps call s xs with
  |none=>rw[hx]at h;cases h
  |some s1=>
   rw[hx]at h
   cases h
   exact zp9 hcall hmix htr hd hs hN hx fun D a' hl=>hQ D a' (zif hl keep)
 |seq x y ihx ihy=>
  intro xc s s' e a C Q htr hd hro h hs hN hQ
  cases xc<;>simp only[tr,XCode.wipe,reduceCtorEq,XCode.seq.injEq]at htr
  rename_i x' y'
  simp only[drawsOk,Bool.and_eq_true]at hd
  simp only[exCode]at h
  cases hx:exCode call n x' s with
  |none=>rw[hx]at h;cases h
  |some p=>
   obtain⟨e1,s1⟩:=p
   rw[hx]at h
   refine wpIn_seq (ihx x' htr.1 hd.1 (hro.imp id fun h=>(Bool.and_eq_true_iff.1 h).1) hx hs hN fun D a' hl=>?_)
   cases e1 with
   |normal=>
    simp only[exitOf,Exit.then]
    exact ihy y' htr.2 hd.2 (hro.imp id fun h=>(Bool.and_eq_true_iff.1 h).2) h hl.rep (by rw[hl.size];exact hN) fun E a'' hl'=>hQ E a'' (hl.trans (by rw[hl.k]at hl';exact hl'))
   |exit id=>cases h;exact hQ D a' hl
   |ret=>cases h;exact hQ D a' hl
 |cond o x y ihx ihy=>
  intro xc s s' e a C Q htr hd hro h hs hN hQ
  simp only[tr]at htr
  split at htr
  ·rename_i o' ho
   cases xc<;>simp only[XCode.wipe,reduceCtorEq,XCode.cond.injEq]at htr
   rename_i o'' x' y'
   obtain⟨rfl,h1,h2⟩:=htr
   simp only[drawsOk,Bool.and_eq_true]at hd
   simp only[exCode]at h
   split at h
   ·rename_i t ht
    have hv:=zty hs ho ht
    refine wpIn_cond hv ?_
    cases t with
    |true=>simp only[if_true]at h ⊢;exact ihx x' h1 hd.1 (hro.imp id fun h=>(Bool.and_eq_true_iff.1 h).1) h hs hN hQ
    |false=>simp only[Bool.false_eq_true,if_false]at h ⊢;exact ihy y' h2 hd.2 (hro.imp id fun h=>(Bool.and_eq_true_iff.1 h).2) h hs hN hQ
   ·cases h
  ·rw[zbk htr]at h;cases h
 |block id b ih=>
  intro xc s s' e a C Q htr hd hro h hs hN hQ
  cases xc<;>simp only[tr,XCode.wipe,reduceCtorEq,XCode.block.injEq]at htr
  rename_i id' b'
  obtain⟨rfl,htr⟩:=htr
  simp only[drawsOk]at hd
  simp only[exCode]at h
  cases hx:exCode call n b' s with
  |none=>rw[hx]at h;cases h
  |some p=>
   obtain⟨e1,s1⟩:=p
   rw[hx]at h
   refine wpIn_block (ih b' htr hd hro hx hs hN fun D a' hl=>?_)
   cases e1 with
   |normal=>cases h;exact hQ D a' hl
   |exit j=>
    simp only at h
    split at h
    ·rename_i hj;cases h;simp only[exitOf,Exit.inBlock,hj,if_true];exact hQ D a' hl
    ·rename_i hj;cases h;simp only[exitOf,Exit.inBlock,hj,if_false];exact hQ D a' hl
   |ret=>cases h;exact hQ D a' hl
 |loop b ih=>
  intro xc s s' e a C Q htr hd hro h hs hN hQ
  cases xc<;>simp only[tr,XCode.wipe,reduceCtorEq,XCode.loop.injEq,true_and]at htr
  rename_i keep b'
  simp only[drawsOk]at hd
  simp only[exCode]at h
  have key:∀(m:Nat) (s:St) (a:Act) (C:Cx),rounds (fun s=>exCode call n b' (s.tidy keep)) m s=some (e,s')→SRep num C s a→N≤a.tmps.size→(∀D a',Later num s.k C s.mem a D s' a'→Q (exitOf e) a' D.w)→Code.roundsIn (fz ro) 0 P b Q m a C.w:=by
   intro m
   induction m with
   |zero=>intro s a C h;cases h
   |succ m ihm=>
    intro s a C h hs hN hQ
    simp only[rounds]at h
    obtain⟨D0,hw,h0⟩:=zuq hs keep
    rw[roundsIn_succ,←hw]
    cases hx:exCode call n b' (s.tidy keep)with
    |none=>rw[hx]at h;cases h
    |some p=>
     obtain⟨e1,s1⟩:=p
     rw[hx]at h
     refine ih b' htr hd hro hx h0.rep hN fun D a' hl=>?_
     rw[h0.k]at hl
     have hl:=h0.trans hl
     cases e1 with
     |normal=>
      simp only[exitOf,Exit.then]
      exact ihm s1 a' D h hl.rep (by rw[hl.size];exact hN) fun E a'' hl'=>hQ E a'' (hl.trans (by rw[hl.k]at hl';exact hl'))
     |exit id=>cases h;exact hQ D a' hl
     |ret=>cases h;exact hQ D a' hl
  exact wpIn_loop_rounds n (key n s a C h hs hN hQ)
 |scope b ih=>
  intro xc s s' e a C Q htr hd hro h hs hN hQ
  simp only[tr]at htr
  simp only[drawsOk]at hd
  refine zwj (ih xc htr hd hro h hs hN fun D a' hl=>?_)
  have:=hQ D a' hl
  cases e<;>exact this
 |label l=>
  intro xc s s' e a C Q htr _ _ h hs _ hQ
  cases xc<;>simp only[tr,XCode.wipe,reduceCtorEq]at htr
  cases h
  exact wpIn_label (hQ C a (.refl hs))
 |rangeFunc f ps x y=>
  intro xc s s' e a C Q htr hd hro h hs hN hQ
  simp only[tr]at htr
  split at htr
  ·rename_i f' hf
   split at htr
   ·rename_i hps
    cases xc<;>simp only[XCode.wipe,reduceCtorEq,XCode.rangeF.injEq,true_and]at htr
    rename_i f'' ps'' keep xa xb
    obtain⟨rfl,rfl,ha,hb⟩:=htr
    simp only[drawsOk,Bool.and_eq_true]at hd
    rcases hro with rfl|hro
    ·cases h
    ·cases hro
   ·rw[zbk htr]at h;cases h
  ·rw[zbk htr]at h;cases h
 |_=>
  intro xc s s' e a C Q htr _ _ h
  simp only[tr]at htr
  rw[zbk htr]at h;cases h
structure FunOK (P:Program) (num:FuncId→Nat) (f:FuncId) (xf:XFun):Prop where
 fn:∃fn c,P.funcs[f]?=some fn∧fn.name≠ "runtime.NumGoroutine" ∧fn.body=some c∧tr P num fn.ntmps c=xf.body.wipe∧drawsOk c xf.body=true∧fn.results.toList.map (trRes P)=XRes.outs xf.res∧(∀t ty,ResultVar.cell t ty∈fn.results→known P ty=true)
def resKnown(P:Program):ResultVar→Bool
 |.tmp _=>true
 |.cell _ ty=>known P ty
theorem FunOK.of {num:FuncId→Nat} {f:FuncId} {xf:XFun} {fn:Func} (h:P.funcs[f]?=some fn) (hn:(fn.name== "runtime.NumGoroutine")=false) (ht:fn.body.map (tr P num fn.ntmps)=some xf.body.wipe) (hd:fn.body.map (drawsOk · xf.body)=some true)
  (hr:fn.results.toList.map (trRes P)=XRes.outs xf.res) (hk:fn.results.toList.all (resKnown P)=true):FunOK P num f xf:=by
 cases hb:fn.body with
 |none=>rw[hb]at ht;cases ht
 |some c=>
  rw[hb]at ht hd
  refine⟨fn,c,h,by simpa using hn,hb,Option.some.inj ht,Option.some.inj hd,hr,fun t ty hm=>?_⟩
  exact List.all_eq_true.1 hk _ (Array.mem_toList_iff.2 hm)
def resSem(tmps:Array Value):ResultVar→Sem Value
 |.tmp t=>pure (tmps.getD t undef)
 |.cell a t=>do loadVar t (←asAddr (tmps.getD a undef))
theorem zqu(fn:Func)(tmps:Array Value):results fn tmps=(do let vs ←fn.results.mapM (resSem tmps);pure (if h:vs.size=1 then vs[0]else .tuple vs)):=by
 rfl
theorem zsd{fn:Func}{tmps:Array Value}{C:Cx}{s:St}{vs:List AV}(hm:MRep num C s.mem)(he:ERep num C s.env tmps)(hk:∀t ty,ResultVar.cell t ty∈fn.results→known P ty=true)(h:(fn.results.toList.map (trRes P)).mapM (resOf s)=some vs):
  ∃v,(results fn tmps).run P C.w=.ok v C.w∧ARep num C (wrapRes vs) v:=by
 have key:∀(l:List ResultVar) (vs:List AV),(∀t ty,ResultVar.cell t ty∈l→known P ty=true)→(l.map (trRes P)).mapM (resOf s)=some vs→
   ∃us:List Value,(l.mapM (resSem tmps)).run P C.w=.ok us C.w∧vs.length=us.length∧∀(j:Nat) (x:AV) (u:Value),vs[j]?=some x→us[j]?=some u→ARep num C x u:=by
  intro l
  induction l with
  |nil=>intro vs _ h;simp at h;subst h;exact⟨[],by simp,rfl,fun j x u hx _=>by simp at hx⟩
  |cons r l ih=>
   intro vs hk h
   simp only[List.map_cons,List.mapM_cons,Option.bind_eq_bind,Option.pure_def]at h
   cases hr:resOf s (trRes P r)with
   |none=>rw[hr]at h;simp at h
   |some x=>
    rw[hr]at h
    cases hrest:(l.map (trRes P)).mapM (resOf s)with
    |none=>rw[hrest]at h;simp at h
    |some xs=>
     rw[hrest]at h
     simp at h
     subst h
     obtain⟨us,h1,h2,h3⟩:=ih xs (fun t ty hm=>hk t ty (List.mem_cons_of_mem _ hm)) hrest
     have hone:∃u,(resSem tmps r).run P C.w=.ok u C.w∧ARep num C x u:=by
      cases r with
      |tmp t=>simp only[trRes,resOf,Option.some.injEq]at hr;subst hr;exact⟨tmps.getD t undef,by simp only[resSem,Sem.run_pure],he t⟩
      |cell t ty=>
       simp only[trRes,resOf]at hr
       obtain⟨b,o,u,hv,h4,h5⟩:=zsa (hk t ty (List.mem_cons_self ..)) hm (he t) hr
       refine⟨u,?_,h5⟩
       simp only[resSem,hv,asAddr,Sem.run_bind,Sem.run_pure,Result.andThen_ok,h4]
     obtain⟨u,h4,h5⟩:=hone
     refine⟨u::us,?_,by simp[h2],fun j y z hy hz=>?_⟩
     ·rw[List.mapM_cons]
      simp[h4,h1]
     ·cases j with
      |zero=>simp at hy hz;subst hy;subst hz;exact h5
      |succ j=>exact h3 j y z (by simpa using hy) (by simpa using hz)
 obtain⟨us,h1,h2,h3⟩:=key fn.results.toList vs (fun t ty hm=>hk t ty (Array.mem_toList_iff.1 hm)) h
 have hrun:(results fn tmps).run P C.w=.ok (if h:us.toArray.size=1 then us.toArray[0]else .tuple us.toArray) C.w:=by
  rw[zqu,Array.mapM_eq_mapM_toList]
  simp[h1]
 refine⟨_,hrun,?_⟩
 cases vs with
 |nil=>
  have:us=[]:=by simpa using h2.symm
  subst this
  exact .tup [] #[] rfl fun j x u hx _=>by simp at hx
 |cons x r=>
  cases us with
  |nil=>simp at h2
  |cons u us=>
   cases r with
   |nil=>
    have:us=[]:=by simpa using h2.symm
    subst this
    exact h3 0 x u rfl rfl
   |cons y r=>
    cases us with
    |nil=>simp at h2
    |cons u' us=>
     simp only[wrapRes]
     rw[dif_neg (by simp)]
     exact .tup _ _ (by simpa using h2) fun j x u hx hu=>h3 j x u hx (by simpa using hu)
theorem ze4:∀(l:List AV) (i t:Nat),(enter i l).get t=if i≤t then(l[t-i]?).getD .junk else .junk
 |[],i,t=>by simp[enter,Env.get]
 |x::r,i,t=>by
  simp only[enter,Env.get]
  by_cases h:t=i
  ·subst h;simp
  ·rw[if_neg h,ze4 r (i+1) t]
   by_cases h':i≤t
   ·have h1:i+1≤t:=by omega
    have h2:t-i=(t-(i+1))+1:=by omega
    rw[if_pos h',if_pos h1,h2];simp
   ·rw[if_neg h',if_neg (by omega)]
theorem zwi{F:Fence}{n:Nat}{c:Code}{Q Q':Exit→Act→World→Prop}{a:Act}{w:World}(h:c.wpIn F n P Q a w)(hq:∀e a w,Q e a w→Q' e a w):c.wpIn F n P Q' a w:=Code.wpIn_mono hq h
theorem zi8{fn:Func}{k:Nat}{C:Cx}{m m1:Mem}{e:Env}{tmps:Array Value}{R:Ending→World→Prop}:∀{ds:List Deferred} {D:Cx},Step num k C m D m1→ERep num D e tmps→Marked C.w.heap.size D ds→
  (∀D,Step num k C m D m1→ERep num D e tmps→∃v,(results fn tmps).run P D.w=.ok v D.w∧R (.returned v) D.w)→LeavesInM Fence.wide 0 P fn tmps R ds .returning D.w:=by
 intro ds
 induction ds with
 |nil=>intro D hst hen _ h;exact h D hst hen
 |cons d ds ih=>
  intro D hst hen hmk h
  obtain⟨rs,h1,h2,h3⟩:=hmk
  cases rs with
  |nil=>cases h1
  |cons r rs=>
   simp only[List.map_cons,List.cons.injEq]at h1
   obtain⟨rfl,rfl⟩:=h1
   obtain⟨hr,hrs⟩:=List.nodup_cons.1 h2
   obtain⟨g1,g2,g3⟩:=h3 r (List.mem_cons_self ..)
   have hc:∀arr e fz,D.w.heap[r]?≠some (.cells arr e fz):=fun arr e fz h=>by rw[g2]at h;cases h
   have hown:¬Own D m1 r:=fun ho=>by
    rcases zn4 hst.rep ho with⟨_,_,_,h⟩|⟨_,_,h⟩|⟨_,h⟩|⟨_,_,h⟩<;>rw[g2]at h<;>cases h
   refine⟨by simp,.inl ⟨r,D.w.putObj r (.deferred none),rfl,run_takeDeferred g2,?_⟩⟩
   refine ih (D:={ D with w:=D.w.putObj r (.deferred none) }) (zpa hst g1 g3 hc hown) (hen.mono (zpb g3 hc)) ⟨rs,rfl,hrs,fun q hq=>?_⟩ h
   obtain⟨q1,q2,q3⟩:=h3 q (List.mem_cons_of_mem _ hq)
   exact⟨q1,(World.putObj_heap_other fun h=>hr (by rw[←h];exact hq)).trans q2,q3⟩
theorem fun_ok{call:Calls'}(hcall:CallOK num P call)(hmix:P.follows .mixedOrders=true)(hL:∀a b ps N as bs,LoopOK P num a b ps N as bs→num.L a b ps N as bs){n:Nat}{f:FuncId}{xf:XFun}(hf:FunOK P num f xf){args:List AV}{m m':Mem}{r:AV}{C:Cx}{vals:Array Value}(h:exFun call n xf args m=some (r,m'))(hm:MRep num C m)(hl:args.length=vals.size)
  (hr:∀(j:Nat) (x:AV) (u:Value),args[j]?=some x→vals[j]?=some u→ARep num C x u):
  Callable P f∧Calls P f vals C.w (fun e w'=>∃v D,e=.returned v∧D.w=w'∧Step num m.length C m D m'∧ARep num D r v):=by
 obtain⟨fn,c,h1,h2,h3,h4,h5,h6,h7⟩:=hf.fn
 refine⟨⟨fn,h1,h2,by rw[h3];rfl⟩,(callsIn_wide (n:=0)).1 (callsIn_of_wp_marks h1 h3 trivial ?_)⟩
 generalize ha:({ tmps:=vals++Array.replicate (fn.ntmps-vals.size) undef,defers:=[] }:Act)=a
 have hN:fn.ntmps≤a.tmps.size:=by rw[←ha];simp;omega
 have hs:SRep num C { k:=m.length,env:=enter 0 args,mem:=m } a:=by
  refine⟨hm,fun t=>?_,Nat.le_refl _⟩
  rw[ze4]
  simp only[Nat.zero_le,if_true,Nat.sub_zero]
  cases hx:args[t]? with
  |none=>exact .junk _
  |some x=>
   have ht:t<vals.size:=by rw[←hl];exact(List.getElem?_eq_some_iff.1 hx).1
   have:a.tmps.getD t undef=vals[t]:=by
    rw[←ha]
    simp only[Array.getD_eq_getD_getElem?,Array.getElem?_append,if_pos ht]
    simp[ht]
   rw[this]
   exact hr t x vals[t] hx (by simp[ht])
 have hmk0:Marked C.w.heap.size C a.defers:=⟨[],by rw[←ha];rfl,List.nodup_nil,fun r hr=>by cases hr⟩
 have hdone:∀{s:St},leave s xf=some (r,m')→∀D a',Later num m.length C m a D s a'→LeavesInM Fence.wide 0 P fn a'.tmps (fun e w'=>∃v D,e=.returned v∧D.w=w'∧Step num m.length C m D m'∧ARep num D r v) a'.defers .returning D.w:=by
  intro s hlv D a' hlat
  refine zi8 hlat.step hlat.rep.env (hlat.marks _ (Nat.le_refl _) hmk0) fun D hst hen=>?_
  unfold leave at hlv
  cases hv:(XRes.outs xf.res).mapM (resOf s)with
  |none=>rw[hv]at hlv;cases hlv
  |some vs=>
   rw[hv]at hlv
   rw[←h6]at hv
   obtain⟨v,hrun,hx⟩:=zsd hst.rep hen h7 hv
   refine⟨v,hrun,v,?_⟩
   simp only[Option.map_some]at hlv
   split at hlv
   ·cases hlv
    exact⟨D,rfl,rfl,hst,hx⟩
   split at hlv
   ·cases hlv
    exact⟨D,rfl,rfl,hst,hx⟩
   ·cases hlv
    have hst1:=zol hst.rep (k:=s.k) hlat.rep.k (wrapRes vs).refs
    have hst':Step num m.length D s.mem (D.pick (order s.k (wrapRes vs).refs s.mem)) (s.mem.pickAll (order s.k (wrapRes vs).refs s.mem)):=hst1.le (by rw[hlat.k];exact Nat.le_refl _)
    exact⟨D.pick (order s.k (wrapRes vs).refs s.mem),rfl,rfl,hst.trans hst',hx.tr (zon _)⟩
 unfold exFun at h
 split at h
 ·rename_i s hx
  exact zwi (zdm (ro:=none) hcall hmix hL c xf.body h4 h5 (.inl rfl) hx hs hN (Q:=fun e a' w=>∃D,e=.normal∧D.w=w∧Later num m.length C m a D s a') fun D a' hlat=>⟨D,rfl,rfl,hlat⟩) fun e a' w ⟨D,h1,h2,h3⟩=>by
   subst h1 h2;exact hdone h D a' h3
 ·rename_i s hx
  exact zwi (zdm (ro:=none) hcall hmix hL c xf.body h4 h5 (.inl rfl) hx hs hN (Q:=fun e a' w=>∃D,e=.ret∧D.w=w∧Later num m.length C m a D s a') fun D a' hlat=>⟨D,rfl,rfl,hlat⟩) fun e a' w ⟨D,h1,h2,h3⟩=>by
   subst h1 h2;exact hdone h D a' h3
 ·cases h
theorem FunOK.one {num:FuncId→Nat} {f:FuncId} {xf:XFun} {fn:Func} (h:P.funcs[f]?=some fn) (e:(fn.name== "runtime.NumGoroutine",fn.body.map (tr P num fn.ntmps),fn.body.map (drawsOk · xf.body),fn.results.toList.map (trRes P),fn.results.toList.all (resKnown P))=(false,some xf.body.wipe,some true,XRes.outs xf.res,true)):FunOK P num f xf:=
 .of h (congrArg (·.1) e) (congrArg (·.2.1) e) (congrArg (·.2.2.1) e) (congrArg (·.2.2.2.1) e) (congrArg (·.2.2.2.2) e)
structure Runs (P:Program) (num:Names) (code:Nat→Option XFun) (ext:Calls'):Prop where
 mix:P.follows .mixedOrders=true
 fns:∀f xf,code (num f)=some xf→FunOK P num f xf
 ext:ExtOK num P ext
 nz:∀f,num f≠yieldNo
 yld:code yieldNo=none
 loops:∀a b ps N as bs,LoopOK P num a b ps N as bs↔num.L a b ps N as bs
 seat:∀e n off,liesB P e n off=true→num.B e n off
 byte:∀e,isU8 P e=true→P.cellsOf e=1→num.U e
theorem zsg{code:Nat→Option XFun}{ext:Calls'}(h:Runs P num code ext):∀n,CallOK num P (callN code ext n)
 |0=>⟨fun f args m r m' C vals hc=>(by cases hc),fun args m r m' C l vals hc=>(by cases hc),h.seat,h.byte⟩
 |n+1=>by
  refine⟨fun f args m r m' C vals hc hm hl hr=>?_,fun args m r m' C l vals hc hm hl h0 hr=>?_,h.seat,h.byte⟩
  ·simp only[callN]at hc
   cases hf:code (num f)with
   |none=>rw[hf]at hc;simp only[h.nz f,if_false]at hc;exact h.ext f args m r m' C vals hc hm hl hr
   |some xf=>rw[hf]at hc;exact fun_ok (zsg h n) h.mix (fun a b ps N as bs=>(h.loops a b ps N as bs).1) (h.fns f xf hf) hc hm hl hr
  ·simp only[callN,h.yld,if_true]at hc
   cases hc
theorem zsh{code:Nat→Option XFun}{ext:Calls'}(h:Runs P num code ext):CallOK num P (callW code ext):=by
 refine⟨fun f args m r m' C vals hc hm hl hr=>?_,fun args m r m' C l vals hc hm hl h0 hr=>?_,h.seat,h.byte⟩
 ·obtain⟨n,hn⟩:=(zb6 code ext).1 hc
  exact(zsg h n).fn f args m r m' C vals hn hm hl hr
 ·obtain⟨n,hn⟩:=(zb6 code ext).1 hc
  exact(zsg h n).yld args m r m' C l vals hn hm hl h0 hr
theorem zmo:ExtOK num P (fun _ _ _=>none):=fun f args m r m' C vals hc=>by cases hc
end
end Go.EX


namespace Go.EX
open Go.RowKit
section
variable {num:Names} {P:Program} {code:Nat→Option XFun} {ext:Calls'}
def Cx.whole(w:World):Cx:={ σ:=fun _=>0,I:=fun b=>b<w.heap.size,n:=0,w:=w }
theorem zwa(w:World)(hG:num.G (fun b=>b<w.heap.size) w):MRep num (Cx.whole w) []:=
 ⟨rfl,fun id o h=>by simp at h,fun i j o p h=>by simp at h,fun b ⟨id,o,h,_⟩=>by simp at h,fun b h=>h,hG⟩
end
end Go.EX


namespace Go.EX
open Go.RowKit
structure Ty (α:Type) where
 sz:Nat
 agg:Bool
 enc:α→List IV
 wf:α→Prop
 len:∀x,(enc x).length=sz
def tInt(k:IntKind):Ty Int:=⟨1,false,fun n=>[.val (.int k n)],fun n=>(Lit.int k n).wf=true,fun _=>rfl⟩
def tBool:Ty Bool:=⟨1,false,fun b=>[.val (.bool b)],fun _=>True,fun _=>rfl⟩
def tStr:Ty ByteArray:=⟨1,false,fun s=>[.val (.string s)],fun s=>s.size≤140737488355328,fun _=>rfl⟩
def Reads{α:Type}(t:Ty α)(iv:IV)(xs:List α):Prop:=
 (∀x∈xs,t.wf x)∧xs.length≤140737488355328∧((iv=.val (.slice none 0 0)∧xs=[])∨
  ∃row off cap,iv=.slice row off xs.length cap∧(∀c,cap=some c→xs.length≤c)∧cut row off (xs.length*t.sz)=some (xs.flatMap t.enc))
structure Sl {α:Type} (t:Ty α) where
 iv:IV
 xs:List α
 ok:Reads t iv xs
def tSl{α:Type}(t:Ty α):Ty (Sl t):=⟨1,false,fun s=>[s.iv],fun _=>True,fun _=>rfl⟩
def tNil:Ty Unit:=⟨0,true,fun _=>[],fun _=>True,fun _=>rfl⟩
def tPair{α β:Type}(a:Ty α)(b:Ty β):Ty (α×β):=⟨a.sz+b.sz,true,fun x=>a.enc x.1++b.enc x.2,fun x=>a.wf x.1∧b.wf x.2,fun x=>by simp[a.len,b.len]⟩
def Ty.av{α:Type}(t:Ty α)(x:α):AV:=if t.agg then .agg ((t.enc x).map .imm)else match t.enc x with
 |[y]=>.imm y
 |_=>.junk
def ReadsAs{α:Type}(P:Program)(t:TypeId)(τ:Ty α):Prop:=
 ∀{H:Type} (enc:TypeId×Value→H) (w:World) (spare:Nat→Bool) (_:∀b,spare b=true) (fuel:Nat) (cs:List Value) (x:DataW H×List MemPlace),DataW.trod enc P w 0 spare true fuel t cs=some x→(DataW.weights P t x.1).all (· ≤reachBytes)=true→
  ∃d:α,τ.wf d∧cs.length=τ.sz∧∀(j:Nat) (y:IV) (u:Value),(τ.enc d)[j]?=some y→cs[j]?=some u→IRep (fun b=>b<w.heap.size) w y u
section
variable {P:Program} {t:TypeId}
theorem readsInt{k:IntKind}(ht:P.underlying t=some (.int k)):ReadsAs P t (tInt k):=by
 intro H enc w spare hsp fuel cs x h hwt
 obtain⟨n,rfl,_,hw⟩:=DataW.trod_int ht h
 refine⟨n,hw,rfl,fun j y u hy hu=>?_⟩
 cases j with
 |zero=>simp[tInt]at hy hu;subst hy;subst hu;exact .val _ rfl
 |succ j=>simp[tInt]at hy
theorem readsStr(ht:P.underlying t=some .string):ReadsAs P t tStr:=by
 intro H enc w spare hsp fuel cs x h hwt
 obtain⟨s,rfl,rfl,hs⟩:=DataW.trod_string ht h
 refine⟨s,by
  have h2:s.data.toList.length≤reachBytes:=by simpa [DataW.weights]using hwt
  have e:s.data.toList.length=s.size:=Array.length_toList
  have e2:reachBytes=140737488351232:=rfl
  show s.size≤140737488355328
  omega,rfl,fun j y u hy hu=>?_⟩
 cases j with
 |zero=>simp[tStr]at hy hu;subst hy;subst hu;exact .val _ rfl
 |succ j=>simp[tStr]at hy
theorem cells?_get{w:World}{base:Nat}{a:Addr}{n:Nat}{cs:List Value}(h:w.cells? base a n=some cs):cs.length=n∧∀j,j<n→w.cell? (a.add j)=cs[j]?:=by
 unfold World.cells? at h
 split at h
 ·refine⟨by simpa using mapM_some_length h,fun j hj=>?_⟩
  exact mapM_some_get h j j (by simp[hj])
 ·cases h
theorem zgg{α β:Type}(f:α→List β)(n:Nat)(hn:0<n)(hf:∀x,(f x).length=n):∀(l:List α) (j:Nat),(l.flatMap f)[j]?=(l[j / n]?).bind fun x=>(f x)[j%n]?
 |[],j=>by simp
 |x::r,j=>by
  rw[List.flatMap_cons,List.getElem?_append,hf x]
  by_cases h:j<n
  ·rw[if_pos h,Nat.div_eq_of_lt h,Nat.mod_eq_of_lt h];rfl
  ·rw[if_neg h,zgg f n hn hf r (j-n)]
   have h1:j / n=(j-n) / n+1:=by
    rw[←Nat.div_eq_sub_div hn (by omega)]
   have h2:j%n=(j-n)%n:=Nat.mod_eq_sub_mod (by omega)
   rw[h1,h2];rfl
theorem zgh{α β:Type}(f:α→List β)(n:Nat)(hf:∀x,(f x).length=n):∀(l:List α),(l.flatMap f).length=l.length*n
 |[]=>by simp
 |x::r=>by rw[List.flatMap_cons,List.length_append,hf x,zgh f n hf r,List.length_cons,Nat.add_mul,Nat.one_mul,Nat.add_comm]
theorem zdv{α:Type}(l:List α){n:Nat}(h:l.length=n):cut l 0 n=some l:=by
 subst h
 simp[cut]
theorem zcm{α:Type}(n:Nat)(p:Nat→α→Prop)(h:∀i,i<n→∃x,p i x):∃l:List α,l.length=n∧∀i x,l[i]?=some x→p i x:=by
 induction n with
 |zero=>exact⟨[],rfl,fun i x hx=>by simp at hx⟩
 |succ n ih=>
  obtain⟨l,h1,h2⟩:=ih fun i hi=>h i (by omega)
  obtain⟨x,hx⟩:=h n (by omega)
  refine⟨l++[x],by simp[h1],fun i y hy=>?_⟩
  rw[List.getElem?_append]at hy
  split at hy
  ·exact h2 i y hy
  ·have:i=n:=by
    have:=(List.getElem?_eq_some_iff.1 hy).1
    simp at this;omega
   subst this
   simp[h1]at hy
   subst hy;exact hx
theorem zv1{H:Type}{e:TypeId}:∀(l:List (DataW H)),(DataW.weightsAll P e l).all (· ≤reachBytes)=true→∀(i:Nat) (d:DataW H),l[i]?=some d→(DataW.weights P e d).all (· ≤reachBytes)=true
 |[],_,i,d,h=>by simp at h
 |x::l,hw,i,d,h=>by
  simp only[DataW.weightsAll,List.all_append,Bool.and_eq_true]at hw
  cases i with
  |zero=>simp at h;subst h;exact hw.1
  |succ i=>exact zv1 l hw.2 i d (by simpa using h)
theorem zv2{H:Type}:∀(ts:List TypeId) (l:List (DataW H)),(DataW.weightsEach P ts l).all (· ≤reachBytes)=true→∀(i:Nat) (t:TypeId) (d:DataW H),ts[i]?=some t→l[i]?=some d→(DataW.weights P t d).all (· ≤reachBytes)=true
 |[],_,_,i,t,d,h,_=>by simp at h
 |_::_,[],_,i,t,d,_,h=>by simp at h
 |t0::ts,x::l,hw,i,t,d,ht,h=>by
  simp only[DataW.weightsEach,List.all_append,Bool.and_eq_true]at hw
  cases i with
  |zero=>simp at h ht;subst h;subst ht;exact hw.1
  |succ i=>exact zv2 ts l hw.2 i t d (by simpa using ht) (by simpa using h)
theorem readsSl{α:Type}{e:TypeId}{τ:Ty α}(ht:P.underlying t=some (.slice e))(he:ReadsAs P e τ)(hc:P.cellsOf e=τ.sz)(h0:0<τ.sz)(hby:0<P.bytesOf e):ReadsAs P t (tSl τ):=by
 intro H enc w spare hsp fuel cs x h hwt
 have hlt:=DataW.trod_lt _ _ _ _ h
 rcases DataW.trod_slice ht h with⟨rfl,_⟩|⟨a,len,cap,elems,rest,n,_,rfl,rfl,hb,hl,hm,hel,h1,h2,_⟩
 ·refine⟨⟨.val (.slice none 0 0),[],fun x hx=>(by cases hx),by simp,.inl ⟨rfl,rfl⟩⟩,trivial,rfl,fun j y u hy hu=>?_⟩
  cases j with
  |zero=>simp[tSl]at hy hu;subst hy;subst hu;exact .val _ rfl
  |succ j=>simp[tSl]at hy
 ·obtain⟨hr,h3⟩:=h2 (hsp _)
  simp only[DataW.weights,ht,List.all_cons,List.all_append,Bool.and_eq_true,decide_eq_true_eq,List.length_map]at hwt
  have hlong:elems.length+rest.length≤reachBytes:=Nat.le_trans (Nat.le_mul_of_pos_right _ hby) hwt.1
  have hwe:=hwt.2.1
  have hone:∀i,i<len→∃d:α,τ.wf d∧∀j y,(τ.enc d)[j]?=some y→∃u,w.cell? ((a.add (i*τ.sz)).add j)=some u∧IRep (fun b=>b<w.heap.size) w y u:=by
   intro i hi
   have h4:=h1 i hi
   have hei:∃z,elems[i]?=some z:=by
    have hie:i<elems.length:=by omega
    exact⟨_,List.getElem?_eq_getElem hie⟩
   obtain⟨z,hz⟩:=hei
   rw[hz]at h4
   rw[Option.bind_eq_some_iff]at h4
   obtain⟨cs,h5,h6⟩:=h4
   obtain⟨d,hd,hlen,hrep⟩:=he enc w spare hsp n cs z h6 (zv1 _ hwe i z.1 (by rw[List.getElem?_map,hz];rfl))
   obtain⟨h7,h8⟩:=cells?_get h5
   refine⟨d,hd,fun j y hy=>?_⟩
   have hj:j<cs.length:=by
    rw[hlen]
    have:=(List.getElem?_eq_some_iff.1 hy).1
    rw[τ.len]at this;exact this
   refine⟨cs[j],?_,hrep j y _ hy (List.getElem?_eq_getElem hj)⟩
   have:=h8 j (by rw[←h7];exact hj)
   rw[hc]at this
   rw[this];exact List.getElem?_eq_getElem hj
  obtain⟨xs,hxl,hxs⟩:=zcm len _ hone
  have hmax:xs.length≤140737488355328:=by have e:reachBytes=140737488351232:=rfl;omega
  refine⟨⟨.slice (xs.flatMap τ.enc) 0 xs.length (some cap),xs,fun x hx=>?_,by omega,.inr ⟨_,0,some cap,rfl,fun c hc=>by cases hc;omega,zdv _ (zgh _ _ τ.len xs)⟩⟩,trivial,rfl,fun j y u hy hu=>?_⟩
  ·obtain⟨i,hi,rfl⟩:=List.mem_iff_getElem.1 hx
   exact(hxs i _ (List.getElem?_eq_getElem hi)).1
  cases j with
  |succ j=>simp[tSl]at hy
  |zero=>
   simp[tSl]at hy hu;subst hy;subst hu
   by_cases hcap:cap=0
   ·subst hcap
    have:len=0:=by omega
    subst this
    rw[hxl]
    exact .vac _ 0 a
   ·have hblk:a.block<w.heap.size:=by
     have hin:MemPlace.cell a.block a.off∈MemPlace.row a ((elems.length+rest.length)*P.cellsOf e):=by
      simp only[MemPlace.row,List.mem_map,List.mem_range]
      refine⟨0,?_,by simp⟩
      exact Nat.mul_pos (by omega) (by omega)
     exact hlt _ (List.mem_append_left _ hin)
    have hspot:a.spot=none:=by
     have:∃z cs,w.cells? 0 a (P.cellsOf e)=some cs∧z=cs:=by
      by_cases hl0:0<len
      ·have h4:=h1 0 hl0
       have hie:0<elems.length:=by omega
       rw[List.getElem?_eq_getElem hie,Option.bind_eq_some_iff]at h4
       obtain⟨cs,h5,_⟩:=h4
       simp[Addr.add]at h5
       exact⟨cs,cs,h5,rfl⟩
      ·have h4:=h3 0 (by omega)
       have hie:0<rest.length:=by omega
       rw[List.getElem?_eq_getElem hie,Option.bind_eq_some_iff]at h4
       obtain⟨cs,h5,_⟩:=h4
       have:len=0:=by omega
       subst this
       simp[Addr.add]at h5
       exact⟨cs,cs,h5,rfl⟩
     obtain⟨_,cs,h5,_⟩:=this
     obtain⟨h7,h8⟩:=cells?_get h5
     have h9:=h8 0 (by omega)
     have hj:0<cs.length:=by omega
     rw[List.getElem?_eq_getElem hj]at h9
     have:=World.cell?_spot h9
     simpa [Addr.add]using this
    obtain⟨b,o,sp⟩:=a
    simp only at hspot
    subst hspot
    have hcell:∀j y,(xs.flatMap τ.enc)[j]?=some y→∃u,w.cell? ⟨b,o+j,none⟩=some u∧IRep (fun b=>b<w.heap.size) w y u:=by
     intro j y hy
     rw[zgg _ _ h0 τ.len,Option.bind_eq_some_iff]at hy
     obtain⟨d,hd,hy⟩:=hy
     obtain⟨u,hu,hr⟩:=(hxs _ _ hd).2 _ _ hy
     refine⟨u,?_,hr⟩
     rw[zai,zai]at hu
     rw[←hu]
     congr 2
     have:=Nat.div_add_mod j τ.sz
     rw[Nat.mul_comm]at this
     omega
    rw[←hxl]
    refine IRep.slice (I:=fun b=>b<w.heap.size) (xs.flatMap τ.enc) 0 xs.length (some cap) b o cap o (fun j=>(w.cell? ⟨b,o+j,none⟩).getD undef) hblk (fun j y hy=>?_) (fun j y hy=>?_) (by omega) (fun k hk=>by cases hk;rfl) (.inl rfl)
    ·obtain⟨u,hu,_⟩:=hcell j y hy
     simp only[hu];rfl
    ·obtain⟨u,hu,hr⟩:=hcell j y hy
     simp only[hu];exact hr
def ReadsRow{α:Type}(P:Program)(fs:List Field)(at':Nat)(τ:Ty α):Prop:=
 ∀{H:Type} (enc:TypeId×Value→H) (w:World) (spare:Nat→Bool) (_:∀b,spare b=true) (fuel:Nat) (cs:List Value),(∀f∈fs,∃x,DataW.trod enc P w 0 spare true fuel f.type ((cs.drop f.offset).take (P.cellsOf f.type))=some x∧(DataW.weights P f.type x.1).all (· ≤reachBytes)=true)→
  ∃d:α,τ.wf d∧∀(j:Nat) (y:IV) (u:Value),(τ.enc d)[j]?=some y→cs[at'+j]?=some u→IRep (fun b=>b<w.heap.size) w y u
theorem readsNil(n:Nat):ReadsRow P [] n tNil:=by
 intro H enc w spare hsp fuel cs h
 exact⟨(),trivial,fun j y u hy=>by simp[tNil]at hy⟩
theorem readsCons{α β:Type}{f:Field}{fs:List Field}{n:Nat}{τ:Ty α}{σ:Ty β}(h1:ReadsAs P f.type τ)(ho:f.offset=n)(hc:P.cellsOf f.type=τ.sz)(h2:ReadsRow P fs (n+τ.sz) σ):ReadsRow P (f::fs) n (tPair τ σ):=by
 intro H enc w spare hsp fuel cs h
 obtain⟨x,hx,hxw⟩:=h f (List.mem_cons_self ..)
 obtain⟨d,hd,hl,hr⟩:=h1 enc w spare hsp fuel _ _ hx hxw
 obtain⟨d',hd',hr'⟩:=h2 enc w spare hsp fuel cs fun g hg=>h g (List.mem_cons_of_mem _ hg)
 refine⟨(d,d'),⟨hd,hd'⟩,fun j y u hy hu=>?_⟩
 simp only[tPair]at hy
 rw[List.getElem?_append,τ.len]at hy
 split at hy
 ·rename_i hj
  refine hr j y u hy ?_
  rw[List.getElem?_take,hc,if_pos hj,List.getElem?_drop,ho]
  exact hu
 ·rename_i hj
  refine hr' _ y u hy ?_
  rw[←hu]
  congr 1
  omega
theorem readsStruct{α:Type}{fs:Array Field}{τ:Ty α}(ht:P.underlying t=some (.struct fs))(hf:ReadsRow P fs.toList 0 τ)(hc:P.cellsOf t=τ.sz):ReadsAs P t τ:=by
 intro H enc w spare hsp fuel cs x h hwt
 obtain⟨xs,n,_,rfl,hl,hxl,hg⟩:=DataW.trod_struct ht h
 simp only[DataW.weights,ht]at hwt
 obtain⟨d,hd,hr⟩:=hf enc w spare hsp n cs fun f hmem=>by
  obtain⟨i,hi,rfl⟩:=List.mem_iff_getElem.1 hmem
  have hi':i<fs.size:=by simpa using hi
  have:=hg i fs[i] (by simp[hi'])
  have hie:i<xs.length:=by omega
  rw[List.getElem?_eq_getElem hie]at this
  exact⟨_,by simpa using this,zv2 _ _ hwt i _ _ (by simp[hi']) (by rw[List.getElem?_map,List.getElem?_eq_getElem hie];rfl)⟩
 exact⟨d,hd,by rw[hl,hc],fun j y u hy hu=>hr j y u hy (by simpa using hu)⟩
theorem readsVia{α β:Type}{τ:Ty α}{σ:Ty β}(h:ReadsAs P t τ)(f:α→β)(he:∀x,σ.enc (f x)=τ.enc x)(hw:∀x,τ.wf x→σ.wf (f x))(hs:σ.sz=τ.sz):ReadsAs P t σ:=by
 intro H enc w spare hsp fuel cs x hx hwt
 obtain⟨d,hd,hl,hr⟩:=h enc w spare hsp fuel cs x hx hwt
 exact⟨f d,hw d hd,by rw[hl,hs],fun j y u hy hu=>hr j y u (by rw[←he];exact hy) hu⟩
end
end Go.EX


namespace Go.EX
open Go.RowKit Go.ChangeShapes Go.WideShapes Go.ChangeAt
def isAggT(P:Program)(t:TypeId):Bool:=
 match P.underlying t with
 |some (.struct _)|some (.array ..)=>true
 |_=>false
inductive ArgsOf (P:Program):List TypeId→(List AV→Prop)→Prop
 |nil:ArgsOf P [] (fun az=>az=[])
 |cons {α:Type} {t:TypeId} {τ:Ty α} {ts:List TypeId} {Q:List AV→Prop} (h:ReadsAs P t τ) (ha:isAggT P t=τ.agg) (r:ArgsOf P ts Q):ArgsOf P (t::ts) (fun az=>∃x r,τ.wf x∧az=τ.av x::r∧Q r)
section
variable {P:Program} {num:Names}
theorem za9{α:Type}{t:TypeId}{τ:Ty α}(h:ReadsAs P t τ)(ha:isAggT P t=τ.agg){H:Type}{enc:TypeId×Value→H}{W:World}{b:Nat}{v:Value}{d:DataW H}{ps:List MemPlace}
  (hok:Value.okWide P W .any b t v) (ht:DataW.Trod enc P W 0 (fun _=>true) true t v d ps) (hwt:(DataW.weights P t d).all (· ≤reachBytes)=true):∃x:α,τ.wf x∧ARep num (Cx.whole W) (τ.av x) v:=by
 obtain⟨fuel,ht⟩:=ht
 obtain⟨x,hx,hl,hr⟩:=h enc W _ (fun _=>rfl) fuel _ _ ht hwt
 refine⟨x,hx,?_⟩
 unfold Ty.av
 have hlen:=τ.len x
 cases hag:τ.agg with
 |true=>
  rw[hag]at ha
  have:∃cs,v=.agg cs:=by
   unfold isAggT at ha
   unfold Value.okWide at hok
   split at ha
   ·rename_i fs hu;rw[hu]at hok;obtain⟨cs,h1,_⟩:=hok;exact⟨cs,h1⟩
   ·rename_i n e hu;rw[hu]at hok;obtain⟨cs,h1,_⟩:=hok;exact⟨cs,h1⟩
   ·cases ha
  obtain⟨cs,rfl⟩:=this
  have hcs:(Value.agg cs).cells=cs:=rfl
  rw[hcs]at hl hr
  rw[if_pos rfl]
  have hget:∀(j:Nat) (u:Value),cs[j]?=some u→∃y,(τ.enc x)[j]?=some y∧IRep (fun b=>b<W.heap.size) W y u:=by
   intro j u hu
   have hj:j<(τ.enc x).length:=by
    rw[hlen,←hl]
    have:=(Array.getElem?_eq_some_iff.1 hu).1
    simpa using this
   exact⟨_,List.getElem?_eq_getElem hj,hr j _ u (List.getElem?_eq_getElem hj) (by simpa using hu)⟩
  refine .agg _ cs (by rw[List.length_map,hlen,←hl];simp) (fun j u hu=>?_) fun j y u hy hu=>?_
  ·obtain⟨y,_,h2⟩:=hget j u hu
   exact h2.one
  ·rw[List.getElem?_map]at hy
   obtain⟨z,h1,h2⟩:=hget j u hu
   rw[h1]at hy
   simp at hy;subst hy
   exact .imm _ _ h2
 |false=>
  rw[hag]at ha
  have hcell:Cell.okWide P W .any b t v:=by
   unfold isAggT at ha
   unfold Value.okWide at hok
   split at hok
   ·rename_i fs hu;rw[hu]at ha;cases ha
   ·rename_i n e hu;rw[hu]at ha;cases ha
   ·exact hok
  have hone:v.cells.toList=[v]:=by
   cases v<;>first|rfl|(exfalso;unfold Cell.okWide at hcell;split at hcell<;>first|cases ‹Value.agg _=_› |cases ‹Value.tuple _=_› |(unfold Cell.ok at hcell;split at hcell<;>first|exact hcell|cases ‹Value.agg _=_› |cases ‹Value.tuple _=_›))
  rw[hone]at hl hr
  simp only[Bool.false_eq_true,if_false]
  split
  ·rename_i y hy
   exact .imm _ _ (hr 0 y v (by rw[hy];rfl) rfl)
  ·exact .junk _
theorem ziu{H:Type}{enc:TypeId×Value→H}{W:World}{b:Nat}:∀{ts:List TypeId} {Q:List AV→Prop} (_:ArgsOf P ts Q) (vs:List Value) (ds:List (DataW H)) (ps:List MemPlace),
  (∀(j:Nat) t v,ts[j]?=some t→vs[j]?=some v→Value.okWide P W .any b t v)→DataW.TrodAll enc P W 0 (fun _=>true) true ts vs ds ps→(DataW.weightsEach P ts ds).all (· ≤reachBytes)=true→
  ∃az,Q az∧az.length=vs.length∧ds.length=ts.length∧∀(j:Nat) (x:AV) (u:Value),az[j]?=some x→vs[j]?=some u→ARep num (Cx.whole W) x u:=by
 intro ts Q h
 induction h with
 |nil=>
  intro vs ds ps _ ht _
  obtain⟨rfl,rfl,_⟩:=trodAll_nil ht
  exact⟨[],rfl,rfl,rfl,fun j x u hx=>by simp at hx⟩
 |cons h ha r ih=>
  intro vs ds ps hok ht hwt
  obtain⟨v0,vs0,d0,ds0,p0,q0,rfl,rfl,rfl,h0,r0⟩:=trodAll_cons ht
  obtain⟨az,h1,h2,h3,h4⟩:=ih vs0 ds0 q0 (fun j t v hj hv=>hok (j+1) t v (by simpa using hj) (by simpa using hv)) r0 (by simp only[DataW.weightsEach,List.all_append,Bool.and_eq_true]at hwt;exact hwt.2)
  obtain⟨x,hx,hr⟩:=za9 (num:=num) h ha (hok 0 _ v0 rfl rfl) h0 (by simp only[DataW.weightsEach,List.all_append,Bool.and_eq_true]at hwt;exact hwt.1)
  refine⟨_::az,⟨x,az,hx,rfl,h1⟩,by simp[h2],by simp[h3],fun j y u hy hu=>?_⟩
  cases j with
  |zero=>simp at hy hu;subst hy;subst hu;exact hr
  |succ j=>exact h4 j y u (by simpa using hy) (by simpa using hu)
theorem zuv{H:Type}{enc:TypeId×Value→H}(hl:laidOutB P=true){W W':World}(hb:Below W.heap.size W W'):∀{ts:List TypeId} {vs:List Value} {ds:List (DataW H)} {ps:List MemPlace},
  (ts.all fun t=>P.readableRec t&&decide (t<P.types.size))=true→DataW.TrodAll enc P W 0 (fun _=>true) true ts vs ds ps→DataW.TrodAll enc P W' 0 (fun b=>decide (b<W.heap.size)) true ts vs ds ps
 |[],vs,ds,ps,_,h=>by
  obtain⟨rfl,rfl,rfl⟩:=trodAll_nil h
  exact trodAll_mk0
 |t::ts,vs,ds,ps,hts,h=>by
  obtain⟨v0,vs0,d0,ds0,p0,q0,rfl,rfl,rfl,h0,r0⟩:=trodAll_cons h
  simp only[List.all_cons,Bool.and_eq_true,decide_eq_true_eq]at hts
  have lt0:∀x∈p0,x.block<W.heap.size:=by obtain⟨m,hm⟩:=h0;exact DataW.trod_lt m _ _ _ hm
  exact trodAll_cons_mk (Below.trod hl hts.1.1 hts.1.2 h0 hb lt0) (zuv hl hb hts.2 r0)
theorem ziv{code:Nat→Option XFun}{ext:Calls'}(h:Runs P num code ext){f:FuncId}{az:List AV}{vals:Array Value}{w:World}(hG:num.G (fun b=>b<w.heap.size) w){m:Mem}(hr:callW code ext (num f) az []=some (.imm (.val (.bool true)),m))(hl:az.length=vals.size)
  (ha:∀(j:Nat) (x:AV) (u:Value),az[j]?=some x→vals[j]?=some u→ARep num (Cx.whole w) x u):
  Calls P f vals w fun e w'=>e=.returned (.bool true)∧Below w.heap.size w w':=by
 obtain⟨_,hc⟩:=(zsh h).fn f _ _ _ _ (Cx.whole w) vals hr (zwa w hG) hl ha
 refine hc.mono fun e w' ⟨v,D,he,hw,hst,hv⟩=>?_
 have:=zqs hv
 subst this
 subst hw
 exact⟨he,hst.os,hst.tape,hst.out,hst.size,fun k hk=>hst.keep k hk fun ⟨i,o,h,_⟩=>by simp at h⟩
def LawSpec(s:ChangeSpec)(n:Nat):Prop:=s.vars=[]∧∀(H:Type) (ds:List (DataW H)),ds.length=n→s.fn H ds={ results:=[.lit (.bool true)],args:=ds }
end
end Go.EX

