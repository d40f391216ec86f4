import Derived.Test.YtjdfihnmpmckjaaGreatDoorK3
import Derived.MapKept
import Derived.LaidEqlPtr
import Derived.Test.YtjdfihnmpmckjaaGreatDoorK2
import Derived.Laws.BytesString
import Derived.Lib.ConvBytes
import Derived.RangeFuncRecord
import Derived.LoopN
import Derived.StillTail
import Derived.OrdersIn
import Derived.TacticsIn
import Derived.OwnWalkIn
set_option linter.unusedVariables false
set_option linter.unusedSimpArgs false
namespace Go.EX
section
variable {num:Names} {P:Program}
variable {ty:TypeId} {pos:String} {after:Array Edge} {a:Act} {C:Cx} {s:St}
theorem z23{m:Mem}(hm:MRep num C m){id:Nat}{o:AObj}(ho:m[id]?=some o)(hlo:o.live=true){w':World}
  (hno:∀arr e fz,C.w.heap[C.σ id]?≠some (.cells arr e fz)) (hw:∀b,b≠C.σ id->w'.heap[b]?=C.w.heap[b]?):Tr some C { C with w:=w' }:=by
 refine⟨fun _ h=>h,fun b hb=>hw b fun e=>hm.imm b ⟨id,o,ho,hlo,e.symm⟩ hb,fun i j hi hj=>?_⟩
 cases hj
 refine⟨hi,rfl,fun arr e h=>h.same (hw _ fun hc=>?_)⟩
 obtain⟨a,fz,h1,_⟩:=h
 exact hno a e fz (by rw[<-hc];exact h1)
theorem yff{m:Mem}(hm:MRep num C m){id:Nat}{o o':AObj}(ho:m[id]?=some o)(hlo:o.live=true){w':World}
  (hno:∀arr e fz,C.w.heap[C.σ id]?≠some (.cells arr e fz)) (hw:∀b,b≠C.σ id->w'.heap[b]?=C.w.heap[b]?) (hos:w'.os=C.w.os) (htp:w'.tape=C.w.tape) (hout:w'.output=C.w.output) (hsize:w'.heap.size=C.w.heap.size)
  (hmv:o.moved=false) (hr:zc4 num { C with w:=w' } id o') {k:Nat} (hk:k<=m.length) (hof:o.isFix=false:=by rfl):
  Step num k C m { C with w:=w' } (m.set id o'):=by
 have ht:=z23 hm ho hlo hno hw
 have back:∀(i:Nat) (p:AObj),(m.set id o')[i]?=some p->(i=id/\p=o')\/(i≠id/\m[i]?=some p):=by
  intro i p hp
  rw[zhi]at hp
  split at hp
  ·rename_i hi;exact .inl ⟨hi.1.symm,(xau hp).symm⟩
  ·rename_i hi
   exact .inr ⟨fun e=>hi ⟨e.symm,(xab.1 hp).1⟩,hp⟩
 have hown:∀b,Own { C with w:=w' } (m.set id o') b->Own C m b:=by
  rintro b ⟨i,p,hp,hl,hb⟩
  rcases back i p hp with⟨rfl,rfl⟩|⟨_,hp'⟩
  ·exact⟨i,o,ho,hlo,hb⟩
  ·exact⟨i,p,hp',hl,hb⟩
 refine⟨⟨by simpa using hm.len,fun i p hp=>?_,fun i j p q hp hq hlp hlq hσ=>?_,fun b hb=>hm.imm b (hown b hb),fun b hb=>by show b<w'.heap.size;rw[hsize];exact hm.bd b hb,num.up hm.glo ht.imm ht.keep⟩,hos,htp,hout,by show _<=w'.heap.size;omega,fun b _ hb=>hw b fun e=>hb ⟨id,o,ho,hlo,e.symm⟩,
  fun b arr e h=>h.same ?_,fun _ h=>h,fun _ h=>.inl h,fun b hb=>.inr (hown b hb),fun i _ p hp hmp=>?_,by simpa using hk⟩
 ·rcases back i p hp with⟨rfl,rfl⟩|⟨hne,hp'⟩
  ·exact hr
  ·by_cases hlp:p.live=true
   ·refine zh6 ht rfl (fun x hx=>?_) (hm.obj i p hp')
    show w'.heap[C.σ i]?=_
    rw[hw _ fun e=>hne (hm.inj2 num i id p o hp' ho hlp hlo hof e)];exact hx
   ·cases p with
    |dead=>trivial
    |_=>exact absurd rfl hlp
 ·have hl:∀(i:Nat) (p:AObj),(m.set id o')[i]?=some p->p.live=true->∃p':AObj,m[i]?=some p'/\p'.live=true/\(p'=p\/p'.isFix=false):=by
   intro i p hp hl
   rcases back i p hp with⟨rfl,rfl⟩|⟨_,hp'⟩
   ·exact⟨o,ho,hlo,.inr hof⟩
   ·exact⟨p,hp',hl,.inl rfl⟩
  obtain⟨p',hp',hlp',hp3⟩:=hl i p hp hlp
  obtain⟨q',hq',hlq',hq3⟩:=hl j q hq hlq
  rcases hm.inj i j p' q' hp' hq' hlp' hlq' hσ with h|h
  ·exact .inl h
  ·rcases hp3 with rfl|h3
   ·rcases hq3 with rfl|h4
    ·exact .inr h
    ·rw[(zlc h).2]at h4;cases h4
   ·rw[(zlc h).1]at h3;cases h3
 ·obtain⟨a,fz,h1,_⟩:=h
  exact hw b fun e'=>hno a e fz (by rw[<-e'];exact h1)
 ·rcases back i p hp with⟨rfl,rfl⟩|⟨_,hp'⟩
  ·exact⟨o,ho,hmv,rfl⟩
  ·exact⟨p,hp',hmp,rfl⟩
def IsK(P:Program)(w:World)(kt:TypeId):Nat->Value->Prop
 |0,v=>∃j k n,P.underlying kt=some (.int j)/\v=.int k n
 |1,v=>∃b,P.underlying kt=some .bool/\v=.bool b
 |2,v=>∃b,P.underlying kt=some .string/\v=.string b
 |3,v=>∃e i b o,P.underlying kt=some (.pointer e)/\P.info? e=some i/\i.size≠0/\v=.pointer (some ⟨b,o,none⟩)
 |_+4,v=>∃fs ks cs,P.underlying kt=some (.struct fs)/\zgt P 100 kt=some ks/\cs.length=ks.length/\v=mkV P kt cs
theorem zn1{xs:List AV}{cs:List Value}(hx:xs=cs.map fun v=>AV.imm (.val v)){v:Value}(h:ARep num C (.agg xs) v):v=.agg cs.toArray:=by
 subst hx
 cases h with
 |agg _ us hl h1 h2=>
  congr 1
  apply Array.toList_inj.1
  refine xbf fun j=>?_
  rw[xam]at hl
  rcases xa1 j cs.length with hj|hj
  ·have hju:j<us.size:=by omega
   have:=h2 j (.imm (.val cs[j])) us[j] (by simp[hj]) (by simp[hju])
   have:=zbw this
   simp[hj,hju,this]
  ·rw[xaq (by simp;omega),xaq (by simpa using hj)]
theorem zo1{kt:TypeId}{kind:Nat}(h:zed P kt=some kind)(hk:kind<4)(fs:Array Field):P.underlying kt≠some (.struct fs):=by
 intro he
 unfold zed at h
 rw[he]at h
 dsimp only at h
 split at h
 ·split at h
  ·have:=xau h;omega
  ·cases h
 ·cases h
theorem z1x{kt:TypeId}{kind:Nat}(h:zed P kt=some kind){x:AV}{v:Value}(hx:ARep num C x v)(hk:zg9 kind x=true):IsK P C.w kt kind v:=by
 unfold zed at h
 split at h
 ·rename_i j hj
  cases h
  unfold zg9 at hk
  split at hk<;>first|(cases hk;done)|skip
  all_goals (rename_i h0;first|(cases h0;done)|skip)
  have:=zbw hx
  subst this
  exact⟨_,_,_,hj,rfl⟩
 ·rename_i hj
  cases h
  unfold zg9 at hk
  split at hk<;>first|(cases hk;done)|skip
  all_goals (rename_i h0;first|(cases h0;done)|skip)
  have:=zbw hx
  subst this
  exact⟨_,hj,rfl⟩
 ·rename_i hj
  cases h
  unfold zg9 at hk
  split at hk<;>first|(cases hk;done)|skip
  all_goals (rename_i h0;first|(cases h0;done)|skip)
  have:=zbw hx
  subst this
  exact⟨_,hj,rfl⟩
 ·rename_i e he
  split at h
  ·rename_i hc
   simp only[xae,decide_eq_true_eq]at hc
   cases h
   obtain⟨i,d,h1,h2,h3,_⟩:=zd7 hc.1
   unfold zg9 at hk
   split at hk<;>first|(cases hk;done)|skip
   all_goals (rename_i h0;first|(cases h0;done)|skip)
   ·cases hx with
    |optr id off hid=>exact⟨e,i,_,_,he,h1,by rw[<-h3];omega,rfl⟩
   ·cases hx with
    |tag _ _ _ _ h ha=>cases h with
     |ptr=>exact⟨e,i,_,_,he,h1,by rw[<-h3];omega,rfl⟩
  ·cases h
 ·rename_i fs hfs
  split at h
  ·rename_i ks hks
   split at h
   ·rename_i hdig
    cases h
    unfold zg9 at hk
    split at hk<;>first|(cases hk;done)|skip
    all_goals (rename_i h0;first|(cases h0;done)|skip)
    rename_i n xs
    have h0':zpy ks=n:=by simpa using h0
    subst h0'
    rw[hdig]at hk
    obtain⟨b,hb⟩:=xbm.1 hk
    obtain⟨cs,ds,h1,_,h3⟩:=zr8 _ _ _ _ hb
    have hv:=zn1 h1 hx
    exact⟨fs,ks,cs,hfs,hks,(z31 _ _ _ _ h3).1,by rw[hv];simp[mkV,hfs]⟩
   ·cases h
  ·cases h
 ·cases h
theorem zpp{w:World}{kt:TypeId}{kind:Nat}{v:Value}(h:IsK P w kt kind v)(e:Bool)(n:Nat)(hn:99<=n):(Instr.checkKey e (n+1) kt v).run P w=.ok () w:=by
 match kind,h with
 |_+4,⟨fs,ks,cs,h1,h2,h3,h4⟩=>subst h4;rw[show n+1=100+(n-99) by omega];exact z7c w e 100 kt ks h2 (n-99) cs h3
 |0,⟨j,k,n,h1,h2⟩=>subst h2;simp[Instr.checkKey,run_underlying h1,Result.andThen]
 |1,⟨b,h1,h2⟩=>subst h2;simp[Instr.checkKey,run_underlying h1,Result.andThen]
 |2,⟨b,h1,h2⟩=>subst h2;simp[Instr.checkKey,run_underlying h1,Result.andThen]
 |3,⟨e,i,b,o,h1,_,_,h2⟩=>subst h2;simp[Instr.checkKey,run_underlying h1,Result.andThen]
theorem z1d{m:Mem}(hm:MRep num C m){id:Nat}(h:((m[id]?).getD .dead).hasCells=true):∃o arr e,m[id]?=some o/\o.live=true/\C.w.heap[C.σ id]?=some (.cells arr e (0,0))/\o.isFix=false:=by
 cases hq:m[id]? with
 |none=>simp[hq,AObj.hasCells]at h
 |some o=>
  simp only[hq,xa0]at h
  have h1:=hm.obj id o hq
  cases o with
  |flat=>obtain⟨arr,e,h2,_⟩:=h1;exact⟨_,arr,e,rfl,rfl,h2,rfl⟩
  |rich=>obtain⟨arr,e,h2,_⟩:=h1;exact⟨_,arr,e,rfl,rfl,h2,rfl⟩
  |map=>cases h
  |dead=>cases h
  |fix=>cases h
  |loop=>cases h
  |text=>cases h
  |iter=>cases h
theorem zwh{m:Mem}(hm:MRep num C m){kt:TypeId}{kind:Nat}(hkt:zed P kt=some kind){x y:AV}{u v:Value}(hx:ARep num C x u)(hy:ARep num C y v){b:Bool}(h:zeo m kind x y=some b):
  (kind<3->∃d,P.underlying kt=some d/\Instr.sameNow d u v=some b)/\(3<=kind->(∃d,P.underlying kt=some d/\Instr.sameNow d u v=none)/\(Op.equal kt u v).run P C.w=.ok b C.w):=by
 unfold zeo at h
 split at h
 ·rename_i k n j n'
  split at h
  ·rename_i hk
   cases h
   have e1:=zbw hx
   have e2:=zbw hy
   subst e1 e2 hk
   refine⟨fun _=>?_,fun h=>absurd h (by decide)⟩
   have hns:=zo1 hkt (by decide)
   unfold zed at hkt
   split at hkt<;>first|(cases hkt;done)|(exact absurd ‹P.underlying kt=some (.struct _)› (hns _))|skip
   ·rename_i hj;exact⟨_,hj,by simp[Instr.sameNow]⟩
   ·split at hkt<;>cases hkt
  ·cases h
 ·cases h
  have e1:=zbw hx
  have e2:=zbw hy
  subst e1 e2
  refine⟨fun _=>?_,fun h=>absurd h (by decide)⟩
  have hns:=zo1 hkt (by decide)
  unfold zed at hkt
  split at hkt<;>first|(cases hkt;done)|(exact absurd ‹P.underlying kt=some (.struct _)› (hns _))|skip
  ·rename_i hj;exact⟨_,hj,by simp[Instr.sameNow]⟩
  ·split at hkt<;>cases hkt
 ·cases h
  have e1:=zbw hx
  have e2:=zbw hy
  subst e1 e2
  refine⟨fun _=>?_,fun h=>absurd h (by decide)⟩
  have hns:=zo1 hkt (by decide)
  unfold zed at hkt
  split at hkt<;>first|(cases hkt;done)|(exact absurd ‹P.underlying kt=some (.struct _)› (hns _))|skip
  ·rename_i hj;exact⟨_,hj,by simp[Instr.sameNow]⟩
  ·split at hkt<;>cases hkt
 ·rename_i i o j p
  split at h
  ·rename_i hc
   simp only[xae]at hc
   cases h
   cases hx with
   |optr _ _ hi=>
    cases hy with
    |optr _ _ hj=>
     refine⟨fun h=>absurd h (by decide),fun _=>?_⟩
     have hns:=zo1 hkt (by decide)
     unfold zed at hkt
     split at hkt<;>first|(cases hkt;done)|(exact absurd ‹P.underlying kt=some (.struct _)› (hns _))|skip
     rename_i e he
     split at hkt
     ·rename_i hk
      simp only[xae,decide_eq_true_eq]at hk
      obtain⟨inf,d,h1,h2,h3,_⟩:=zd7 hk.1
      refine⟨⟨_,he,by simp[Instr.sameNow]⟩,?_⟩
      obtain⟨o1,arr1,e1,g1,g2,g3,g7⟩:=z1d hm hc.1
      obtain⟨o2,arr2,e2,g4,g5,g6,g8⟩:=z1d hm hc.2
      by_cases hs:i=j/\o=p
      ·obtain⟨rfl,rfl⟩:=hs
       have hq:∀d:Nat,(Op.equalIn (d+1) kt (.pointer (some ⟨C.σ i,o,none⟩)) (.pointer (some ⟨C.σ i,o,none⟩))).run P C.w=.ok true C.w:=fun d=>by
        simp[Op.equalIn,run_underlying he,sizeOf,typeInfo,h1,run_sameAddr_same]
       simpa [Op.equal,Op.maxDepth]using hq 9999
      ·have hne:(⟨C.σ i,o,none⟩:Addr)≠⟨C.σ j,p,none⟩:=by
        intro heq
        simp only[Addr.mk.injEq,and_true]at heq
        exact hs ⟨hm.inj1 num i j _ _ g1 g4 g2 g5 g7 heq.1,heq.2⟩
       have hb:(i==j&&o==p)=false:=by
        cases hb:(i==j&&o==p)with
        |false=>rfl
        |true=>simp only[xae,beq_iff_eq]at hb;exact absurd hb hs
       rw[hb]
       have hsz:inf.size≠0:=by rw[<-h3];omega
       have hq:∀d:Nat,(Op.equalIn (d+1) kt (.pointer (some ⟨C.σ i,o,none⟩)) (.pointer (some ⟨C.σ j,p,none⟩))).run P C.w=.ok false C.w:=fun d=>by
        simp[Op.equalIn,run_underlying he,sizeOf,typeInfo,h1,hsz,run_sameAddr_other C.w hne g3 g6]
       simpa [Op.equal,Op.maxDepth]using hq 9999
     ·cases hkt
  ·cases h
 ·rename_i b1 a1 r1 o1 b2 a2 r2 o2
  split at h
  ·rename_i hbb
   cases h
   subst hbb
   cases hx with
   |tag _ _ _ _ hx hxa=>cases hx with
    |ptr _ _ bb oo uu hb1 hc1 hu1=>cases hy with
     |tag _ _ _ _ hy hya=>cases hy with
      |ptr _ _ bc oc uc hb2 hc2 hu2=>
       simp only[zlz,xaf,xay]at hxa hya
       obtain⟨rfl,rfl⟩:=hxa
       obtain⟨rfl,rfl⟩:=hya
       refine⟨fun h=>absurd h (by decide),fun _=>?_⟩
       have hns:=zo1 hkt (by decide)
       unfold zed at hkt
       split at hkt<;>first|(cases hkt;done)|(exact absurd ‹P.underlying kt=some (.struct _)› (hns _))|skip
       rename_i e he
       split at hkt
       ·rename_i hk
        simp only[xae,decide_eq_true_eq]at hk
        obtain⟨inf,d,h1,h2,h3,_⟩:=zd7 hk.1
        refine⟨⟨_,he,by simp[Instr.sameNow]⟩,?_⟩
        have hsz:inf.size≠0:=by rw[<-h3];omega
        have hq:∀d:Nat,(Op.equalIn (d+1) kt (.pointer (some ⟨bc,oo+o1,none⟩)) (.pointer (some ⟨bc,oc+o2,none⟩))).run P C.w=.ok (oo+o1==oc+o2) C.w:=fun d=>by
         by_cases hab:oo+o1=oc+o2
         ·rw[hab];simp[Op.equalIn,run_underlying he,sizeOf,typeInfo,h1,run_sameAddr_same]
         ·have hf:(oo+o1==oc+o2)=false:=by simpa using hab
          rw[hf]
          simp[Op.equalIn,run_underlying he,sizeOf,typeInfo,h1,hsz,sameAddr,hab]
        simpa [Op.equal,Op.maxDepth]using hq 9999
       ·cases hkt
  ·cases h
 ·rename_i n xs ys
  refine⟨fun h=>absurd h (by omega),fun _=>?_⟩
  unfold zed at hkt
  split at hkt<;>first|(cases hkt;done)|skip
  ·split at hkt
   ·have:=xau hkt;omega
   ·cases hkt
  rename_i fs hfs
  split at hkt
  ·rename_i ks hks
   split at hkt
   ·rename_i hdig
    have hn:zpy ks=n:=by have:=xau hkt;omega
    subst hn
    rw[hdig]at h
    obtain⟨cs,ds,h1,h2,h3⟩:=zr8 _ _ _ _ h
    have e1:=zn1 h1 hx
    have e2:=zn1 h2 hy
    subst e1 e2
    refine⟨⟨_,hfs,by simp[Instr.sameNow]⟩,?_⟩
    have:=z0l (P:=P) C.w 100 kt ks hks 9900 cs ds b h3
    simp only[mkV,hfs]at this
    exact this
   ·cases hkt
  ·cases hkt
 ·cases h
theorem zr7{m:Mem}(hm:MRep num C m){kt:TypeId}{kind:Nat}(hkt:zed P kt=some kind){k:AV}{kv:Value}(hk:ARep num C k kv){es:List (AV×AV)}{es':List MapEntry}(hl:es'.length=es.length)
  (hes:∀(j:Nat) (p:AV×AV) (x:MapEntry),es[j]?=some p->es'[j]?=some x->ARep num C p.1 x.key) {r:Option Nat} (h:zcp m kind k es 0=some r):
  ∃q,(Instr.findKey kt kv es').run P C.w=.ok q C.w/\q=r.bind fun i=>(es'[i]?).map fun x=>(i,x.val):=by
 have hd:∃d,P.underlying kt=some d:=by
  unfold zed at hkt
  split at hkt<;>first|(rename_i hd;exact⟨_,hd⟩)|skip
  cases hkt
 obtain⟨d,hd⟩:=hd
 by_cases h3:3<=kind
 ·have asking:∀(es:List (AV×AV)) (es':List MapEntry) (i:Nat) (r:Option Nat),es'.length=es.length->(∀(j:Nat) (p:AV×AV) (x:MapEntry),es[j]?=some p->es'[j]?=some x->ARep num C p.1 x.key)->zcp m kind k es i=some r->
    (Instr.findAsking kt kv es' i).run P C.w=.ok (r.bind fun j=>(es'[j-i]?).map fun x=>(j,x.val)) C.w/\(∀j,r=some j->i<=j):=by
   intro es
   induction es with
   |nil=>
    intro es' i r hl _ h
    have:es'=[]:=by simpa using hl
    subst this
    cases h
    exact⟨by simp[Instr.findAsking],fun j hj=>by cases hj⟩
   |cons e es ih=>
    intro es' i r hl hes h
    cases es' with
    |nil=>simp at hl
    |cons e' es'=>
     simp only[zcp]at h
     have h0:=hes 0 e e' rfl rfl
     cases hke:zeo m kind k e.1 with
     |none=>rw[hke]at h;cases h
     |some b=>
      rw[hke]at h
      obtain⟨_,hrun⟩:=(zwh hm hkt hk h0 hke).2 h3
      cases b with
      |true=>
       cases h
       refine⟨?_,fun j hj=>by cases hj;exact xap _⟩
       simp[Instr.findAsking,hrun,Result.andThen]
      |false=>
       obtain⟨g1,g2⟩:=ih es' (i+1) r (by simpa using hl) (fun j p x hp hx=>hes (j+1) p x (by simpa using hp) (by simpa using hx)) h
       refine⟨?_,fun j hj=>by have:=g2 j hj;omega⟩
       simp only[Instr.findAsking,Sem.run_bind,hrun,Result.andThen_ok,xan,if_false]
       rw[g1]
       cases r with
       |none=>rfl
       |some j=>
        have:=g2 j rfl
        simp only[xbe]
        rw[show j-i=(j-(i+1))+1 by omega,xba]
  cases es with
  |nil=>
   have:es'=[]:=by simpa using hl
   subst this
   cases h
   exact⟨none,by simp[Instr.findKey,run_underlying hd,Result.andThen,Instr.findNow],rfl⟩
  |cons e es=>
   cases es' with
   |nil=>simp at hl
   |cons e' es'=>
    have h0:=hes 0 e e' rfl rfl
    have hnow:Instr.findNow d kv (e'::es') 0=none:=by
     simp only[zcp]at h
     cases hke:zeo m kind k e.1 with
     |none=>rw[hke]at h;cases h
     |some b=>
      obtain⟨⟨d',hd',hs⟩,_⟩:=(zwh hm hkt hk h0 hke).2 h3
      rw[hd]at hd'
      cases hd'
      simp[Instr.findNow,hs]
    obtain⟨g1,_⟩:=asking (e::es) (e'::es') 0 r hl hes h
    refine⟨_,?_,rfl⟩
    simp only[Instr.findKey,Sem.run_bind,run_underlying hd,Result.andThen_ok,hnow]
    rw[g1];simp
 ·have now:∀(es:List (AV×AV)) (es':List MapEntry) (i:Nat) (r:Option Nat),es'.length=es.length->(∀(j:Nat) (p:AV×AV) (x:MapEntry),es[j]?=some p->es'[j]?=some x->ARep num C p.1 x.key)->zcp m kind k es i=some r->
    Instr.findNow d kv es' i=some (r.bind fun j=>(es'[j-i]?).map fun x=>(j,x.val))/\(∀j,r=some j->i<=j):=by
   intro es
   induction es with
   |nil=>
    intro es' i r hl _ h
    have:es'=[]:=by simpa using hl
    subst this
    cases h
    exact⟨rfl,fun j hj=>by cases hj⟩
   |cons e es ih=>
    intro es' i r hl hes h
    cases es' with
    |nil=>simp at hl
    |cons e' es'=>
     simp only[zcp]at h
     have h0:=hes 0 e e' rfl rfl
     cases hke:zeo m kind k e.1 with
     |none=>rw[hke]at h;cases h
     |some b=>
      rw[hke]at h
      obtain⟨d',hd',hs⟩:=(zwh hm hkt hk h0 hke).1 (by omega)
      rw[hd]at hd'
      cases hd'
      cases b with
      |true=>
       cases h
       exact⟨by simp[Instr.findNow,hs],fun j hj=>by cases hj;exact xap _⟩
      |false=>
       obtain⟨g1,g2⟩:=ih es' (i+1) r (by simpa using hl) (fun j p x hp hx=>hes (j+1) p x (by simpa using hp) (by simpa using hx)) h
       refine⟨?_,fun j hj=>by have:=g2 j hj;omega⟩
       simp only[Instr.findNow,hs,g1]
       cases r with
       |none=>rfl
       |some j=>
        have:=g2 j rfl
        simp only[xbe]
        rw[show j-i=(j-(i+1))+1 by omega,xba]
  obtain⟨g1,_⟩:=now es es' 0 r hl hes h
  refine⟨_,?_,rfl⟩
  simp only[Instr.findKey,Sem.run_bind,run_underlying hd,Result.andThen_ok,g1]
  simp
theorem z0u{m:Mem}{kind:Nat}{k:AV}:∀(es:List (AV×AV)) (i0 i:Nat),zcp m kind k es i0=some (some i)->i0<=i/\∃p,es[i-i0]?=some p/\zeo m kind k p.1=some true
 |[],i0,i,h=>by cases h
 |e::es,i0,i,h=>by
  simp only[zcp]at h
  cases hk:zeo m kind k e.1 with
  |none=>rw[hk]at h;cases h
  |some b=>
   rw[hk]at h
   cases b with
   |true=>cases h;exact⟨xap _,e,by simp,hk⟩
   |false=>
    obtain⟨h1,p,h2,h3⟩:=z0u es (i0+1) i h
    refine⟨by omega,p,?_,h3⟩
    rw[show i-i0=(i-(i0+1))+1 by omega,xba];exact h2
theorem z99{m:Mem}{kind:Nat}{x y:AV}{u v:Value}(hx:ARep num C x u)(hy:ARep num C y v)(h:zeo m kind x y=some true)(w:World):(Instr.keyThatStays v u).run P w=.ok u w:=by
 have key:v=u/\Instr.sameBits 10000 v u=true:=by
  unfold zeo at h
  split at h
  ·split at h
   ·rename_i hk
    have e1:=zbw hx
    have e2:=zbw hy
    subst e1 e2 hk
    simp at h
    subst h
    exact⟨rfl,by simp[Instr.sameBits]⟩
   ·cases h
  ·have e1:=zbw hx
   have e2:=zbw hy
   subst e1 e2
   simp at h
   subst h
   exact⟨rfl,by simp[Instr.sameBits]⟩
  ·have e1:=zbw hx
   have e2:=zbw hy
   subst e1 e2
   simp only[xaf]at h
   have:=(MapKept.bytes_beq _ _).1 h
   subst this
   exact⟨rfl,by simp only[Instr.sameBits];exact h⟩
  ·split at h
   ·simp only[xaf,xae,beq_iff_eq]at h
    obtain⟨rfl,rfl⟩:=h
    cases hx with
    |optr=>cases hy with
     |optr=>exact⟨rfl,by simp[Instr.sameBits]⟩
   ·cases h
  ·split at h
   ·rename_i hbb
    simp only[xaf,beq_iff_eq]at h
    subst hbb h
    cases hx with
    |tag _ _ _ _ hx hxa=>cases hx with
     |ptr=>cases hy with
      |tag _ _ _ _ hy hya=>cases hy with
       |ptr=>
        simp only[zlz,xaf,xay]at hxa hya
        obtain⟨rfl,h1⟩:=hxa
        obtain⟨rfl,h2⟩:=hya
        rw[h1,h2]
        exact⟨rfl,by simp[Instr.sameBits]⟩
   ·cases h
  ·obtain⟨cs,ds,h1,h2,h3⟩:=zr8 _ _ _ _ h
   have e1:=zn1 h1 hx
   have e2:=zn1 h2 hy
   subst e1 e2
   have:=yg1 _ _ _ h3
   obtain⟨rfl,hbits⟩:=this
   exact⟨rfl,by simp[Instr.sameBits,hbits]⟩
  ·cases h
 obtain⟨rfl,hb⟩:=key
 simp[Instr.keyThatStays,hb]
theorem ykt{t:TypeId}{zs:List Value}{agg:Bool}(h:zu1 P t=some (zs,agg))(D:Cx):∃z,(∀w,(zeroValue t).run P w=.ok z w)/\ARep num D (zih zs agg) z:=by
 unfold zu1 at h
 cases hi:P.info? t with
 |none=>simp[hi]at h
 |some i=>
  cases hz:i.zero with
  |none=>simp[hi,hz]at h
  |some z=>
   have hrun:∀w,(zeroValue t).run P w=.ok z w:=fun w=>by simp[zeroValue,typeInfo,hi,hz]
   refine⟨z,hrun,?_⟩
   simp only[hi,xbe,hz]at h
   split at h
   ·rename_i cs heq
    cases heq
    split at h
    ·rename_i hone
     cases h
     refine .agg _ _ (by simp[imZ]) (fun j u hu=>?_) (fun j x u hx hu=>?_)
     ·rw[<-zjs]
      exact xai.1 hone u (by rw[xcy];exact Array.mem_of_getElem? hu)
     ·simp only[imZ,xar,xbs,hu,xao,xaf]at hx
      subst hx
      refine .imm _ _ (.val u ?_)
      rw[<-zjs]
      exact xai.1 hone u (by rw[xcy];exact Array.mem_of_getElem? hu)
    ·cases h
   ·rename_i z' _ heq
    cases heq
    split at h
    ·rename_i hone
     cases h
     exact .imm _ _ (.val _ (by rw[<-zjs];exact hone))
    ·cases h
   ·cases h
theorem z5n(hs:zas num C s a){t kt e:TypeId}{r:Option Operand}{r':Option Src}(ht:P.underlying t=some (.map kt e))(hr:r.mapM (zah num)=some r')(hi:∀x,r'=some x->∃i,zdd (s.env.ev x)=some i):
  zbe num P (.makeMap t r) ty pos after a C s (.omap s.mem.length) { s with mem:=s.mem++[.map []] }:=by
 have hlen:=hs.mem.len
 have hnew:zc4 num (C.more C.w (.map #[] 0)) C.n (.map []):=by
  refine⟨#[],0,?_,rfl,fun j p x hp _=>by simp at hp⟩
  simp only[Cx.more,if_true]
  rw[zd4,if_pos rfl]
 refine⟨.map (some C.w.heap.size),C.more C.w (.map #[] 0),fun _ _=>.inl ?_,zh2 hs.mem rfl rfl rfl rfl _ (.map []) hnew hs.k,hs.env.mono (zgb hs.mem rfl _),?_,rfl⟩
 ·cases r with
  |none=>simp[execOp,Instr.makeMap,newObj,Cx.more,Sem.run]
  |some x=>
   simp only[Option.mapM_some,Option.map_eq_map,xad]at hr
   obtain⟨x',hx,rfl⟩:=hr
   obtain⟨i,hi⟩:=hi x' rfl
   obtain⟨k,hk,_⟩:=zh8 (zba hs hx) hi
   simp[execOp,Instr.makeMap,newObj,Cx.more,Sem.run,hk,run_underlying ht,asInt,asIntOf,Result.andThen]
 ·rw[hlen]
  have:C.w.heap.size=(C.more C.w (.map #[] 0)).σ C.n:=by simp[Cx.more]
  rw[this]
  exact .omap _ (by simp[Cx.more])
theorem zwo{m:Mem}(hm:MRep num C m){id:Nat}{v:Value}(h:ARep num C (.omap id) v){es:List (AV×AV)}(he:m[id]?=some (.map es)):
  ∃(es':Array MapEntry) (clock:Nat),v=.map (some (C.σ id))/\C.w.heap[C.σ id]?=some (.map es' clock)/\es'.size=es.length/\∀(j:Nat) (p:AV×AV) (x:MapEntry),es[j]?=some p->es'[j]?=some x->ARep num C p.1 x.key/\ARep num C p.2 x.val:=by
 cases h with
 |omap _ hid=>
  obtain⟨es',clock,h1,h2,h3⟩:=hm.obj id _ he
  exact⟨es',clock,rfl,h1,h2,h3⟩
theorem zw1{D:Cx}{x:AV}{v:Value}(h:ARep num D x v)(ok b:Bool):ARep num D (if ok then .tup [x,.imm (.val (.bool b))]else x) (if ok then .tuple #[v,.bool b]else v):=by
 cases ok with
 |false=>exact h
 |true=>
  refine .tup _ _ rfl fun j y u hy hu=>?_
  match j with
  |0=>simp at hy hu;subst hy hu;exact h
  |1=>simp at hy hu;subst hy hu;exact .imm _ _ (.val _ rfl)
  |j+2=>simp at hy
theorem ykf(hs:zas num C s a){t kt e:TypeId}{m k:Operand}{m' k':Src}{kind:Nat}{zs:List Value}{agg ok:Bool}(ht:P.underlying t=some (.map kt e))(hm:zah num m=some m')(hk:zah num k=some k')(hkt:zed P kt=some kind)(hz:zu1 P e=some (zs,agg)){call:zac}{r:AV}{s':St}
  (h:zag call s (.lookup kind zs agg m' k' ok)=some (r,s')):zbe num P (.lookup t m k ok) ty pos after a C s r s':=by
 simp only[zag]at h
 split at h
 ·rename_i hik
  have hkr:=zba hs hk
  have hmr:=zba hs hm
  have hisk:=z1x hkt hkr hik
  obtain⟨z,hzr,hza⟩:=ykt (num:=num) hz C
  generalize hmv:s.env.ev m'=mv at h hmr
  split at h
  ·have hv:=zbw hmr
   have:r=(if ok then .tup [zih zs agg,.imm (.val (.bool false))]else zih zs agg)/\s'=s:=by
    cases ok<;>(simp at h;exact⟨h.1.symm,h.2.symm⟩)
   obtain⟨rfl,rfl⟩:=this
   refine zbj hs (fun _ _=>?_) (zw1 hza ok false)
   have hd:∃d,P.underlying kt=some d:=by
    unfold zed at hkt
    split at hkt<;>first|(rename_i hd;exact⟨_,hd⟩)|skip
    cases hkt
   obtain⟨d,hd⟩:=hd
   simp only[execOp,Instr.lookup,hv,Sem.run_bind,run_underlying ht,Result.andThen_ok,Sem.run_pure,zpp hisk _ 9999 (by decide),Instr.findKey,run_underlying hd,Instr.findNow,hzr]
  ·rename_i id
   split at h
   ·rename_i es hes
    obtain⟨es',clock,hv,hb,hl,hall⟩:=zwo hs.mem hmr hes
    have hkeys:∀(j:Nat) (p:AV×AV) (x:MapEntry),es[j]?=some p->es'.toList[j]?=some x->ARep num C p.1 x.key:=fun j p x hp hx=>(hall j p x hp (by simpa using hx)).1
    split at h
    ·rename_i hf
     obtain⟨q,hq,hqe⟩:=zr7 hs.mem hkt hkr (es':=es'.toList) (by simpa using hl) hkeys hf
     have:r=(if ok then .tup [zih zs agg,.imm (.val (.bool false))]else zih zs agg)/\s'=s:=by
      cases ok<;>(simp at h;exact⟨h.1.symm,h.2.symm⟩)
     obtain⟨rfl,rfl⟩:=this
     refine zbj hs (fun _ _=>?_) (zw1 hza ok false)
     simp only[Option.bind_none]at hqe
     subst hqe
     simp[execOp,Instr.lookup,hv,run_underlying ht,MapKept.run_getObj_map hb,zpp hisk _ 9999 (by decide),hq,hzr,Result.andThen]
    ·rename_i i hf
     obtain⟨q,hq,hqe⟩:=zr7 hs.mem hkt hkr (es':=es'.toList) (by simpa using hl) hkeys hf
     cases hp:es[i]? with
     |none=>rw[hp]at h;cases h
     |some p=>
      rw[hp]at h
      have hi:i<es'.size:=by rw[hl];exact(xab.1 hp).1
      have hx:es'[i]?=some es'[i]:=by simp[hi]
      have:r=(if ok then .tup [p.2,.imm (.val (.bool true))]else p.2)/\s'=s:=by
       cases ok<;>(simp at h;exact⟨h.1.symm,h.2.symm⟩)
      obtain⟨rfl,rfl⟩:=this
      refine zbj hs (fun _ _=>?_) (zw1 (hall i p _ hp hx).2 ok true)
      simp only[xbe,xbs,hx,xao]at hqe
      subst hqe
      simp[execOp,Instr.lookup,hv,run_underlying ht,MapKept.run_getObj_map hb,zpp hisk _ 9999 (by decide),hq,Result.andThen]
    ·cases h
   ·cases h
  ·cases h
 ·cases h
theorem z5o(hs:zas num C s a){t kt e:TypeId}{m k x:Operand}{m' k' x':Src}{kind:Nat}(ht:P.underlying t=some (.map kt e))(hm:zah num m=some m')(hk:zah num k=some k')(hx:zah num x=some x')(hkt:zed P kt=some kind){call:zac}{r:AV}{s':St}
  (h:zag call s (.mapSet kind m' k' x')=some (r,s')) {op:Op} (hop:op=.mapUpdate t m k x\/op=.insert t m k x):zbe num P op ty pos after a C s r s':=by
 simp only[zag]at h
 split at h
 ·rename_i hik
  have hkr:=zba hs hk
  have hmr:=zba hs hm
  have hxr:=zba hs hx
  have hisk:=z1x hkt hkr hik
  generalize hmv:s.env.ev m'=mv at h hmr
  split at h
  ·rename_i id
   split at h
   ·rename_i es hes
    obtain⟨es',clock,hv,hb,hl,hall⟩:=zwo hs.mem hmr hes
    have hkeys:∀(j:Nat) (p:AV×AV) (x:MapEntry),es[j]?=some p->es'.toList[j]?=some x->ARep num C p.1 x.key:=fun j p x hp hx=>(hall j p x hp (by simpa using hx)).1
    have hexec:∀{w':World},(Instr.mapUpdate t (.map (some (C.σ id))) (a.eval k) (a.eval x)).run P C.w=.ok () w'->∀dst g,(execOp a.eval ⟨dst,op,ty,pos,after,g⟩).run P C.w=.ok .skip w':=by
     intro w' hw dst g
     rcases hop with rfl|rfl<;>simp[execOp,hv,hw,Result.andThen]
    have hset:∀(es2:Array MapEntry) (clock2:Nat),let w':={ C.w with heap:=C.w.heap.setIfInBounds (C.σ id) (.map es2 clock2) }
      w'.heap[C.σ id]?=some (.map es2 clock2)/\(∀b,b≠C.σ id->w'.heap[b]?=C.w.heap[b]?)/\w'.heap.size=C.w.heap.size:=by
     intro es2 clock2
     exact⟨(MapKept.heap_set hb).1,(MapKept.heap_set hb).2,by simp⟩
    have hno:∀arr e fz,C.w.heap[C.σ id]?≠some (.cells arr e fz):=fun arr e fz h=>by rw[hb]at h;cases h
    have build:∀(es2:Array MapEntry) (clock2:Nat) (l:List (AV×AV)),es2.size=l.length->(∀(j:Nat) (p:AV×AV) (y:MapEntry),l[j]?=some p->es2[j]?=some y->ARep num C p.1 y.key/\ARep num C p.2 y.val)->
      (Instr.mapUpdate t (.map (some (C.σ id))) (a.eval k) (a.eval x)).run P C.w=.ok () { C.w with heap:=C.w.heap.setIfInBounds (C.σ id) (.map es2 clock2) }->
      zbe num P op ty pos after a C s .junk { s with mem:=s.mem.set id (.map l) }:=by
     intro es2 clock2 l hl2 hall2 hrun
     obtain⟨h1,h2,h3⟩:=hset es2 clock2
     have ht2:=z23 hs.mem hes rfl hno h2
     have hnew:zc4 num { C with w:={ C.w with heap:=C.w.heap.setIfInBounds (C.σ id) (.map es2 clock2) } } id (.map l):=by
      refine⟨es2,clock2,h1,hl2,fun j p y hp hy=>?_⟩
      obtain⟨g1,g2⟩:=hall2 j p y hp hy
      exact⟨g1.mono ht2,g2.mono ht2⟩
     refine⟨undef,{ C with w:={ C.w with heap:=C.w.heap.setIfInBounds (C.σ id) (.map es2 clock2) } },fun dst g=>.inr ⟨hexec hrun dst g,rfl⟩,yff hs.mem hes rfl hno h2 rfl rfl rfl h3 rfl (o':=.map l) hnew hs.k,hs.env.mono ht2,.junk _,rfl⟩
    split at h
    ·rename_i hf
     cases h
     obtain⟨q,hq,hqe⟩:=zr7 hs.mem hkt hkr (es':=es'.toList) (by simpa using hl) hkeys hf
     simp only[Option.bind_none]at hqe
     subst hqe
     refine build (es'.push { key:=a.eval k,val:=a.eval x,born:=clock }) (clock+1) _ (by simp[hl]) (fun j p y hp hy=>?_) ?_
     ·rcases xa1 j es.length with hj|hj
      ·rw[xac hj]at hp
       rw[Array.getElem?_push,if_neg (by omega)]at hy
       exact hall j p y hp hy
      ·have hj':j=es.length:=by
        have:=(xab.1 hp).1
        simp at this;omega
       subst hj'
       simp at hp
       rw[Array.getElem?_push,if_pos hl.symm]at hy
       cases hy
       subst hp
       exact⟨hkr,hxr⟩
     ·simp[Instr.mapUpdate,run_underlying ht,MapKept.run_getObj_map hb,zpp hisk _ 9999 (by decide),hq,MapKept.run_setObj_map _ hb,Result.andThen]
    ·rename_i i hf
     cases h
     obtain⟨q,hq,hqe⟩:=zr7 hs.mem hkt hkr (es':=es'.toList) (by simpa using hl) hkeys hf
     obtain⟨_,p,hp,hke⟩:=z0u es 0 i hf
     simp only[Nat.sub_zero]at hp
     have hi:i<es'.size:=by rw[hl];exact(xab.1 hp).1
     have hx':es'[i]?=some es'[i]:=by simp[hi]
     simp only[xbe,xbs,hx',xao]at hqe
     subst hqe
     have hstay:=z99 (P:=P) hkr (hall i p _ hp hx').1 hke C.w
     refine build (es'.modify i fun e=>{ e with key:=a.eval k,val:=a.eval x }) clock _ (by simp[hl]) (fun j p2 y hp2 hy=>?_) ?_
     ·rw[zhi]at hp2
      rw[Array.getElem?_modify]at hy
      split at hp2
      ·rename_i hij
       obtain⟨rfl,_⟩:=hij
       cases hp2
       rw[if_pos rfl,hx']at hy
       cases hy
       exact⟨hkr,hxr⟩
      ·rename_i hij
       have hne:i≠j:=fun e=>hij ⟨e,(xab.1 hp2).1⟩
       rw[if_neg hne]at hy
       exact hall j p2 y hp2 hy
     ·simp[Instr.mapUpdate,run_underlying ht,MapKept.run_getObj_map hb,zpp hisk _ 9999 (by decide),hq,hi,hstay,MapKept.run_setObj_map _ hb,Result.andThen]
    ·cases h
   ·cases h
  ·cases h
 ·cases h
theorem ykd(hs:zas num C s a){t kt e:TypeId}{x:Operand}{x':Src}(hx:zah num x=some x')(ht:P.underlying t=some (.map kt e)){call:zac}{r:AV}{s':St}(h:zag call s (.lenM x')=some (r,s')):
  zbe num P (.call ⟨.builtin .len,#[x],#[t]⟩) ty pos after a C s r s':=by
 have hxr:=zba hs hx
 simp only[zag]at h
 generalize hmv:s.env.ev x'=mv at h hxr
 split at h
 ·cases h
  have hv:=zbw hxr
  refine zbj hs (fun _ _=>?_) (.imm _ _ (.val _ rfl))
  simp[execOp,resolve,invoke,builtin,hv,Builtin.len_,run_underlying ht,goInt]
 ·rename_i id
  split at h
  ·rename_i es hes
   cases h
   obtain⟨es',clock,hv,hb,hl,hall⟩:=zwo hs.mem hxr hes
   refine zbj hs (fun _ _=>?_) (.imm _ _ (.val _ rfl))
   simp[execOp,resolve,invoke,builtin,hv,Builtin.len_,run_underlying ht,MapKept.run_getObj_map hb,goInt,hl,Result.andThen]
  ·cases h
 ·cases h
end
section
variable {num:Names} {P:Program}
variable {ty:TypeId} {pos:String} {after:Array Edge} {a:Act} {C:Cx} {s:St}
def Cx.still(C:Cx)(ids:List Nat):Cx:={ C with I:=fun b=>C.I b\/∃i∈ids,C.σ i=b }
theorem zsk(C:Cx)(ids:List Nat):Tr some C (C.still ids):=
 ⟨fun b hb=>.inl hb,fun b _=>rfl,fun id j hid hj=>by cases hj;exact⟨hid,rfl,fun _ _ h=>h⟩⟩
end
section
variable {num:Names} {P:Program}
variable {ty:TypeId} {pos:String} {after:Array Edge} {a:Act} {C:Cx} {s:St}
theorem z0y{m:Mem}(hm:MRep num C m){k:Nat}(hk:k<=m.length){id:Nat}{cs:List IV}{mv:Bool}(hid:m[id]?=some (.flat cs mv)):
  Step num k C m (C.still [id]) (m.set id .dead):=by
 have ht:=zsk C [id]
 have hget:∀(j:Nat) o',(m.set id .dead)[j]?=some o'->(j=id/\o'=.dead)\/(j≠id/\m[j]?=some o'):=by
  intro j o' h
  rw[List.getElem?_set]at h
  by_cases hj:id=j
  ·subst hj
   rw[if_pos rfl]at h
   split at h
   ·exact .inl ⟨rfl,(xau h).symm⟩
   ·cases h
  ·rw[if_neg hj]at h
   exact .inr ⟨fun e=>hj e.symm,h⟩
 have hwas:∀(j:Nat) o',(m.set id .dead)[j]?=some o'->o'.live=true->j≠id/\m[j]?=some o':=by
  intro j o' h hl
  rcases hget j o' h with⟨_,rfl⟩|h
  ·cases hl
  ·exact h
 have hown:∀b,Own (C.still [id]) (m.set id .dead) b->Own C m b:=by
  rintro b ⟨j,o',h,hl,hb⟩
  exact⟨j,o',(hwas j o' h hl).2,hl,hb⟩
 refine⟨⟨?_,?_,?_,?_,?_,?_⟩,rfl,rfl,rfl,xap _,fun _ _ _=>rfl,fun _ _ _ h=>h,fun b hb=>.inl hb,?_,fun b hb=>.inr (hown b hb),?_,?_⟩
 ·rw[xb8];exact hm.len
 ·intro j o' h
  rcases hget j o' h with⟨_,rfl⟩|⟨_,h⟩
  ·trivial
  ·exact zh6 ht rfl (fun _ h=>h) (hm.obj j o' h)
 ·intro i j o p hi hj hlo hlp he
  exact hm.inj i j o p (hwas i o hi hlo).2 (hwas j p hj hlp).2 hlo hlp he
 ·rintro b ⟨j,o',h,hl,hb⟩ hI
  obtain⟨hj,ho⟩:=hwas j o' h hl
  rcases hI with hI|⟨i,hi,hσ⟩
  ·exact hm.imm b ⟨j,o',ho,hl,hb⟩ hI
  ·rw[xav.1 hi]at hσ
   have:=hm.inj1 num id j _ o' hid ho rfl hl rfl (hσ.trans hb.symm)
   exact hj this.symm
 ·rintro b (hI|⟨i,hi,rfl⟩)
  ·exact hm.bd b hI
  ·rw[xav.1 hi]
   exact hm.lt num ⟨id,_,hid,rfl,rfl⟩
 ·exact num.up hm.glo (fun b hb=>.inl hb) (fun _ _=>rfl)
 ·rintro b (hI|⟨i,hi,rfl⟩)
  ·exact .inl hI
  ·rw[xav.1 hi]
   exact .inr (.inr ⟨id,_,hid,rfl,rfl⟩)
 ·intro i hi o' ho hmv
  rcases hget i o' ho with⟨_,rfl⟩|⟨_,h⟩
  ·cases hmv
  ·exact⟨o',h,hmv,rfl⟩
 ·rw[xb8];exact hk
theorem z0x{m:Mem}(hm:MRep num C m){id off sz len:Nat}{cap:Option Nat}{cs:List IV}{mv:Bool}(hid:m[id]?=some (.flat cs mv)){v:Value}(h:ARep num C (.osl id off sz len cap) v):
  ARep num (C.still [id]) (.imm (.slice cs off len cap)) v:=by
 have ht:=zsk C [id]
 cases h with
 |osl _ _ _ _ _ c ad arr0 e0 hid' hl hk' ha hw hs=>
  obtain⟨arr2,e2,h3,h4⟩:=hm.obj id _ hid
  have hcell:∀(p:Nat) x,cs[p]?=some x->C.w.cell? ⟨C.σ id,0+p,none⟩=some (arr2.getD p undef)/\IRep C.I C.w x (arr2.getD p undef):=by
   intro p x hx
   obtain⟨u,hu,hr⟩:=h4 p x hx
   have:arr2.getD p undef=u:=by simp[xbn,hu]
   rw[this]
   exact⟨by rw[cell_of_row C.w _ _ arr2 e2 _ h3,xaw];exact hu,hr⟩
  refine .imm _ _ (.slice cs off len cap (C.σ id) 0 c ad (fun p=>arr2.getD p undef) (.inr ⟨id,xav.2 rfl,rfl⟩) (fun p x hx=>(hcell p x hx).1) (fun p x hx=>(hcell p x hx).2.mono ht.imm ht.keep) hl.1 hk' (by rw[xaw];exact ha))
theorem z1h(hs:zas num C s a){op:Op}{x:Operand}{y:Src}(hop:∀dst g,(execOp a.eval ⟨dst,op,ty,pos,after,g⟩).run P C.w=.ok (.value (a.eval x)) C.w)(h:zah num x=some y){r:AV}{s':St}(he:zoi s (s.env.ev y)=some (r,s')):zbe num P op ty pos after a C s r s':=by
 have hv:=zba hs h
 unfold zoi at he
 split at he
 ·rename_i z hz
  cases he
  rw[hz]at hv
  exact zbj hs hop hv
 ·rename_i id off sz len cap hz
  rw[hz]at hv
  split at he
  ·rename_i cs mv hid
   cases he
   exact⟨_,C.still [id],fun dst g=>.inl (hop dst g),z0y (k:=s.k) hs.mem hs.k hid,hs.env.mono (zsk C [id]),z0x hs.mem hid hv,rfl⟩
  ·cases he
 ·cases he
theorem yj9(hs:zas num C s a){x:Operand}{y:Src}(h:zah num x=some y){r:AV}{s':St}(he:zoi s (s.env.ev y)=some (r,s')):zbe num P (.move x) ty pos after a C s r s':=z1h hs (fun _ _=>rfl) h he
theorem yka(hs:zas num C s a){x:Operand}{y:Src}(h:zah num x=some y){r:AV}{s':St}(he:zoi s (s.env.ev y)=some (r,s')):zbe num P (.assign x) ty pos after a C s r s':=z1h hs (fun _ _=>rfl) h he
theorem ykp(hs:zas num C s a){t:TypeId}{p x:Operand}{p' x':Src}(hk:known P t=true)(hp:zah num p=some p')(hx:zah num x=some x'){c n:Nat}(hn:n=P.cellsOf t)
  {r:AV} {s':St} (h:zen s c n (s.env.ev p') (s.env.ev x')=some (r,s')):zbe num P (.store t p x) ty pos after a C s r s':=by
 unfold zen at h
 split at h
 ·rename_i rid off id o sz len cap e1 e2
  split at h
  ·split at h
   ·rename_i hn1
    cases hst:storeAt s.mem (.optr rid off) [.osl id o sz len cap]with
    |none=>rw[hst]at h;cases h
    |some m=>
     rw[hst]at h;cases h
     refine zyr hs hk hp hx (cs:=[.osl id o sz len cap]) (by rw[e2];rfl) (by rw[<-hn,hn1];rfl) ?_
     rw[e1];exact hst
   ·cases h
  ·split at h
   ·rename_i cs mv hid
    split at h
    ·rename_i hc
     obtain⟨hn1,hne⟩:=hc
     cases hst:storeAt (s.mem.set id .dead) (.optr rid off) [.imm (.slice cs o len cap)]with
     |none=>rw[hst]at h;cases h
     |some m=>
      rw[hst]at h;cases h
      have ht:=zsk C [id]
      have f1:=z0y (k:=s.k) hs.mem hs.k hid
      have hvx:=zba hs hx
      have hvp:=zba hs hp
      rw[e2]at hvx
      rw[e1]at hvp
      have hv:=z0x hs.mem hid hvx
      obtain⟨i,d,hi,hd,hsz,_⟩:=zd7 hk
      obtain⟨hl,ho,hr⟩:=zpk hv (cs:=[.imm (.slice cs o len cap)]) rfl
      obtain⟨b,o',w',hvv,hrun,hst',htr⟩:=z4g (P:=P) f1.rep (hvp.mono ht) (us:=(a.eval x).cells.toList) (by simpa using hl)
       (fun u hu=>by
        obtain⟨j,hj⟩:=xa3 hu
        exact ho j u (by simpa using hj)) (fun j y u hy hu=>hr j y u hy (by simpa using hu)) hst (k:=s.k) (by rw[xb8];exact hs.k)
      refine⟨undef,_,fun _ _=>.inr ⟨?_,rfl⟩,f1.trans hst',(hs.env.mono ht).mono htr,.junk _,rfl⟩
      have hsz':(a.eval x).cells.size=1:=by
       have:=hl
       simp at this
       omega
      have hne:¬((a.eval x).cells.size≠i.size):=by simp only[ne_eq,Decidable.not_not];omega
      simp only[execOp,Instr.storeAt,Sem.run_bind,hvv,Instr.sureAddr,Sem.run_pure,Result.andThen_ok,storeVar,zgf hi]
      rw[if_neg hne]
      have hrun':(storeCells ⟨b,o',none⟩ (a.eval x).cells.toList).run P C.w=.ok () w':=hrun
      simp[hrun']
    ·cases h
   ·cases h
 ·rename_i rid off y e1 e2
  split at h
  ·rename_i hn1
   cases hst:storeAt s.mem (.optr rid off) [.imm y]with
   |none=>rw[hst]at h;cases h
   |some m=>
    rw[hst]at h;cases h
    refine zyr hs hk hp hx (cs:=[.imm y]) (by rw[e2];rfl) (by rw[<-hn,hn1];rfl) ?_
    rw[e1];exact hst
  ·cases h
 ·cases h
end
theorem refsL_mem:∀{l:List AV} {id:Nat},id∈AV.refs.refsL l↔ ∃x∈l,id∈x.refs
 |[],id=>by simp[AV.refs.refsL]
 |x::r,id=>by simp[AV.refs.refsL,refsL_mem (l:=r)]
mutual
theorem zjw {f g:Nat->Option Nat}:∀(x:AV),(∀id∈x.refs,f id=g id)->x.ren f=x.ren g
 |.imm _,_=>rfl
 |.osl id ..,h=>by simp only[AV.ren,h id (by simp[AV.refs])]
 |.optr id _,h=>by simp only[AV.ren,h id (by simp[AV.refs])]
 |.omap id,h=>by simp only[AV.ren,h id (by simp[AV.refs])]
 |.yld id,h=>by simp only[AV.ren,h id (by simp[AV.refs])]
 |.seat id _,h=>by simp only[AV.ren,h id (by simp[AV.refs])]
 |.tag ..,_=>rfl
 |.err,_=>rfl
 |.clo fn caps,h=>by simp only[AV.ren,zpg caps h]
 |.agg cells,h=>by simp only[AV.ren,zpg cells h]
 |.tup vs,h=>by simp only[AV.ren,zpg vs h]
 |.junk,_=>rfl
theorem zpg {f g:Nat->Option Nat}:∀(l:List AV),(∀id∈AV.refs.refsL l,f id=g id)->AV.ren.renL f l=AV.ren.renL g l
 |[],_=>rfl
 |x::r,h=>by
  simp only[AV.ren.renL]
  rw[zjw x fun id hid=>h id (by simp only[AV.refs.refsL,xaj];exact .inl hid),zpg r fun id hid=>h id (by simp only[AV.refs.refsL,xaj];exact .inr hid)]
end
theorem zmv{f:Nat->Option Nat}{x:AV}(h:∀id∈x.refs,f id=some id):x.ren f=x:=by
 rw[zjw x (g:=some) h,zjx]
mutual
theorem zmx {f g:Nat->Option Nat}:∀(x:AV),(x.ren g).ren f=x.ren fun i=>(g i).bind f
 |.imm _=>rfl
 |.osl id .. =>by simp only[AV.ren];cases g id<;>rfl
 |.optr id _=>by simp only[AV.ren];cases g id<;>rfl
 |.omap id=>by simp only[AV.ren];cases g id<;>rfl
 |.yld id=>by simp only[AV.ren];cases g id<;>rfl
 |.seat id _=>by simp only[AV.ren];cases g id<;>rfl
 |.tag .. =>rfl
 |.err=>rfl
 |.clo fn caps=>by simp only[AV.ren,zpi caps]
 |.agg cells=>by simp only[AV.ren,zpi cells]
 |.tup vs=>by simp only[AV.ren,zpi vs]
 |.junk=>rfl
theorem zpi {f g:Nat->Option Nat}:∀(l:List AV),AV.ren.renL f (AV.ren.renL g l)=AV.ren.renL (fun i=>(g i).bind f) l
 |[]=>rfl
 |x::r=>by simp only[AV.ren.renL,zmx x,zpi r]
end
mutual
theorem zk7 {f:Nat->Option Nat}:∀(x:AV) (id:Nat),id∈(x.ren f).refs->∃i∈x.refs,f i=some id
 |.imm _,id,h=>by simp[AV.ren,AV.refs]at h
 |.osl i ..,id,h=>by
  simp only[AV.ren]at h
  cases hf:f i with
  |none=>simp[hf,AV.refs]at h
  |some j=>simp[hf,AV.refs]at h;exact⟨i,by simp[AV.refs],by rw[hf,h]⟩
 |.optr i _,id,h=>by
  simp only[AV.ren]at h
  cases hf:f i with
  |none=>simp[hf,AV.refs]at h
  |some j=>simp[hf,AV.refs]at h;exact⟨i,by simp[AV.refs],by rw[hf,h]⟩
 |.omap i,id,h=>by
  simp only[AV.ren]at h
  cases hf:f i with
  |none=>simp[hf,AV.refs]at h
  |some j=>simp[hf,AV.refs]at h;exact⟨i,by simp[AV.refs],by rw[hf,h]⟩
 |.yld i,id,h=>by
  simp only[AV.ren]at h
  cases hf:f i with
  |none=>simp[hf,AV.refs]at h
  |some j=>simp[hf,AV.refs]at h;exact⟨i,by simp[AV.refs],by rw[hf,h]⟩
 |.seat i _,id,h=>by
  simp only[AV.ren]at h
  cases hf:f i with
  |none=>simp[hf,AV.refs]at h
  |some j=>simp[hf,AV.refs]at h;exact⟨i,by simp[AV.refs],by rw[hf,h]⟩
 |.clo fn caps,id,h=>by simp only[AV.ren,AV.refs]at h ⊢;exact zph caps id h
 |.agg cells,id,h=>by simp only[AV.ren,AV.refs]at h ⊢;exact zph cells id h
 |.tup vs,id,h=>by simp only[AV.ren,AV.refs]at h ⊢;exact zph vs id h
 |.tag ..,id,h=>by simp[AV.ren,AV.refs]at h
 |.err,id,h=>by simp[AV.ren,AV.refs]at h
 |.junk,id,h=>by simp[AV.ren,AV.refs]at h
theorem zph {f:Nat->Option Nat}:∀(l:List AV) (id:Nat),id∈AV.refs.refsL (AV.ren.renL f l)->∃i∈AV.refs.refsL l,f i=some id
 |[],id,h=>by simp[AV.ren.renL,AV.refs.refsL]at h
 |x::r,id,h=>by
  simp only[AV.ren.renL,AV.refs.refsL,xaj]at h ⊢
  rcases h with h|h
  ·obtain⟨i,hi,e⟩:=zk7 x id h;exact⟨i,.inl hi,e⟩
  ·obtain⟨i,hi,e⟩:=zph r id h;exact⟨i,.inr hi,e⟩
end
theorem env_roots_mem:∀{e:Env} {id:Nat},id∈Env.roots e↔ ∃p∈e,id∈p.2.refs
 |[],id=>by simp[Env.roots]
 |(k,v)::r,id=>by simp[Env.roots,env_roots_mem (e:=r)]
theorem z0j{f g:Nat->Option Nat}:∀(e:Env),(∀id∈Env.roots e,f id=g id)->Env.ren f e=Env.ren g e
 |[],_=>rfl
 |(k,v)::r,h=>by
  simp only[Env.ren]
  rw[zjw v fun id hid=>h id (by simp only[Env.roots,xaj];exact .inl hid),z0j r fun id hid=>h id (by simp only[Env.roots,xaj];exact .inr hid)]
theorem z0k{f g:Nat->Option Nat}:∀(e:Env),(e.ren g).ren f=e.ren fun i=>(g i).bind f
 |[]=>rfl
 |(k,v)::r=>by simp only[Env.ren,zmx v,z0k r]
theorem z8n{f:Nat->Option Nat}{e:Env}{id:Nat}(h:id∈Env.roots (e.ren f)):∃i∈Env.roots e,f i=some id:=by
 obtain⟨q,hq,hid⟩:=env_roots_mem.1 h
 obtain⟨p,hp,rfl⟩:=zvw hq
 obtain⟨i,hi,he⟩:=zk7 p.2 id hid
 exact⟨i,env_roots_mem.2 ⟨p,hp,hi⟩,he⟩
theorem zh3{f g:Nat->Option Nat}(o:AObj)(h:∀id∈o.refs,f id=g id):o.ren f=o.ren g:=by
 cases o with
 |flat=>rfl
 |rich cs=>simp only[AObj.ren];rw[zpg cs h]
 |map es=>
  simp only[AObj.ren,AObj.map.injEq]
  refine xbk fun p hp=>?_
  rw[zjw p.1 fun id hid=>h id (by simp only[AObj.refs,xaj];exact .inl (refsL_mem.2 ⟨p.1,xbd.2 ⟨p,hp,rfl⟩,hid⟩)),zjw p.2 fun id hid=>h id (by simp only[AObj.refs,xaj];exact .inr (refsL_mem.2 ⟨p.2,xbd.2 ⟨p,hp,rfl⟩,hid⟩))]
 |dead=>rfl
 |fix=>rfl
 |loop env ps as b y=>simp only[AObj.ren];rw[z0j env h]
 |text=>rfl
 |iter=>rfl
theorem zhe{f:Nat->Option Nat}{o:AObj}(h:∀id∈o.refs,f id=some id):o.ren f=o:=by
 rw[zh3 o (g:=some) h,zmq]
theorem zmp{f g:Nat->Option Nat}(o:AObj):(o.ren g).ren f=o.ren fun i=>(g i).bind f:=by
 cases o with
 |flat=>rfl
 |rich cs=>simp only[AObj.ren,zpi]
 |map es=>simp only[AObj.ren,xc3,AObj.map.injEq];exact xbk fun p _=>by simp only[Function.comp,zmx]
 |dead=>rfl
 |fix=>rfl
 |loop env ps as b y=>simp only[AObj.ren,z0k]
 |text=>rfl
 |iter=>rfl
theorem zrr{f:Nat->Option Nat}(o:AObj)(id:Nat)(h:id∈(o.ren f).refs):∃i∈o.refs,f i=some id:=by
 cases o with
 |flat=>simp[AObj.ren,AObj.refs]at h
 |rich cs=>simp only[AObj.ren,AObj.refs]at h ⊢;exact zph cs id h
 |map es=>
  simp only[AObj.ren,AObj.refs,xaj]at h ⊢
  rcases h with h|h
  ·obtain⟨x,hx,hid⟩:=refsL_mem.1 h
   simp only[xc3,xbd,Function.comp]at hx
   obtain⟨p,hp,rfl⟩:=hx
   obtain⟨i,hi,e⟩:=zk7 p.1 id hid
   exact⟨i,.inl (refsL_mem.2 ⟨p.1,xbd.2 ⟨p,hp,rfl⟩,hi⟩),e⟩
  ·obtain⟨x,hx,hid⟩:=refsL_mem.1 h
   simp only[xc3,xbd,Function.comp]at hx
   obtain⟨p,hp,rfl⟩:=hx
   obtain⟨i,hi,e⟩:=zk7 p.2 id hid
   exact⟨i,.inr (refsL_mem.2 ⟨p.2,xbd.2 ⟨p,hp,rfl⟩,hi⟩),e⟩
 |dead=>simp[AObj.ren,AObj.refs]at h
 |fix=>simp[AObj.ren,AObj.refs]at h
 |loop env ps as b y=>simp only[AObj.ren,AObj.refs]at h ⊢;exact z8n h
 |text=>simp[AObj.ren,AObj.refs]at h
 |iter=>simp[AObj.ren,AObj.refs]at h
theorem zq7{f:Nat->Option Nat}(h:∀id,f id=some id):∀(e:Env),e.ren f=e
 |[]=>rfl
 |(k,v)::r=>by simp only[Env.ren,zq7 h r,zmv fun id _=>h id]
theorem zo4(o:AObj):o.orMoved false=o:=zwz o
theorem yey{x:AV}{f:Nat->Option Nat}(h:(x.ren f).plain1=true)(g:Nat->Option Nat):x.ren g=x.ren f:=by
 cases x with
 |imm v=>rfl
 |osl id=>simp only[AV.ren]at h;split at h<;>cases h
 |optr id=>simp only[AV.ren]at h;split at h<;>cases h
 |omap id=>simp only[AV.ren]at h;split at h<;>cases h
 |yld id=>simp only[AV.ren]at h;split at h<;>cases h
 |seat id=>simp only[AV.ren]at h;split at h<;>cases h
 |_=>first|rfl|cases h
theorem z2z{f:Nat->Option Nat}(g:Nat->Option Nat):∀{l:List AV},(AV.ren.renL f l).all AV.plain1=true->AV.ren.renL g l=AV.ren.renL f l
 |[],_=>rfl
 |x::l,h=>by
  simp only[AV.ren.renL,xcp,xae]at h ⊢
  rw[yey h.1 g,z2z g h.2]
theorem z2y{x:AV}{f:Nat->Option Nat}(h:(x.ren f).plain2=true)(g:Nat->Option Nat):x.ren g=x.ren f:=by
 cases x with
 |agg cs=>simp only[AV.ren,AV.plain2]at h ⊢;rw[z2z g h]
 |imm v=>rfl
 |osl id=>simp only[AV.ren]at h;split at h<;>cases h
 |optr id=>simp only[AV.ren]at h;split at h<;>cases h
 |omap id=>simp only[AV.ren]at h;split at h<;>cases h
 |yld id=>simp only[AV.ren]at h;split at h<;>cases h
 |seat id=>simp only[AV.ren]at h;split at h<;>cases h
 |_=>first|rfl|cases h
theorem z21{f:Nat->Option Nat}(g:Nat->Option Nat):∀{l:List AV},(AV.ren.renL f l).all AV.plain2=true->AV.ren.renL g l=AV.ren.renL f l
 |[],_=>rfl
 |x::l,h=>by
  simp only[AV.ren.renL,xcp,xae]at h ⊢
  rw[z2y h.1 g,z21 g h.2]
theorem ye1{x:AV}{f:Nat->Option Nat}(h:(x.ren f).plain=true)(g:Nat->Option Nat):x.ren g=x.ren f:=by
 cases x with
 |tup cs=>simp only[AV.ren,AV.plain]at h ⊢;rw[z21 g h]
 |agg cs=>exact z2y (by simpa only[AV.ren,AV.plain]using h) g
 |imm v=>rfl
 |osl id=>simp only[AV.ren]at h;split at h<;>cases h
 |optr id=>simp only[AV.ren]at h;split at h<;>cases h
 |omap id=>simp only[AV.ren]at h;split at h<;>cases h
 |yld id=>simp only[AV.ren]at h;split at h<;>cases h
 |seat id=>simp only[AV.ren]at h;split at h<;>cases h
 |_=>first|rfl|cases h
theorem ye2{x:AV}(h:x.plain=true)(g:Nat->Option Nat):x.ren g=x:=by
 have:=ye1 (x:=x) (f:=some) (by rw[zjx];exact h) g
 rwa [zjx]at this
theorem yew{call:zac}{s:St}{fn:Nat}{args:List AV}{r:AV}{s':St}(h:zdc call s fn args=some (r,s')):s'=s/\r.plain=true/\zb2 call s fn args=some (r,s):=by
 unfold zdc at h
 unfold zb2
 dsimp only at h ⊢
 obtain⟨hnd,hlt,_⟩:=zmt (k:=0) (roots:=AV.refs.refsL args) (m:=s.mem) (xcb _)
 generalize order 0 (AV.refs.refsL args) s.mem=l at *
 cases hc:call fn (AV.ren.renL (place l) args) (s.mem.pickAll l)with
 |none=>simp[hc]at h
 |some rm=>
  obtain⟨rv,mc⟩:=rm
  simp only[hc]at h ⊢
  split at h
  case isFalse=>cases h
  rename_i hq
  obtain⟨rfl,hp,hall⟩:=hq
  simp only[xaf,xay]at h
  obtain⟨rfl,rfl⟩:=h
  refine⟨rfl,hp,?_⟩
  have hpl:(s.mem.pickAll l).length=l.length:=by simp[Mem.pickAll]
  have hget:∀(i id:Nat),l[i]?=some id->(s.mem.pickAll l)[i]?=some (((s.mem[id]?).getD .dead).ren (place l)):=by
   intro i id hi;simp[Mem.pickAll,hi]
  have hok:∀id∈l,((s.mem[id]?).getD .dead).moved=false/\∀j∈((s.mem[id]?).getD .dead).refs,j∈l:=by
   intro id hid
   have:=xai.1 hall id hid
   simp only[xae,xcd,xai,List.contains_iff_mem]at this
   exact this.2
  have hsok:zgh s.mem l=true:=by
   simp only[zgh,xbu]
   left
   rw[xai]at hall ⊢
   intro id hid
   have:=hall id hid
   simp only[xae]at this
   exact this.1
  rw[if_neg (by rw[hsok];decide)]
  have hstay:∀id,(match place l id with
   |some i=>if (((s.mem.pickAll l)[i]?).getD .dead).moved then none else some id
   |none=>some id)=some id:=by
   intro id
   cases hpi:place l id with
   |none=>rfl
   |some i=>
    have hi:=zdp l id i hpi
    simp only[hget i id hi,xa0]
    have hm:=(hok id (xah hi)).1
    have:(((s.mem[id]?).getD .dead).ren (place l)).moved=false:=by rw[<-hm];cases (s.mem[id]?).getD .dead<;>rfl
    simp[this]
  rw[ye2 hp]
  have hmem:∀back stay:Nat->Option Nat,(∀i,i<l.length->back i=l[i]?)->(∀id,stay id=some id)->(List.range (s.mem.length+((s.mem.pickAll l).length-l.length))).map (zd1 s l (s.mem.pickAll l) back stay)=s.mem:=by
   intro back stay hback hst
   rw[hpl,xcl,xbi]
   apply xbf
   intro id
   rcases xa1 id s.mem.length with hlt'|hge
   ·rw[xar,xbx hlt',xaa hlt']
    simp only[xao,xaf]
    unfold zd1
    have hg:(s.mem[id]?).getD .dead=s.mem[id]:=by rw[xaa hlt'];rfl
    cases hpi:place l id with
    |none=>
     simp only[hlt',if_true,hg]
     exact zhe fun j _=>hst j
    |some i=>
     have hi:=zdp l id i hpi
     obtain⟨hm,hcl⟩:=hok id (xah hi)
     simp only[hget i id hi,xa0,hg]at hm hcl ⊢
     rw[hm,zo4,zmp]
     refine zhe fun j hj=>?_
     have hjl:=hcl j hj
     cases hpj:place l j with
     |none=>
      obtain⟨q,hq⟩:=xa3 hjl
      rw[zhg l j q hnd hq]at hpj;cases hpj
     |some q=>
      have hq:=zdp l j q hpj
      simp only[xbe]
      rw[hback q (xab.1 hq).1,hq]
   ·rw[xaq (by simpa using hge),xaq hge]
  refine congrArg (fun u:St=>some (rv,u)) (?_:St.mk s.k _ _=St.mk s.k s.env s.mem)
  rw[St.mk.injEq]
  exact⟨rfl,zq7 hstay _,hmem _ _ (fun i hi=>if_pos hi) hstay⟩
theorem ya4{call:zac}{s:St}{fn:Nat}{args:List AV}{r:AV}{s':St}(h:zbg call s fn args=some (r,s')):zb2 call s fn args=some (r,s'):=by
 unfold zbg at h
 unfold zb2
 dsimp only at h ⊢
 obtain⟨hnd,hlt,_⟩:=zmt (k:=0) (roots:=AV.refs.refsL args) (m:=s.mem) (xcb _)
 generalize order 0 (AV.refs.refsL args) s.mem=l at *
 cases hc:call fn (AV.ren.renL (place l) args) (s.mem.pickAll l)with
 |none=>simp[hc]at h
 |some rm=>
  obtain⟨rv,mc⟩:=rm
  simp only[hc]at h ⊢
  split at h
  case isFalse=>cases h
  rename_i hq
  obtain⟨hmc,hall⟩:=hq
  rw[xae]at hall
  replace hall:=hall.1
  simp only[xaf,xay]at h
  obtain⟨rfl,rfl⟩:=h
  have hpl:(s.mem.pickAll l).length=l.length:=by simp[Mem.pickAll]
  have hml:l.length<=mc.length:=by
   have:=congrArg List.length hmc
   rw[xb7,hpl]at this
   omega
  have hget:∀(i id:Nat),l[i]?=some id->mc[i]?=some (((s.mem[id]?).getD .dead).ren (place l)):=by
   intro i id hi
   have hil:=(xab.1 hi).1
   have h1:(mc.take l.length)[i]?=mc[i]?:=by rw[xce,if_pos hil]
   rw[<-h1,hmc]
   simp[Mem.pickAll,hi]
  have hok:∀id∈l,((s.mem[id]?).getD .dead).moved=false/\∀j∈((s.mem[id]?).getD .dead).refs,j∈l:=by
   intro id hid
   have:=xai.1 hall id hid
   simp only[xae,xcd,xai,List.contains_iff_mem]at this
   exact this.2
  have hsok:zgh s.mem l=true:=by
   simp only[zgh,xbu]
   left
   rw[xai]at hall ⊢
   intro id hid
   have:=hall id hid
   simp only[xae]at this
   exact this.1
  rw[if_neg (by rw[hsok];decide)]
  have hstay:∀id,(match place l id with
   |some i=>if ((mc[i]?).getD .dead).moved then none else some id
   |none=>some id)=some id:=by
   intro id
   cases hpi:place l id with
   |none=>rfl
   |some i=>
    have hi:=zdp l id i hpi
    simp only[hget i id hi,xa0]
    have hm:=(hok id (xah hi)).1
    have:(((s.mem[id]?).getD .dead).ren (place l)).moved=false:=by rw[<-hm];cases (s.mem[id]?).getD .dead<;>rfl
    simp[this]
  have hmem:∀back stay:Nat->Option Nat,(∀i,i<l.length->back i=l[i]?)->(∀id,stay id=some id)->(List.range (s.mem.length+(mc.length-l.length))).map (zd1 s l mc back stay)=s.mem++(mc.drop l.length).map (AObj.ren back):=by
   intro back stay hback hst
   apply xbf
   intro id
   rcases xa1 id s.mem.length with hlt'|hge
   ·rw[xar,xbx (by omega),xac hlt',xaa hlt']
    simp only[xao,xaf]
    unfold zd1
    have hg:(s.mem[id]?).getD .dead=s.mem[id]:=by rw[xaa hlt'];rfl
    cases hpi:place l id with
    |none=>
     simp only[hlt',if_true,hg]
     exact zhe fun j _=>hst j
    |some i=>
     have hi:=zdp l id i hpi
     obtain⟨hm,hcl⟩:=hok id (xah hi)
     simp only[hget i id hi,xa0,hg]at hm hcl ⊢
     rw[hm,zo4,zmp]
     refine zhe fun j hj=>?_
     have hjl:=hcl j hj
     cases hpj:place l j with
     |none=>
      obtain⟨q,hq⟩:=xa3 hjl
      rw[zhg l j q hnd hq]at hpj;cases hpj
     |some q=>
      have hq:=zdp l j q hpj
      simp only[xbe]
      rw[hback q (xab.1 hq).1,hq]
   ·rcases xa1 id (s.mem.length+(mc.length-l.length))with hlt'|hge'
    ·have hnone:place l id=none:=zw8 fun hmem=>by have:=hlt _ hmem;omega
     rw[xar,xbx hlt',xag hge,xar,xbv]
     have hi:l.length+(id-s.mem.length)<mc.length:=by omega
     simp only[xao,xaa hi,xaf]
     unfold zd1
     simp only[hnone,if_neg (Nat.not_lt.2 hge),xaa hi,xa0]
    ·rw[xaq (by simpa using hge'),xaq (by simp;omega)]
  refine congrArg (fun u:St=>some (rv.ren _,u)) (?_:St.mk s.k _ _=St.mk s.k s.env _)
  rw[St.mk.injEq]
  exact⟨rfl,zq7 hstay _,hmem _ _ (fun i hi=>if_pos hi) hstay⟩
theorem zxz{call:zac}{s:St}{fn:Nat}{args:List AV}{r:AV}{s':St}(h:zf7 call s fn args=some (r,s')):zb2 call s fn args=some (r,s'):=by
 unfold zf7 at h
 unfold zb2
 dsimp only at h ⊢
 generalize order 0 (AV.refs.refsL args) s.mem=l at *
 cases hc:call fn (AV.ren.renL (place l) args) (s.mem.pickAll l)with
 |none=>simp[hc]at h
 |some rm=>
  obtain⟨rv,mc⟩:=rm
  simp only[hc]at h ⊢
  split at h
  case isFalse=>cases h
  rename_i hq
  obtain⟨hml,hall⟩:=hq
  rw[xae,xae]at hall
  obtain⟨ha1,ha2,_⟩:=hall
  simp only[xaf,xay]at h
  obtain⟨rfl,rfl⟩:=h
  have hsok:zgh s.mem l=true:=by
   simp only[zgh,xbu]
   left
   rw[xai]at ha1 ⊢
   intro id hid
   have:=ha1 id hid
   simp only[xae]at this
   exact this.1
  rw[if_neg (by rw[hsok];decide)]
  have hstay:∀id,(match place l id with
   |some i=>if ((mc[i]?).getD .dead).moved then none else some id
   |none=>some id)=some id:=by
   intro id
   cases hpi:place l id with
   |none=>rfl
   |some i=>
    have hi:=zdp l id i hpi
    have hil:=(xab.1 hi).1
    have hm:((mc[i]?).getD .dead).moved=false:=by
     have h1:mc[i]?=some mc[i]:=xaa (by omega)
     rw[h1,xa0]
     have:=xai.1 ha2 mc[i] (xah (i:=i) (by rw[xce,if_pos hil];exact h1))
     simpa using this
    simp[hm]
  refine congrArg (fun u:St=>some (rv.ren _,u)) (?_:St.mk s.k _ _=St.mk s.k s.env _)
  rw[St.mk.injEq]
  refine⟨rfl,zq7 hstay _,xbk fun id _=>?_⟩
  unfold zd1
  split
  ·rfl
  ·split
   ·exact zh3 _ fun j _=>hstay j
   ·rfl
section
variable {num:Names} {P:Program}
variable {ty:TypeId} {pos:String} {after:Array Edge} {a:Act} {C:Cx} {s:St}
theorem z5l(hs:zas num C s a){t e:TypeId}{len:Nat}{x i:Operand}{x' i':Src}(hx:zah num x=some x')(hi:zah num i=some i')(ht:P.underlying t=some (.array len e))(hk:known P e=true)
  {n:Int} (hn:zdd (s.env.ev i')=some n) (hb:0<=n/\n<len) {y:AV} (hy:(match s.env.ev x' with|.imm (.ptr row o)=>some (AV.imm (.ptr row (o+n.toNat*P.cellsOf e)))|.optr id o=>some (.optr id (o+n.toNat*P.cellsOf e))|_=>none)=some y):
  zbe num P (.indexAddr t x i) ty pos after a C s y s:=by
 obtain⟨inf,d,hinf,hd,hsz,_⟩:=zd7 hk
 obtain⟨kk,hie,_⟩:=zh8 (zba hs hi) hn
 have h1:=zba hs hx
 generalize hu:a.eval x=u at h1
 have run:∀b o,u=.pointer (some ⟨b,o,none⟩)->∀dst g,(execOp a.eval ⟨dst,.indexAddr t x i,ty,pos,after,g⟩).run P C.w=.ok (.value (.pointer (some ⟨b,o+n.toNat*P.cellsOf e,none⟩))) C.w:=by
  intro b o hb' dst g
  simp[execOp,hu,hb',hie,Instr.indexAt,asIntOf,run_underlying ht,zgf hinf,hb.1,hb.2,zel,hsz,Instr.sureAddr]
 split at hy
 ·rename_i row o heq
  cases hy
  rw[heq]at h1
  cases h1 with
  |imm _ _ h=>cases h with
   |ptr _ _ b o' u' hI hc hu'=>
    refine zbj hs (run b (o'+o) rfl) ?_
    rw[xb4]
    exact .imm _ _ (.ptr row _ b o' u' hI hc hu')
 ·rename_i id o heq
  cases hy
  rw[heq]at h1
  cases h1 with
  |optr _ _ hid=>exact zbj hs (run (C.σ id) o rfl) (.optr id _ hid)
 ·cases hy
theorem z5p(hs:zas num C s a){mn:Bool}{x y:Operand}{x' y':Src}{ats:Array TypeId}(hx:zah num x=some x')(hy:zah num y=some y'){k j:IntKind}{m n:Int}(h1:s.env.ev x'=.imm (.val (.int k m)))(h2:s.env.ev y'=.imm (.val (.int j n))):
  zbe num P (.call { callee:=.builtin (if mn then .min else .max),args:= #[x,y],argTypes:=ats }) ty pos after a C s (.imm (.val (.int k (if mn then(if n<m then n else m)else(if m<n then n else m))))) s:=by
 have hu:=zgj hs hx h1
 have hv:=zgj hs hy h2
 cases mn with
 |true=>
  refine zbj (v:=.int k (if n<m then n else m)) hs (fun _ _=>?_) (.imm _ _ (.val _ rfl))
  simp[execOp,resolve,invoke,builtin,hu,hv,Builtin.min_,Builtin.min2]
 |false=>
  refine zbj (v:=.int k (if m<n then n else m)) hs (fun _ _=>?_) (.imm _ _ (.val _ rfl))
  simp[execOp,resolve,invoke,builtin,hu,hv,Builtin.max_,Builtin.max2]
end
section
variable {num:Names} {P:Program}
variable {ty:TypeId} {pos:String} {after:Array Edge} {a:Act} {C:Cx} {s:St}
theorem z6f{s:St}{sz b:Nat}{a x:AV}{r:AV×St}(h:zl7 s sz b a x=some r):zaz s sz b a x=some r:=by
 unfold zl7 at h
 split at h
 ·unfold zaz za0
  split at h
  ·rename_i n news he
   rw[he]
   dsimp only
   split at h
   ·rename_i h0
    rw[if_pos h0]
    exact h
   ·rename_i h0
    rw[if_neg h0]
    split at h
    ·rename_i h1
     rw[if_pos h1]
     exact h
    ·cases h
  ·cases h
 ·cases h
theorem z6h{s:St}{sz b:Nat}{a x:AV}{r:AV×St}(h:zdj s sz b a x=some r):zb8 s sz b a x=some r\/zaz s sz b a x=some r:=by
 unfold zdj at h
 split at h
 ·split at h
  ·rename_i h1
   cases h
   exact .inl h1
  ·exact .inr h
 ·exact .inr h
theorem yav(m:Mem)(agg:Option Nat)(y:IV):loadAt m agg (.imm y)=loadAt [] agg (.imm y):=by cases y<;>rfl
theorem zw5{place:Nat->Option (Nat×Nat)}{ps:List (Nat×Operand)}{α:Type}{f:List (Nat×Nat×Src)->α}{y:α}(h:(zib num place ps).map f=some y):∃qs,zib num place ps=some qs/\f qs=y:=by
 simpa [xad]using h
theorem zfz{x:Operand}{α:Type}{f:Src->α}{y:α}(h:(zah num x).map f=some y):∃z,zah num x=some z/\f z=y:=by
 simpa [xad]using h
def zqs(num:Names)(P:Program)(op:Op)(ty:TypeId)(pos:String)(after:Array Edge)(a:Act)(C:Cx)(s:St)(x:AV)(s':St):Prop:=
 zbe num P op ty pos after a C s x s'\/zkh num P op ty pos after a C s x s'\/z5u num P op ty pos after a C s x s'
theorem z8t{call:zac}(hcall:zc3 num P call)(hs:zas num C s a){op:Op}{x:XOp}(htr:zbm P num op=some x.wipe){r:AV}{s':St}(h:zag call s x=some (r,s')):zqs num P op ty pos after a C s r s':=by
 cases op with
 |move o=>
  simp only[zbm]at htr
  obtain⟨z,hz,hx⟩:=zfz htr
  cases x<;>simp only[XOp.wipe,XOp.mv.injEq,reduceCtorEq]at hx
  ·subst hx;cases h;exact .inl (yki hs hz)
  ·subst hx;cases h
  ·subst hx;exact .inl (yj9 hs hz h)
  ·cases h
 |assign o=>
  simp only[zbm]at htr
  obtain⟨z,hz,hx⟩:=zfz htr
  cases x<;>simp only[XOp.wipe,XOp.mv.injEq,reduceCtorEq]at hx
  ·subst hx;cases h;exact .inl (yjx hs hz)
  ·subst hx;cases h
  ·subst hx;exact .inl (yka hs hz h)
  ·cases h
 |pick c o1 o2=>
  simp only[zbm]at htr
  split at htr
  ·rename_i c' a' b' e1 e2 e3
   simp only[xaf]at htr
   cases x<;>simp only[XOp.wipe,XOp.pick.injEq,reduceCtorEq]at htr
   obtain⟨rfl,rfl,rfl⟩:=htr
   simp only[zag]at h
   split at h
   ·rename_i t ht
    cases h
    exact .inl (ykl hs e1 e2 e3 ht)
   ·cases h
  ·cases htr
 |alloc t=>
  simp only[zbm]at htr
  split at htr
  ·rename_i zs hz
   split at htr
   ·rename_i hone
    split at htr
    ·rename_i off hoff
     simp only[xaf]at htr
     cases x<;>simp only[XOp.wipe,XOp.allocB.injEq,reduceCtorEq]at htr
     obtain⟨rfl,rfl⟩:=htr
     cases h
     exact .inl (yjv hcall.seat hs hz hone hoff)
    ·simp only[xaf]at htr
     cases x<;>simp only[XOp.wipe,XOp.alloc.injEq,reduceCtorEq]at htr
     subst htr
     cases h
     exact .inl (yju hs hz hone)
   ·cases htr
  ·cases htr
 |box t o=>
  simp only[zbm]at htr
  split at htr
  ·have plain:∀(htr:(zah num o).map (XOp.box (P.cellsOf t))=some x.wipe),zqs num P (.box t o) ty pos after a C s r s':=by
    intro htr
    obtain⟨z,hz,hx⟩:=zfz htr
    cases x<;>simp only[XOp.wipe,XOp.box.injEq,reduceCtorEq]at hx
    obtain⟨rfl,rfl⟩:=hx
    simp only[zag]at h
    cases hc:(s.env.ev z).cells with
    |none=>simp[hc]at h
    |some cs=>rw[hc]at h;cases h;exact .inl (yj0 hs hz hc)
   split at htr
   ·rename_i zs hzs
    split at htr
    ·rename_i off hoff
     split at htr
     ·rename_i hlen
      obtain⟨z,hz,hx⟩:=zfz htr
      cases x<;>simp only[XOp.wipe,XOp.boxB.injEq,reduceCtorEq]at hx
      obtain⟨rfl,rfl,rfl⟩:=hx
      simp only[zag]at h
      cases hc:(s.env.ev z).cells with
      |none=>simp[hc]at h
      |some cs=>
       rw[hc]at h
       dsimp only at h
       split at h
       ·rename_i hcl
        split at h
        ·rename_i hnil
         cases h
         exact .inl (yj1 hcall.seat hs hz hc hoff (by omega) hnil)
        ·cases h
       ·cases h
     ·cases htr
    ·exact plain htr
   ·exact plain htr
  ·cases htr
 |build t ps=>
  simp only[zbm]at htr
  split at htr
  ·cases htr
  ·rename_i zs hz
   split at htr
   ·cases htr
   ·rename_i hone
    have hone':zs.all zdy=true:=by simpa using hone
    split at htr
    ·rename_i fs ht
     split at htr
     ·rename_i hk
      obtain⟨qs,hq,hx⟩:=zw5 htr
      cases x<;>simp only[XOp.wipe,XOp.build.injEq,reduceCtorEq]at hx
      obtain⟨rfl,rfl⟩:=hx
      simp only[zag]at h
      cases hf:zco (imZ zs) (qs.map fun (o,n,x)=>(o,n,s.env.ev x))with
      |none=>rw[hf]at h;cases h
      |some cs=>rw[hf]at h;cases h;exact .inl (z5h hs hz hone' hq (.inl ⟨fs,ht,hk,rfl⟩) hf)
     ·cases htr
    ·rename_i n e ht
     split at htr
     ·rename_i hk
      obtain⟨qs,hq,hx⟩:=zw5 htr
      cases x<;>simp only[XOp.wipe,XOp.build.injEq,reduceCtorEq]at hx
      obtain⟨rfl,rfl⟩:=hx
      simp only[zag]at h
      cases hf:zco (imZ zs) (qs.map fun (o,n,x)=>(o,n,s.env.ev x))with
      |none=>rw[hf]at h;cases h
      |some cs=>rw[hf]at h;cases h;exact .inl (z5h hs hz hone' hq (.inr ⟨n,e,ht,hk,rfl⟩) hf)
     ·cases htr
    ·cases htr
 |buildSlice t len ps=>
  simp only[zbm]at htr
  split at htr
  ·rename_i e ht
   split at htr
   ·rename_i zs hz
    split at htr
    ·rename_i hc
     simp only[xae,decide_eq_true_eq]at hc
     obtain⟨⟨⟨⟨hk,hone⟩,hbig⟩,h0⟩,hzl⟩:=hc
     obtain⟨qs,hq,hx⟩:=zw5 htr
     cases x<;>simp only[XOp.wipe,XOp.buildSlice.injEq,reduceCtorEq]at hx
     obtain⟨rfl,rfl,rfl,rfl⟩:=hx
     simp only[zag]at h
     cases hf:zco (imZ (zaq len zs)) (qs.map fun (o,n,x)=>(o,n,s.env.ev x))with
     |none=>rw[hf]at h;cases h
     |some cs=>rw[hf]at h;cases h;exact .inl (yj2 hs ht hz hk hone hbig h0 hzl hq hf)
    ·cases htr
   ·cases htr
  ·cases htr
 |load t o=>
  simp only[zbm]at htr
  split at htr
  ·rename_i hk
   obtain⟨z,hz,hx⟩:=zfz htr
   cases x<;>simp only[XOp.wipe,XOp.load.injEq,reduceCtorEq]at hx
   ·obtain⟨rfl,rfl⟩:=hx
    simp only[zag]at h
    cases hl:loadAt s.mem (zdt P t) (s.env.ev z)with
    |none=>rw[hl]at h;cases h
    |some v=>rw[hl]at h;cases h;exact .inl (z5m hs hk hz hl)
   ·obtain⟨rfl,rfl⟩:=hx
    simp only[zag]at h
    split at h
    ·rename_i y hy
     have hl:loadAt s.mem (zdt P t) (s.env.ev z)=loadAt [] (zdt P t) (.imm y):=by rw[hy];exact yav s.mem _ y
     cases hl':loadAt [] (zdt P t) (.imm y)with
     |none=>rw[hl']at h;cases h
     |some v=>rw[hl']at h;cases h;exact .inl (z5m hs hk hz (hl.trans hl'))
    ·cases h
  ·cases htr
 |store t o1 o2=>
  simp only[zbm]at htr
  split at htr
  ·rename_i hk
   split at htr
   ·rename_i p' x' e1 e2
    simp only[xaf]at htr
    cases x<;>simp only[XOp.wipe,XOp.store.injEq,reduceCtorEq]at htr
    ·obtain⟨rfl,rfl,rfl⟩:=htr
     simp only[zag]at h
     split at h
     ·rename_i cs hc
      split at h
      ·rename_i hn
       cases hst:storeAt s.mem (s.env.ev p') cs with
       |none=>rw[hst]at h;cases h
       |some m=>rw[hst]at h;cases h;exact .inl (zyr hs hk e1 e2 hc hn hst)
      ·cases h
     ·cases h
    ·cases h
    ·obtain⟨rfl,rfl,rfl⟩:=htr
     simp only[zag]at h
     exact .inl (ykp hs hk e1 e2 rfl h)
   ·cases htr
  ·cases htr
 |nilCheck o=>
  simp only[zbm]at htr
  obtain⟨z,hz,hx⟩:=zfz htr
  cases x<;>simp only[XOp.wipe,XOp.nilCheck.injEq,reduceCtorEq]at hx
  subst hx
  simp only[zag]at h
  split at h
  ·rename_i hn;cases h;exact .inl (ykj hs hz hn)
  ·cases h
 |binOp op t o1 o2 yt=>
  simp only[zbm]at htr
  have bin:∀(x' y':Src),zah num o1=some x'->zah num o2=some y'->x.wipe=.bin op x' y'->zqs num P (.binOp op t o1 o2 yt) ty pos after a C s r s':=by
   intro x' y' e1 e2 hx
   cases x<;>simp only[XOp.wipe,XOp.bin.injEq,reduceCtorEq]at hx
   obtain⟨rfl,rfl,rfl⟩:=hx
   simp only[zag]at h
   split at h
   ·rename_i u v hu hv
    simp only[xad,xay]at h
    obtain⟨q,hq,rfl,rfl⟩:=h
    exact .inl (yjy hs e1 e2 hu hv hq)
   ·cases h
  split at htr
  ·rename_i e1 e2;exact bin _ _ e1 e2 (xau htr).symm
  ·rename_i e1 e2;exact bin _ _ e1 e2 (xau htr).symm
  ·rename_i x' y' ht e1 e2
   have hx:=(xau htr).symm
   cases x<;>simp only[XOp.wipe,XOp.binB.injEq,reduceCtorEq]at hx
   obtain⟨rfl,rfl,rfl⟩:=hx
   simp only[zag]at h
   split at h
   ·rename_i u v hu hv
    simp only[xad,xay]at h
    obtain⟨q,hq,rfl,rfl⟩:=h
    exact .inl (yjz hs e1 e2 ht hu hv hq)
   ·cases h
  ·rename_i fs x' y' ht e1 e2
   split at htr
   ·rename_i ks hf
    have hx:=(xau htr).symm
    cases x<;>simp only[XOp.wipe,XOp.eqCells.injEq,reduceCtorEq]at hx
    obtain⟨rfl,rfl,rfl,rfl⟩:=hx
    simp only[zag]at h
    split at h
    ·rename_i xs ys h1 h2
     simp only[xad,xay]at h
     obtain⟨b,hb,rfl,rfl⟩:=h
     exact .inl (z5j (neg:=false) hs e1 e2 hf h1 h2 hb)
    ·cases h
   ·rename_i ks hf
    have hx:=(xau htr).symm
    cases x<;>simp only[XOp.wipe,XOp.eqCells.injEq,reduceCtorEq]at hx
    obtain⟨rfl,rfl,rfl,rfl⟩:=hx
    simp only[zag]at h
    split at h
    ·rename_i xs ys h1 h2
     simp only[xad,xay]at h
     obtain⟨b,hb,rfl,rfl⟩:=h
     exact .inl (z5j (neg:=true) hs e1 e2 hf h1 h2 hb)
    ·cases h
   ·cases htr
  ·rename_i d x' y' _ _ _ _ ht e1 e2
   split at htr
   ·rename_i k hk
    have hx:=(xau htr).symm
    cases x<;>simp only[XOp.wipe,XOp.eqNil.injEq,reduceCtorEq]at hx
    obtain⟨rfl,rfl,rfl⟩:=hx
    simp only[zag,xad,xay]at h
    obtain⟨b,hb,rfl,rfl⟩:=h
    exact .inl (z5k (neg:=false) hs e1 ht hk hb)
   ·rename_i k hk
    have hx:=(xau htr).symm
    cases x<;>simp only[XOp.wipe,XOp.eqNil.injEq,reduceCtorEq]at hx
    obtain⟨rfl,rfl,rfl⟩:=hx
    simp only[zag,xad,xay]at h
    obtain⟨b,hb,rfl,rfl⟩:=h
    exact .inl (z5k (neg:=true) hs e1 ht hk hb)
   ·cases htr
  ·cases htr
 |unOp op t o=>
  simp only[zbm]at htr
  obtain⟨z,hz,hx⟩:=zfz htr
  cases x<;>simp only[XOp.wipe,XOp.un.injEq,reduceCtorEq]at hx
  obtain⟨rfl,rfl⟩:=hx
  simp only[zag]at h
  split at h
  ·rename_i u hu
   cases hr:zp1 op u with
   |none=>rw[hr]at h;cases h
   |some q=>rw[hr]at h;cases h;exact .inl (ykq hs hz hu hr)
  ·cases h
 |convert src dst o=>
  simp only[zbm]at htr
  split at htr
  ·rename_i j k z h1 h2 hz
   simp only[xaf]at htr
   cases x<;>simp only[XOp.wipe,XOp.conv.injEq,reduceCtorEq]at htr
   obtain⟨rfl,rfl⟩:=htr
   simp only[zag]at h
   cases hi:zdd (s.env.ev z)with
   |none=>rw[hi]at h;cases h
   |some i=>rw[hi]at h;cases h;exact .inl (yj4 hs hz h1 h2 hi)
  ·rename_i z h1 h2 hz
   simp only[xaf]at htr
   cases x<;>simp only[XOp.wipe,XOp.convS.injEq,reduceCtorEq]at htr
   subst htr
   simp only[zag]at h
   split at h
   ·rename_i b hb;cases h;exact .inl (yj5 hs hz h1 h2 hb)
   ·cases h
  ·rename_i e z h1 h2 hz
   split at htr
   ·rename_i he
    simp only[xaf]at htr
    cases x<;>simp only[XOp.wipe,XOp.strOf.injEq,reduceCtorEq]at htr
    subst htr
    cases h
   ·cases htr
  ·rename_i e z h1 h2 hz
   split at htr
   ·rename_i he
    simp only[xaf]at htr
    cases x<;>simp only[XOp.wipe,XOp.bytesOf.injEq,reduceCtorEq]at htr
    subst htr
    cases h
   ·cases htr
  ·cases htr
 |makeFunc fn first caps=>
  cases fn<;>simp only[zbm]at htr<;>first|(cases htr;done)|skip
  rename_i f
  split at htr
  ·rename_i hfirst
   have:first= #[]:=by simpa using hfirst
   subst this
   simp only[xad]at htr
   obtain⟨cs,hcs,hx⟩:=htr
   cases x<;>simp only[XOp.wipe,XOp.mkClo.injEq,reduceCtorEq]at hx
   obtain⟨rfl,rfl⟩:=hx
   cases h
   exact .inl (ykh hs hcs)
  ·cases htr
 |makeSlice t l c=>
  simp only[zbm]at htr
  split at htr
  ·rename_i e ht
   split at htr
   ·rename_i zs l' c' hz e1 e2
    split at htr
    ·rename_i hc
     simp only[xae,decide_eq_true_eq]at hc
     obtain⟨⟨⟨hk,hzl⟩,h0⟩,hone⟩:=hc
     simp only[xaf]at htr
     cases x<;>simp only[XOp.wipe,XOp.makeSlice.injEq,reduceCtorEq]at htr
     obtain⟨rfl,rfl,rfl,rfl,rfl⟩:=htr
     simp only[zag]at h
     split at h
     ·rename_i i j hi hj
      split at h
      ·rename_i hb
       cases h
       exact .inl (ykg hs ht hz hk hone h0 hzl e1 e2 hi hj hb)
      ·cases h
     ·cases h
    ·cases htr
   ·cases htr
  ·cases htr
 |slice t o lo hi mx=>
  cases mx with
  |some m=>
   cases lo with
   |some _=>simp[zbm]at htr
   |none=>cases hi with
    |none=>simp[zbm]at htr
    |some hh=>
     simp only[zbm]at htr
     split at htr
     ·rename_i e z h' m' ht hz h1 h2
      split at htr
      ·rename_i hk
       simp only[xaf]at htr
       cases x<;>simp only[XOp.wipe,XOp.slice3.injEq,reduceCtorEq]at htr
       obtain⟨rfl,rfl,rfl,rfl⟩:=htr
       simp only[zag]at h
       cases hy:zfj (P.cellsOf e) (s.env.ev z) (s.env.ev h') (s.env.ev m')with
       |none=>rw[hy]at h;cases h
       |some y=>rw[hy]at h;cases h;exact .inl (ykn hs hz h1 h2 ht hk hy)
      ·cases htr
     ·cases htr
  |none=>
   simp only[zbm]at htr
   split at htr
   ·rename_i e z lo' hi' ht hz hl hh
    split at htr
    ·rename_i hk
     simp only[xaf]at htr
     cases x<;>simp only[XOp.wipe,XOp.slice.injEq,reduceCtorEq]at htr
     obtain⟨rfl,rfl,rfl,rfl⟩:=htr
     simp only[zag]at h
     cases hy:zf6 (P.cellsOf e) (s.env.ev z) (lo'.map s.env.ev) (hi'.map s.env.ev)with
     |none=>rw[hy]at h;cases h
     |some y=>rw[hy]at h;cases h;exact .inl (ykm hs hz hl hh ht hk hy)
    ·cases htr
   ·rename_i z lo' hi' ht hz hl hh
    simp only[xaf]at htr
    cases x<;>simp only[XOp.wipe,XOp.sliceS.injEq,reduceCtorEq]at htr
    obtain⟨rfl,rfl,rfl⟩:=htr
    simp only[zag]at h
    split at h
    ·rename_i b hb
     cases hbd:zio b.size b.size (lo'.map s.env.ev) (hi'.map s.env.ev)with
     |none=>rw[hbd]at h;cases h
     |some lh=>obtain⟨l,hh'⟩:=lh;rw[hbd]at h;cases h;exact .inl (yko hs hz hl hh ht hb hbd)
    ·cases h
   ·cases htr
 |fieldAddr t o f=>
  simp only[zbm]at htr
  split at htr
  ·rename_i fs z ht hz
   split at htr
   ·rename_i fd hf
    split at htr
    ·rename_i hc
     simp only[xae,decide_eq_true_eq]at hc
     simp only[xaf]at htr
     cases x<;>simp only[XOp.wipe,XOp.fieldA.injEq,reduceCtorEq]at htr
     obtain⟨rfl,rfl⟩:=htr
     simp only[zag]at h
     refine .inl ?_
     split at h
     ·rename_i row o' heq;cases h;exact zyp hs hz ht hf hc.1 hc.2 (by rw[heq])
     ·rename_i b0 a0 row o' heq;cases h;exact zyp hs hz ht hf hc.1 hc.2 (by rw[heq])
     ·rename_i id o' heq;cases h;exact zyp hs hz ht hf hc.1 hc.2 (by rw[heq])
     ·cases h
    ·cases htr
   ·cases htr
  ·cases htr
 |field t o f=>
  simp only[zbm]at htr
  split at htr
  ·rename_i fs z ht hz
   split at htr
   ·rename_i fd hf
    split at htr
    ·rename_i hc
     simp only[xaf]at htr
     cases x<;>simp only[XOp.wipe,XOp.field.injEq,reduceCtorEq]at htr
     obtain⟨rfl,rfl,rfl⟩:=htr
     simp only[zag]at h
     split at h
     ·rename_i cs heq
      cases hg:zdw (zdt P fd.type) cs fd.offset with
      |none=>rw[hg]at h;cases h
      |some y=>rw[hg]at h;cases h;exact .inl (yj8 hs hz ht hf hc heq hg)
     ·cases h
    ·cases htr
   ·cases htr
  ·cases htr
 |indexAddr t o i=>
  simp only[zbm]at htr
  split at htr
  ·rename_i e z i' ht hz hi
   split at htr
   ·rename_i hk
    simp only[xaf]at htr
    cases x<;>simp only[XOp.wipe,XOp.idxA.injEq,reduceCtorEq]at htr
    obtain⟨rfl,rfl,rfl⟩:=htr
    simp only[zag]at h
    split at h
    ·cases h
    ·rename_i n hn
     refine .inl ?_
     split at h
     ·rename_i row off len cap heq
      split at h
      ·rename_i hb;cases h;exact zyq hs hz hi ht hk hn (by rw[heq];simp only[hb,and_self,if_true])
      ·cases h
     ·rename_i b0 a0 row off len cap heq
      split at h
      ·rename_i hb;cases h;exact zyq hs hz hi ht hk hn (by rw[heq];simp only[hb,and_self,if_true])
      ·cases h
     ·rename_i id off sz len cap heq
      split at h
      ·rename_i hb;cases h;exact zyq hs hz hi ht hk hn (by rw[heq];simp only[hb,and_self,if_true])
      ·cases h
     ·cases h
   ·cases htr
  ·rename_i len e z i' ht hz hi
   split at htr
   ·rename_i hk
    simp only[xaf]at htr
    cases x<;>simp only[XOp.wipe,XOp.idxP.injEq,reduceCtorEq]at htr
    obtain⟨rfl,rfl,rfl,rfl⟩:=htr
    simp only[zag]at h
    split at h
    ·cases h
    ·rename_i n hn
     refine .inl ?_
     split at h
     ·rename_i hb
      split at h
      ·rename_i row o heq;cases h;exact z5l hs hz hi ht hk hn hb (by rw[heq])
      ·rename_i id o heq;cases h;exact z5l hs hz hi ht hk hn hb (by rw[heq])
      ·cases h
     ·cases h
   ·cases htr
  ·cases htr
 |index t o i=>
  simp only[zbm]at htr
  split at htr
  ·rename_i z i' ht hz hi
   simp only[xaf]at htr
   cases x<;>simp only[XOp.wipe,XOp.idxS.injEq,reduceCtorEq]at htr
   obtain⟨rfl,rfl⟩:=htr
   simp only[zag]at h
   split at h
   ·rename_i n b hn hb
    split at h
    ·rename_i h0
     split at h
     ·rename_i c hc;cases h;exact .inl (ykb hs hz hi ht hn hb h0 hc)
     ·cases h
    ·cases h
   ·cases h
  ·rename_i len e z i' ht hz hi
   split at htr
   ·rename_i hk
    simp only[xaf]at htr
    cases x<;>simp only[XOp.wipe,XOp.idxV.injEq,reduceCtorEq]at htr
    cases h
   ·cases htr
  ·cases htr
 |extract o i=>
  simp only[zbm]at htr
  obtain⟨z,hz,hx⟩:=zfz htr
  cases x<;>simp only[XOp.wipe,XOp.extract.injEq,reduceCtorEq]at hx
  obtain⟨rfl,rfl⟩:=hx
  simp only[zag]at h
  split at h
  ·rename_i vs hv
   cases hy:vs[i]? with
   |none=>rw[hy]at h;cases h
   |some y=>rw[hy]at h;cases h;exact .inl (yj7 hs hz hv hy)
  ·cases h
 |call c=>
  simp only[zbm]at htr
  obtain⟨callee,args,ats⟩:=c
  cases callee with
  |invoke=>simp[zhj]at htr
  |builtin b=>
   obtain⟨al⟩:=args
   obtain⟨tl⟩:=ats
   simp only[zhj]at htr
   split at htr
   ·rename_i o t
    split at htr
    ·rename_i ht
     obtain⟨z,hz,hx⟩:=zfz htr
     cases x<;>simp only[XOp.wipe,XOp.lenS.injEq,reduceCtorEq]at hx
     subst hx
     simp only[zag]at h
     split at h
     ·rename_i b hb;cases h;exact .inl (yke hs hz ht hb)
     ·cases h
    ·rename_i e ht
     obtain⟨z,hz,hx⟩:=zfz htr
     cases x<;>simp only[XOp.wipe,XOp.len.injEq,reduceCtorEq]at hx
     subst hx
     simp only[zag,xad,xay]at h
     obtain⟨n,hn,rfl,rfl⟩:=h
     exact .inl (ykc hs hz ht hn)
    ·rename_i kt e ht
     obtain⟨z,hz,hx⟩:=zfz htr
     cases x<;>simp only[XOp.wipe,XOp.lenM.injEq,reduceCtorEq]at hx
     subst hx
     exact .inl (ykd hs hz ht h)
    ·cases htr
   ·rename_i o1 o2 ts
    split at htr
    ·rename_i z1 z2 e1 e2
     have hx:=(xau htr).symm
     cases x<;>simp only[XOp.wipe,XOp.minmax.injEq,reduceCtorEq]at hx
     obtain⟨rfl,rfl,rfl⟩:=hx
     simp only[zag]at h
     split at h
     ·rename_i k m j n h1 h2;cases h;exact .inl (z5p (mn:=true) hs e1 e2 h1 h2)
     ·cases h
    ·cases htr
   ·rename_i o1 o2 ts
    split at htr
    ·rename_i z1 z2 e1 e2
     have hx:=(xau htr).symm
     cases x<;>simp only[XOp.wipe,XOp.minmax.injEq,reduceCtorEq]at hx
     obtain⟨rfl,rfl,rfl⟩:=hx
     simp only[zag]at h
     split at h
     ·rename_i k m j n h1 h2;cases h;exact .inl (z5p (mn:=false) hs e1 e2 h1 h2)
     ·cases h
    ·cases htr
   ·rename_i o t
    split at htr
    ·rename_i e ht
     obtain⟨z,hz,hx⟩:=zfz htr
     cases x<;>simp only[XOp.wipe,XOp.cap.injEq,reduceCtorEq]at hx
     subst hx
     simp only[zag,xad,xay]at h
     obtain⟨n,hn,rfl,rfl⟩:=h
     exact .inl (yj3 hs hz ht hn)
    ·cases htr
   ·rename_i o1 o2 t u
    split at htr
    ·rename_i e d z1 z2 ht hu e1 e2
     split at htr
     ·rename_i hc
      simp only[xae,decide_eq_true_eq]at hc
      have hx:=(xau htr).symm
      cases x<;>simp only[XOp.wipe,XOp.copy.injEq,reduceCtorEq]at hx
      obtain⟨rfl,rfl,rfl⟩:=hx
      cases h
     ·cases htr
    ·cases htr
   ·rename_i o t
    split at htr
    ·rename_i e z1 ht e1
     split at htr
     ·rename_i zs hz
      split at htr
      ·rename_i hc
       simp only[xae,decide_eq_true_eq]at hc
       obtain⟨⟨⟨hk,hzl⟩,h0⟩,hone⟩:=hc
       have hx:=(xau htr).symm
       cases x<;>simp only[XOp.wipe,XOp.clear.injEq,reduceCtorEq]at hx
       obtain⟨rfl,rfl,rfl⟩:=hx
       cases h
      ·cases htr
     ·cases htr
    ·cases htr
   ·rename_i o1 o2 t u
    split at htr
    ·rename_i e d z1 z2 ht hu e1 e2
     split at htr
     ·rename_i hc
      simp only[xae,decide_eq_true_eq]at hc
      obtain⟨⟨⟨⟨⟨hk,h0⟩,hb0⟩,hz⟩,hd⟩,hu8⟩:=hc
      have hx:=(xau htr).symm
      cases x<;>simp only[XOp.wipe,XOp.append.injEq,reduceCtorEq]at hx
      ·obtain⟨rfl,rfl,rfl,rfl⟩:=hx
       exact .inl (zyo hs ht hu hd hk h0 hb0 hz e1 e2 h)
      ·obtain⟨rfl,rfl,rfl,rfl⟩:=hx
       cases h
      ·obtain⟨hc1,hb1,rfl,rfl⟩:=hx
       cases h
      ·obtain⟨rfl,rfl,rfl,rfl⟩:=hx
       rcases z6h h with h|h
       ·exact .inl (zyn hs ht hu hd hk h0 hb0 hz e1 e2 h)
       ·exact .inl (zyo hs ht hu hd hk h0 hb0 hz e1 e2 h)
      ·obtain⟨rfl,rfl,rfl,rfl⟩:=hx
       exact .inl (zyo hs ht hu hd hk h0 hb0 hz e1 e2 (z6f h))
      ·obtain⟨rfl,rfl,rfl,rfl⟩:=hx
       simp only[zag]at h
       split at h
       ·rename_i hx
        split at h
        ·cases h
         exact .inl (zyn hs ht hu hd hk h0 hb0 hz e1 e2 hx)
        ·cases h
       ·cases h
     ·cases htr
    ·cases htr
   ·cases htr
  |value fo=>
   cases fo with
   |func f=>
    simp only[zhj,xad]at htr
    obtain⟨ys,hy,hx⟩:=htr
    cases x<;>simp only[XOp.wipe,XOp.call.injEq,reduceCtorEq]at hx
    rename_i mode fn as
    obtain⟨_,rfl,rfl⟩:=hx
    simp only[zag]at h
    cases mode with
    |view=>exact .inr (.inl (ykr hcall hs hy h))
    |own=>exact .inr (.inl (ykk hcall hs hy h))
    |share=>exact .inr (.inl (zuz hcall hs hy h))
    |peek=>
     obtain⟨rfl,_,h⟩:=yew h
     exact .inr (.inl (zuz hcall hs hy h))
    |look=>exact .inr (.inl (zuz hcall hs hy (ya4 h)))
    |touch=>exact .inr (.inl (zuz hcall hs hy (zxz h)))
    |whole=>exact .inr (.inl (yks hcall hs hy h))
   |tmp t=>
    simp only[zhj]at htr
    split at htr
    ·rename_i f' as hf hy
     have hx:=(xau htr).symm
     cases x<;>simp only[XOp.wipe,XOp.callV.injEq,reduceCtorEq]at hx
     ·obtain⟨rfl,rfl⟩:=hx
      simp only[zag]at h
      split at h
      ·rename_i fn caps heq;exact .inr (.inl (zuy hcall hs hf hy heq h))
      ·cases h
     ·cases h
     ·obtain⟨rfl,rfl⟩:=hx
      simp only[zag]at h
      split at h
      ·rename_i fn caps heq
       exact .inr (.inl (z5i hcall hs hf hy heq h))
      ·cases h
     ·obtain⟨rfl,rfl⟩:=hx
      simp only[zag]at h
      split at h
      ·rename_i fn caps heq
       split at h
       ·rename_i hx
        split at h
        ·cases h
         exact .inr (.inl (zuy hcall hs hf hy heq (zxz hx)))
        ·cases h
       ·cases h
      ·cases h
    ·cases htr
   |const v=>
    simp only[zhj]at htr
    split at htr
    ·rename_i f' as hf hy
     have hx:=(xau htr).symm
     cases x<;>simp only[XOp.wipe,XOp.callV.injEq,reduceCtorEq]at hx
     ·obtain⟨rfl,rfl⟩:=hx
      simp only[zag]at h
      split at h
      ·rename_i fn caps heq;exact .inr (.inl (zuy hcall hs hf hy heq h))
      ·cases h
     ·cases h
     ·obtain⟨rfl,rfl⟩:=hx
      simp only[zag]at h
      split at h
      ·rename_i fn caps heq
       exact .inr (.inl (z5i hcall hs hf hy heq h))
      ·cases h
     ·obtain⟨rfl,rfl⟩:=hx
      simp only[zag]at h
      split at h
      ·rename_i fn caps heq
       split at h
       ·rename_i hx
        split at h
        ·cases h
         exact .inr (.inl (zuy hcall hs hf hy heq (zxz hx)))
        ·cases h
       ·cases h
      ·cases h
    ·cases htr
   |global g=>simp[zhj,zah]at htr
 |range t o=>
  simp only[zbm]at htr
  split at htr
  ·rename_i ht
   obtain⟨z,hz,hx⟩:=zfz htr
   cases x<;>simp only[XOp.wipe,XOp.rangeS.injEq,reduceCtorEq]at hx
   subst hx
   cases h
  ·cases htr
 |next o is=>
  cases is with
  |false=>simp only[zbm,reduceCtorEq]at htr
  |true=>
   simp only[zbm]at htr
   obtain⟨z,hz,hx⟩:=zfz htr
   cases x<;>simp only[XOp.wipe,XOp.nextS.injEq,reduceCtorEq]at hx
   subst hx
   cases h
 |makeMap t r=>
  simp only[zbm]at htr
  split at htr
  ·rename_i kt e r' ht hr
   have hx:=(xau htr).symm
   cases x<;>simp only[XOp.wipe,XOp.makeMap.injEq,reduceCtorEq]at hx
   case litA=>cases h
   subst hx
   simp only[zag]at h
   cases hint:(‹Option Src› :Option Src)with
   |none=>
    rw[hint]at h hr
    cases h
    exact .inl (z5n hs ht hr fun x hx=>by cases hx)
   |some z=>
    rw[hint]at h hr
    simp only at h
    split at h
    ·rename_i i hi
     cases h
     exact .inl (z5n hs ht hr fun x hx=>by cases hx;exact⟨i,hi⟩)
    ·cases h
  ·cases htr
 |lookup t m k ok=>
  simp only[zbm]at htr
  split at htr
  ·rename_i kt e m' k' ht hm hk
   split at htr
   ·rename_i kind zs agg hkt hz
    have hx:=(xau htr).symm
    cases x<;>simp only[XOp.wipe,XOp.lookup.injEq,reduceCtorEq]at hx
    case litL=>cases h
    obtain⟨rfl,rfl,rfl,rfl,rfl,rfl⟩:=hx
    exact .inl (ykf hs ht hm hk hkt hz h)
   ·cases htr
  ·cases htr
 |mapUpdate t m k v|insert t m k v=>
  simp only[zbm]at htr
  split at htr
  ·rename_i kt e m' k' v' ht hm hk hv
   split at htr
   ·rename_i kind hkt
    have hx:=(xau htr).symm
    cases x<;>simp only[XOp.wipe,XOp.mapSet.injEq,reduceCtorEq]at hx
    case litI=>cases h
    obtain⟨rfl,rfl,rfl,rfl⟩:=hx
    first
     |exact .inl (z5o hs ht hm hk hv hkt h (.inl rfl))
     |exact .inl (z5o hs ht hm hk hv hkt h (.inr rfl))
   ·cases htr
  ·cases htr
 |_=>simp[zbm]at htr
end
section
variable {num:Names} {P:Program}
abbrev fz(ro:Option Nat):Fence:={ Fence.wide with round:=ro }
def Marked(lo:Nat)(C:Cx)(ds:List Deferred):Prop:=
 ∃rs:List Nat,ds=rs.map (fun r=>{ target:=.collected r,args:= #[] })/\rs.Nodup/\∀r∈rs,lo<=r/\C.w.heap[r]?=some (.deferred (some []))/\¬C.I r
theorem z2t{C:Cx}{m:Mem}(hm:MRep num C m){b:Nat}(h:Own C m b):(∃arr e fz,C.w.heap[b]?=some (.cells arr e fz))\/(∃es k,C.w.heap[b]?=some (.map es k))\/(∃R,C.w.heap[b]?=some (.loop R))\/∃t i,C.w.heap[b]?=some (.stringIter t i):=by
 obtain⟨id,o,ho,hlv,rfl⟩:=h
 have h1:=hm.obj id o ho
 cases o with
 |flat=>obtain⟨arr,e,h2,_⟩:=h1;exact .inl ⟨arr,e,_,h2⟩
 |rich=>obtain⟨arr,e,h2,_⟩:=h1;exact .inl ⟨arr,e,_,h2⟩
 |fix=>obtain⟨arr,e,h2,_⟩:=h1;exact .inl ⟨arr,e,_,h2⟩
 |map=>obtain⟨es,k,h2,_⟩:=h1;exact .inr (.inl ⟨es,k,h2⟩)
 |loop=>obtain⟨R,N,h2,_⟩:=h1;exact .inr (.inr (.inl ⟨R,h2⟩))
 |iter=>exact .inr (.inr (.inr ⟨_,_,h1⟩))
 |text=>obtain⟨arr,e,h2,_⟩:=h1;exact .inl ⟨arr,e,_,h2⟩
 |dead=>cases hlv
theorem Marked.step{lo k:Nat}{C D:Cx}{m m':Mem}{ds:List Deferred}(h:Marked lo C ds)(hm:MRep num C m)(hst:Step num k C m D m'):Marked lo D ds:=by
 obtain⟨rs,h1,h2,h3⟩:=h
 refine⟨rs,h1,h2,fun r hr=>?_⟩
 obtain⟨h4,h5,h6⟩:=h3 r hr
 have hlt:=(xal.1 h5).1
 have hno:¬Own C m r:=fun ho=>by
  rcases z2t hm ho with⟨_,_,_,h⟩|⟨_,_,h⟩|⟨_,h⟩|⟨_,_,h⟩<;>rw[h5]at h<;>cases h
 refine⟨h4,by rw[hst.keep r hlt hno];exact h5,fun hI=>?_⟩
 rcases hst.imm' r hI with h|h|h
 ·exact h6 h
 ·omega
 ·exact hno h
structure Later (num:Names) (k:Nat) (C:Cx) (m:Mem) (a:Act) (D:Cx) (s':St) (a':Act):Prop where
 rep:zas num D s' a'
 step:Step num k C m D s'.mem
 k:s'.k=k
 size:a'.tmps.size=a.tmps.size
 marks:∀lo,lo<=C.w.heap.size->Marked lo C a.defers->Marked lo D a'.defers
theorem Later.trans{k:Nat}{C D E:Cx}{m:Mem}{s s':St}{a a' a'':Act}(h:Later num k C m a D s a')(g:Later num k D s.mem a' E s' a''):Later num k C m a E s' a'':=
 ⟨g.rep,h.step.trans g.step,g.k,g.size.trans h.size,fun lo hle hl=>g.marks lo (xb1 hle h.step.size) (h.marks lo hle hl)⟩
theorem Later.refl{C:Cx}{s:St}{a:Act}(hs:zas num C s a):Later num s.k C s.mem a C s a:=⟨hs,.refl hs.mem hs.k,rfl,rfl,fun _ _ h=>h⟩
theorem yfe(a:Act)(d:Option Tmp)(v:Value):(a.put d v).tmps.size=a.tmps.size:=by cases d<;>simp[Act.put]
theorem yfd(a:Act)(d:Option Tmp)(v:Value):(a.put d v).defers=a.defers:=by cases d<;>rfl
def St.bind(s:St)(d:Option Nat)(v:AV):St:=match d with
 |some d=>{ s with env:=(d,v)::s.env }
 |none=>s
theorem zeb(s:St)(d:Option Nat)(v:AV):(s.bind d v).mem=s.mem:=by cases d<;>rfl
theorem zl0(s:St)(d:Option Nat)(v:AV):(s.bind d v).k=s.k:=by cases d<;>rfl
theorem zn9{k N:Nat}{C D:Cx}{m:Mem}{s:St}{a:Act}{d:Option Nat}{x:AV}{v:Value}(hm:MRep num C m)(hN:N<=a.tmps.size)(hd:zkt N d=true)(hst:Step num k C m D s.mem)(he:ERep num D s.env a.tmps)(hx:ARep num D x v)(hk:s.k=k):
  Later num k C m a D (s.bind d x) (a.put d v):=by
 refine⟨⟨by rw[zeb];exact hst.rep,?_,by rw[zl0,zeb,hk];exact hst.len⟩,by rw[zeb];exact hst,by rw[zl0,hk],yfe ..,fun lo _ h=>by rw[yfd];exact h.step hm hst⟩
 cases d with
 |none=>exact he
 |some d=>
  have:d<a.tmps.size:=xbz (by simpa [zkt]using hd) hN
  exact he.put this hx
theorem z8k{ro:Option Nat}{op:Op}{ty:TypeId}{pos:String}{after:Array Edge}{a:Act}{C:Cx}{s s':St}{x:AV}(hm:MRep num C s.mem)(h:zqs num P op ty pos after a C s x s'){N:Nat}(hN:N<=a.tmps.size){d:Option Tmp}(hd:zkt N d=true)(g:Option (Nat×Bool))
  {K:Act->World->Prop} {Q:Exit->Act->World->Prop} (hK:∀D a',Later num s.k C s.mem a D (s'.bind d x) a'->(∃v,a'=a.put d v)->K a' D.w):Oper.wpIn (fz ro) 0 P ⟨d,op,ty,pos,after,g⟩ a C.w K Q:=by
 have hnd:∀c,op≠ .defer c:=by
  rintro c rfl
  have hbad:∀(r:Result Next),(execOp a.eval ⟨d,.defer c,ty,pos,after,g⟩).run P C.w=r->(∀dd w,r≠ .ok (.defer dd) w)->(∀x w,r≠ .halt x w)->False:=by
   intro r hr h1 h2
   simp only[execOp,Sem.run_bind]at hr
   cases hq:(resolve a.eval c ty).run P C.w with
   |ok v w=>rw[hq]at hr;simp only[Result.andThen,Sem.run_pure]at hr;exact h1 _ _ hr.symm
   |halt x w=>rw[hq]at hr;simp only[Result.andThen]at hr;exact h2 _ _ hr.symm
  rcases h with⟨v,D,hrun,_⟩|⟨f,vals,hrun,_⟩|⟨l,fn,tmps,as,bd,hrun,_⟩
  ·rcases hrun d g with h|⟨h,_⟩<;>exact hbad _ h (fun _ _=>by simp) (fun _ _=>by simp)
  ·exact hbad _ (hrun d g) (fun _ _=>by simp) (fun _ _=>by simp)
  ·exact hbad _ (hrun d g) (fun _ _=>by simp) (fun _ _=>by simp)
 unfold Oper.wpIn
 refine⟨fun _ _=>trivial,?_⟩
 rw[Oper.semAt_eq _ _ _ hnd]
 rcases h with⟨v,D,hrun,hst,he,hx,hk⟩|⟨f,vals,hrun,hc⟩|⟨l,fn,tmps,as,bd,hrun,hc⟩
 ·rcases hrun d g with h|⟨h,rfl⟩<;>rw[h]
  ·rw[Oper.uponIn_value];exact hK D _ (zn9 hm hN hd hst he hx hk) ⟨_,rfl⟩
  ·rw[Oper.uponIn_skip];exact hK D _ (zn9 hm hN hd hst he hx hk) ⟨_,rfl⟩
 ·rw[hrun d g,Oper.uponIn_enter]
  refine⟨fun h=>(by cases h),?_⟩
  refine CallsIn.mono (R:=fun e w'=>∃v D,e=.returned v/\D.w=w'/\Step num s.k C s.mem D s'.mem/\ERep num D s'.env a.tmps/\ARep num D x v/\s'.k=s.k) (callsIn_wide.2 hc) fun e w' ⟨v,D,he',hw,hst,he,hx,hk⟩=>?_
  subst he' hw
  exact hK D _ (zn9 hm hN hd hst he hx hk) ⟨_,rfl⟩
 ·rw[hrun d g,Oper.uponIn_round]
  refine⟨fun h=>(by cases h),?_⟩
  have hc':RoundIn (fz ro) (0-1) P l fn tmps as bd C.w (fun e w'=>∃v D,e=.returned v/\D.w=w'/\Step num s.k C s.mem D s'.mem/\ERep num D s'.env a.tmps/\ARep num D x v/\s'.k=s.k):=hc
  refine hc'.mono fun e w' ⟨v,D,he',hw,hst,he,hx,hk⟩=>?_
  subst he' hw
  exact hK D _ (zn9 hm hN hd hst he hx hk) ⟨_,rfl⟩
theorem zsq{N:Nat}{ops:Array Oper}{o:Oper}{x:XO}(h:zia P num N ops o=some x):zbm P num o.op=some x.op/\zsp ops o.guard=some x.guard/\x.dst=o.dst/\zkt N o.dst=true/\∀(t:Nat) (b:Bool),x.guard=some (t,b)->t<N:=by
 unfold zia at h
 split at h
 ·rename_i y g h1 h2
  split at h
  ·cases h;rename_i hd;simp only[xae]at hd;exact⟨h1,h2,rfl,hd.1,fun t b hg=>by simp only at hg;subst hg;simpa [zkt]using hd.2⟩
  ·cases h
 ·cases h
theorem zis{call:zac}{s:St}{o:XO}{s':St}(h:za9 call s o=some s'):
  (∃v s1,zag call s o.op=some (v,s1)/\s'=s1.bind o.dst v/\(o.guard=none\/∃t b,o.guard=some (t,b)/\s.env.get t=.imm (.val (.bool b))))\/
  (s'=s.bind o.dst (.tup [])/\∃t b,o.guard=some (t,b)/\((∃c,s.env.get t=.imm (.val (.bool c))/\c≠b)\/s.env.get t=.tup [])):=by
 unfold za9 at h
 dsimp only at h
 have go:∀{s'},(zag call s o.op).map (fun (v,s')=>match o.dst with|some d=>{ s' with env:=(d,v)::s'.env }|none=>s')=some s'->∃v s1,zag call s o.op=some (v,s1)/\s'=s1.bind o.dst v:=by
  intro s' h
  cases hx:zag call s o.op with
  |none=>rw[hx]at h;cases h
  |some p=>
   obtain⟨v,s1⟩:=p
   rw[hx]at h
   refine⟨v,s1,rfl,?_⟩
   simp only[xao,xaf]at h
   rw[<-h]
   cases o.dst<;>rfl
 split at h
 ·rename_i hg
  obtain⟨v,s1,h1,h2⟩:=go h
  exact .inl ⟨v,s1,h1,h2,.inl hg⟩
 ·rename_i t b hg
  split at h
  ·rename_i c hc
   split at h
   ·rename_i hcb
    obtain⟨v,s1,h1,h2⟩:=go h
    exact .inl ⟨v,s1,h1,h2,.inr ⟨t,b,hg,by rw[hc,hcb]⟩⟩
   ·rename_i hcb
    refine .inr ⟨?_,t,b,hg,.inl ⟨c,hc,hcb⟩⟩
    simp only[xaf]at h
    rw[<-h]
    cases o.dst<;>rfl
  ·rename_i hc
   refine .inr ⟨?_,t,b,hg,.inr hc⟩
   simp only[xaf]at h
   rw[<-h]
   cases o.dst<;>rfl
  ·cases h
theorem z42{ops:Array Oper}{o:Oper}{a:Act}{C:Cx}{s:St}(hs:zas num C s a){t:Nat}{b:Bool}{j:Nat}{c:Bool}(hg:o.guard=some (j,b))(hj:(ops[j]?).bind (·.dst)=some t)(ht:t<a.tmps.size)(hc:s.env.get t=.imm (.val (.bool c))):
  Region.wanted o (yielded ops a.tmps)=(c==b):=by
 have h1:=hs.env t
 rw[hc]at h1
 have h2:=zbw h1
 have h3:a.tmps[t]?=some (.bool c):=by
  simp only[Array.getD,ht,dite_true]at h2
  rw[xbr ht];exact congrArg some h2
 simp only[Region.wanted,hg,yielded,hj,xbe,h3]
 cases c<;>cases b<;>rfl
theorem yij{ops:Array Oper}{o:Oper}{a:Act}{C:Cx}{s:St}(hs:zas num C s a){t:Nat}{b:Bool}{j:Nat}(hg:o.guard=some (j,b))(hj:(ops[j]?).bind (·.dst)=some t)(ht:t<a.tmps.size)(hc:s.env.get t=.tup []):
  Region.wanted o (yielded ops a.tmps)=false:=by
 have h1:=hs.env t
 rw[hc]at h1
 have h3:a.tmps[t]?=some (.tuple #[]):=by
  generalize hv:a.tmps.getD t undef=v at h1
  cases h1 with
  |tup _ vs hl _=>
   have:vs= #[]:=by simpa using hl.symm
   subst this
   simp only[Array.getD,ht,dite_true]at hv
   rw[xbr ht];exact congrArg some hv
 simp only[Region.wanted,hg,yielded,hj,xbe,h3]
 cases b<;>rfl
theorem yhe(C:Cx):ARep num C (.tup []) undef:=.tup [] #[] rfl fun j x u hx _=>by simp at hx
theorem zms{ro:Option Nat}{call:zac}(hcall:zc3 num P call){N:Nat}{ops:Array Oper}{o:Oper}{x:XO}(htr:zia P num N ops o=some x.wipe){a:Act}{C:Cx}{s s':St}(hs:zas num C s a)(hN:N<=a.tmps.size)(h:za9 call s x=some s')
  {K:Act->World->Prop} {Q:Exit->Act->World->Prop} (hK:∀D a',Later num s.k C s.mem a D s' a'->(∃v,a'=a.put o.dst v)->K a' D.w):
  if Region.wanted o (yielded ops a.tmps)then o.wpIn (fz ro) 0 P a C.w K Q else(∀f,o.about P C.w a.eval=some f->(fz ro).fn f)/\K (a.put o.dst undef) C.w:=by
 obtain⟨h1,h2,h3,h4,hgd⟩:=zsq htr
 have hguard:x.wipe.guard=x.guard:=rfl
 have hdst:x.wipe.dst=x.dst:=rfl
 rw[hguard]at h2
 rw[hdst]at h3
 have wgd:∀(t:Nat) (b:Bool),x.guard=some (t,b)->∃j,o.guard=some (j,b)/\(ops[j]?).bind (·.dst)=some t:=by
  intro t b hx
  rw[hx]at h2
  unfold zsp at h2
  split at h2
  ·cases h2
  ·rename_i j b' hjb
   split at h2
   ·rename_i t' ht
    simp only[xaf,xay]at h2
    obtain⟨rfl,rfl⟩:=h2
    exact⟨_,hjb,ht⟩
   ·cases h2
 rcases zis h with⟨v,s1,hx,rfl,hg⟩|⟨rfl,t,b,hg,hc⟩
 ·have hw:Region.wanted o (yielded ops a.tmps)=true:=by
   rcases hg with hg|⟨t,b,hg,hc⟩
   ·rw[hg]at h2
    unfold zsp at h2
    split at h2
    ·simp[Region.wanted, *]
    ·split at h2<;>simp at h2
   ·obtain⟨j,hj,hd⟩:=wgd t b hg
    rw[z42 hs hj hd (xbz (hgd t b hg) hN) hc];simp
  rw[if_pos hw]
  have:=z8k (ro:=ro) hs.mem (z8t (ty:=o.type) (pos:=o.pos) (after:=o.after) hcall hs h1 hx) hN h4 o.guard (K:=K) (Q:=Q)
  obtain⟨d,op,ty,pos,after,g⟩:=o
  dsimp only at *
  refine this fun D a' hl hp=>hK D a' ?_ hp
  rw[h3]
  exact hl
 ·obtain⟨j,hj,hd⟩:=wgd t b hg
  have hw:Region.wanted o (yielded ops a.tmps)=false:=by
   rcases hc with⟨c,hc,hne⟩|hc
   ·rw[z42 hs hj hd (xbz (hgd t b hg) hN) hc];simpa using hne
   ·exact yij hs hj hd (xbz (hgd t b hg) hN) hc
  rw[hw]
  simp only[xan,if_false]
  refine⟨fun _ _=>trivial,hK C _ ?_ ⟨_,rfl⟩⟩
  rw[h3]
  exact zn9 hs.mem hN h4 (.refl hs.mem hs.k) hs.env (yhe C) rfl
theorem zrl{ro:Option Nat}{call:zac}(hcall:zc3 num P call){N:Nat}{ops:Array Oper}{Q:Exit->Act->World->Prop}:∀(l:List Oper) (xs:List XO) {a:Act} {C:Cx} {s s':St},zf0 P num N ops l=xs.map XO.wipe->zas num C s a->N<=a.tmps.size->zbn call s xs=some s'->
  (∀D a',Later num s.k C s.mem a D s' a'->Q .normal a' D.w)->wpListIn (fz ro) 0 P ops Q l a C.w
 |[],xs,a,C,s,s',htr,hs,_,h,hQ=>by
  cases xs with
  |nil=>cases h;exact hQ C a (.refl hs)
  |cons x r=>simp[zf0]at htr
 |o::l,xs,a,C,s,s',htr,hs,hN,h,hQ=>by
  simp only[zf0]at htr
  cases ho:zia P num N ops o with
  |none=>
   rw[ho]at htr
   cases xs with
   |nil=>simp at htr
   |cons x r=>
    simp only[xa4,xcu]at htr
    have hb:x.wipe=zn6:=htr.1.symm
    have h1:(x.op=.callV (.c (.bool true)) []\/x.op=.callP (.c (.bool true)) []\/x.op=.callW (.c (.bool true)) []\/∃w,x.op=.callT (.c (.bool true)) [] w)/\x.guard=none:=by
     obtain⟨d,op,g⟩:=x
     simp only[XO.wipe,zn6,XO.mk.injEq]at hb
     obtain⟨_,h2,h3⟩:=hb
     refine⟨?_,h3⟩
     cases op<;>simp only[XOp.wipe,reduceCtorEq]at h2
     ·exact .inl h2
     ·cases h2;exact .inr (.inl rfl)
     ·cases h2;exact .inr (.inr (.inl rfl))
     ·cases h2;exact .inr (.inr (.inr ⟨_,rfl⟩))
    simp only[zbn]at h
    unfold za9 at h
    rcases h1.1 with h4|h4|h4|⟨_,h4⟩<;>simp only[h4,h1.2,zag,Env.ev,xci,Option.bind_none]at h<;>cases h
  |some y=>
   rw[ho]at htr
   cases xs with
   |nil=>simp at htr
   |cons x r=>
    simp only[xa4,xcu]at htr
    obtain⟨h1,h2⟩:=htr
    subst h1
    simp only[zbn]at h
    cases hx:za9 call s x with
    |none=>rw[hx]at h;cases h
    |some s1=>
     rw[hx]at h
     simp only[xbe]at h
     have:=zms hcall ho hs hN hx (ro:=ro) (Q:=Q) (K:=wpListIn (fz ro) 0 P ops Q l) fun D a' hl _=>
      zrl hcall l r h2 hl.rep (by rw[hl.size];exact hN) h fun E a'' hl'=>hQ E a'' (hl.trans (by rw[hl.k]at hl';exact hl'))
     unfold wpListIn
     exact this
theorem zx8{F:Fence}{n:Nat}{md:Region.Mode}{ops:Array Oper}{Q':Exit->Act->World->Prop}:∀(l:List Oper) (k:Nat) (listed:Array Bool) (a:Act) (w:World),(∀j,l[j]?=ops[k+j]?)->
  Region.seqB md ops l.length k listed=true->wpListIn F n P ops Q' l a w->wpAnyIn F n P md ops Q' l.length listed a w
 |[],_,_,_,_,_,hB,h=>⟨by simpa [Region.seqB]using hB,h⟩
 |o::l,k,listed,a,w,hl,hB,h=>by
  have h0:ops[k]?=some o:=by simpa using(hl 0).symm
  simp only[xax,Region.seqB,xae,decide_eq_true_eq]at hB
  refine⟨fun h1=>(by rw[hB.1]at h1;cases h1),fun i hi=>?_⟩
  rw[hB.1]at hi
  have hik:i=k:=by simpa using hi
  subst hik
  have hw:wpOpIn F n P ops Q' i (wpListIn F n P ops Q' l) a w:=by unfold wpOpIn;simp only[h0];exact h
  exact wpOpIn_mono (fun a' w' h'=>zx8 l (i+1) _ a' w' (fun j=>by have:=hl (j+1);simpa [xb4,Nat.add_comm 1 j]using this) hB.2 h') hw
end
theorem zji{s t:Env}{y:Src}(he:∀n∈za8 y,t.get n=s.get n):t.ev y=s.ev y:=by
 cases y with
 |t n=>exact he n (by simp[za8])
 |c v=>rfl
 |f n=>rfl
theorem z8o{s t:Env}{y:Option Src}(he:∀n∈zk9 y,t.get n=s.get n):y.map t.ev=y.map s.ev:=by
 cases y with
 |none=>rfl
 |some y=>exact congrArg some (zji he)
theorem zg8{s t:Env}{l:List Src}(he:∀n∈l.flatMap za8,t.get n=s.get n):l.map t.ev=l.map s.ev:=
 xbk fun y hy=>zji fun n hn=>he n (xa2.2 ⟨y,hy,hn⟩)
theorem zvy{s t:Env}{l:List (Nat×Nat×Src)}(he:∀n∈l.flatMap (fun p=>za8 p.2.2),t.get n=s.get n):l.map (fun (o,n,x)=>(o,n,t.ev x))=l.map fun (o,n,x)=>(o,n,s.ev x):=
 xbk fun y hy=>by
  have:=zji (s:=s) (t:=t) (y:=y.2.2) fun n hn=>he n (xa2.2 ⟨y,hy,hn⟩)
  simp only[this]
def In(K:Nat->Prop)(x:AV):Prop:=∀id∈x.refs,K id
def InL(K:Nat->Prop)(l:List AV):Prop:=∀x∈l,In K x
theorem in_agg{K:Nat->Prop}{l:List AV}:In K (.agg l)↔InL K l:=by
 constructor
 ·intro h x hx id hid;exact h id (by simp only[AV.refs];exact refsL_mem.2 ⟨x,hx,hid⟩)
 ·intro h id hid;simp only[AV.refs]at hid;obtain⟨x,hx,hid⟩:=refsL_mem.1 hid;exact h x hx id hid
theorem in_tup{K:Nat->Prop}{l:List AV}:In K (.tup l)↔InL K l:=by
 constructor
 ·intro h x hx id hid;exact h id (by simp only[AV.refs];exact refsL_mem.2 ⟨x,hx,hid⟩)
 ·intro h id hid;simp only[AV.refs]at hid;obtain⟨x,hx,hid⟩:=refsL_mem.1 hid;exact h x hx id hid
theorem in_clo{K:Nat->Prop}{n:Nat}{l:List AV}:In K (.clo n l)↔InL K l:=by
 constructor
 ·intro h x hx id hid;exact h id (by simp only[AV.refs];exact refsL_mem.2 ⟨x,hx,hid⟩)
 ·intro h id hid;simp only[AV.refs]at hid;obtain⟨x,hx,hid⟩:=refsL_mem.1 hid;exact h x hx id hid
theorem zcv{K:Nat->Prop}{x:IV}:In K (.imm x):=fun id hid=>by simp[AV.refs]at hid
theorem z1u{K:Nat->Prop}{b a:Nat}{x:IV}:In K (.tag b a x):=fun id hid=>by simp[AV.refs]at hid
theorem zwd{K:Nat->Prop}:In K .junk:=fun id hid=>by simp[AV.refs]at hid
theorem in_optr{K:Nat->Prop}{i o:Nat}:In K (.optr i o)↔K i:=by simp[In,AV.refs]
theorem in_osl{K:Nat->Prop}{i a b c:Nat}{d:Option Nat}:In K (.osl i a b c d)↔K i:=by simp[In,AV.refs]
theorem in_omap{K:Nat->Prop}{i:Nat}:In K (.omap i)↔K i:=by simp[In,AV.refs]
theorem zmf{K:Nat->Prop}{e:Env}{y:Src}(h:∀n∈za8 y,In K (e.get n)):In K (e.ev y):=by
 cases y with
 |t n=>exact h n (by simp[za8])
 |c v=>exact zcv
 |f n=>exact in_clo.2 fun x hx=>by cases hx
theorem InL.get{K:Nat->Prop}{l:List AV}(h:InL K l){j:Nat}{x:AV}(hx:l[j]?=some x):In K x:=h x (xah hx)
theorem InL.mapImm{K:Nat->Prop}{α:Type}(l:List α)(f:α->IV):InL K (l.map fun x=>.imm (f x)):=fun x hx=>by obtain⟨y,_,rfl⟩:=xbd.1 hx;exact zcv
theorem zoo{K:Nat->Prop}:∀(xs l:List AV) (off:Nat),InL K l->InL K xs->InL K (setAll l off xs)
 |[],l,off,hl,_=>hl
 |x::xs,l,off,hl,hx=>by
  simp only[setAll]
  refine zoo xs _ _ (fun y hy=>?_) (fun y hy=>hx y (xbc _ hy))
  rcases List.mem_or_eq_of_mem_set hy with h|h
  ·exact hl y h
  ·rw[h];exact hx x (xbh ..)
theorem zme{K:Nat->Prop}{x:AV}{cs:List AV}(h:In K x)(hc:x.cells=some cs):InL K cs:=by
 cases x<;>simp only[AV.cells,xaf,reduceCtorEq]at hc<;>subst hc<;>first|exact in_agg.1 h|(intro y hy;rw[xav.1 hy];exact h)
theorem zrf{K:Nat->Prop}:∀(ps:List (Nat×Nat×AV)) (cs r:List AV),InL K cs->(∀p∈ps,In K p.2.2)->zco cs ps=some r->InL K r
 |[],cs,r,hc,_,h=>by cases h;exact hc
 |(off,n,v)::ps,cs,r,hc,hp,h=>by
  simp only[zco]at h
  split at h
  ·rename_i vs hv
   split at h
   ·exact zrf ps _ _ (zoo vs cs off hc (zme (hp _ (xbh ..)) hv)) (fun p hp'=>hp p (xbc _ hp')) h
   ·cases h
  ·cases h
theorem z1o{K:Nat->Prop}{l r:List AV}{off n:Nat}(hl:InL K l)(h:cut l off n=some r):InL K r:=by
 unfold cut at h
 dsimp only at h
 split at h
 ·cases h;exact fun x hx=>hl x (List.mem_of_mem_drop (List.mem_of_mem_take hx))
 ·cases h
theorem z1p{K:Nat->Prop}{l:List AV}{agg:Option Nat}{off:Nat}{r:AV}(hl:InL K l)(h:zdw agg l off=some r):In K r:=by
 cases agg with
 |none=>exact hl.get h
 |some n=>
  simp only[zdw,xad]at h
  obtain⟨c,hc,rfl⟩:=h
  exact in_agg.2 (z1o hl hc)
theorem zrg{K:Nat->Prop}{l:List IV}{agg:Option Nat}{off:Nat}{r:AV}(h:zf9 agg l off=some r):In K r:=by
 cases agg with
 |none=>simp only[zf9,xad]at h;obtain⟨c,_,rfl⟩:=h;exact zcv
 |some n=>
  simp only[zf9,xad]at h
  obtain⟨c,hc,rfl⟩:=h
  exact in_agg.2 (InL.mapImm c id)
theorem zjl{K:Nat->Prop}(zs:List Value):InL K (imZ zs):=InL.mapImm zs .val
structure zci (K:Nat->Prop) (s t:Mem):Prop where
 same:∀id,K id->t[id]?=s[id]?
 closed:∀id o,K id->s[id]?=some o->∀j∈o.refs,K j
theorem zmg{K:Nat->Prop}{s t:Mem}(h:zci K s t){id:Nat}(hk:K id){cs:List AV}(hc:s[id]?=some (.rich cs)):InL K cs:=fun x hx j hj=>h.closed id _ hk hc j (by simp only[AObj.refs];exact refsL_mem.2 ⟨x,hx,hj⟩)
theorem z90{K:Nat->Prop}{s t:Mem}(h:zci K s t){id:Nat}(hk:K id){es:List (AV×AV)}(hc:s[id]?=some (.map es)):∀p∈es,In K p.1/\In K p.2:=fun p hp=>
 ⟨fun j hj=>h.closed id _ hk hc j (by simp only[AObj.refs,xaj];exact .inl (refsL_mem.2 ⟨p.1,xbd.2 ⟨p,hp,rfl⟩,hj⟩)),
  fun j hj=>h.closed id _ hk hc j (by simp only[AObj.refs,xaj];exact .inr (refsL_mem.2 ⟨p.2,xbd.2 ⟨p,hp,rfl⟩,hj⟩))⟩
theorem zhb{α β:Type}{f g:α->Option β}:∀(l:List α),(∀x∈l,f x=g x)->l.mapM f=l.mapM g
 |[],_=>rfl
 |x::r,h=>by
  rw[xa5,xa5,h x (xbh ..),zhb r fun y hy=>h y (xbc _ hy)]
theorem zkw{K:Nat->Prop}{s t:Mem}(h:zci K s t):∀(n:Nat) (x:AV),In K x->za5 t n x=za5 s n x
 |n,.imm x,_=>by cases n<;>rfl
 |0,.osl ..,_=>rfl
 |0,.optr ..,_=>rfl
 |n+1,.osl id off sz len cap,hx=>by
  have hk:=in_osl.1 hx
  simp only[za5,h.same id hk]
  cases hc:s[id]? with
  |none=>rfl
  |some o=>
   cases o with
   |rich cs=>simp only[];rw[zhb cs fun y hy=>zkw h n y (zmg h hk hc y hy)]
   |_=>rfl
 |n+1,.optr id off,hx=>by
  have hk:=in_optr.1 hx
  simp only[za5,h.same id hk]
  cases hc:s[id]? with
  |none=>rfl
  |some o=>
   cases o with
   |rich cs=>simp only[];rw[zhb cs fun y hy=>zkw h n y (zmg h hk hc y hy)]
   |_=>rfl
 |n,.omap _,_=>by cases n<;>rfl
 |n,.clo ..,_=>by cases n<;>rfl
 |n,.agg _,_=>by cases n<;>rfl
 |n,.tup _,_=>by cases n<;>rfl
 |n,.yld _,_=>by cases n<;>rfl
 |n,.seat ..,_=>by cases n<;>rfl
 |n,.tag ..,_=>by cases n<;>rfl
 |n,.err,_=>by cases n<;>rfl
 |n,.junk,_=>by cases n<;>rfl
theorem z9g{K:Nat->Prop}{s t:Mem}(h:zci K s t)(x:AV)(hx:In K x):frz.frz1 t x=frz.frz1 s x:=by
 cases x with
 |agg cs=>simp only[frz.frz1];rw[zhb cs fun y hy=>zkw h 20 y (in_agg.1 hx y hy)]
 |_=>simp only[frz.frz1];rw[zkw h 20 _ hx]
theorem z9h{K:Nat->Prop}{s t:Mem}(h:zci K s t)(x:AV)(hx:In K x):frz.frzC t x=frz.frzC s x:=by
 cases x with
 |clo fn caps=>rfl
 |_=>simp only[frz.frzC];rw[zkw h 20 _ hx]
theorem zrb{K:Nat->Prop}{s t:Mem}(h:zci K s t)(x:AV)(hx:In K x):frz t x=frz s x:=by
 cases x with
 |agg cs=>simp only[frz];rw[zhb cs fun y hy=>zkw h 20 y (in_agg.1 hx y hy)]
 |tup vs=>simp only[frz];rw[zhb vs fun y hy=>z9g h y (in_tup.1 hx y hy)]
 |clo fn caps=>simp only[frz];rw[zhb caps fun y hy=>z9h h y (in_clo.1 hx y hy)]
 |_=>simp only[frz];rw[zkw h 20 _ hx]
theorem z1m{K:Nat->Prop}(l:List IV):In K (.agg (l.map .imm)):=in_agg.2 (InL.mapImm l id)
mutual
theorem yfv:∀(x:AV),(x.ren fun _=>none).refs=[]
 |.imm _=>rfl
 |.osl .. =>rfl
 |.optr .. =>rfl
 |.omap _=>rfl
 |.clo fn caps=>by simp only[AV.ren,AV.refs];exact zpf caps
 |.agg cells=>by simp only[AV.ren,AV.refs];exact zpf cells
 |.tup vs=>by simp only[AV.ren,AV.refs];exact zpf vs
 |.yld _=>rfl
 |.seat .. =>rfl
 |.tag .. =>rfl
 |.err=>rfl
 |.junk=>rfl
theorem zpf:∀(l:List AV),AV.refs.refsL (AV.ren.renL (fun _=>none) l)=[]
 |[]=>rfl
 |x::r=>by simp only[AV.ren.renL,AV.refs.refsL,yfv x,zpf r,xas]
end
theorem z9z{K:Nat->Prop}{m:Mem}{x y:AV}(h:frz m x=some y):In K y:=by
 have one:∀{x y:AV},frz.frz1 m x=some y->In K y:=by
  intro x y h
  cases x<;>simp only[frz.frz1,xad]at h<;>obtain⟨l,_,rfl⟩:=h<;>first|exact zcv|exact z1m l
 cases x with
 |agg cs=>simp only[frz,xad]at h;obtain⟨l,_,rfl⟩:=h;exact z1m l
 |tup vs=>
  simp only[frz,xad]at h
  obtain⟨l,hl,rfl⟩:=h
  refine in_tup.2 fun y hy=>?_
  obtain⟨j,hj⟩:=xa3 hy
  obtain⟨x,_,hx⟩:=(zgv _ vs l hl).2 j y hj
  exact one hx
 |clo fn caps=>
  simp only[frz,xad]at h
  obtain⟨l,hl,rfl⟩:=h
  refine in_clo.2 fun y hy=>?_
  obtain⟨j,hj⟩:=xa3 hy
  obtain⟨x,_,hx⟩:=(zgv _ caps l hl).2 j y hj
  cases x with
  |clo g cs=>
   simp only[frz.frzC,xaf]at hx
   subst hx
   intro id hid
   simp only[AV.refs,zpf]at hid
   cases hid
  |_=>simp only[frz.frzC,xad]at hx;obtain⟨l,_,rfl⟩:=hx;exact zcv
 |_=>simp only[frz,xad]at h;obtain⟨l,_,rfl⟩:=h;exact zcv
theorem yaw{K:Nat->Prop}{s t:Mem}(h:zci K s t){agg:Option Nat}{x:AV}(hx:In K x):loadAt t agg x=loadAt s agg x:=by
 unfold loadAt
 cases x with
 |optr id off=>simp only[h.same id (in_optr.1 hx)]
 |imm y=>cases y<;>rfl
 |tag b a y=>cases y<;>rfl
 |_=>rfl
theorem zwe{K:Nat->Prop}{s t:Mem}(h:zci K s t){agg:Option Nat}{x r:AV}(hx:In K x)(hr:loadAt s agg x=some r):In K r:=by
 unfold loadAt at hr
 split at hr
 ·exact zrg hr
 ·exact zrg hr
 ·rename_i id off
  have hk:=in_optr.1 hx
  split at hr
  ·exact zrg hr
  ·rename_i cs hc;exact z1p (zmg h hk hc) hr
  ·exact zrg hr
  ·cases hr
 ·cases hr
theorem z8m{K:Nat->Prop}{s t:Mem}(h:zci K s t)(sz:Nat){x:AV}(hx:In K x):elems t sz x=elems s sz x:=by
 cases x with
 |osl id off sz' len cap=>simp only[elems,h.same id (in_osl.1 hx)]
 |imm v=>
  cases v with
  |val u=>
   cases u with
   |slice b l c=>cases b<;>cases l<;>cases c<;>rfl
   |_=>rfl
  |_=>rfl
 |_=>rfl
theorem z98{K:Nat->Prop}{s t:Mem}(h:zci K s t)(kind:Nat){x y:AV}(hx:In K x)(hy:In K y):zeo t kind x y=zeo s kind x y:=by
 unfold zeo
 split<;>first|rfl|skip
 rename_i i o j p
 rw[h.same i (in_optr.1 hx),h.same j (in_optr.1 hy)]
theorem z0t{K:Nat->Prop}{s t:Mem}(h:zci K s t)(kind:Nat){k:AV}(hk:In K k):∀(es:List (AV×AV)) (i:Nat),(∀p∈es,In K p.1)->zcp t kind k es i=zcp s kind k es i
 |[],_,_=>rfl
 |e::es,i,he=>by
  simp only[zcp,z98 h kind hk (he e (xbh ..)),z0t h kind hk es (i+1) fun p hp=>he p (xbc _ hp)]
theorem z1s{K:Nat->Prop}{x:AV}(h:x.plain1=true):In K x:=by
 unfold AV.plain1 at h
 split at h
 ·exact zcv
 ·intro id hid;cases hid
 ·cases h
theorem z1t{K:Nat->Prop}{x:AV}(h:x.plain2=true):In K x:=by
 cases x with
 |agg cs=>exact in_agg.2 fun y hy=>z1s (xai.1 h y hy)
 |_=>exact z1s h
theorem z1r{K:Nat->Prop}{x:AV}(h:x.plain=true):In K x:=by
 cases x with
 |tup cs=>exact in_tup.2 fun y hy=>z1t (xai.1 h y hy)
 |_=>exact z1t h
end Go.EX

