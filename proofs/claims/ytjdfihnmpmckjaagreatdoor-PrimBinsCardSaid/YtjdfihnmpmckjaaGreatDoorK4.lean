import Derived.Test.YtjdfihnmpmckjaaGreatDoorK3
import Derived.MapKept
import Derived.LaidEqlPtr
import Derived.Test.YtjdfihnmpmckjaaGreatDoorK2
import Derived.Laws.BytesString
import Derived.Lib.ConvBytes
import Derived.RangeFuncRecord
set_option linter.unusedVariables false
set_option linter.unusedSimpArgs false
namespace Go.EX
section
variable {num:Names} {P:Program}
variable {ty:TypeId} {pos:String} {after:Array Edge} {a:Act} {C:Cx} {s:St}
theorem put_tr{m:Mem}(hm:MRep num C m){id:Nat}{o:AObj}(ho:m[id]?=some o)(hlo:o.live=true){w':World}
  (hno:∀arr e fz,C.w.heap[C.σ id]?≠some (.cells arr e fz)) (hw:∀b,b≠C.σ id→w'.heap[b]?=C.w.heap[b]?):Tr some C { C with w:=w' }:=by
 refine⟨fun _ h=>h,fun b hb=>hw b fun e=>hm.imm b ⟨id,o,ho,hlo,e.symm⟩ hb,fun i j hi hj=>?_⟩
 cases hj
 refine⟨hi,rfl,fun arr e h=>h.same (hw _ fun hc=>?_)⟩
 obtain⟨a,fz,h1,_⟩:=h
 exact hno a e fz (by rw[←hc];exact h1)
theorem zpe{m:Mem}(hm:MRep num C m){id:Nat}{o o':AObj}(ho:m[id]?=some o)(hlo:o.live=true){w':World}
  (hno:∀arr e fz,C.w.heap[C.σ id]?≠some (.cells arr e fz)) (hw:∀b,b≠C.σ id→w'.heap[b]?=C.w.heap[b]?) (hos:w'.os=C.w.os) (htp:w'.tape=C.w.tape) (hout:w'.output=C.w.output) (hsize:w'.heap.size=C.w.heap.size)
  (hmv:o.moved=false) (hr:ORep num { C with w:=w' } id o') {k:Nat} (hk:k≤m.length) (hof:o.isFix=false:=by rfl):
  Step num k C m { C with w:=w' } (m.set id o'):=by
 have ht:=put_tr hm ho hlo hno hw
 have back:∀(i:Nat) (p:AObj),(m.set id o')[i]?=some p→(i=id∧p=o')∨(i≠id∧m[i]?=some p):=by
  intro i p hp
  rw[ztb]at hp
  split at hp
  ·rename_i hi;exact .inl ⟨hi.1.symm,(Option.some.inj hp).symm⟩
  ·rename_i hi
   exact .inr ⟨fun e=>hi ⟨e.symm,(List.getElem?_eq_some_iff.1 hp).1⟩,hp⟩
 have hown:∀b,Own { C with w:=w' } (m.set id o') b→Own C m b:=by
  rintro b ⟨i,p,hp,hl,hb⟩
  rcases back i p hp with⟨rfl,rfl⟩|⟨_,hp'⟩
  ·exact⟨i,o,ho,hlo,hb⟩
  ·exact⟨i,p,hp',hl,hb⟩
 refine⟨⟨by simpa using hm.len,fun i p hp=>?_,fun i j p q hp hq hlp hlq hσ=>?_,fun b hb=>hm.imm b (hown b hb),fun b hb=>by show b<w'.heap.size;rw[hsize];exact hm.bd b hb,num.up hm.glo ht.imm ht.keep⟩,hos,htp,hout,by show _≤w'.heap.size;omega,fun b _ hb=>hw b fun e=>hb ⟨id,o,ho,hlo,e.symm⟩,
  fun b arr e h=>h.same ?_,fun _ h=>h,fun _ h=>.inl h,fun b hb=>.inr (hown b hb),fun i _ p hp hmp=>?_,by simpa using hk⟩
 ·rcases back i p hp with⟨rfl,rfl⟩|⟨hne,hp'⟩
  ·exact hr
  ·by_cases hlp:p.live=true
   ·refine znw ht rfl (fun x hx=>?_) (hm.obj i p hp')
    show w'.heap[C.σ i]?=_
    rw[hw _ fun e=>hne (hm.inj2 num i id p o hp' ho hlp hlo hof e)];exact hx
   ·cases p with
    |dead=>trivial
    |_=>exact absurd rfl hlp
 ·have hl:∀(i:Nat) (p:AObj),(m.set id o')[i]?=some p→p.live=true→∃p':AObj,m[i]?=some p'∧p'.live=true∧(p'=p∨p'.isFix=false):=by
   intro i p hp hl
   rcases back i p hp with⟨rfl,rfl⟩|⟨_,hp'⟩
   ·exact⟨o,ho,hlo,.inr hof⟩
   ·exact⟨p,hp',hl,.inl rfl⟩
  obtain⟨p',hp',hlp',hp3⟩:=hl i p hp hlp
  obtain⟨q',hq',hlq',hq3⟩:=hl j q hq hlq
  rcases hm.inj i j p' q' hp' hq' hlp' hlq' hσ with h|h
  ·exact .inl h
  ·rcases hp3 with rfl|h3
   ·rcases hq3 with rfl|h4
    ·exact .inr h
    ·rw[(zvk h).2]at h4;cases h4
   ·rw[(zvk h).1]at h3;cases h3
 ·obtain⟨a,fz,h1,_⟩:=h
  exact hw b fun e'=>hno a e fz (by rw[←e'];exact h1)
 ·rcases back i p hp with⟨rfl,rfl⟩|⟨_,hp'⟩
  ·exact⟨o,ho,hmv,rfl⟩
  ·exact⟨p,hp',hmp,rfl⟩
def IsK(P:Program)(w:World)(kt:TypeId):Nat→Value→Prop
 |0,v=>∃j k n,P.underlying kt=some (.int j)∧v=.int k n
 |1,v=>∃b,P.underlying kt=some .bool∧v=.bool b
 |2,v=>∃b,P.underlying kt=some .string∧v=.string b
 |3,v=>∃e i b o,P.underlying kt=some (.pointer e)∧P.info? e=some i∧i.size≠0∧v=.pointer (some ⟨b,o,none⟩)
 |_+4,v=>∃fs ks cs,P.underlying kt=some (.struct fs)∧leaves P 100 kt=some ks∧cs.length=ks.length∧v=mkV P kt cs
theorem zaj{xs:List AV}{cs:List Value}(hx:xs=cs.map fun v=>AV.imm (.val v)){v:Value}(h:ARep num C (.agg xs) v):v=.agg cs.toArray:=by
 subst hx
 cases h with
 |agg _ us hl h1 h2=>
  congr 1
  apply Array.toList_inj.1
  refine List.ext_getElem? fun j=>?_
  rw[List.length_map]at hl
  rcases Nat.lt_or_ge j cs.length with hj|hj
  ·have hju:j<us.size:=by omega
   have:=h2 j (.imm (.val cs[j])) us[j] (by simp[hj]) (by simp[hju])
   have:=zqs this
   simp[hj,hju,this]
  ·rw[List.getElem?_eq_none (by simp;omega),List.getElem?_eq_none (by simpa using hj)]
theorem zmy{kt:TypeId}{kind:Nat}(h:keyKind P kt=some kind)(hk:kind<4)(fs:Array Field):P.underlying kt≠some (.struct fs):=by
 intro he
 unfold keyKind at h
 rw[he]at h
 dsimp only at h
 split at h
 ·split at h
  ·have:=Option.some.inj h;omega
  ·cases h
 ·cases h
theorem zii{kt:TypeId}{kind:Nat}(h:keyKind P kt=some kind){x:AV}{v:Value}(hx:ARep num C x v)(hk:isKeyAV kind x=true):IsK P C.w kt kind v:=by
 unfold keyKind at h
 split at h
 ·rename_i j hj
  cases h
  unfold isKeyAV at hk
  split at hk<;>first|(cases hk;done)|skip
  all_goals (rename_i h0;first|(cases h0;done)|skip)
  have:=zqs hx
  subst this
  exact⟨_,_,_,hj,rfl⟩
 ·rename_i hj
  cases h
  unfold isKeyAV at hk
  split at hk<;>first|(cases hk;done)|skip
  all_goals (rename_i h0;first|(cases h0;done)|skip)
  have:=zqs hx
  subst this
  exact⟨_,hj,rfl⟩
 ·rename_i hj
  cases h
  unfold isKeyAV at hk
  split at hk<;>first|(cases hk;done)|skip
  all_goals (rename_i h0;first|(cases h0;done)|skip)
  have:=zqs hx
  subst this
  exact⟨_,hj,rfl⟩
 ·rename_i e he
  split at h
  ·rename_i hc
   simp only[Bool.and_eq_true,decide_eq_true_eq]at hc
   cases h
   obtain⟨i,d,h1,h2,h3,_⟩:=zir hc.1
   unfold isKeyAV at hk
   split at hk<;>first|(cases hk;done)|skip
   all_goals (rename_i h0;first|(cases h0;done)|skip)
   ·cases hx with
    |optr id off hid=>exact⟨e,i,_,_,he,h1,by rw[←h3];omega,rfl⟩
   ·cases hx with
    |tag _ _ _ _ h ha=>cases h with
     |ptr=>exact⟨e,i,_,_,he,h1,by rw[←h3];omega,rfl⟩
  ·cases h
 ·rename_i fs hfs
  split at h
  ·rename_i ks hks
   split at h
   ·rename_i hdig
    cases h
    unfold isKeyAV at hk
    split at hk<;>first|(cases hk;done)|skip
    all_goals (rename_i h0;first|(cases h0;done)|skip)
    rename_i n xs
    have h0':undigits ks=n:=by simpa using h0
    subst h0'
    rw[hdig]at hk
    obtain⟨b,hb⟩:=Option.isSome_iff_exists.1 hk
    obtain⟨cs,ds,h1,_,h3⟩:=zsk _ _ _ _ hb
    have hv:=zaj h1 hx
    exact⟨fs,ks,cs,hfs,hks,(zsq _ _ _ _ h3).1,by rw[hv];simp[mkV,hfs]⟩
   ·cases h
  ·cases h
 ·cases h
theorem zr3{w:World}{kt:TypeId}{kind:Nat}{v:Value}(h:IsK P w kt kind v)(e:Bool)(n:Nat)(hn:99≤n):(Instr.checkKey e (n+1) kt v).run P w=.ok () w:=by
 match kind,h with
 |_+4,⟨fs,ks,cs,h1,h2,h3,h4⟩=>subst h4;rw[show n+1=100+(n-99) by omega];exact zcj w e 100 kt ks h2 (n-99) cs h3
 |0,⟨j,k,n,h1,h2⟩=>subst h2;simp[Instr.checkKey,run_underlying h1,Result.andThen]
 |1,⟨b,h1,h2⟩=>subst h2;simp[Instr.checkKey,run_underlying h1,Result.andThen]
 |2,⟨b,h1,h2⟩=>subst h2;simp[Instr.checkKey,run_underlying h1,Result.andThen]
 |3,⟨e,i,b,o,h1,_,_,h2⟩=>subst h2;simp[Instr.checkKey,run_underlying h1,Result.andThen]
theorem zhj{m:Mem}(hm:MRep num C m){id:Nat}(h:((m[id]?).getD .dead).hasCells=true):∃o arr e,m[id]?=some o∧o.live=true∧C.w.heap[C.σ id]?=some (.cells arr e (0,0))∧o.isFix=false:=by
 cases hq:m[id]? with
 |none=>simp[hq,AObj.hasCells]at h
 |some o=>
  simp only[hq,Option.getD_some]at h
  have h1:=hm.obj id o hq
  cases o with
  |flat=>obtain⟨arr,e,h2,_⟩:=h1;exact⟨_,arr,e,rfl,rfl,h2,rfl⟩
  |rich=>obtain⟨arr,e,h2,_⟩:=h1;exact⟨_,arr,e,rfl,rfl,h2,rfl⟩
  |map=>cases h
  |dead=>cases h
  |fix=>cases h
  |loop=>cases h
  |text=>cases h
  |iter=>cases h
theorem zij{m:Mem}(hm:MRep num C m){kt:TypeId}{kind:Nat}(hkt:keyKind P kt=some kind){x y:AV}{u v:Value}(hx:ARep num C x u)(hy:ARep num C y v){b:Bool}(h:keyEq m kind x y=some b):
  (kind<3→∃d,P.underlying kt=some d∧Instr.sameNow d u v=some b)∧(3≤kind→(∃d,P.underlying kt=some d∧Instr.sameNow d u v=none)∧(Op.equal kt u v).run P C.w=.ok b C.w):=by
 unfold keyEq at h
 split at h
 ·rename_i k n j n'
  split at h
  ·rename_i hk
   cases h
   have e1:=zqs hx
   have e2:=zqs hy
   subst e1 e2 hk
   refine⟨fun _=>?_,fun h=>absurd h (by decide)⟩
   have hns:=zmy hkt (by decide)
   unfold keyKind at hkt
   split at hkt<;>first|(cases hkt;done)|(exact absurd ‹P.underlying kt=some (.struct _)› (hns _))|skip
   ·rename_i hj;exact⟨_,hj,by simp[Instr.sameNow]⟩
   ·split at hkt<;>cases hkt
  ·cases h
 ·cases h
  have e1:=zqs hx
  have e2:=zqs hy
  subst e1 e2
  refine⟨fun _=>?_,fun h=>absurd h (by decide)⟩
  have hns:=zmy hkt (by decide)
  unfold keyKind at hkt
  split at hkt<;>first|(cases hkt;done)|(exact absurd ‹P.underlying kt=some (.struct _)› (hns _))|skip
  ·rename_i hj;exact⟨_,hj,by simp[Instr.sameNow]⟩
  ·split at hkt<;>cases hkt
 ·cases h
  have e1:=zqs hx
  have e2:=zqs hy
  subst e1 e2
  refine⟨fun _=>?_,fun h=>absurd h (by decide)⟩
  have hns:=zmy hkt (by decide)
  unfold keyKind at hkt
  split at hkt<;>first|(cases hkt;done)|(exact absurd ‹P.underlying kt=some (.struct _)› (hns _))|skip
  ·rename_i hj;exact⟨_,hj,by simp[Instr.sameNow]⟩
  ·split at hkt<;>cases hkt
 ·rename_i i o j p
  split at h
  ·rename_i hc
   simp only[Bool.and_eq_true]at hc
   cases h
   cases hx with
   |optr _ _ hi=>
    cases hy with
    |optr _ _ hj=>
     refine⟨fun h=>absurd h (by decide),fun _=>?_⟩
     have hns:=zmy hkt (by decide)
     unfold keyKind at hkt
     split at hkt<;>first|(cases hkt;done)|(exact absurd ‹P.underlying kt=some (.struct _)› (hns _))|skip
     rename_i e he
     split at hkt
     ·rename_i hk
      simp only[Bool.and_eq_true,decide_eq_true_eq]at hk
      obtain⟨inf,d,h1,h2,h3,_⟩:=zir hk.1
      refine⟨⟨_,he,by simp[Instr.sameNow]⟩,?_⟩
      obtain⟨o1,arr1,e1,g1,g2,g3,g7⟩:=zhj hm hc.1
      obtain⟨o2,arr2,e2,g4,g5,g6,g8⟩:=zhj hm hc.2
      by_cases hs:i=j∧o=p
      ·obtain⟨rfl,rfl⟩:=hs
       have hq:∀d:Nat,(Op.equalIn (d+1) kt (.pointer (some ⟨C.σ i,o,none⟩)) (.pointer (some ⟨C.σ i,o,none⟩))).run P C.w=.ok true C.w:=fun d=>by
        simp[Op.equalIn,run_underlying he,sizeOf,typeInfo,h1,run_sameAddr_same]
       simpa [Op.equal,Op.maxDepth]using hq 9999
      ·have hne:(⟨C.σ i,o,none⟩:Addr)≠⟨C.σ j,p,none⟩:=by
        intro heq
        simp only[Addr.mk.injEq,and_true]at heq
        exact hs ⟨hm.inj1 num i j _ _ g1 g4 g2 g5 g7 heq.1,heq.2⟩
       have hb:(i==j&&o==p)=false:=by
        cases hb:(i==j&&o==p)with
        |false=>rfl
        |true=>simp only[Bool.and_eq_true,beq_iff_eq]at hb;exact absurd hb hs
       rw[hb]
       have hsz:inf.size≠0:=by rw[←h3];omega
       have hq:∀d:Nat,(Op.equalIn (d+1) kt (.pointer (some ⟨C.σ i,o,none⟩)) (.pointer (some ⟨C.σ j,p,none⟩))).run P C.w=.ok false C.w:=fun d=>by
        simp[Op.equalIn,run_underlying he,sizeOf,typeInfo,h1,hsz,run_sameAddr_other C.w hne g3 g6]
       simpa [Op.equal,Op.maxDepth]using hq 9999
     ·cases hkt
  ·cases h
 ·rename_i b1 a1 r1 o1 b2 a2 r2 o2
  split at h
  ·rename_i hbb
   cases h
   subst hbb
   cases hx with
   |tag _ _ _ _ hx hxa=>cases hx with
    |ptr _ _ bb oo uu hb1 hc1 hu1=>cases hy with
     |tag _ _ _ _ hy hya=>cases hy with
      |ptr _ _ bc oc uc hb2 hc2 hu2=>
       simp only[adrOf,Option.some.injEq,Prod.mk.injEq]at hxa hya
       obtain⟨rfl,rfl⟩:=hxa
       obtain⟨rfl,rfl⟩:=hya
       refine⟨fun h=>absurd h (by decide),fun _=>?_⟩
       have hns:=zmy hkt (by decide)
       unfold keyKind at hkt
       split at hkt<;>first|(cases hkt;done)|(exact absurd ‹P.underlying kt=some (.struct _)› (hns _))|skip
       rename_i e he
       split at hkt
       ·rename_i hk
        simp only[Bool.and_eq_true,decide_eq_true_eq]at hk
        obtain⟨inf,d,h1,h2,h3,_⟩:=zir hk.1
        refine⟨⟨_,he,by simp[Instr.sameNow]⟩,?_⟩
        have hsz:inf.size≠0:=by rw[←h3];omega
        have hq:∀d:Nat,(Op.equalIn (d+1) kt (.pointer (some ⟨bc,oo+o1,none⟩)) (.pointer (some ⟨bc,oc+o2,none⟩))).run P C.w=.ok (oo+o1==oc+o2) C.w:=fun d=>by
         by_cases hab:oo+o1=oc+o2
         ·rw[hab];simp[Op.equalIn,run_underlying he,sizeOf,typeInfo,h1,run_sameAddr_same]
         ·have hf:(oo+o1==oc+o2)=false:=by simpa using hab
          rw[hf]
          simp[Op.equalIn,run_underlying he,sizeOf,typeInfo,h1,hsz,sameAddr,hab]
        simpa [Op.equal,Op.maxDepth]using hq 9999
       ·cases hkt
  ·cases h
 ·rename_i n xs ys
  refine⟨fun h=>absurd h (by omega),fun _=>?_⟩
  unfold keyKind at hkt
  split at hkt<;>first|(cases hkt;done)|skip
  ·split at hkt
   ·have:=Option.some.inj hkt;omega
   ·cases hkt
  rename_i fs hfs
  split at hkt
  ·rename_i ks hks
   split at hkt
   ·rename_i hdig
    have hn:undigits ks=n:=by have:=Option.some.inj hkt;omega
    subst hn
    rw[hdig]at h
    obtain⟨cs,ds,h1,h2,h3⟩:=zsk _ _ _ _ h
    have e1:=zaj h1 hx
    have e2:=zaj h2 hy
    subst e1 e2
    refine⟨⟨_,hfs,by simp[Instr.sameNow]⟩,?_⟩
    have:=zfd (P:=P) C.w 100 kt ks hks 9900 cs ds b h3
    simp only[mkV,hfs]at this
    exact this
   ·cases hkt
  ·cases hkt
 ·cases h
theorem zr7{m:Mem}(hm:MRep num C m){kt:TypeId}{kind:Nat}(hkt:keyKind P kt=some kind){k:AV}{kv:Value}(hk:ARep num C k kv){es:List (AV×AV)}{es':List MapEntry}(hl:es'.length=es.length)
  (hes:∀(j:Nat) (p:AV×AV) (x:MapEntry),es[j]?=some p→es'[j]?=some x→ARep num C p.1 x.key) {r:Option Nat} (h:findK m kind k es 0=some r):
  ∃q,(Instr.findKey kt kv es').run P C.w=.ok q C.w∧q=r.bind fun i=>(es'[i]?).map fun x=>(i,x.val):=by
 have hd:∃d,P.underlying kt=some d:=by
  unfold keyKind at hkt
  split at hkt<;>first|(rename_i hd;exact⟨_,hd⟩)|skip
  cases hkt
 obtain⟨d,hd⟩:=hd
 by_cases h3:3≤kind
 ·have asking:∀(es:List (AV×AV)) (es':List MapEntry) (i:Nat) (r:Option Nat),es'.length=es.length→(∀(j:Nat) (p:AV×AV) (x:MapEntry),es[j]?=some p→es'[j]?=some x→ARep num C p.1 x.key)→findK m kind k es i=some r→
    (Instr.findAsking kt kv es' i).run P C.w=.ok (r.bind fun j=>(es'[j-i]?).map fun x=>(j,x.val)) C.w∧(∀j,r=some j→i≤j):=by
   intro es
   induction es with
   |nil=>
    intro es' i r hl _ h
    have:es'=[]:=by simpa using hl
    subst this
    cases h
    exact⟨by simp[Instr.findAsking],fun j hj=>by cases hj⟩
   |cons e es ih=>
    intro es' i r hl hes h
    cases es' with
    |nil=>simp at hl
    |cons e' es'=>
     simp only[findK]at h
     have h0:=hes 0 e e' rfl rfl
     cases hke:keyEq m kind k e.1 with
     |none=>rw[hke]at h;cases h
     |some b=>
      rw[hke]at h
      obtain⟨_,hrun⟩:=(zij hm hkt hk h0 hke).2 h3
      cases b with
      |true=>
       cases h
       refine⟨?_,fun j hj=>by cases hj;exact Nat.le_refl _⟩
       simp[Instr.findAsking,hrun,Result.andThen]
      |false=>
       obtain⟨g1,g2⟩:=ih es' (i+1) r (by simpa using hl) (fun j p x hp hx=>hes (j+1) p x (by simpa using hp) (by simpa using hx)) h
       refine⟨?_,fun j hj=>by have:=g2 j hj;omega⟩
       simp only[Instr.findAsking,Sem.run_bind,hrun,Result.andThen_ok,Bool.false_eq_true,if_false]
       rw[g1]
       cases r with
       |none=>rfl
       |some j=>
        have:=g2 j rfl
        simp only[Option.bind_some]
        rw[show j-i=(j-(i+1))+1 by omega,List.getElem?_cons_succ]
  cases es with
  |nil=>
   have:es'=[]:=by simpa using hl
   subst this
   cases h
   exact⟨none,by simp[Instr.findKey,run_underlying hd,Result.andThen,Instr.findNow],rfl⟩
  |cons e es=>
   cases es' with
   |nil=>simp at hl
   |cons e' es'=>
    have h0:=hes 0 e e' rfl rfl
    have hnow:Instr.findNow d kv (e'::es') 0=none:=by
     simp only[findK]at h
     cases hke:keyEq m kind k e.1 with
     |none=>rw[hke]at h;cases h
     |some b=>
      obtain⟨⟨d',hd',hs⟩,_⟩:=(zij hm hkt hk h0 hke).2 h3
      rw[hd]at hd'
      cases hd'
      simp[Instr.findNow,hs]
    obtain⟨g1,_⟩:=asking (e::es) (e'::es') 0 r hl hes h
    refine⟨_,?_,rfl⟩
    simp only[Instr.findKey,Sem.run_bind,run_underlying hd,Result.andThen_ok,hnow]
    rw[g1];simp
 ·have now:∀(es:List (AV×AV)) (es':List MapEntry) (i:Nat) (r:Option Nat),es'.length=es.length→(∀(j:Nat) (p:AV×AV) (x:MapEntry),es[j]?=some p→es'[j]?=some x→ARep num C p.1 x.key)→findK m kind k es i=some r→
    Instr.findNow d kv es' i=some (r.bind fun j=>(es'[j-i]?).map fun x=>(j,x.val))∧(∀j,r=some j→i≤j):=by
   intro es
   induction es with
   |nil=>
    intro es' i r hl _ h
    have:es'=[]:=by simpa using hl
    subst this
    cases h
    exact⟨rfl,fun j hj=>by cases hj⟩
   |cons e es ih=>
    intro es' i r hl hes h
    cases es' with
    |nil=>simp at hl
    |cons e' es'=>
     simp only[findK]at h
     have h0:=hes 0 e e' rfl rfl
     cases hke:keyEq m kind k e.1 with
     |none=>rw[hke]at h;cases h
     |some b=>
      rw[hke]at h
      obtain⟨d',hd',hs⟩:=(zij hm hkt hk h0 hke).1 (by omega)
      rw[hd]at hd'
      cases hd'
      cases b with
      |true=>
       cases h
       exact⟨by simp[Instr.findNow,hs],fun j hj=>by cases hj;exact Nat.le_refl _⟩
      |false=>
       obtain⟨g1,g2⟩:=ih es' (i+1) r (by simpa using hl) (fun j p x hp hx=>hes (j+1) p x (by simpa using hp) (by simpa using hx)) h
       refine⟨?_,fun j hj=>by have:=g2 j hj;omega⟩
       simp only[Instr.findNow,hs,g1]
       cases r with
       |none=>rfl
       |some j=>
        have:=g2 j rfl
        simp only[Option.bind_some]
        rw[show j-i=(j-(i+1))+1 by omega,List.getElem?_cons_succ]
  obtain⟨g1,_⟩:=now es es' 0 r hl hes h
  refine⟨_,?_,rfl⟩
  simp only[Instr.findKey,Sem.run_bind,run_underlying hd,Result.andThen_ok,g1]
  simp
theorem zgd{m:Mem}{kind:Nat}{k:AV}:∀(es:List (AV×AV)) (i0 i:Nat),findK m kind k es i0=some (some i)→i0≤i∧∃p,es[i-i0]?=some p∧keyEq m kind k p.1=some true
 |[],i0,i,h=>by cases h
 |e::es,i0,i,h=>by
  simp only[findK]at h
  cases hk:keyEq m kind k e.1 with
  |none=>rw[hk]at h;cases h
  |some b=>
   rw[hk]at h
   cases b with
   |true=>cases h;exact⟨Nat.le_refl _,e,by simp,hk⟩
   |false=>
    obtain⟨h1,p,h2,h3⟩:=zgd es (i0+1) i h
    refine⟨by omega,p,?_,h3⟩
    rw[show i-i0=(i-(i0+1))+1 by omega,List.getElem?_cons_succ];exact h2
theorem zik{m:Mem}{kind:Nat}{x y:AV}{u v:Value}(hx:ARep num C x u)(hy:ARep num C y v)(h:keyEq m kind x y=some true)(w:World):(Instr.keyThatStays v u).run P w=.ok u w:=by
 have key:v=u∧Instr.sameBits 10000 v u=true:=by
  unfold keyEq at h
  split at h
  ·split at h
   ·rename_i hk
    have e1:=zqs hx
    have e2:=zqs hy
    subst e1 e2 hk
    simp at h
    subst h
    exact⟨rfl,by simp[Instr.sameBits]⟩
   ·cases h
  ·have e1:=zqs hx
   have e2:=zqs hy
   subst e1 e2
   simp at h
   subst h
   exact⟨rfl,by simp[Instr.sameBits]⟩
  ·have e1:=zqs hx
   have e2:=zqs hy
   subst e1 e2
   simp only[Option.some.injEq]at h
   have:=(MapKept.bytes_beq _ _).1 h
   subst this
   exact⟨rfl,by simp only[Instr.sameBits];exact h⟩
  ·split at h
   ·simp only[Option.some.injEq,Bool.and_eq_true,beq_iff_eq]at h
    obtain⟨rfl,rfl⟩:=h
    cases hx with
    |optr=>cases hy with
     |optr=>exact⟨rfl,by simp[Instr.sameBits]⟩
   ·cases h
  ·split at h
   ·rename_i hbb
    simp only[Option.some.injEq,beq_iff_eq]at h
    subst hbb h
    cases hx with
    |tag _ _ _ _ hx hxa=>cases hx with
     |ptr=>cases hy with
      |tag _ _ _ _ hy hya=>cases hy with
       |ptr=>
        simp only[adrOf,Option.some.injEq,Prod.mk.injEq]at hxa hya
        obtain⟨rfl,h1⟩:=hxa
        obtain⟨rfl,h2⟩:=hya
        rw[h1,h2]
        exact⟨rfl,by simp[Instr.sameBits]⟩
   ·cases h
  ·obtain⟨cs,ds,h1,h2,h3⟩:=zsk _ _ _ _ h
   have e1:=zaj h1 hx
   have e2:=zaj h2 hy
   subst e1 e2
   have:=zst _ _ _ h3
   obtain⟨rfl,hbits⟩:=this
   exact⟨rfl,by simp[Instr.sameBits,hbits]⟩
  ·cases h
 obtain⟨rfl,hb⟩:=key
 simp[Instr.keyThatStays,hb]
theorem zxs{t:TypeId}{zs:List Value}{agg:Bool}(h:zeroOf P t=some (zs,agg))(D:Cx):∃z,(∀w,(zeroValue t).run P w=.ok z w)∧ARep num D (zeroAV zs agg) z:=by
 unfold zeroOf at h
 cases hi:P.info? t with
 |none=>simp[hi]at h
 |some i=>
  cases hz:i.zero with
  |none=>simp[hi,hz]at h
  |some z=>
   have hrun:∀w,(zeroValue t).run P w=.ok z w:=fun w=>by simp[zeroValue,typeInfo,hi,hz]
   refine⟨z,hrun,?_⟩
   simp only[hi,Option.bind_some,hz]at h
   split at h
   ·rename_i cs heq
    cases heq
    split at h
    ·rename_i hone
     cases h
     refine .agg _ _ (by simp[imZ]) (fun j u hu=>?_) (fun j x u hx hu=>?_)
     ·rw[←znf]
      exact List.all_eq_true.1 hone u (by rw[Array.mem_toList_iff];exact Array.mem_of_getElem? hu)
     ·simp only[imZ,List.getElem?_map,Array.getElem?_toList,hu,Option.map_some,Option.some.injEq]at hx
      subst hx
      refine .imm _ _ (.val u ?_)
      rw[←znf]
      exact List.all_eq_true.1 hone u (by rw[Array.mem_toList_iff];exact Array.mem_of_getElem? hu)
    ·cases h
   ·rename_i z' _ heq
    cases heq
    split at h
    ·rename_i hone
     cases h
     exact .imm _ _ (.val _ (by rw[←znf];exact hone))
    ·cases h
   ·cases h
theorem zxc(hs:SRep num C s a){t kt e:TypeId}{r:Option Operand}{r':Option Src}(ht:P.underlying t=some (.map kt e))(hr:r.mapM (trSrc num)=some r')(hi:∀x,r'=some x→∃i,intOf (s.env.ev x)=some i):
  Yields num P (.makeMap t r) ty pos after a C s (.omap s.mem.length) { s with mem:=s.mem++[.map []] }:=by
 have hlen:=hs.mem.len
 have hnew:ORep num (C.more C.w (.map #[] 0)) C.n (.map []):=by
  refine⟨#[],0,?_,rfl,fun j p x hp _=>by simp at hp⟩
  simp only[Cx.more,if_true]
  rw[zap,if_pos rfl]
 refine⟨.map (some C.w.heap.size),C.more C.w (.map #[] 0),fun _ _=>.inl ?_,zku hs.mem rfl rfl rfl rfl _ (.map []) hnew hs.k,hs.env.mono (zkv hs.mem rfl _),?_,rfl⟩
 ·cases r with
  |none=>simp[execOp,Instr.makeMap,newObj,Cx.more,Sem.run]
  |some x=>
   simp only[Option.mapM_some,Option.map_eq_map,Option.map_eq_some_iff]at hr
   obtain⟨x',hx,rfl⟩:=hr
   obtain⟨i,hi⟩:=hi x' rfl
   obtain⟨k,hk,_⟩:=zqr (ztx hs hx) hi
   simp[execOp,Instr.makeMap,newObj,Cx.more,Sem.run,hk,run_underlying ht,asInt,asIntOf,Result.andThen]
 ·rw[hlen]
  have:C.w.heap.size=(C.more C.w (.map #[] 0)).σ C.n:=by simp[Cx.more]
  rw[this]
  exact .omap _ (by simp[Cx.more])
theorem map_of{m:Mem}(hm:MRep num C m){id:Nat}{v:Value}(h:ARep num C (.omap id) v){es:List (AV×AV)}(he:m[id]?=some (.map es)):
  ∃(es':Array MapEntry) (clock:Nat),v=.map (some (C.σ id))∧C.w.heap[C.σ id]?=some (.map es' clock)∧es'.size=es.length∧∀(j:Nat) (p:AV×AV) (x:MapEntry),es[j]?=some p→es'[j]?=some x→ARep num C p.1 x.key∧ARep num C p.2 x.val:=by
 cases h with
 |omap _ hid=>
  obtain⟨es',clock,h1,h2,h3⟩:=hm.obj id _ he
  exact⟨es',clock,rfl,h1,h2,h3⟩
theorem zny{D:Cx}{x:AV}{v:Value}(h:ARep num D x v)(ok b:Bool):ARep num D (if ok then .tup [x,.imm (.val (.bool b))]else x) (if ok then .tuple #[v,.bool b]else v):=by
 cases ok with
 |false=>exact h
 |true=>
  refine .tup _ _ rfl fun j y u hy hu=>?_
  match j with
  |0=>simp at hy hu;subst hy hu;exact h
  |1=>simp at hy hu;subst hy hu;exact .imm _ _ (.val _ rfl)
  |j+2=>simp at hy
theorem zxb(hs:SRep num C s a){t kt e:TypeId}{m k:Operand}{m' k':Src}{kind:Nat}{zs:List Value}{agg ok:Bool}(ht:P.underlying t=some (.map kt e))(hm:trSrc num m=some m')(hk:trSrc num k=some k')(hkt:keyKind P kt=some kind)(hz:zeroOf P e=some (zs,agg)){call:Calls'}{r:AV}{s':St}
  (h:exOp call s (.lookup kind zs agg m' k' ok)=some (r,s')):Yields num P (.lookup t m k ok) ty pos after a C s r s':=by
 simp only[exOp]at h
 split at h
 ·rename_i hik
  have hkr:=ztx hs hk
  have hmr:=ztx hs hm
  have hisk:=zii hkt hkr hik
  obtain⟨z,hzr,hza⟩:=zxs (num:=num) hz C
  generalize hmv:s.env.ev m'=mv at h hmr
  split at h
  ·have hv:=zqs hmr
   have:r=(if ok then .tup [zeroAV zs agg,.imm (.val (.bool false))]else zeroAV zs agg)∧s'=s:=by
    cases ok<;>(simp at h;exact⟨h.1.symm,h.2.symm⟩)
   obtain⟨rfl,rfl⟩:=this
   refine zxp hs (fun _ _=>?_) (zny hza ok false)
   have hd:∃d,P.underlying kt=some d:=by
    unfold keyKind at hkt
    split at hkt<;>first|(rename_i hd;exact⟨_,hd⟩)|skip
    cases hkt
   obtain⟨d,hd⟩:=hd
   simp only[execOp,Instr.lookup,hv,Sem.run_bind,run_underlying ht,Result.andThen_ok,Sem.run_pure,zr3 hisk _ 9999 (by decide),Instr.findKey,run_underlying hd,Instr.findNow,hzr]
  ·rename_i id
   split at h
   ·rename_i es hes
    obtain⟨es',clock,hv,hb,hl,hall⟩:=map_of hs.mem hmr hes
    have hkeys:∀(j:Nat) (p:AV×AV) (x:MapEntry),es[j]?=some p→es'.toList[j]?=some x→ARep num C p.1 x.key:=fun j p x hp hx=>(hall j p x hp (by simpa using hx)).1
    split at h
    ·rename_i hf
     obtain⟨q,hq,hqe⟩:=zr7 hs.mem hkt hkr (es':=es'.toList) (by simpa using hl) hkeys hf
     have:r=(if ok then .tup [zeroAV zs agg,.imm (.val (.bool false))]else zeroAV zs agg)∧s'=s:=by
      cases ok<;>(simp at h;exact⟨h.1.symm,h.2.symm⟩)
     obtain⟨rfl,rfl⟩:=this
     refine zxp hs (fun _ _=>?_) (zny hza ok false)
     simp only[Option.bind_none]at hqe
     subst hqe
     simp[execOp,Instr.lookup,hv,run_underlying ht,MapKept.run_getObj_map hb,zr3 hisk _ 9999 (by decide),hq,hzr,Result.andThen]
    ·rename_i i hf
     obtain⟨q,hq,hqe⟩:=zr7 hs.mem hkt hkr (es':=es'.toList) (by simpa using hl) hkeys hf
     cases hp:es[i]? with
     |none=>rw[hp]at h;cases h
     |some p=>
      rw[hp]at h
      have hi:i<es'.size:=by rw[hl];exact(List.getElem?_eq_some_iff.1 hp).1
      have hx:es'[i]?=some es'[i]:=by simp[hi]
      have:r=(if ok then .tup [p.2,.imm (.val (.bool true))]else p.2)∧s'=s:=by
       cases ok<;>(simp at h;exact⟨h.1.symm,h.2.symm⟩)
      obtain⟨rfl,rfl⟩:=this
      refine zxp hs (fun _ _=>?_) (zny (hall i p _ hp hx).2 ok true)
      simp only[Option.bind_some,Array.getElem?_toList,hx,Option.map_some]at hqe
      subst hqe
      simp[execOp,Instr.lookup,hv,run_underlying ht,MapKept.run_getObj_map hb,zr3 hisk _ 9999 (by decide),hq,Result.andThen]
    ·cases h
   ·cases h
  ·cases h
 ·cases h
theorem zxe(hs:SRep num C s a){t kt e:TypeId}{m k x:Operand}{m' k' x':Src}{kind:Nat}(ht:P.underlying t=some (.map kt e))(hm:trSrc num m=some m')(hk:trSrc num k=some k')(hx:trSrc num x=some x')(hkt:keyKind P kt=some kind){call:Calls'}{r:AV}{s':St}
  (h:exOp call s (.mapSet kind m' k' x')=some (r,s')) {op:Op} (hop:op=.mapUpdate t m k x∨op=.insert t m k x):Yields num P op ty pos after a C s r s':=by
 simp only[exOp]at h
 split at h
 ·rename_i hik
  have hkr:=ztx hs hk
  have hmr:=ztx hs hm
  have hxr:=ztx hs hx
  have hisk:=zii hkt hkr hik
  generalize hmv:s.env.ev m'=mv at h hmr
  split at h
  ·rename_i id
   split at h
   ·rename_i es hes
    obtain⟨es',clock,hv,hb,hl,hall⟩:=map_of hs.mem hmr hes
    have hkeys:∀(j:Nat) (p:AV×AV) (x:MapEntry),es[j]?=some p→es'.toList[j]?=some x→ARep num C p.1 x.key:=fun j p x hp hx=>(hall j p x hp (by simpa using hx)).1
    have hexec:∀{w':World},(Instr.mapUpdate t (.map (some (C.σ id))) (a.eval k) (a.eval x)).run P C.w=.ok () w'→∀dst g,(execOp a.eval ⟨dst,op,ty,pos,after,g⟩).run P C.w=.ok .skip w':=by
     intro w' hw dst g
     rcases hop with rfl|rfl<;>simp[execOp,hv,hw,Result.andThen]
    have hset:∀(es2:Array MapEntry) (clock2:Nat),let w':={ C.w with heap:=C.w.heap.setIfInBounds (C.σ id) (.map es2 clock2) }
      w'.heap[C.σ id]?=some (.map es2 clock2)∧(∀b,b≠C.σ id→w'.heap[b]?=C.w.heap[b]?)∧w'.heap.size=C.w.heap.size:=by
     intro es2 clock2
     exact⟨(MapKept.heap_set hb).1,(MapKept.heap_set hb).2,by simp⟩
    have hno:∀arr e fz,C.w.heap[C.σ id]?≠some (.cells arr e fz):=fun arr e fz h=>by rw[hb]at h;cases h
    have build:∀(es2:Array MapEntry) (clock2:Nat) (l:List (AV×AV)),es2.size=l.length→(∀(j:Nat) (p:AV×AV) (y:MapEntry),l[j]?=some p→es2[j]?=some y→ARep num C p.1 y.key∧ARep num C p.2 y.val)→
      (Instr.mapUpdate t (.map (some (C.σ id))) (a.eval k) (a.eval x)).run P C.w=.ok () { C.w with heap:=C.w.heap.setIfInBounds (C.σ id) (.map es2 clock2) }→
      Yields num P op ty pos after a C s .junk { s with mem:=s.mem.set id (.map l) }:=by
     intro es2 clock2 l hl2 hall2 hrun
     obtain⟨h1,h2,h3⟩:=hset es2 clock2
     have ht2:=put_tr hs.mem hes rfl hno h2
     have hnew:ORep num { C with w:={ C.w with heap:=C.w.heap.setIfInBounds (C.σ id) (.map es2 clock2) } } id (.map l):=by
      refine⟨es2,clock2,h1,hl2,fun j p y hp hy=>?_⟩
      obtain⟨g1,g2⟩:=hall2 j p y hp hy
      exact⟨g1.mono ht2,g2.mono ht2⟩
     refine⟨undef,{ C with w:={ C.w with heap:=C.w.heap.setIfInBounds (C.σ id) (.map es2 clock2) } },fun dst g=>.inr ⟨hexec hrun dst g,rfl⟩,zpe hs.mem hes rfl hno h2 rfl rfl rfl h3 rfl (o':=.map l) hnew hs.k,hs.env.mono ht2,.junk _,rfl⟩
    split at h
    ·rename_i hf
     cases h
     obtain⟨q,hq,hqe⟩:=zr7 hs.mem hkt hkr (es':=es'.toList) (by simpa using hl) hkeys hf
     simp only[Option.bind_none]at hqe
     subst hqe
     refine build (es'.push { key:=a.eval k,val:=a.eval x,born:=clock }) (clock+1) _ (by simp[hl]) (fun j p y hp hy=>?_) ?_
     ·rcases Nat.lt_or_ge j es.length with hj|hj
      ·rw[List.getElem?_append_left hj]at hp
       rw[Array.getElem?_push,if_neg (by omega)]at hy
       exact hall j p y hp hy
      ·have hj':j=es.length:=by
        have:=(List.getElem?_eq_some_iff.1 hp).1
        simp at this;omega
       subst hj'
       simp at hp
       rw[Array.getElem?_push,if_pos hl.symm]at hy
       cases hy
       subst hp
       exact⟨hkr,hxr⟩
     ·simp[Instr.mapUpdate,run_underlying ht,MapKept.run_getObj_map hb,zr3 hisk _ 9999 (by decide),hq,MapKept.run_setObj_map _ hb,Result.andThen]
    ·rename_i i hf
     cases h
     obtain⟨q,hq,hqe⟩:=zr7 hs.mem hkt hkr (es':=es'.toList) (by simpa using hl) hkeys hf
     obtain⟨_,p,hp,hke⟩:=zgd es 0 i hf
     simp only[Nat.sub_zero]at hp
     have hi:i<es'.size:=by rw[hl];exact(List.getElem?_eq_some_iff.1 hp).1
     have hx':es'[i]?=some es'[i]:=by simp[hi]
     simp only[Option.bind_some,Array.getElem?_toList,hx',Option.map_some]at hqe
     subst hqe
     have hstay:=zik (P:=P) hkr (hall i p _ hp hx').1 hke C.w
     refine build (es'.modify i fun e=>{ e with key:=a.eval k,val:=a.eval x }) clock _ (by simp[hl]) (fun j p2 y hp2 hy=>?_) ?_
     ·rw[ztb]at hp2
      rw[Array.getElem?_modify]at hy
      split at hp2
      ·rename_i hij
       obtain⟨rfl,_⟩:=hij
       cases hp2
       rw[if_pos rfl,hx']at hy
       cases hy
       exact⟨hkr,hxr⟩
      ·rename_i hij
       have hne:i≠j:=fun e=>hij ⟨e,(List.getElem?_eq_some_iff.1 hp2).1⟩
       rw[if_neg hne]at hy
       exact hall j p2 y hp2 hy
     ·simp[Instr.mapUpdate,run_underlying ht,MapKept.run_getObj_map hb,zr3 hisk _ 9999 (by decide),hq,hx',hi,hstay,MapKept.run_setObj_map _ hb,Result.andThen]
    ·cases h
   ·cases h
  ·cases h
 ·cases h
theorem y_lenM(hs:SRep num C s a){t kt e:TypeId}{x:Operand}{x':Src}(hx:trSrc num x=some x')(ht:P.underlying t=some (.map kt e)){call:Calls'}{r:AV}{s':St}(h:exOp call s (.lenM x')=some (r,s')):
  Yields num P (.call ⟨.builtin .len,#[x],#[t]⟩) ty pos after a C s r s':=by
 have hxr:=ztx hs hx
 simp only[exOp]at h
 generalize hmv:s.env.ev x'=mv at h hxr
 split at h
 ·cases h
  have hv:=zqs hxr
  refine zxp hs (fun _ _=>?_) (.imm _ _ (.val _ rfl))
  simp[execOp,resolve,invoke,builtin,hv,Builtin.len_,run_underlying ht,goInt]
 ·rename_i id
  split at h
  ·rename_i es hes
   cases h
   obtain⟨es',clock,hv,hb,hl,hall⟩:=map_of hs.mem hxr hes
   refine zxp hs (fun _ _=>?_) (.imm _ _ (.val _ rfl))
   simp[execOp,resolve,invoke,builtin,hv,Builtin.len_,run_underlying ht,MapKept.run_getObj_map hb,goInt,hl,Result.andThen]
  ·cases h
 ·cases h
end
end Go.EX


namespace Go.EX
section
variable {num:Names} {P:Program}
variable {ty:TypeId} {pos:String} {after:Array Edge} {a:Act} {C:Cx} {s:St}
def Cx.still(C:Cx)(ids:List Nat):Cx:={ C with I:=fun b=>C.I b∨∃i∈ids,C.σ i=b }
theorem zt2(C:Cx)(ids:List Nat):Tr some C (C.still ids):=
 ⟨fun b hb=>.inl hb,fun b _=>rfl,fun id j hid hj=>by cases hj;exact⟨hid,rfl,fun _ _ h=>h⟩⟩
end
end Go.EX


namespace Go.EX
section
variable {num:Names} {P:Program}
variable {ty:TypeId} {pos:String} {after:Array Edge} {a:Act} {C:Cx} {s:St}
theorem zgo{m:Mem}(hm:MRep num C m){k:Nat}(hk:k≤m.length){id:Nat}{cs:List IV}{mv:Bool}(hid:m[id]?=some (.flat cs mv)):
  Step num k C m (C.still [id]) (m.set id .dead):=by
 have ht:=zt2 C [id]
 have hget:∀(j:Nat) o',(m.set id .dead)[j]?=some o'→(j=id∧o'=.dead)∨(j≠id∧m[j]?=some o'):=by
  intro j o' h
  rw[List.getElem?_set]at h
  by_cases hj:id=j
  ·subst hj
   rw[if_pos rfl]at h
   split at h
   ·exact .inl ⟨rfl,(Option.some.inj h).symm⟩
   ·cases h
  ·rw[if_neg hj]at h
   exact .inr ⟨fun e=>hj e.symm,h⟩
 have hwas:∀(j:Nat) o',(m.set id .dead)[j]?=some o'→o'.live=true→j≠id∧m[j]?=some o':=by
  intro j o' h hl
  rcases hget j o' h with⟨_,rfl⟩|h
  ·cases hl
  ·exact h
 have hown:∀b,Own (C.still [id]) (m.set id .dead) b→Own C m b:=by
  rintro b ⟨j,o',h,hl,hb⟩
  exact⟨j,o',(hwas j o' h hl).2,hl,hb⟩
 refine⟨⟨?_,?_,?_,?_,?_,?_⟩,rfl,rfl,rfl,Nat.le_refl _,fun _ _ _=>rfl,fun _ _ _ h=>h,fun b hb=>.inl hb,?_,fun b hb=>.inr (hown b hb),?_,?_⟩
 ·rw[List.length_set];exact hm.len
 ·intro j o' h
  rcases hget j o' h with⟨_,rfl⟩|⟨_,h⟩
  ·trivial
  ·exact znw ht rfl (fun _ h=>h) (hm.obj j o' h)
 ·intro i j o p hi hj hlo hlp he
  exact hm.inj i j o p (hwas i o hi hlo).2 (hwas j p hj hlp).2 hlo hlp he
 ·rintro b ⟨j,o',h,hl,hb⟩ hI
  obtain⟨hj,ho⟩:=hwas j o' h hl
  rcases hI with hI|⟨i,hi,hσ⟩
  ·exact hm.imm b ⟨j,o',ho,hl,hb⟩ hI
  ·rw[List.mem_singleton.1 hi]at hσ
   have:=hm.inj1 num id j _ o' hid ho rfl hl rfl (hσ.trans hb.symm)
   exact hj this.symm
 ·rintro b (hI|⟨i,hi,rfl⟩)
  ·exact hm.bd b hI
  ·rw[List.mem_singleton.1 hi]
   exact hm.lt num ⟨id,_,hid,rfl,rfl⟩
 ·exact num.up hm.glo (fun b hb=>.inl hb) (fun _ _=>rfl)
 ·rintro b (hI|⟨i,hi,rfl⟩)
  ·exact .inl hI
  ·rw[List.mem_singleton.1 hi]
   exact .inr (.inr ⟨id,_,hid,rfl,rfl⟩)
 ·intro i hi o' ho hmv
  rcases hget i o' ho with⟨_,rfl⟩|⟨_,h⟩
  ·cases hmv
  ·exact⟨o',h,hmv,rfl⟩
 ·rw[List.length_set];exact hk
theorem zgn{m:Mem}(hm:MRep num C m){id off sz len:Nat}{cap:Option Nat}{cs:List IV}{mv:Bool}(hid:m[id]?=some (.flat cs mv)){v:Value}(h:ARep num C (.osl id off sz len cap) v):
  ARep num (C.still [id]) (.imm (.slice cs off len cap)) v:=by
 have ht:=zt2 C [id]
 cases h with
 |osl _ _ _ _ _ c ad arr0 e0 hid' hl hk' ha hw hs=>
  obtain⟨arr2,e2,h3,h4⟩:=hm.obj id _ hid
  have hcell:∀(p:Nat) x,cs[p]?=some x→C.w.cell? ⟨C.σ id,0+p,none⟩=some (arr2.getD p undef)∧IRep C.I C.w x (arr2.getD p undef):=by
   intro p x hx
   obtain⟨u,hu,hr⟩:=h4 p x hx
   have:arr2.getD p undef=u:=by simp[Array.getD_eq_getD_getElem?,hu]
   rw[this]
   exact⟨by rw[cell_of_row C.w _ _ arr2 e2 _ h3,Nat.zero_add];exact hu,hr⟩
  refine .imm _ _ (.slice cs off len cap (C.σ id) 0 c ad (fun p=>arr2.getD p undef) (.inr ⟨id,List.mem_singleton.2 rfl,rfl⟩) (fun p x hx=>(hcell p x hx).1) (fun p x hx=>(hcell p x hx).2.mono ht.imm ht.keep) hl.1 hk' (by rw[Nat.zero_add];exact ha))
theorem zhr(hs:SRep num C s a){op:Op}{x:Operand}{y:Src}(hop:∀dst g,(execOp a.eval ⟨dst,op,ty,pos,after,g⟩).run P C.w=.ok (.value (a.eval x)) C.w)(h:trSrc num x=some y){r:AV}{s':St}(he:exIce s (s.env.ev y)=some (r,s')):Yields num P op ty pos after a C s r s':=by
 have hv:=ztx hs h
 unfold exIce at he
 split at he
 ·rename_i z hz
  cases he
  rw[hz]at hv
  exact zxp hs hop hv
 ·rename_i id off sz len cap hz
  rw[hz]at hv
  split at he
  ·rename_i cs mv hid
   cases he
   exact⟨_,C.still [id],fun dst g=>.inl (hop dst g),zgo (k:=s.k) hs.mem hs.k hid,hs.env.mono (zt2 C [id]),zgn hs.mem hid hv,rfl⟩
  ·cases he
 ·cases he
theorem y_ice(hs:SRep num C s a){x:Operand}{y:Src}(h:trSrc num x=some y){r:AV}{s':St}(he:exIce s (s.env.ev y)=some (r,s')):Yields num P (.move x) ty pos after a C s r s':=zhr hs (fun _ _=>rfl) h he
theorem y_iceA(hs:SRep num C s a){x:Operand}{y:Src}(h:trSrc num x=some y){r:AV}{s':St}(he:exIce s (s.env.ev y)=some (r,s')):Yields num P (.assign x) ty pos after a C s r s':=zhr hs (fun _ _=>rfl) h he
theorem zxn(hs:SRep num C s a){t:TypeId}{p x:Operand}{p' x':Src}(hk:known P t=true)(hp:trSrc num p=some p')(hx:trSrc num x=some x'){c n:Nat}(hn:n=P.cellsOf t)
  {r:AV} {s':St} (h:exStoreF s c n (s.env.ev p') (s.env.ev x')=some (r,s')):Yields num P (.store t p x) ty pos after a C s r s':=by
 unfold exStoreF at h
 split at h
 ·rename_i rid off id o sz len cap e1 e2
  split at h
  ·split at h
   ·rename_i hn1
    cases hst:storeAt s.mem (.optr rid off) [.osl id o sz len cap]with
    |none=>rw[hst]at h;cases h
    |some m=>
     rw[hst]at h;cases h
     refine zxm hs hk hp hx (cs:=[.osl id o sz len cap]) (by rw[e2];rfl) (by rw[←hn,hn1];rfl) ?_
     rw[e1];exact hst
   ·cases h
  ·split at h
   ·rename_i cs mv hid
    split at h
    ·rename_i hc
     obtain⟨hn1,hne⟩:=hc
     cases hst:storeAt (s.mem.set id .dead) (.optr rid off) [.imm (.slice cs o len cap)]with
     |none=>rw[hst]at h;cases h
     |some m=>
      rw[hst]at h;cases h
      have ht:=zt2 C [id]
      have f1:=zgo (k:=s.k) hs.mem hs.k hid
      have hvx:=ztx hs hx
      have hvp:=ztx hs hp
      rw[e2]at hvx
      rw[e1]at hvp
      have hv:=zgn hs.mem hid hvx
      obtain⟨i,d,hi,hd,hsz,_⟩:=zir hk
      obtain⟨hl,ho,hr⟩:=zqq hv (cs:=[.imm (.slice cs o len cap)]) rfl
      obtain⟨b,o',w',hvv,hrun,hst',htr⟩:=zt9 (P:=P) f1.rep (hvp.mono ht) (us:=(a.eval x).cells.toList) (by simpa using hl)
       (fun u hu=>by
        obtain⟨j,hj⟩:=List.getElem?_of_mem hu
        exact ho j u (by simpa using hj)) (fun j y u hy hu=>hr j y u hy (by simpa using hu)) hst (k:=s.k) (by rw[List.length_set];exact hs.k)
      refine⟨undef,_,fun _ _=>.inr ⟨?_,rfl⟩,f1.trans hst',(hs.env.mono ht).mono htr,.junk _,rfl⟩
      have hsz':(a.eval x).cells.size=1:=by
       have:=hl
       simp at this
       omega
      have hne:¬((a.eval x).cells.size≠i.size):=by simp only[ne_eq,Decidable.not_not];omega
      simp only[execOp,Instr.storeAt,Sem.run_bind,hvv,Instr.sureAddr,Sem.run_pure,Result.andThen_ok,storeVar,zse hi]
      rw[if_neg hne]
      have hrun':(storeCells ⟨b,o',none⟩ (a.eval x).cells.toList).run P C.w=.ok () w':=hrun
      simp[hrun']
    ·cases h
   ·cases h
 ·rename_i rid off y e1 e2
  split at h
  ·rename_i hn1
   cases hst:storeAt s.mem (.optr rid off) [.imm y]with
   |none=>rw[hst]at h;cases h
   |some m=>
    rw[hst]at h;cases h
    refine zxm hs hk hp hx (cs:=[.imm y]) (by rw[e2];rfl) (by rw[←hn,hn1];rfl) ?_
    rw[e1];exact hst
  ·cases h
 ·cases h
end
end Go.EX


namespace Go.EX
theorem refsL_mem:∀{l:List AV} {id:Nat},id∈AV.refs.refsL l↔ ∃x∈l,id∈x.refs
 |[],id=>by simp[AV.refs.refsL]
 |x::r,id=>by simp[AV.refs.refsL,refsL_mem (l:=r)]
mutual
theorem zqi {f g:Nat→Option Nat}:∀(x:AV),(∀id∈x.refs,f id=g id)→x.ren f=x.ren g
 |.imm _,_=>rfl
 |.osl id ..,h=>by simp only[AV.ren,h id (by simp[AV.refs])]
 |.optr id _,h=>by simp only[AV.ren,h id (by simp[AV.refs])]
 |.omap id,h=>by simp only[AV.ren,h id (by simp[AV.refs])]
 |.yld id,h=>by simp only[AV.ren,h id (by simp[AV.refs])]
 |.seat id _,h=>by simp only[AV.ren,h id (by simp[AV.refs])]
 |.tag ..,_=>rfl
 |.err,_=>rfl
 |.clo fn caps,h=>by simp only[AV.ren,zqb caps h]
 |.agg cells,h=>by simp only[AV.ren,zqb cells h]
 |.tup vs,h=>by simp only[AV.ren,zqb vs h]
 |.junk,_=>rfl
theorem zqb {f g:Nat→Option Nat}:∀(l:List AV),(∀id∈AV.refs.refsL l,f id=g id)→AV.ren.renL f l=AV.ren.renL g l
 |[],_=>rfl
 |x::r,h=>by
  simp only[AV.ren.renL]
  rw[zqi x fun id hid=>h id (by simp only[AV.refs.refsL,List.mem_append];exact .inl hid),zqb r fun id hid=>h id (by simp only[AV.refs.refsL,List.mem_append];exact .inr hid)]
end
theorem ren_id{f:Nat→Option Nat}{x:AV}(h:∀id∈x.refs,f id=some id):x.ren f=x:=by
 rw[zqi x (g:=some) h,zqp]
mutual
theorem zqn {f g:Nat→Option Nat}:∀(x:AV),(x.ren g).ren f=x.ren fun i=>(g i).bind f
 |.imm _=>rfl
 |.osl id .. =>by simp only[AV.ren];cases g id<;>rfl
 |.optr id _=>by simp only[AV.ren];cases g id<;>rfl
 |.omap id=>by simp only[AV.ren];cases g id<;>rfl
 |.yld id=>by simp only[AV.ren];cases g id<;>rfl
 |.seat id _=>by simp only[AV.ren];cases g id<;>rfl
 |.tag .. =>rfl
 |.err=>rfl
 |.clo fn caps=>by simp only[AV.ren,zqg caps]
 |.agg cells=>by simp only[AV.ren,zqg cells]
 |.tup vs=>by simp only[AV.ren,zqg vs]
 |.junk=>rfl
theorem zqg {f g:Nat→Option Nat}:∀(l:List AV),AV.ren.renL f (AV.ren.renL g l)=AV.ren.renL (fun i=>(g i).bind f) l
 |[]=>rfl
 |x::r=>by simp only[AV.ren.renL,zqn x,zqg r]
end
mutual
theorem zqm {f:Nat→Option Nat}:∀(x:AV) (id:Nat),id∈(x.ren f).refs→∃i∈x.refs,f i=some id
 |.imm _,id,h=>by simp[AV.ren,AV.refs]at h
 |.osl i ..,id,h=>by
  simp only[AV.ren]at h
  cases hf:f i with
  |none=>simp[hf,AV.refs]at h
  |some j=>simp[hf,AV.refs]at h;exact⟨i,by simp[AV.refs],by rw[hf,h]⟩
 |.optr i _,id,h=>by
  simp only[AV.ren]at h
  cases hf:f i with
  |none=>simp[hf,AV.refs]at h
  |some j=>simp[hf,AV.refs]at h;exact⟨i,by simp[AV.refs],by rw[hf,h]⟩
 |.omap i,id,h=>by
  simp only[AV.ren]at h
  cases hf:f i with
  |none=>simp[hf,AV.refs]at h
  |some j=>simp[hf,AV.refs]at h;exact⟨i,by simp[AV.refs],by rw[hf,h]⟩
 |.yld i,id,h=>by
  simp only[AV.ren]at h
  cases hf:f i with
  |none=>simp[hf,AV.refs]at h
  |some j=>simp[hf,AV.refs]at h;exact⟨i,by simp[AV.refs],by rw[hf,h]⟩
 |.seat i _,id,h=>by
  simp only[AV.ren]at h
  cases hf:f i with
  |none=>simp[hf,AV.refs]at h
  |some j=>simp[hf,AV.refs]at h;exact⟨i,by simp[AV.refs],by rw[hf,h]⟩
 |.clo fn caps,id,h=>by simp only[AV.ren,AV.refs]at h ⊢;exact zqf caps id h
 |.agg cells,id,h=>by simp only[AV.ren,AV.refs]at h ⊢;exact zqf cells id h
 |.tup vs,id,h=>by simp only[AV.ren,AV.refs]at h ⊢;exact zqf vs id h
 |.tag ..,id,h=>by simp[AV.ren,AV.refs]at h
 |.err,id,h=>by simp[AV.ren,AV.refs]at h
 |.junk,id,h=>by simp[AV.ren,AV.refs]at h
theorem zqf {f:Nat→Option Nat}:∀(l:List AV) (id:Nat),id∈AV.refs.refsL (AV.ren.renL f l)→∃i∈AV.refs.refsL l,f i=some id
 |[],id,h=>by simp[AV.ren.renL,AV.refs.refsL]at h
 |x::r,id,h=>by
  simp only[AV.ren.renL,AV.refs.refsL,List.mem_append]at h ⊢
  rcases h with h|h
  ·obtain⟨i,hi,e⟩:=zqm x id h;exact⟨i,.inl hi,e⟩
  ·obtain⟨i,hi,e⟩:=zqf r id h;exact⟨i,.inr hi,e⟩
end
theorem env_roots_mem:∀{e:Env} {id:Nat},id∈Env.roots e↔ ∃p∈e,id∈p.2.refs
 |[],id=>by simp[Env.roots]
 |(k,v)::r,id=>by simp[Env.roots,env_roots_mem (e:=r)]
theorem ze6{f g:Nat→Option Nat}:∀(e:Env),(∀id∈Env.roots e,f id=g id)→Env.ren f e=Env.ren g e
 |[],_=>rfl
 |(k,v)::r,h=>by
  simp only[Env.ren]
  rw[zqi v fun id hid=>h id (by simp only[Env.roots,List.mem_append];exact .inl hid),ze6 r fun id hid=>h id (by simp only[Env.roots,List.mem_append];exact .inr hid)]
theorem zfb{f g:Nat→Option Nat}:∀(e:Env),(e.ren g).ren f=e.ren fun i=>(g i).bind f
 |[]=>rfl
 |(k,v)::r=>by simp only[Env.ren,zqn v,zfb r]
theorem zfa{f:Nat→Option Nat}{e:Env}{id:Nat}(h:id∈Env.roots (e.ren f)):∃i∈Env.roots e,f i=some id:=by
 obtain⟨q,hq,hid⟩:=env_roots_mem.1 h
 obtain⟨p,hp,rfl⟩:=ze9 hq
 obtain⟨i,hi,he⟩:=zqm p.2 id hid
 exact⟨i,env_roots_mem.2 ⟨p,hp,hi⟩,he⟩
theorem zm6{f g:Nat→Option Nat}(o:AObj)(h:∀id∈o.refs,f id=g id):o.ren f=o.ren g:=by
 cases o with
 |flat=>rfl
 |rich cs=>simp only[AObj.ren];rw[zqb cs h]
 |map es=>
  simp only[AObj.ren,AObj.map.injEq]
  refine List.map_congr_left fun p hp=>?_
  rw[zqi p.1 fun id hid=>h id (by simp only[AObj.refs,List.mem_append];exact .inl (refsL_mem.2 ⟨p.1,List.mem_map.2 ⟨p,hp,rfl⟩,hid⟩)),zqi p.2 fun id hid=>h id (by simp only[AObj.refs,List.mem_append];exact .inr (refsL_mem.2 ⟨p.2,List.mem_map.2 ⟨p,hp,rfl⟩,hid⟩))]
 |dead=>rfl
 |fix=>rfl
 |loop env ps as b y=>simp only[AObj.ren];rw[ze6 env h]
 |text=>rfl
 |iter=>rfl
theorem zm7{f:Nat→Option Nat}{o:AObj}(h:∀id∈o.refs,f id=some id):o.ren f=o:=by
 rw[zm6 o (g:=some) h,zna]
theorem zm9{f g:Nat→Option Nat}(o:AObj):(o.ren g).ren f=o.ren fun i=>(g i).bind f:=by
 cases o with
 |flat=>rfl
 |rich cs=>simp only[AObj.ren,zqg]
 |map es=>simp only[AObj.ren,List.map_map,AObj.map.injEq];exact List.map_congr_left fun p _=>by simp only[Function.comp,zqn]
 |dead=>rfl
 |fix=>rfl
 |loop env ps as b y=>simp only[AObj.ren,zfb]
 |text=>rfl
 |iter=>rfl
theorem zm8{f:Nat→Option Nat}(o:AObj)(id:Nat)(h:id∈(o.ren f).refs):∃i∈o.refs,f i=some id:=by
 cases o with
 |flat=>simp[AObj.ren,AObj.refs]at h
 |rich cs=>simp only[AObj.ren,AObj.refs]at h ⊢;exact zqf cs id h
 |map es=>
  simp only[AObj.ren,AObj.refs,List.mem_append]at h ⊢
  rcases h with h|h
  ·obtain⟨x,hx,hid⟩:=refsL_mem.1 h
   simp only[List.map_map,List.mem_map,Function.comp]at hx
   obtain⟨p,hp,rfl⟩:=hx
   obtain⟨i,hi,e⟩:=zqm p.1 id hid
   exact⟨i,.inl (refsL_mem.2 ⟨p.1,List.mem_map.2 ⟨p,hp,rfl⟩,hi⟩),e⟩
  ·obtain⟨x,hx,hid⟩:=refsL_mem.1 h
   simp only[List.map_map,List.mem_map,Function.comp]at hx
   obtain⟨p,hp,rfl⟩:=hx
   obtain⟨i,hi,e⟩:=zqm p.2 id hid
   exact⟨i,.inr (refsL_mem.2 ⟨p.2,List.mem_map.2 ⟨p,hp,rfl⟩,hi⟩),e⟩
 |dead=>simp[AObj.ren,AObj.refs]at h
 |fix=>simp[AObj.ren,AObj.refs]at h
 |loop env ps as b y=>simp only[AObj.ren,AObj.refs]at h ⊢;exact zfa h
 |text=>simp[AObj.ren,AObj.refs]at h
 |iter=>simp[AObj.ren,AObj.refs]at h
theorem ze8{f:Nat→Option Nat}(h:∀id,f id=some id):∀(e:Env),e.ren f=e
 |[]=>rfl
 |(k,v)::r=>by simp only[Env.ren,ze8 h r,ren_id fun id _=>h id]
theorem znn(o:AObj):o.orMoved false=o:=znq o
theorem zou{x:AV}{f:Nat→Option Nat}(h:(x.ren f).plain1=true)(g:Nat→Option Nat):x.ren g=x.ren f:=by
 cases x with
 |imm v=>rfl
 |osl id=>simp only[AV.ren]at h;split at h<;>cases h
 |optr id=>simp only[AV.ren]at h;split at h<;>cases h
 |omap id=>simp only[AV.ren]at h;split at h<;>cases h
 |yld id=>simp only[AV.ren]at h;split at h<;>cases h
 |seat id=>simp only[AV.ren]at h;split at h<;>cases h
 |_=>first|rfl|cases h
theorem zox{f:Nat→Option Nat}(g:Nat→Option Nat):∀{l:List AV},(AV.ren.renL f l).all AV.plain1=true→AV.ren.renL g l=AV.ren.renL f l
 |[],_=>rfl
 |x::l,h=>by
  simp only[AV.ren.renL,List.all_cons,Bool.and_eq_true]at h ⊢
  rw[zou h.1 g,zox g h.2]
theorem zow{x:AV}{f:Nat→Option Nat}(h:(x.ren f).plain2=true)(g:Nat→Option Nat):x.ren g=x.ren f:=by
 cases x with
 |agg cs=>simp only[AV.ren,AV.plain2]at h ⊢;rw[zox g h]
 |imm v=>rfl
 |osl id=>simp only[AV.ren]at h;split at h<;>cases h
 |optr id=>simp only[AV.ren]at h;split at h<;>cases h
 |omap id=>simp only[AV.ren]at h;split at h<;>cases h
 |yld id=>simp only[AV.ren]at h;split at h<;>cases h
 |seat id=>simp only[AV.ren]at h;split at h<;>cases h
 |_=>first|rfl|cases h
theorem zoy{f:Nat→Option Nat}(g:Nat→Option Nat):∀{l:List AV},(AV.ren.renL f l).all AV.plain2=true→AV.ren.renL g l=AV.ren.renL f l
 |[],_=>rfl
 |x::l,h=>by
  simp only[AV.ren.renL,List.all_cons,Bool.and_eq_true]at h ⊢
  rw[zow h.1 g,zoy g h.2]
theorem zo0{x:AV}{f:Nat→Option Nat}(h:(x.ren f).plain=true)(g:Nat→Option Nat):x.ren g=x.ren f:=by
 cases x with
 |tup cs=>simp only[AV.ren,AV.plain]at h ⊢;rw[zoy g h]
 |agg cs=>exact zow (by simpa only[AV.ren,AV.plain]using h) g
 |imm v=>rfl
 |osl id=>simp only[AV.ren]at h;split at h<;>cases h
 |optr id=>simp only[AV.ren]at h;split at h<;>cases h
 |omap id=>simp only[AV.ren]at h;split at h<;>cases h
 |yld id=>simp only[AV.ren]at h;split at h<;>cases h
 |seat id=>simp only[AV.ren]at h;split at h<;>cases h
 |_=>first|rfl|cases h
theorem zo1{x:AV}(h:x.plain=true)(g:Nat→Option Nat):x.ren g=x:=by
 have:=zo0 (x:=x) (f:=some) (by rw[zqp];exact h) g
 rwa [zqp]at this
theorem zof{call:Calls'}{s:St}{fn:Nat}{args:List AV}{r:AV}{s':St}(h:exPeek call s fn args=some (r,s')):s'=s∧r.plain=true∧exShare call s fn args=some (r,s):=by
 unfold exPeek at h
 unfold exShare
 dsimp only at h ⊢
 obtain⟨hnd,hlt,_⟩:=znu (k:=0) (roots:=AV.refs.refsL args) (m:=s.mem) (Nat.zero_le _)
 generalize order 0 (AV.refs.refsL args) s.mem=l at *
 cases hc:call fn (AV.ren.renL (place l) args) (s.mem.pickAll l)with
 |none=>simp[hc]at h
 |some rm=>
  obtain⟨rv,mc⟩:=rm
  simp only[hc]at h ⊢
  split at h
  case isFalse=>cases h
  rename_i hq
  obtain⟨rfl,hp,hall⟩:=hq
  simp only[Option.some.injEq,Prod.mk.injEq]at h
  obtain⟨rfl,rfl⟩:=h
  refine⟨rfl,hp,?_⟩
  have hpl:(s.mem.pickAll l).length=l.length:=by simp[Mem.pickAll]
  have hget:∀(i id:Nat),l[i]?=some id→(s.mem.pickAll l)[i]?=some (((s.mem[id]?).getD .dead).ren (place l)):=by
   intro i id hi;simp[Mem.pickAll,hi]
  have hok:∀id∈l,((s.mem[id]?).getD .dead).moved=false∧∀j∈((s.mem[id]?).getD .dead).refs,j∈l:=by
   intro id hid
   have:=List.all_eq_true.1 hall id hid
   simp only[Bool.and_eq_true,Bool.not_eq_true',List.all_eq_true,List.contains_iff_mem]at this
   exact this.2
  have hsok:shareOk s.mem l=true:=by
   simp only[shareOk,Bool.or_eq_true]
   left
   rw[List.all_eq_true]at hall ⊢
   intro id hid
   have:=hall id hid
   simp only[Bool.and_eq_true]at this
   exact this.1
  rw[if_neg (by rw[hsok];decide)]
  have hstay:∀id,(match place l id with
   |some i=>if (((s.mem.pickAll l)[i]?).getD .dead).moved then none else some id
   |none=>some id)=some id:=by
   intro id
   cases hpi:place l id with
   |none=>rfl
   |some i=>
    have hi:=zoo l id i hpi
    simp only[hget i id hi,Option.getD_some]
    have hm:=(hok id (List.mem_of_getElem? hi)).1
    have:(((s.mem[id]?).getD .dead).ren (place l)).moved=false:=by rw[←hm];cases (s.mem[id]?).getD .dead<;>rfl
    simp[this]
  rw[zo1 hp]
  have hmem:∀back stay:Nat→Option Nat,(∀i,i<l.length→back i=l[i]?)→(∀id,stay id=some id)→(List.range (s.mem.length+((s.mem.pickAll l).length-l.length))).map (shareAt s l (s.mem.pickAll l) back stay)=s.mem:=by
   intro back stay hback hst
   rw[hpl,Nat.sub_self,Nat.add_zero]
   apply List.ext_getElem?
   intro id
   rcases Nat.lt_or_ge id s.mem.length with hlt'|hge
   ·rw[List.getElem?_map,List.getElem?_range hlt',List.getElem?_eq_getElem hlt']
    simp only[Option.map_some,Option.some.injEq]
    unfold shareAt
    have hg:(s.mem[id]?).getD .dead=s.mem[id]:=by rw[List.getElem?_eq_getElem hlt'];rfl
    cases hpi:place l id with
    |none=>
     simp only[hlt',if_true,hg]
     exact zm7 fun j _=>hst j
    |some i=>
     have hi:=zoo l id i hpi
     obtain⟨hm,hcl⟩:=hok id (List.mem_of_getElem? hi)
     simp only[hget i id hi,Option.getD_some,hg]at hm hcl ⊢
     rw[hm,znn,zm9]
     refine zm7 fun j hj=>?_
     have hjl:=hcl j hj
     cases hpj:place l j with
     |none=>
      obtain⟨q,hq⟩:=List.getElem?_of_mem hjl
      rw[zoq l j q hnd hq]at hpj;cases hpj
     |some q=>
      have hq:=zoo l j q hpj
      simp only[Option.bind_some]
      rw[hback q (List.getElem?_eq_some_iff.1 hq).1,hq]
   ·rw[List.getElem?_eq_none (by simpa using hge),List.getElem?_eq_none hge]
  refine congrArg (fun u:St=>some (rv,u)) (?_:St.mk s.k _ _=St.mk s.k s.env s.mem)
  rw[St.mk.injEq]
  exact⟨rfl,ze8 hstay _,hmem _ _ (fun i hi=>if_pos hi) hstay⟩
theorem zjn{call:Calls'}{s:St}{fn:Nat}{args:List AV}{r:AV}{s':St}(h:exLook call s fn args=some (r,s')):exShare call s fn args=some (r,s'):=by
 unfold exLook at h
 unfold exShare
 dsimp only at h ⊢
 obtain⟨hnd,hlt,_⟩:=znu (k:=0) (roots:=AV.refs.refsL args) (m:=s.mem) (Nat.zero_le _)
 generalize order 0 (AV.refs.refsL args) s.mem=l at *
 cases hc:call fn (AV.ren.renL (place l) args) (s.mem.pickAll l)with
 |none=>simp[hc]at h
 |some rm=>
  obtain⟨rv,mc⟩:=rm
  simp only[hc]at h ⊢
  split at h
  case isFalse=>cases h
  rename_i hq
  obtain⟨hmc,hall⟩:=hq
  rw[Bool.and_eq_true]at hall
  replace hall:=hall.1
  simp only[Option.some.injEq,Prod.mk.injEq]at h
  obtain⟨rfl,rfl⟩:=h
  have hpl:(s.mem.pickAll l).length=l.length:=by simp[Mem.pickAll]
  have hml:l.length≤mc.length:=by
   have:=congrArg List.length hmc
   rw[List.length_take,hpl]at this
   omega
  have hget:∀(i id:Nat),l[i]?=some id→mc[i]?=some (((s.mem[id]?).getD .dead).ren (place l)):=by
   intro i id hi
   have hil:=(List.getElem?_eq_some_iff.1 hi).1
   have h1:(mc.take l.length)[i]?=mc[i]?:=by rw[List.getElem?_take,if_pos hil]
   rw[←h1,hmc]
   simp[Mem.pickAll,hi]
  have hok:∀id∈l,((s.mem[id]?).getD .dead).moved=false∧∀j∈((s.mem[id]?).getD .dead).refs,j∈l:=by
   intro id hid
   have:=List.all_eq_true.1 hall id hid
   simp only[Bool.and_eq_true,Bool.not_eq_true',List.all_eq_true,List.contains_iff_mem]at this
   exact this.2
  have hsok:shareOk s.mem l=true:=by
   simp only[shareOk,Bool.or_eq_true]
   left
   rw[List.all_eq_true]at hall ⊢
   intro id hid
   have:=hall id hid
   simp only[Bool.and_eq_true]at this
   exact this.1
  rw[if_neg (by rw[hsok];decide)]
  have hstay:∀id,(match place l id with
   |some i=>if ((mc[i]?).getD .dead).moved then none else some id
   |none=>some id)=some id:=by
   intro id
   cases hpi:place l id with
   |none=>rfl
   |some i=>
    have hi:=zoo l id i hpi
    simp only[hget i id hi,Option.getD_some]
    have hm:=(hok id (List.mem_of_getElem? hi)).1
    have:(((s.mem[id]?).getD .dead).ren (place l)).moved=false:=by rw[←hm];cases (s.mem[id]?).getD .dead<;>rfl
    simp[this]
  have hmem:∀back stay:Nat→Option Nat,(∀i,i<l.length→back i=l[i]?)→(∀id,stay id=some id)→(List.range (s.mem.length+(mc.length-l.length))).map (shareAt s l mc back stay)=s.mem++(mc.drop l.length).map (AObj.ren back):=by
   intro back stay hback hst
   apply List.ext_getElem?
   intro id
   rcases Nat.lt_or_ge id s.mem.length with hlt'|hge
   ·rw[List.getElem?_map,List.getElem?_range (by omega),List.getElem?_append_left hlt',List.getElem?_eq_getElem hlt']
    simp only[Option.map_some,Option.some.injEq]
    unfold shareAt
    have hg:(s.mem[id]?).getD .dead=s.mem[id]:=by rw[List.getElem?_eq_getElem hlt'];rfl
    cases hpi:place l id with
    |none=>
     simp only[hlt',if_true,hg]
     exact zm7 fun j _=>hst j
    |some i=>
     have hi:=zoo l id i hpi
     obtain⟨hm,hcl⟩:=hok id (List.mem_of_getElem? hi)
     simp only[hget i id hi,Option.getD_some,hg]at hm hcl ⊢
     rw[hm,znn,zm9]
     refine zm7 fun j hj=>?_
     have hjl:=hcl j hj
     cases hpj:place l j with
     |none=>
      obtain⟨q,hq⟩:=List.getElem?_of_mem hjl
      rw[zoq l j q hnd hq]at hpj;cases hpj
     |some q=>
      have hq:=zoo l j q hpj
      simp only[Option.bind_some]
      rw[hback q (List.getElem?_eq_some_iff.1 hq).1,hq]
   ·rcases Nat.lt_or_ge id (s.mem.length+(mc.length-l.length))with hlt'|hge'
    ·have hnone:place l id=none:=zop fun hmem=>by have:=hlt _ hmem;omega
     rw[List.getElem?_map,List.getElem?_range hlt',List.getElem?_append_right hge,List.getElem?_map,List.getElem?_drop]
     have hi:l.length+(id-s.mem.length)<mc.length:=by omega
     simp only[Option.map_some,List.getElem?_eq_getElem hi,Option.some.injEq]
     unfold shareAt
     simp only[hnone,if_neg (Nat.not_lt.2 hge),List.getElem?_eq_getElem hi,Option.getD_some]
    ·rw[List.getElem?_eq_none (by simpa using hge'),List.getElem?_eq_none (by simp;omega)]
  refine congrArg (fun u:St=>some (rv.ren _,u)) (?_:St.mk s.k _ _=St.mk s.k s.env _)
  rw[St.mk.injEq]
  exact⟨rfl,ze8 hstay _,hmem _ _ (fun i hi=>if_pos hi) hstay⟩
end Go.EX


namespace Go.EX
section
variable {num:Names} {P:Program}
variable {ty:TypeId} {pos:String} {after:Array Edge} {a:Act} {C:Cx} {s:St}
theorem zd7{α:Type}(l:List α)(n:Nat)(h:l.length=n):cut l 0 n=some l:=by
 subst h
 simp[cut]
end
end Go.EX


namespace Go.EX
section
variable {num:Names} {P:Program}
variable {ty:TypeId} {pos:String} {after:Array Edge} {a:Act} {C:Cx} {s:St}
theorem zul{m:Mem}(hm:MRep num C m){id:Nat}{cs:List IV}(ho:m[id]?=some (.text cs)):MRep num C (m.set id (.flat cs false)):=by
 have hid:id<m.length:=(List.getElem?_eq_some_iff.1 ho).1
 have split:∀(i:Nat) p,(m.set id (.flat cs false))[i]?=some p→(i=id∧p=.flat cs false)∨(i≠id∧m[i]?=some p):=by
  intro i p hp
  rw[ztb]at hp
  split at hp
  ·rename_i h;exact .inl ⟨h.1.symm,(Option.some.inj hp).symm⟩
  ·rename_i h;exact .inr ⟨fun e=>h ⟨e.symm,by rw[e];exact hid⟩,hp⟩
 have own:∀b,Own C (m.set id (.flat cs false)) b→Own C m b:=by
  rintro b ⟨i,p,hp,hl,hb⟩
  rcases split i p hp with⟨rfl,rfl⟩|⟨_,hp'⟩
  ·exact⟨i,_,ho,rfl,hb⟩
  ·exact⟨i,p,hp',hl,hb⟩
 refine⟨by simpa using hm.len,fun i p hp=>?_,fun i j p q hp hq h1 h2 he=>?_,fun b hb=>hm.imm b (own b hb),hm.bd,hm.glo⟩
 ·rcases split i p hp with⟨rfl,rfl⟩|⟨_,hp'⟩
  ·obtain⟨arr,e,h1,_,h2⟩:=hm.obj i _ ho
   exact⟨arr,e,h1,h2⟩
  ·exact hm.obj i p hp'
 ·rcases split i p hp with⟨rfl,rfl⟩|⟨hi,hp'⟩<;>rcases split j q hq with⟨rfl,rfl⟩|⟨hj,hq'⟩
  ·exact .inl rfl
  ·rcases hm.inj _ j _ q ho hq' rfl h2 he with h|h
   ·exact .inl h
   ·cases q<;>cases h
  ·rcases hm.inj i _ p _ hp' ho h1 rfl he with h|h
   ·exact .inl h
   ·cases p<;>cases h
  ·exact hm.inj i j p q hp' hq' h1 h2 he
theorem zum{D:Cx}(ht:Tr some C D){olds us:Array Value}{ol nl:List IV}(ho:∀(j:Nat) x,ol[j]?=some x→∃u:Value,olds[j]?=some u∧IRep C.I C.w x u)(hol:ol.length=olds.size)
  (hn:∀(j:Nat) x,nl[j]?=some x→∃u:Value,us[j]?=some u∧IRep C.I C.w x u) {arr:Array Value} (h1:∀j:Nat,j<olds.size→arr[j]?=olds[j]?) (h2:∀j:Nat,j<us.size→arr[olds.size+j]?=us[j]?):
  ∀(j:Nat) x,(ol++nl)[j]?=some x→∃u:Value,arr[j]?=some u∧IRep D.I D.w x u:=by
 intro j x hx
 rcases Nat.lt_or_ge j ol.length with h|h
 ·rw[List.getElem?_append_left h]at hx
  obtain⟨u,hu,hr⟩:=ho j x hx
  exact⟨u,by rw[h1 j (by omega)];exact hu,hr.mono ht.imm ht.keep⟩
 ·rw[List.getElem?_append_right h]at hx
  obtain⟨u,hu,hr⟩:=hn _ x hx
  have hj:=(Array.getElem?_eq_some_iff.1 hu).1
  refine⟨u,?_,hr.mono ht.imm ht.keep⟩
  have:=h2 (j-ol.length) hj
  rw[←hol]at this
  have e:ol.length+(j-ol.length)=j:=by omega
  rw[e]at this
  rw[this];exact hu
theorem zwx(hU:∀e,isU8 P e=true→P.cellsOf e=1→num.U e)(hs:SRep num C s a){t u e:TypeId}{d:TypeDesc}{x y:Operand}{x' y':Src}(ht:P.underlying t=some (.slice e))(hu:P.underlying u=some d)(hd:notIntD d=true)(hk:known P e=true)(h0:0<P.cellsOf e)(hb0:0<P.bytesOf e)
  (hz:zeroOk P e=true) (hc1:P.cellsOf e=1) (hb1:P.bytesOf e=1) (hu8:isU8 P e=true) (hx:trSrc num x=some x') (hy:trSrc num y=some y') {r:AV} {s':St} (h:exAppendS s (s.env.ev x') (s.env.ev y')=some (r,s')):
  Yields num P (.call { callee:=.builtin .append,args:= #[x,y],argTypes:= #[t,u] }) ty pos after a C s r s':=by
 obtain⟨i,dd,hi,_,hsz,hby⟩:=zir hk
 obtain⟨z,hzi,hzs⟩:∃z,i.zero=some z∧z.cells.size=P.cellsOf e:=by
  unfold zeroOk zeroCellsOf at hz
  rw[hi]at hz
  cases hq:i.zero with
  |none=>simp[hq]at hz
  |some z=>simp[hq]at hz;exact⟨z,rfl,hz⟩
 have hm:=hs.mem
 have hlen:=hm.len
 have hue:=hU e hu8 hc1
 unfold exAppendS at h
 cases hel:elems s.mem 1 (s.env.ev y')with
 |none=>simp[hel]at h
 |some nn=>
  obtain⟨n,news⟩:=nn
  simp only[hel]at h
  have hax:=ztx hs hx
  split at h
  ·rename_i heq
   by_cases hn0:n=0
   ·rw[if_pos hn0]at h
    cases h
    have h9:exAppend s (P.cellsOf e) (P.bytesOf e) (s.env.ev x') (s.env.ev y')=some (s.env.ev x',s):=by
     unfold exAppend
     rw[hc1,hel,heq]
     simp[hn0]
    rw[heq]at h9
    exact zwv hs ht hu hd hk h0 hb0 hz hx hy (by rw[heq];exact h9)
   ·rw[if_neg hn0]at h
    obtain⟨us,hg⟩:=zg9 (P:=P) hm (ztx hs hy) hel
    have hexec:∀(b:Option Addr) (l c:Nat) (v:Value) (w':World),a.eval x=.slice b l c→(Builtin.append_ #[t,u] ty #[.slice b l c,a.eval y]).run P C.w=.ok v w'→
      ∀dst g,(execOp a.eval ⟨dst,.call { callee:=.builtin .append,args:= #[x,y],argTypes:= #[t,u] },ty,pos,after,g⟩).run P C.w=.ok (.value v) w':=by
     intro b l c v w' hb hr dst g
     simp[execOp,resolve,invoke,builtin,hb,hr]
    have hxv:a.eval x=.slice none 0 0:=by rw[heq]at hax;exact zqs hax
    split at h
    ·rename_i hbd
     simp only[fresh,Option.some.injEq,Prod.mk.injEq]at h
     obtain⟨rfl,rfl⟩:=h
     have hr:=zrx (P:=P) (ty:=ty) ht hu hd hi hzi C.w none 0 0 n (a.eval y) #[] us (hg.len _) (by rw[←hsz,hc1];exact hg.cells _ rfl) rfl (by omega) (by rw[←hby,hb1,Nat.zero_add,Nat.mul_one];exact hbd) (by rw[←hby];exact hb0)
     generalize hrest:Builtin.zeroCells z.cells (grownCap C.w (0+n) 0 e-(0+n))=rest at hr
     have htr:=zkv (w1:=C.w.drew) hm rfl (.cells (#[]++us++rest) e (0,0))
     refine⟨_,C.more C.w.drew (.cells (#[]++us++rest) e (0,0)),fun dst g=>.inl (hexec none 0 0 _ _ hxv hr dst g),zku (w1:=C.w.drew) hm rfl rfl rfl rfl _ _ ?_ hs.k,hs.env.mono htr,?_,rfl⟩
     ·refine⟨#[]++us++rest,e,?_,hue,?_⟩
      ·simp only[Cx.more,if_true]
       rw[zap,if_pos (show C.w.heap.size=C.w.drew.heap.size from rfl)]
      ·intro j x hx
       obtain⟨u,hu,hr'⟩:=hg.rep j x hx
       have hj:=(Array.getElem?_eq_some_iff.1 hu).1
       refine⟨u,?_,hr'.mono htr.imm htr.keep⟩
       rw[Array.getElem?_append_left (by simp;exact hj)]
       simpa using hu
     ·have hge:=grownCap_ge C.w (0+n) 0 e
      rw[hlen]
      rw[Nat.zero_add]at hge ⊢
      refine zkt (w1:=C.w.drew) rfl _ e (zhe (b:=1) (by rw[Nat.mul_one];assumption) (by omega)) (fun k hk=>by cases hk) (.inr ?_)
      have hrs:rest.size=(grownCap C.w (0+n) 0 e-(0+n))*P.cellsOf e:=by rw[←hrest,zxq,hzs]
      rw[Nat.zero_add,hc1]at hrs
      rw[Array.size_append,Array.size_append,hg.size,hrs]
      simp only[List.size_toArray,List.length_nil,Nat.zero_add]
      rw[←Nat.add_mul]
      exact Nat.le_of_eq (by congr 1;omega)
    ·cases h
  ·rename_i id l heq
   split at h
   ·rename_i cs ho
    split at h
    ·rename_i hcond
     obtain⟨hcl,hl0,hbd⟩:=hcond
     simp only[Option.some.injEq,Prod.mk.injEq]at h
     obtain⟨rfl,rfl⟩:=h
     obtain⟨us,hg⟩:=zg9 (P:=P) hm (ztx hs hy) hel
     have hexec:∀(b:Option Addr) (l c:Nat) (v:Value) (w':World),a.eval x=.slice b l c→(Builtin.append_ #[t,u] ty #[.slice b l c,a.eval y]).run P C.w=.ok v w'→
       ∀dst g,(execOp a.eval ⟨dst,.call { callee:=.builtin .append,args:= #[x,y],argTypes:= #[t,u] },ty,pos,after,g⟩).run P C.w=.ok (.value v) w':=by
      intro b l c v w' hb hr dst g
      simp[execOp,resolve,invoke,builtin,hb,hr]
     have hax0:=hax
     rw[heq]at hax0
     have hid:id<s.mem.length:=(List.getElem?_eq_some_iff.1 ho).1
     have hol:elems (s.mem.set id (.flat cs false)) 1 (.osl id 0 1 l none)=some (l,cs):=by
      have hq:(s.mem.set id (.flat cs false))[id]?=some (.flat cs false):=by rw[ztb,if_pos ⟨rfl,hid⟩]
      simp only[elems,hq,Nat.mul_one,zd7 cs l hcl,Option.map_some]
     obtain⟨olds,hg2⟩:=zg9 (P:=P) (zul hm ho) hax0 hol
     obtain⟨a2,e2,hw2,hue2,hcells2⟩:=hm.obj id _ ho
     have hlo:(AObj.text cs).live=true:=rfl
     have hof:(AObj.text cs).isFix=false:=rfl
     rw[heq]at hax
     generalize hxv:a.eval x=v at hax hg2
     cases hax with
     |osl _ _ _ _ _ c' ad arr e' hid' hl hk' ha hw hss=>
      obtain⟨arr,fz0,hw,rfl⟩:=hw
      rw[hw]at hw2
      obtain⟨rfl,rfl,rfl⟩:arr=a2∧e'=e2∧fz0=(0,0):=by simpa using hw2
      rcases Nat.lt_or_ge c' (l+n)with hgt|hroom
      ·
       have hr:=zrx (P:=P) (ty:=ty) ht hu hd hi hzi C.w (some ⟨C.σ id,ad,none⟩) l c' n (a.eval y) olds us (hg.len _) (by rw[←hsz,hc1];exact hg.cells _ rfl) (by rw[←hsz,hc1];exact hg2.cells _ rfl) hgt (by rw[←hby,hb1,Nat.mul_one];exact hbd) (by rw[←hby];exact hb0)
       generalize hrest:Builtin.zeroCells z.cells (grownCap C.w (l+n) c' e-(l+n))=rest at hr
       have hlt:C.σ id<C.w.heap.size:=(Array.getElem?_eq_some_iff.1 hw).1
       have hwk:∀b,b<C.w.heap.size→(C.w.drew.alloc (.cells (olds++us++rest) e)).heap[b]?=C.w.heap[b]?:=by
        intro b hb
        rw[zap,if_neg (show ¬b=C.w.drew.heap.size by show ¬b=C.w.heap.size;omega)]
        rfl
       have hnew:(C.w.drew.alloc (.cells (olds++us++rest) e)).heap[C.w.heap.size]?=some (.cells (olds++us++rest) e (0,0)):=by
        rw[zap,if_pos (show C.w.heap.size=C.w.drew.heap.size from rfl)]
       have hsz3:∀n9 e9,RowAt C.w (C.σ id) n9 e9→RowAt (C.w.drew.alloc (.cells (olds++us++rest) e)) (C.σ id) n9 e9:=fun _ _ h=>h.same (hwk _ hlt)
       have htr:=zc0 (nb:=C.w.heap.size) hm ho hlo (w':=C.w.drew.alloc (.cells (olds++us++rest) e)) (fun b hb _=>hwk b hb) hsz3
       refine⟨_,C.claim C.w.heap.size (C.w.drew.alloc (.cells (olds++us++rest) e)),fun dst g=>.inl (hexec _ l c' _ _ hxv hr dst g),zcz (w':=C.w.drew.alloc (.cells (olds++us++rest) e)) hm ho hlo (.inr (Nat.le_refl _)) rfl rfl rfl (by rw[World.size_alloc];exact Nat.le_succ C.w.heap.size) (fun b hb _=>hwk b hb) hsz3 ?_ hs.k hof,hs.env.mono htr,?_,rfl⟩
       ·refine⟨olds++us++rest,e,by simp only[Cx.claim,if_true];exact hnew,hue,zum htr hg2.rep (by rw[hg2.count,hg2.size]) hg.rep (fun j hj=>?_) (fun j hj=>?_)⟩
        ·rw[Array.append_assoc,Array.getElem?_append_left hj]
        ·rw[Array.append_assoc,Array.getElem?_append_right (by omega),Array.getElem?_append_left (by omega)]
         congr 1;omega
       ·have hrs:rest.size=(grownCap C.w (l+n) c' e-(l+n))*P.cellsOf e:=by rw[←hrest,zxq,hzs]
        have hge:=grownCap_ge C.w (l+n) c' e
        have hσn:(C.claim C.w.heap.size (C.w.drew.alloc (.cells (olds++us++rest) e))).σ C.n=C.w.heap.size:=by simp[Cx.claim]
        rw[hlen]
        conv=>arg 4;rw[←hσn]
        refine .osl0 C.n 0 _ _ none _ 0 _ e (by simp[Cx.claim]) (zhe (b:=1) (by rw[Nat.mul_one];assumption) (by omega)) (fun k hk=>by cases hk) (.inl rfl) (by rw[hσn];exact hnew) (.inr ?_)
        rw[Array.size_append,Array.size_append,hg2.size,hg.size,hrs,hc1,←Nat.add_mul,←Nat.add_mul,Nat.zero_add]
        exact Nat.le_of_eq (by congr 1;omega)
      ·
       have hus:us.toList.length=n*1:=by rw[Array.length_toList,hg.size]
       have hc0:c'≠0:=by omega
       rcases ha with rfl|h00
       ·have hfit:l*1+us.toList.length≤arr.size:=by
         rw[hus,←Nat.add_mul]
         rcases hss with h0|h0
         ·omega
         ·omega
        have hone:∀u∈us.toList,u.oneCell'=true:=zha hg
        have hst:=run_storeCells_at P (C.σ id) (l*1) e' us.toList 0 arr C.w hw (by rw[Nat.add_zero];exact hfit) hone
        simp only[Nat.add_zero]at hst
        have hr:=zry (P:=P) (ty:=ty) ht hu hd hi C.w (some ⟨C.σ id,0,none⟩) l c' n (a.eval y) us (hg.len _) (by rw[←hsz,hc1];exact hg.cells _ rfl) hroom
         (fun ad' had=>by cases had;rw[zai,←hsz,hc1,Nat.zero_add];exact hst) (fun h=>by cases h)
        have hsp:=ztv arr (l*1) us.toList hfit
        generalize hnr:(arr.toList.take (l*1)++us.toList++arr.toList.drop (l*1+us.toList.length)).toArray=narr at hr hsp hst
        have hwk:∀b,b<C.w.heap.size→b≠C.σ id→(C.w.setRow (C.σ id) narr).heap[b]?=C.w.heap[b]?:=by
         intro b _ hb
         rw[zs9 _ _ _ _ _ hw,if_neg hb]
        have hws:(C.w.setRow (C.σ id) narr).heap[C.σ id]?=some (.cells narr e' (0,0)):=by
         rw[zs9 _ _ _ _ _ hw,if_pos rfl]
        have hsz3:∀n9 e9,RowAt C.w (C.σ id) n9 e9→RowAt (C.w.setRow (C.σ id) narr) (C.σ id) n9 e9:=by
         intro n0 e0 h0'
         exact h0'.put hw hws hsp
        have htr:=zc0 (nb:=C.σ id) hm ho hlo (w':=C.w.setRow (C.σ id) narr) hwk hsz3
        have hσn:(C.claim (C.σ id) (C.w.setRow (C.σ id) narr)).σ C.n=C.σ id:=by simp[Cx.claim]
        have holds:∀j:Nat,j<olds.size→arr[j]?=olds[j]?:=by
         intro j hj
         obtain⟨u,hu⟩:∃u,olds[j]?=some u:=⟨_,Array.getElem?_eq_getElem hj⟩
         have h3:=hg2.cells C.w rfl
         simp only[Builtin.firstCells]at h3
         rw[hu]
         have hl2:l*1≤arr.size:=by omega
         have h4:=run_loadCells (P:=P) C.w ⟨C.σ id,0,none⟩ (l*1) (fun j=>arr.getD j undef) (fun j hj=>by
          rw[zai,cell_of_row C.w _ _ arr e' _ hw]
          have:0+j<arr.size:=by omega
          simp[Array.getD,this,show j<arr.size by omega])
         rw[h4]at h3
         simp only[Result.ok.injEq]at h3
         have h5:=h3.1
         rw[←h5]at hu
         have hj2:j<l*1:=by rw[←hg2.size];exact hj
         have hja:j<arr.size:=by omega
         have hj3:j<l:=by omega
         simp[hj3]at hu
         simp[Array.getD,hja]at hu
         rw[Array.getElem?_eq_getElem hja,hu]
        refine⟨_,C.claim (C.σ id) (C.w.setRow (C.σ id) narr),fun dst g=>.inl (hexec _ l c' _ _ hxv hr dst g),zcz (w':=C.w.setRow (C.σ id) narr) hm ho hlo (.inl rfl) rfl rfl rfl (by rw[size_setRow];exact Nat.le_refl _) hwk hsz3 ?_ hs.k hof,hs.env.mono htr,?_,rfl⟩
        ·refine⟨narr,e',by simp only[Cx.claim,if_true];exact hws,hue2,zum htr hg2.rep (by rw[hg2.count,hg2.size]) hg.rep (fun j hj=>?_) (fun j hj=>?_)⟩
         ·rw[←hnr,ztu arr _ us.toList hfit,if_neg (by rw[←hg2.size];omega)]
          exact holds j hj
         ·rw[←hnr,ztu arr _ us.toList hfit,if_pos (by rw[hg2.size,hus,←hg.size];omega),Array.getElem?_toList]
          congr 1;rw[hg2.size];omega
        ·rw[hlen]
         conv=>arg 4;rw[←hσn]
         exact .osl0 C.n 0 _ _ none c' 0 _ e' (by simp[Cx.claim]) (by omega) (fun k hk=>by cases hk) (.inl rfl) (by rw[hσn];exact hws) (by rw[hsp];exact hss)
       ·omega
    ·cases h
   ·cases h
  ·cases h
end
end Go.EX


namespace Go.EX
section
variable {num:Names} {P:Program}
variable {ty:TypeId} {pos:String} {after:Array Edge} {a:Act} {C:Cx} {s:St}
theorem y_idxP(hs:SRep num C s a){t e:TypeId}{len:Nat}{x i:Operand}{x' i':Src}(hx:trSrc num x=some x')(hi:trSrc num i=some i')(ht:P.underlying t=some (.array len e))(hk:known P e=true)
  {n:Int} (hn:intOf (s.env.ev i')=some n) (hb:0≤n∧n<len) {y:AV} (hy:(match s.env.ev x' with|.imm (.ptr row o)=>some (AV.imm (.ptr row (o+n.toNat*P.cellsOf e)))|.optr id o=>some (.optr id (o+n.toNat*P.cellsOf e))|_=>none)=some y):
  Yields num P (.indexAddr t x i) ty pos after a C s y s:=by
 obtain⟨inf,d,hinf,hd,hsz,_⟩:=zir hk
 obtain⟨kk,hie,_⟩:=zqr (ztx hs hi) hn
 have h1:=ztx hs hx
 generalize hu:a.eval x=u at h1
 have run:∀b o,u=.pointer (some ⟨b,o,none⟩)→∀dst g,(execOp a.eval ⟨dst,.indexAddr t x i,ty,pos,after,g⟩).run P C.w=.ok (.value (.pointer (some ⟨b,o+n.toNat*P.cellsOf e,none⟩))) C.w:=by
  intro b o hb' dst g
  simp[execOp,hu,hb',hie,Instr.indexAt,asIntOf,run_underlying ht,zse hinf,hb.1,hb.2,zai,hsz,Instr.sureAddr]
 split at hy
 ·rename_i row o heq
  cases hy
  rw[heq]at h1
  cases h1 with
  |imm _ _ h=>cases h with
   |ptr _ _ b o' u' hI hc hu'=>
    refine zxp hs (run b (o'+o) rfl) ?_
    rw[Nat.add_assoc]
    exact .imm _ _ (.ptr row _ b o' u' hI hc hu')
 ·rename_i id o heq
  cases hy
  rw[heq]at h1
  cases h1 with
  |optr _ _ hid=>exact zxp hs (run (C.σ id) o rfl) (.optr id _ hid)
 ·cases hy
theorem zxf(hs:SRep num C s a){mn:Bool}{x y:Operand}{x' y':Src}{ats:Array TypeId}(hx:trSrc num x=some x')(hy:trSrc num y=some y'){k j:IntKind}{m n:Int}(h1:s.env.ev x'=.imm (.val (.int k m)))(h2:s.env.ev y'=.imm (.val (.int j n))):
  Yields num P (.call { callee:=.builtin (if mn then .min else .max),args:= #[x,y],argTypes:=ats }) ty pos after a C s (.imm (.val (.int k (if mn then(if n<m then n else m)else(if m<n then n else m))))) s:=by
 have hu:=zty hs hx h1
 have hv:=zty hs hy h2
 cases mn with
 |true=>
  refine zxp (v:=.int k (if n<m then n else m)) hs (fun _ _=>?_) (.imm _ _ (.val _ rfl))
  simp[execOp,resolve,invoke,builtin,hu,hv,Builtin.min_,Builtin.min2]
 |false=>
  refine zxp (v:=.int k (if m<n then n else m)) hs (fun _ _=>?_) (.imm _ _ (.val _ rfl))
  simp[execOp,resolve,invoke,builtin,hu,hv,Builtin.max_,Builtin.max2]
end
end Go.EX


namespace Go.EX
section
variable {num:Names} {P:Program}
variable {ty:TypeId} {pos:String} {after:Array Edge} {a:Act} {C:Cx} {s:St}
theorem za3{s:St}{sz b:Nat}{a x:AV}{r:AV×St}(h:exAppendN s sz b a x=some r):exAppendR s sz b a x=some r∨exAppendX s sz b a x=some r:=by
 unfold exAppendN at h
 split at h
 ·split at h
  ·rename_i h1
   cases h
   exact .inl h1
  ·exact .inr h
 ·exact .inr h
theorem zjf(m:Mem)(agg:Option Nat)(y:IV):loadAt m agg (.imm y)=loadAt [] agg (.imm y):=by cases y<;>rfl
theorem zoa{place:Nat→Option (Nat×Nat)}{ps:List (Nat×Operand)}{α:Type}{f:List (Nat×Nat×Src)→α}{y:α}(h:(trParts num place ps).map f=some y):∃qs,trParts num place ps=some qs∧f qs=y:=by
 simpa [Option.map_eq_some_iff]using h
theorem ztw{x:Operand}{α:Type}{f:Src→α}{y:α}(h:(trSrc num x).map f=some y):∃z,trSrc num x=some z∧f z=y:=by
 simpa [Option.map_eq_some_iff]using h
def Does(num:Names)(P:Program)(op:Op)(ty:TypeId)(pos:String)(after:Array Edge)(a:Act)(C:Cx)(s:St)(x:AV)(s':St):Prop:=
 Yields num P op ty pos after a C s x s'∨CallsTo num P op ty pos after a C s x s'∨GoesRound num P op ty pos after a C s x s'
theorem zfp{call:Calls'}(hcall:CallOK num P call)(hs:SRep num C s a){op:Op}{x:XOp}(htr:trOp P num op=some x.wipe){r:AV}{s':St}(h:exOp call s x=some (r,s')):Does num P op ty pos after a C s r s':=by
 cases op with
 |move o=>
  simp only[trOp]at htr
  obtain⟨z,hz,hx⟩:=ztw htr
  cases x<;>simp only[XOp.wipe,XOp.mv.injEq,reduceCtorEq]at hx
  ·subst hx;cases h;exact .inl (y_mv hs hz)
  ·subst hx;cases h
  ·subst hx;exact .inl (y_ice hs hz h)
  ·cases h
 |assign o=>
  simp only[trOp]at htr
  obtain⟨z,hz,hx⟩:=ztw htr
  cases x<;>simp only[XOp.wipe,XOp.mv.injEq,reduceCtorEq]at hx
  ·subst hx;cases h;exact .inl (zwz hs hz)
  ·subst hx;cases h
  ·subst hx;exact .inl (y_iceA hs hz h)
  ·cases h
 |pick c o1 o2=>
  simp only[trOp]at htr
  split at htr
  ·rename_i c' a' b' e1 e2 e3
   simp only[Option.some.injEq]at htr
   cases x<;>simp only[XOp.wipe,XOp.pick.injEq,reduceCtorEq]at htr
   obtain⟨rfl,rfl,rfl⟩:=htr
   simp only[exOp]at h
   split at h
   ·rename_i t ht
    cases h
    exact .inl (y_pick hs e1 e2 e3 ht)
   ·cases h
  ·cases htr
 |alloc t=>
  simp only[trOp]at htr
  split at htr
  ·rename_i zs hz
   split at htr
   ·rename_i hone
    split at htr
    ·rename_i off hoff
     simp only[Option.some.injEq]at htr
     cases x<;>simp only[XOp.wipe,XOp.allocB.injEq,reduceCtorEq]at htr
     obtain⟨rfl,rfl⟩:=htr
     cases h
     exact .inl (zwu hcall.seat hs hz hone hoff)
    ·simp only[Option.some.injEq]at htr
     cases x<;>simp only[XOp.wipe,XOp.alloc.injEq,reduceCtorEq]at htr
     subst htr
     cases h
     exact .inl (zwt hs hz hone)
   ·cases htr
  ·cases htr
 |box t o=>
  simp only[trOp]at htr
  split at htr
  ·have plain:∀(htr:(trSrc num o).map (XOp.box (P.cellsOf t))=some x.wipe),Does num P (.box t o) ty pos after a C s r s':=by
    intro htr
    obtain⟨z,hz,hx⟩:=ztw htr
    cases x<;>simp only[XOp.wipe,XOp.box.injEq,reduceCtorEq]at hx
    obtain⟨rfl,rfl⟩:=hx
    simp only[exOp]at h
    cases hc:(s.env.ev z).cells with
    |none=>simp[hc]at h
    |some cs=>rw[hc]at h;cases h;exact .inl (y_box hs hz hc)
   split at htr
   ·rename_i zs hzs
    split at htr
    ·rename_i off hoff
     split at htr
     ·rename_i hlen
      obtain⟨z,hz,hx⟩:=ztw htr
      cases x<;>simp only[XOp.wipe,XOp.boxB.injEq,reduceCtorEq]at hx
      obtain⟨rfl,rfl,rfl⟩:=hx
      simp only[exOp]at h
      cases hc:(s.env.ev z).cells with
      |none=>simp[hc]at h
      |some cs=>
       rw[hc]at h
       dsimp only at h
       split at h
       ·rename_i hcl
        split at h
        ·rename_i hnil
         cases h
         exact .inl (y_boxB hcall.seat hs hz hc hoff (by omega) hnil)
        ·cases h
       ·cases h
     ·cases htr
    ·exact plain htr
   ·exact plain htr
  ·cases htr
 |build t ps=>
  simp only[trOp]at htr
  split at htr
  ·cases htr
  ·rename_i zs hz
   split at htr
   ·cases htr
   ·rename_i hone
    have hone':zs.all oneCellV=true:=by simpa using hone
    split at htr
    ·rename_i fs ht
     split at htr
     ·rename_i hk
      obtain⟨qs,hq,hx⟩:=zoa htr
      cases x<;>simp only[XOp.wipe,XOp.build.injEq,reduceCtorEq]at hx
      obtain⟨rfl,rfl⟩:=hx
      simp only[exOp]at h
      cases hf:fillAll (imZ zs) (qs.map fun (o,n,x)=>(o,n,s.env.ev x))with
      |none=>rw[hf]at h;cases h
      |some cs=>rw[hf]at h;cases h;exact .inl (zw0 hs hz hone' hq (.inl ⟨fs,ht,hk,rfl⟩) hf)
     ·cases htr
    ·rename_i n e ht
     split at htr
     ·rename_i hk
      obtain⟨qs,hq,hx⟩:=zoa htr
      cases x<;>simp only[XOp.wipe,XOp.build.injEq,reduceCtorEq]at hx
      obtain⟨rfl,rfl⟩:=hx
      simp only[exOp]at h
      cases hf:fillAll (imZ zs) (qs.map fun (o,n,x)=>(o,n,s.env.ev x))with
      |none=>rw[hf]at h;cases h
      |some cs=>rw[hf]at h;cases h;exact .inl (zw0 hs hz hone' hq (.inr ⟨n,e,ht,hk,rfl⟩) hf)
     ·cases htr
    ·cases htr
 |buildSlice t len ps=>
  simp only[trOp]at htr
  split at htr
  ·rename_i e ht
   split at htr
   ·rename_i zs hz
    split at htr
    ·rename_i hc
     simp only[Bool.and_eq_true,decide_eq_true_eq]at hc
     obtain⟨⟨⟨⟨hk,hone⟩,hbig⟩,h0⟩,hzl⟩:=hc
     obtain⟨qs,hq,hx⟩:=zoa htr
     cases x<;>simp only[XOp.wipe,XOp.buildSlice.injEq,reduceCtorEq]at hx
     obtain⟨rfl,rfl,rfl,rfl⟩:=hx
     simp only[exOp]at h
     cases hf:fillAll (imZ (copies len zs)) (qs.map fun (o,n,x)=>(o,n,s.env.ev x))with
     |none=>rw[hf]at h;cases h
     |some cs=>rw[hf]at h;cases h;exact .inl (zw1 hs ht hz hk hone hbig h0 hzl hq hf)
    ·cases htr
   ·cases htr
  ·cases htr
 |load t o=>
  simp only[trOp]at htr
  split at htr
  ·rename_i hk
   obtain⟨z,hz,hx⟩:=ztw htr
   cases x<;>simp only[XOp.wipe,XOp.load.injEq,reduceCtorEq]at hx
   ·obtain⟨rfl,rfl⟩:=hx
    simp only[exOp]at h
    cases hl:loadAt s.mem (aggOf P t) (s.env.ev z)with
    |none=>rw[hl]at h;cases h
    |some v=>rw[hl]at h;cases h;exact .inl (y_load hs hk hz hl)
   ·obtain⟨rfl,rfl⟩:=hx
    simp only[exOp]at h
    split at h
    ·rename_i y hy
     have hl:loadAt s.mem (aggOf P t) (s.env.ev z)=loadAt [] (aggOf P t) (.imm y):=by rw[hy];exact zjf s.mem _ y
     cases hl':loadAt [] (aggOf P t) (.imm y)with
     |none=>rw[hl']at h;cases h
     |some v=>rw[hl']at h;cases h;exact .inl (y_load hs hk hz (hl.trans hl'))
    ·cases h
  ·cases htr
 |store t o1 o2=>
  simp only[trOp]at htr
  split at htr
  ·rename_i hk
   split at htr
   ·rename_i p' x' e1 e2
    simp only[Option.some.injEq]at htr
    cases x<;>simp only[XOp.wipe,XOp.store.injEq,reduceCtorEq]at htr
    ·obtain⟨rfl,rfl,rfl⟩:=htr
     simp only[exOp]at h
     split at h
     ·rename_i cs hc
      split at h
      ·rename_i hn
       cases hst:storeAt s.mem (s.env.ev p') cs with
       |none=>rw[hst]at h;cases h
       |some m=>rw[hst]at h;cases h;exact .inl (zxm hs hk e1 e2 hc hn hst)
      ·cases h
     ·cases h
    ·cases h
    ·obtain⟨rfl,rfl,rfl⟩:=htr
     simp only[exOp]at h
     exact .inl (zxn hs hk e1 e2 rfl h)
   ·cases htr
  ·cases htr
 |nilCheck o=>
  simp only[trOp]at htr
  obtain⟨z,hz,hx⟩:=ztw htr
  cases x<;>simp only[XOp.wipe,XOp.nilCheck.injEq,reduceCtorEq]at hx
  subst hx
  simp only[exOp]at h
  split at h
  ·rename_i hn;cases h;exact .inl (zxh hs hz hn)
  ·cases h
 |binOp op t o1 o2 yt=>
  simp only[trOp]at htr
  have bin:∀(x' y':Src),trSrc num o1=some x'→trSrc num o2=some y'→x.wipe=.bin op x' y'→Does num P (.binOp op t o1 o2 yt) ty pos after a C s r s':=by
   intro x' y' e1 e2 hx
   cases x<;>simp only[XOp.wipe,XOp.bin.injEq,reduceCtorEq]at hx
   obtain⟨rfl,rfl,rfl⟩:=hx
   simp only[exOp]at h
   split at h
   ·rename_i u v hu hv
    simp only[Option.map_eq_some_iff,Prod.mk.injEq]at h
    obtain⟨q,hq,rfl,rfl⟩:=h
    exact .inl (y_bin hs e1 e2 hu hv hq)
   ·cases h
  split at htr
  ·rename_i e1 e2;exact bin _ _ e1 e2 (Option.some.inj htr).symm
  ·rename_i e1 e2;exact bin _ _ e1 e2 (Option.some.inj htr).symm
  ·rename_i x' y' ht e1 e2
   have hx:=(Option.some.inj htr).symm
   cases x<;>simp only[XOp.wipe,XOp.binB.injEq,reduceCtorEq]at hx
   obtain⟨rfl,rfl,rfl⟩:=hx
   simp only[exOp]at h
   split at h
   ·rename_i u v hu hv
    simp only[Option.map_eq_some_iff,Prod.mk.injEq]at h
    obtain⟨q,hq,rfl,rfl⟩:=h
    exact .inl (y_binB hs e1 e2 ht hu hv hq)
   ·cases h
  ·rename_i fs x' y' ht e1 e2
   split at htr
   ·rename_i ks hf
    have hx:=(Option.some.inj htr).symm
    cases x<;>simp only[XOp.wipe,XOp.eqCells.injEq,reduceCtorEq]at hx
    obtain⟨rfl,rfl,rfl,rfl⟩:=hx
    simp only[exOp]at h
    split at h
    ·rename_i xs ys h1 h2
     simp only[Option.map_eq_some_iff,Prod.mk.injEq]at h
     obtain⟨b,hb,rfl,rfl⟩:=h
     exact .inl (zw6 (neg:=false) hs e1 e2 hf h1 h2 hb)
    ·cases h
   ·rename_i ks hf
    have hx:=(Option.some.inj htr).symm
    cases x<;>simp only[XOp.wipe,XOp.eqCells.injEq,reduceCtorEq]at hx
    obtain⟨rfl,rfl,rfl,rfl⟩:=hx
    simp only[exOp]at h
    split at h
    ·rename_i xs ys h1 h2
     simp only[Option.map_eq_some_iff,Prod.mk.injEq]at h
     obtain⟨b,hb,rfl,rfl⟩:=h
     exact .inl (zw6 (neg:=true) hs e1 e2 hf h1 h2 hb)
    ·cases h
   ·cases htr
  ·rename_i d x' y' _ _ _ _ ht e1 e2
   split at htr
   ·rename_i k hk
    have hx:=(Option.some.inj htr).symm
    cases x<;>simp only[XOp.wipe,XOp.eqNil.injEq,reduceCtorEq]at hx
    obtain⟨rfl,rfl,rfl⟩:=hx
    simp only[exOp,Option.map_eq_some_iff,Prod.mk.injEq]at h
    obtain⟨b,hb,rfl,rfl⟩:=h
    exact .inl (zw7 (neg:=false) hs e1 ht hk hb)
   ·rename_i k hk
    have hx:=(Option.some.inj htr).symm
    cases x<;>simp only[XOp.wipe,XOp.eqNil.injEq,reduceCtorEq]at hx
    obtain⟨rfl,rfl,rfl⟩:=hx
    simp only[exOp,Option.map_eq_some_iff,Prod.mk.injEq]at h
    obtain⟨b,hb,rfl,rfl⟩:=h
    exact .inl (zw7 (neg:=true) hs e1 ht hk hb)
   ·cases htr
  ·cases htr
 |unOp op t o=>
  simp only[trOp]at htr
  obtain⟨z,hz,hx⟩:=ztw htr
  cases x<;>simp only[XOp.wipe,XOp.un.injEq,reduceCtorEq]at hx
  obtain⟨rfl,rfl⟩:=hx
  simp only[exOp]at h
  split at h
  ·rename_i u hu
   cases hr:valUn op u with
   |none=>rw[hr]at h;cases h
   |some q=>rw[hr]at h;cases h;exact .inl (y_un hs hz hu hr)
  ·cases h
 |convert src dst o=>
  simp only[trOp]at htr
  split at htr
  ·rename_i j k z h1 h2 hz
   simp only[Option.some.injEq]at htr
   cases x<;>simp only[XOp.wipe,XOp.conv.injEq,reduceCtorEq]at htr
   obtain⟨rfl,rfl⟩:=htr
   simp only[exOp]at h
   cases hi:intOf (s.env.ev z)with
   |none=>rw[hi]at h;cases h
   |some i=>rw[hi]at h;cases h;exact .inl (y_conv hs hz h1 h2 hi)
  ·rename_i z h1 h2 hz
   simp only[Option.some.injEq]at htr
   cases x<;>simp only[XOp.wipe,XOp.convS.injEq,reduceCtorEq]at htr
   subst htr
   simp only[exOp]at h
   split at h
   ·rename_i b hb;cases h;exact .inl (zw4 hs hz h1 h2 hb)
   ·cases h
  ·rename_i e z h1 h2 hz
   split at htr
   ·rename_i he
    simp only[Option.some.injEq]at htr
    cases x<;>simp only[XOp.wipe,XOp.strOf.injEq,reduceCtorEq]at htr
    subst htr
    cases h
   ·cases htr
  ·rename_i e z h1 h2 hz
   split at htr
   ·rename_i he
    simp only[Option.some.injEq]at htr
    cases x<;>simp only[XOp.wipe,XOp.bytesOf.injEq,reduceCtorEq]at htr
    subst htr
    cases h
   ·cases htr
  ·cases htr
 |makeFunc fn first caps=>
  cases fn<;>simp only[trOp]at htr<;>first|(cases htr;done)|skip
  rename_i f
  split at htr
  ·rename_i hfirst
   have:first= #[]:=by simpa using hfirst
   subst this
   simp only[Option.map_eq_some_iff]at htr
   obtain⟨cs,hcs,hx⟩:=htr
   cases x<;>simp only[XOp.wipe,XOp.mkClo.injEq,reduceCtorEq]at hx
   obtain⟨rfl,rfl⟩:=hx
   cases h
   exact .inl (zxg hs hcs)
  ·cases htr
 |makeSlice t l c=>
  simp only[trOp]at htr
  split at htr
  ·rename_i e ht
   split at htr
   ·rename_i zs l' c' hz e1 e2
    split at htr
    ·rename_i hc
     simp only[Bool.and_eq_true,decide_eq_true_eq]at hc
     obtain⟨⟨⟨hk,hzl⟩,h0⟩,hone⟩:=hc
     simp only[Option.some.injEq]at htr
     cases x<;>simp only[XOp.wipe,XOp.makeSlice.injEq,reduceCtorEq]at htr
     obtain⟨rfl,rfl,rfl,rfl,rfl⟩:=htr
     simp only[exOp]at h
     split at h
     ·rename_i i j hi hj
      split at h
      ·rename_i hb
       cases h
       exact .inl (zxd hs ht hz hk hone h0 hzl e1 e2 hi hj hb)
      ·cases h
     ·cases h
    ·cases htr
   ·cases htr
  ·cases htr
 |slice t o lo hi mx=>
  cases mx with
  |some m=>
   cases lo with
   |some _=>simp[trOp]at htr
   |none=>cases hi with
    |none=>simp[trOp]at htr
    |some hh=>
     simp only[trOp]at htr
     split at htr
     ·rename_i e z h' m' ht hz h1 h2
      split at htr
      ·rename_i hk
       simp only[Option.some.injEq]at htr
       cases x<;>simp only[XOp.wipe,XOp.slice3.injEq,reduceCtorEq]at htr
       obtain⟨rfl,rfl,rfl,rfl⟩:=htr
       simp only[exOp]at h
       cases hy:exSlice3 (P.cellsOf e) (s.env.ev z) (s.env.ev h') (s.env.ev m')with
       |none=>rw[hy]at h;cases h
       |some y=>rw[hy]at h;cases h;exact .inl (zxk hs hz h1 h2 ht hk hy)
      ·cases htr
     ·cases htr
  |none=>
   simp only[trOp]at htr
   split at htr
   ·rename_i e z lo' hi' ht hz hl hh
    split at htr
    ·rename_i hk
     simp only[Option.some.injEq]at htr
     cases x<;>simp only[XOp.wipe,XOp.slice.injEq,reduceCtorEq]at htr
     obtain⟨rfl,rfl,rfl,rfl⟩:=htr
     simp only[exOp]at h
     cases hy:exSlice (P.cellsOf e) (s.env.ev z) (lo'.map s.env.ev) (hi'.map s.env.ev)with
     |none=>rw[hy]at h;cases h
     |some y=>rw[hy]at h;cases h;exact .inl (zxj hs hz hl hh ht hk hy)
    ·cases htr
   ·rename_i z lo' hi' ht hz hl hh
    simp only[Option.some.injEq]at htr
    cases x<;>simp only[XOp.wipe,XOp.sliceS.injEq,reduceCtorEq]at htr
    obtain⟨rfl,rfl,rfl⟩:=htr
    simp only[exOp]at h
    split at h
    ·rename_i b hb
     cases hbd:bounds b.size b.size (lo'.map s.env.ev) (hi'.map s.env.ev)with
     |none=>rw[hbd]at h;cases h
     |some lh=>obtain⟨l,hh'⟩:=lh;rw[hbd]at h;cases h;exact .inl (zxl hs hz hl hh ht hb hbd)
    ·cases h
   ·cases htr
 |fieldAddr t o f=>
  simp only[trOp]at htr
  split at htr
  ·rename_i fs z ht hz
   split at htr
   ·rename_i fd hf
    split at htr
    ·rename_i hc
     simp only[Bool.and_eq_true,decide_eq_true_eq]at hc
     simp only[Option.some.injEq]at htr
     cases x<;>simp only[XOp.wipe,XOp.fieldA.injEq,reduceCtorEq]at htr
     obtain⟨rfl,rfl⟩:=htr
     simp only[exOp]at h
     refine .inl ?_
     split at h
     ·rename_i row o' heq;cases h;exact zxa hs hz ht hf hc.1 hc.2 (by rw[heq])
     ·rename_i b0 a0 row o' heq;cases h;exact zxa hs hz ht hf hc.1 hc.2 (by rw[heq])
     ·rename_i id o' heq;cases h;exact zxa hs hz ht hf hc.1 hc.2 (by rw[heq])
     ·cases h
    ·cases htr
   ·cases htr
  ·cases htr
 |field t o f=>
  simp only[trOp]at htr
  split at htr
  ·rename_i fs z ht hz
   split at htr
   ·rename_i fd hf
    split at htr
    ·rename_i hc
     simp only[Option.some.injEq]at htr
     cases x<;>simp only[XOp.wipe,XOp.field.injEq,reduceCtorEq]at htr
     obtain⟨rfl,rfl,rfl⟩:=htr
     simp only[exOp]at h
     split at h
     ·rename_i cs heq
      cases hg:getCells (aggOf P fd.type) cs fd.offset with
      |none=>rw[hg]at h;cases h
      |some y=>rw[hg]at h;cases h;exact .inl (zw9 hs hz ht hf hc heq hg)
     ·cases h
    ·cases htr
   ·cases htr
  ·cases htr
 |indexAddr t o i=>
  simp only[trOp]at htr
  split at htr
  ·rename_i e z i' ht hz hi
   split at htr
   ·rename_i hk
    simp only[Option.some.injEq]at htr
    cases x<;>simp only[XOp.wipe,XOp.idxA.injEq,reduceCtorEq]at htr
    obtain⟨rfl,rfl,rfl⟩:=htr
    simp only[exOp]at h
    split at h
    ·cases h
    ·rename_i n hn
     refine .inl ?_
     split at h
     ·rename_i row off len cap heq
      split at h
      ·rename_i hb;cases h;exact y_idxA hs hz hi ht hk hn (by rw[heq];simp only[hb,and_self,if_true])
      ·cases h
     ·rename_i b0 a0 row off len cap heq
      split at h
      ·rename_i hb;cases h;exact y_idxA hs hz hi ht hk hn (by rw[heq];simp only[hb,and_self,if_true])
      ·cases h
     ·rename_i id off sz len cap heq
      split at h
      ·rename_i hb;cases h;exact y_idxA hs hz hi ht hk hn (by rw[heq];simp only[hb,and_self,if_true])
      ·cases h
     ·cases h
   ·cases htr
  ·rename_i len e z i' ht hz hi
   split at htr
   ·rename_i hk
    simp only[Option.some.injEq]at htr
    cases x<;>simp only[XOp.wipe,XOp.idxP.injEq,reduceCtorEq]at htr
    obtain⟨rfl,rfl,rfl,rfl⟩:=htr
    simp only[exOp]at h
    split at h
    ·cases h
    ·rename_i n hn
     refine .inl ?_
     split at h
     ·rename_i hb
      split at h
      ·rename_i row o heq;cases h;exact y_idxP hs hz hi ht hk hn hb (by rw[heq])
      ·rename_i id o heq;cases h;exact y_idxP hs hz hi ht hk hn hb (by rw[heq])
      ·cases h
     ·cases h
   ·cases htr
  ·cases htr
 |index t o i=>
  simp only[trOp]at htr
  split at htr
  ·rename_i z i' ht hz hi
   simp only[Option.some.injEq]at htr
   cases x<;>simp only[XOp.wipe,XOp.idxS.injEq,reduceCtorEq]at htr
   obtain⟨rfl,rfl⟩:=htr
   simp only[exOp]at h
   split at h
   ·rename_i n b hn hb
    split at h
    ·rename_i h0
     split at h
     ·rename_i c hc;cases h;exact .inl (y_idxS hs hz hi ht hn hb h0 hc)
     ·cases h
    ·cases h
   ·cases h
  ·rename_i len e z i' ht hz hi
   split at htr
   ·rename_i hk
    simp only[Option.some.injEq]at htr
    cases x<;>simp only[XOp.wipe,XOp.idxV.injEq,reduceCtorEq]at htr
    cases h
   ·cases htr
  ·cases htr
 |extract o i=>
  simp only[trOp]at htr
  obtain⟨z,hz,hx⟩:=ztw htr
  cases x<;>simp only[XOp.wipe,XOp.extract.injEq,reduceCtorEq]at hx
  obtain⟨rfl,rfl⟩:=hx
  simp only[exOp]at h
  split at h
  ·rename_i vs hv
   cases hy:vs[i]? with
   |none=>rw[hy]at h;cases h
   |some y=>rw[hy]at h;cases h;exact .inl (zw8 hs hz hv hy)
  ·cases h
 |call c=>
  simp only[trOp]at htr
  obtain⟨callee,args,ats⟩:=c
  cases callee with
  |invoke=>simp[trCall]at htr
  |builtin b=>
   obtain⟨al⟩:=args
   obtain⟨tl⟩:=ats
   simp only[trCall]at htr
   split at htr
   ·rename_i o t
    split at htr
    ·rename_i ht
     obtain⟨z,hz,hx⟩:=ztw htr
     cases x<;>simp only[XOp.wipe,XOp.lenS.injEq,reduceCtorEq]at hx
     subst hx
     simp only[exOp]at h
     split at h
     ·rename_i b hb;cases h;exact .inl (y_lenS hs hz ht hb)
     ·cases h
    ·rename_i e ht
     obtain⟨z,hz,hx⟩:=ztw htr
     cases x<;>simp only[XOp.wipe,XOp.len.injEq,reduceCtorEq]at hx
     subst hx
     simp only[exOp,Option.map_eq_some_iff,Prod.mk.injEq]at h
     obtain⟨n,hn,rfl,rfl⟩:=h
     exact .inl (y_len hs hz ht hn)
    ·rename_i kt e ht
     obtain⟨z,hz,hx⟩:=ztw htr
     cases x<;>simp only[XOp.wipe,XOp.lenM.injEq,reduceCtorEq]at hx
     subst hx
     exact .inl (y_lenM hs hz ht h)
    ·cases htr
   ·rename_i o1 o2 ts
    split at htr
    ·rename_i z1 z2 e1 e2
     have hx:=(Option.some.inj htr).symm
     cases x<;>simp only[XOp.wipe,XOp.minmax.injEq,reduceCtorEq]at hx
     obtain⟨rfl,rfl,rfl⟩:=hx
     simp only[exOp]at h
     split at h
     ·rename_i k m j n h1 h2;cases h;exact .inl (zxf (mn:=true) hs e1 e2 h1 h2)
     ·cases h
    ·cases htr
   ·rename_i o1 o2 ts
    split at htr
    ·rename_i z1 z2 e1 e2
     have hx:=(Option.some.inj htr).symm
     cases x<;>simp only[XOp.wipe,XOp.minmax.injEq,reduceCtorEq]at hx
     obtain⟨rfl,rfl,rfl⟩:=hx
     simp only[exOp]at h
     split at h
     ·rename_i k m j n h1 h2;cases h;exact .inl (zxf (mn:=false) hs e1 e2 h1 h2)
     ·cases h
    ·cases htr
   ·rename_i o t
    split at htr
    ·rename_i e ht
     obtain⟨z,hz,hx⟩:=ztw htr
     cases x<;>simp only[XOp.wipe,XOp.cap.injEq,reduceCtorEq]at hx
     subst hx
     simp only[exOp,Option.map_eq_some_iff,Prod.mk.injEq]at h
     obtain⟨n,hn,rfl,rfl⟩:=h
     exact .inl (y_cap hs hz ht hn)
    ·cases htr
   ·rename_i o1 o2 t u
    split at htr
    ·rename_i e d z1 z2 ht hu e1 e2
     split at htr
     ·rename_i hc
      simp only[Bool.and_eq_true,decide_eq_true_eq]at hc
      have hx:=(Option.some.inj htr).symm
      cases x<;>simp only[XOp.wipe,XOp.copy.injEq,reduceCtorEq]at hx
      obtain⟨rfl,rfl,rfl⟩:=hx
      cases h
     ·cases htr
    ·cases htr
   ·rename_i o t
    split at htr
    ·rename_i e z1 ht e1
     split at htr
     ·rename_i zs hz
      split at htr
      ·rename_i hc
       simp only[Bool.and_eq_true,decide_eq_true_eq]at hc
       obtain⟨⟨⟨hk,hzl⟩,h0⟩,hone⟩:=hc
       have hx:=(Option.some.inj htr).symm
       cases x<;>simp only[XOp.wipe,XOp.clear.injEq,reduceCtorEq]at hx
       obtain⟨rfl,rfl,rfl⟩:=hx
       cases h
      ·cases htr
     ·cases htr
    ·cases htr
   ·rename_i o1 o2 t u
    split at htr
    ·rename_i e d z1 z2 ht hu e1 e2
     split at htr
     ·rename_i hc
      simp only[Bool.and_eq_true,decide_eq_true_eq]at hc
      obtain⟨⟨⟨⟨⟨hk,h0⟩,hb0⟩,hz⟩,hd⟩,hu8⟩:=hc
      have hx:=(Option.some.inj htr).symm
      cases x<;>simp only[XOp.wipe,XOp.append.injEq,reduceCtorEq]at hx
      ·obtain⟨rfl,rfl,rfl,rfl⟩:=hx
       exact .inl (zwy hs ht hu hd hk h0 hb0 hz e1 e2 h)
      ·obtain⟨rfl,rfl,rfl,rfl⟩:=hx
       cases h
      ·obtain⟨hc1,hb1,rfl,rfl⟩:=hx
       rw[←hb1]at hu8
       have hu8':isU8 P e=true:=by simpa using hu8
       exact .inl (zwx hcall.byte hs ht hu hd hk h0 hb0 hz hc1.symm hb1.symm hu8' e1 e2 h)
      ·obtain⟨rfl,rfl,rfl,rfl⟩:=hx
       rcases za3 h with h|h
       ·exact .inl (zww hs ht hu hd hk h0 hb0 hz e1 e2 h)
       ·exact .inl (zwy hs ht hu hd hk h0 hb0 hz e1 e2 h)
      ·obtain⟨rfl,rfl,rfl,rfl⟩:=hx
       cases h
     ·cases htr
    ·cases htr
   ·cases htr
  |value fo=>
   cases fo with
   |func f=>
    simp only[trCall,Option.map_eq_some_iff]at htr
    obtain⟨ys,hy,hx⟩:=htr
    cases x<;>simp only[XOp.wipe,XOp.call.injEq,reduceCtorEq]at hx
    rename_i mode fn as
    obtain⟨_,rfl,rfl⟩:=hx
    simp only[exOp]at h
    cases mode with
    |view=>exact .inr (.inl (y_view hcall hs hy h))
    |own=>exact .inr (.inl (y_own hcall hs hy h))
    |share=>exact .inr (.inl (zxi hcall hs hy h))
    |peek=>
     obtain⟨rfl,_,h⟩:=zof h
     exact .inr (.inl (zxi hcall hs hy h))
    |look=>exact .inr (.inl (zxi hcall hs hy (zjn h)))
    |touch=>cases h
    |whole=>exact .inr (.inl (zxo hcall hs hy h))
   |tmp t=>
    simp only[trCall]at htr
    split at htr
    ·rename_i f' as hf hy
     have hx:=(Option.some.inj htr).symm
     cases x<;>simp only[XOp.wipe,XOp.callV.injEq,reduceCtorEq]at hx
     ·obtain⟨rfl,rfl⟩:=hx
      simp only[exOp]at h
      split at h
      ·rename_i fn caps heq;exact .inr (.inl (zw2 hcall hs hf hy heq h))
      ·cases h
     ·cases h
     ·obtain⟨rfl,rfl⟩:=hx
      simp only[exOp]at h
      split at h
      ·rename_i fn caps heq
       exact .inr (.inl (zw3 hcall hs hf hy heq h))
      ·cases h
     ·cases h
    ·cases htr
   |const v=>
    simp only[trCall]at htr
    split at htr
    ·rename_i f' as hf hy
     have hx:=(Option.some.inj htr).symm
     cases x<;>simp only[XOp.wipe,XOp.callV.injEq,reduceCtorEq]at hx
     ·obtain⟨rfl,rfl⟩:=hx
      simp only[exOp]at h
      split at h
      ·rename_i fn caps heq;exact .inr (.inl (zw2 hcall hs hf hy heq h))
      ·cases h
     ·cases h
     ·obtain⟨rfl,rfl⟩:=hx
      simp only[exOp]at h
      split at h
      ·rename_i fn caps heq
       exact .inr (.inl (zw3 hcall hs hf hy heq h))
      ·cases h
     ·cases h
    ·cases htr
   |global g=>simp[trCall,trSrc]at htr
 |range t o=>
  simp only[trOp]at htr
  split at htr
  ·rename_i ht
   obtain⟨z,hz,hx⟩:=ztw htr
   cases x<;>simp only[XOp.wipe,XOp.rangeS.injEq,reduceCtorEq]at hx
   subst hx
   cases h
  ·cases htr
 |next o is=>
  cases is with
  |false=>simp only[trOp,reduceCtorEq]at htr
  |true=>
   simp only[trOp]at htr
   obtain⟨z,hz,hx⟩:=ztw htr
   cases x<;>simp only[XOp.wipe,XOp.nextS.injEq,reduceCtorEq]at hx
   subst hx
   cases h
 |makeMap t r=>
  simp only[trOp]at htr
  split at htr
  ·rename_i kt e r' ht hr
   have hx:=(Option.some.inj htr).symm
   cases x<;>simp only[XOp.wipe,XOp.makeMap.injEq,reduceCtorEq]at hx
   case litA=>cases h
   subst hx
   simp only[exOp]at h
   cases hint:(‹Option Src› :Option Src)with
   |none=>
    rw[hint]at h hr
    cases h
    exact .inl (zxc hs ht hr fun x hx=>by cases hx)
   |some z=>
    rw[hint]at h hr
    simp only at h
    split at h
    ·rename_i i hi
     cases h
     exact .inl (zxc hs ht hr fun x hx=>by cases hx;exact⟨i,hi⟩)
    ·cases h
  ·cases htr
 |lookup t m k ok=>
  simp only[trOp]at htr
  split at htr
  ·rename_i kt e m' k' ht hm hk
   split at htr
   ·rename_i kind zs agg hkt hz
    have hx:=(Option.some.inj htr).symm
    cases x<;>simp only[XOp.wipe,XOp.lookup.injEq,reduceCtorEq]at hx
    case litL=>cases h
    obtain⟨rfl,rfl,rfl,rfl,rfl,rfl⟩:=hx
    exact .inl (zxb hs ht hm hk hkt hz h)
   ·cases htr
  ·cases htr
 |mapUpdate t m k v|insert t m k v=>
  simp only[trOp]at htr
  split at htr
  ·rename_i kt e m' k' v' ht hm hk hv
   split at htr
   ·rename_i kind hkt
    have hx:=(Option.some.inj htr).symm
    cases x<;>simp only[XOp.wipe,XOp.mapSet.injEq,reduceCtorEq]at hx
    case litI=>cases h
    obtain⟨rfl,rfl,rfl,rfl⟩:=hx
    first
     |exact .inl (zxe hs ht hm hk hv hkt h (.inl rfl))
     |exact .inl (zxe hs ht hm hk hv hkt h (.inr rfl))
   ·cases htr
  ·cases htr
 |_=>simp[trOp]at htr
end
end Go.EX

