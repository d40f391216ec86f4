import Derived.Test.YtjdfihnmpmckjaaGreatDoorK5
import Derived.RangeFuncRecord
import Derived.LoopNIn
import Derived.Scope
import Derived.Test.YtjdfihnmpmckjaaGreatDoorK1
import Derived.RangeFuncLeaves
import Derived.Below
set_option linter.unusedVariables false
set_option linter.unusedSimpArgs false
namespace Go.EX
section
variable {num:Names} {P:Program}
variable {call:zac} {N:Nat} {ops:Array Oper} {xs:List XO} {n:Nat} {s0 sF:St} {S:Nat->St}
structure zyw (call:zac) (xs:List XO) (n:Nat) (S:Nat->St) (listed:Array Bool) (t:St) (i:Nat) (x:XO) (len:Nat) (val:Nat->AV) (new:Nat->List AObj) (upd:Nat->Nat->Option AObj):Prop where
 acts:zlu (fun id=>id<(S i).mem.length/\zb6 S n listed id) len val new upd
 still:zcr x.op=false->upd=fun _ _=>none
 eqS:S (i+1)=({ S i with mem:=(S i).mem.upd (upd (S i).mem.length)++new (S i).mem.length }:St).bind x.dst (val (S i).mem.length)
 eqt:za9 call t x.strip=some (({ t with mem:=t.mem.upd (upd t.mem.length)++new t.mem.length }:St).bind x.dst (val t.mem.length))
 stage:zcr x.op=true->(∀j,i<=j->j<n->zdi xs j->listed.getD j true=false)/\(∀j,j<i->zdi xs j->listed.getD j true=true)
theorem zsj{x:XO}{q:Prop}(h:zcm x.op=true\/(zcx x.op=true/\q)):zcr x.op=false:=by
 cases hop:x.op<;>rw[hop]at h<;>first|rfl|skip
 all_goals first|(rcases h with h|⟨h,_⟩<;>cases h;done)|skip
 rename_i m _ _
 cases m<;>first|rfl|(rcases h with h|⟨h,_⟩<;>cases h)
theorem DrawnT.step_of(d:DrawnT call P num N ops xs n s0 sF S)(hcall:zc3 num P call){listed:Array Bool}{t:St}(inv:HeadInv .any ops n listed)(p:zlw xs n S listed t){i:Nat}(hi:i<n)(hr:i∈Region.ready .any ops listed){x:XO}(hx:xs[i]?=some x){o:Oper}(htr:∀fn l,x.op=.call .own fn l->zbm P num o.op=some (XOp.call .view fn l)){C:Cx}{a:Act}(hs:zas num C t a):
  ∃len val new upd,zyw call xs n S listed t i x len val new upd:=by
 have hun:listed.getD i true=false:=(mem_ready.1 hr).1
 have mono:∀i j,i<=j->j<=n->(S i).mem.length<=(S j).mem.length:=fun i j h1 h2=>(d.pre i j h1 h2).1
 have live0:∀id,id<(S 0).mem.length->zb6 S n listed id:=fun id h j hj h1 _=>by have:=mono 0 j (by omega) (by omega);omega
 let K:Nat->Prop:=fun id=>id<(S i).mem.length/\zb6 S n listed id
 have hreads:∀u∈x.reads,t.env.get u=(S i).env.get u/\In K ((S i).env.get u):=by
  intro u hu
  by_cases hw:∃(j:Nat) (y:XO),j<n/\xs[j]?=some y/\y.dst=some u
  ·obtain⟨j,y,hj,hy,hd⟩:=hw
   obtain⟨h3,h4⟩:=(d.one i j x y u hi hj hx hy hd).2 hu
   obtain⟨h5,h6⟩:=p.done j y u hj hy hd (zkx (zi1 hr h4))
   have h7:=d.get u (j+1) i (by omega) (by omega) fun k z h5 h6 h7=>by
    rcases(d.one k j z y u (by omega) hj h7 hy hd).1 with h|h
    ·omega
    ·exact h
   have h8:t.env.get u=(S i).env.get u:=h5.trans h7.symm
   refine⟨h8,fun id hid=>?_⟩
   rw[<-h8]at hid
   obtain⟨h9,h10⟩:=h6 id hid
   have:=mono (j+1) i (by omega) (by omega)
   exact⟨by omega,h9⟩
  ·have hno:∀(j:Nat) (y:XO),j<n->xs[j]?=some y->y.dst≠some u:=fun j y h1 h2 h3=>hw ⟨j,y,h1,h2,h3⟩
   obtain⟨h5,h6⟩:=p.not u fun j y h1 h2 h3=>absurd h3 (hno j y h1 h2)
   have h7:=d.get u 0 i (xcb _) (by omega) fun k z _ h6 h7=>hno k z (by omega) h7
   have h8:t.env.get u=(S i).env.get u:=h5.trans h7.symm
   refine⟨h8,fun id hid=>?_⟩
   rw[<-h8]at hid
   have h9:=h6 id hid
   have:=mono 0 i (by omega) (by omega)
   exact⟨by omega,live0 id h9⟩
 have hwait:∀j,j<n->zid ops 12 j i=true->listed.getD j true=false:=by
  intro j hj hw
  cases hl:listed.getD j true with
  |false=>rfl
  |true=>
   have hjs:j<listed.size:=by rw[inv.size];have:=d.hn;omega
   have h1:listed.getD j false=true:=by simp[hjs]at hl ⊢;exact hl
   have:=zkx (zx5 inv 12 j i hw h1)
   rw[hun]at this;cases this
 have agree:(∀j,i<=j->j<n->zdi xs j->listed.getD j true=false)->(∀j,j<i->zdi xs j->listed.getD j true=true)->zci K (S i).mem t.mem:=by
  intro h1 h2
  have same:∀id,K id->t.mem[id]?=(S i).mem[id]?:=fun id ⟨h3,h4⟩=>p.live id i (by omega) h3 h4 h1 fun j hj ht=>.inl (h2 j hj ht)
  refine⟨same,fun id o' hk ho' j hj=>?_⟩
  obtain⟨h3,_,h4⟩:=p.mem id o' (by rw[same id hk];exact ho') j hj
  exact⟨h4 i (by omega) hk.1 h1,h3⟩
 have atStage:(∀j,i<=j->j<n->zdi xs j->listed.getD j true=false)->(∀j,j<i->zdi xs j->listed.getD j true=true)->∃len val new upd,zyw call xs n S listed t i x len val new upd:=by
  intro h1 h2
  have hAgree:=agree h1 h2
  have hb:∀fn l as r mc,x.op=.call .own fn l->(l.map (S i).env.ev).mapM (frz (S i).mem)=some as->call fn as []=some (r,mc)->(∀id∈r.refs,id<mc.length)/\∀o∈mc,∀id∈o.refs,id<mc.length:=by
   intro fn l as r mc hop has hc
   have hsub:∀u∈l.flatMap za8,u∈x.reads:=fun u hu=>xaj.2 (.inr (xaj.2 (.inl (by rw[hop];exact hu))))
   have hin:InL K (l.map (S i).env.ev):=fun y hy=>by
    obtain⟨q,hq,rfl⟩:=xbd.1 hy
    exact zmf fun u hu=>(hreads u (hsub u (xa2.2 ⟨q,hq,hu⟩))).2
   refine z2s hcall hs (op:=o.op) (l:=l) (fn:=fn) (htr fn l hop) (as:=as) ?_ hc
   rw[zg8 (s:=(S i).env) (t:=t.env) fun u hu=>(hreads u (hsub u hu)).1,zhb _ fun y hy=>zrb hAgree y (hin y hy)]
   exact has
  obtain⟨len,val,new,upd,g1,g2,g3,g4⟩:=z2l (d.quiet i x hi hx) hAgree (fun u hu=>(hreads u hu).1) (fun u hu=>(hreads u hu).2) hb (d.step i x hi hx)
  exact⟨len,val,new,upd,g1,g2,g3,g4,fun _=>⟨h1,h2⟩⟩
 by_cases htc:zcr x.op=true
 ·refine atStage (fun j hj hjn ht=>?_) (fun j hj ht=>?_)
  ·by_cases hji:j=i
   ·rw[hji];exact hun
   ·obtain⟨y,hy,hyt⟩:=ht
    rcases d.ord j i y x hjn hi hji hy hx hyt with h|h|h|h
    ·exact hwait j hjn h.2
    ·omega
    ·rw[htc]at h;cases h.1
    ·have:=h.2.1
     unfold zjz at this
     split at this
     ·rename_i heq;rw[heq]at htc;cases htc
     ·cases this
  ·obtain⟨y,hy,hyt⟩:=ht
   have hji:j≠i:=by omega
   rcases d.ord j i y x (by omega) hi hji hy hx hyt with h|h|h|h
   ·omega
   ·exact z40 inv hr 12 j h.2
   ·rw[htc]at h;cases h.1
   ·have:=h.2.1
    unfold zjz at this
    split at this
    ·rename_i heq;rw[heq]at htc;cases htc
    ·cases this
 ·have htf:zcr x.op=false:=by simpa using htc
  have hq:(zcm x.op||zcx x.op)=true:=by have:=d.quiet i x hi hx;simpa [htf]using this
  by_cases hfree:zl9 x.op=true
  ·obtain⟨len,val,new,h1,h2,h3⟩:=yeh hq hfree (s:=S i) (t:=t) (fun u hu=>(hreads u hu).1) (fun u hu=>(hreads u hu).2) (d.step i x hi hx)
   refine⟨len,val,new,fun _ _=>none,zly h1,fun _=>rfl,?_,?_,fun h=>absurd h htc⟩
   ·rw[zgm];exact h2
   ·rw[zgm,show x.strip=x by cases x;simp only[XO.strip,zxy hq]];exact h3
  ·
   have hord:∀j,j<n->zdi xs j->(j<i/\listed.getD j true=true)\/(i<j/\listed.getD j true=false)\/(i<j/\∃y,xs[j]?=some y/\zjz y.op x.op=true/\∀k z,i<k->k<j->xs[k]?=some z->zcm z.op=true\/(zcx z.op=true/\y.guard=none/\y.op.strict=true)):=by
    intro j hjn ht
    obtain⟨y,hy,hyt⟩:=ht
    have hji:j≠i:=fun h=>by
     subst h
     have:y=x:=xau (hy.symm.trans hx)
     subst this
     exact htc hyt
    rcases d.ord j i y x hjn hi hji hy hx hyt with h|h|h|h
    ·exact .inr (.inl ⟨h.1,hwait j hjn h.2⟩)
    ·exact .inl ⟨h.1,z40 inv hr 12 j h.2⟩
    ·exact absurd h.2 hfree
    ·exact .inr (.inr ⟨h.1,y,hy,h.2⟩)
   by_cases hall:∀j,i<=j->j<n->zdi xs j->listed.getD j true=false
   ·refine atStage hall fun j hj ht=>?_
    rcases hord j (by omega) ht with h|h|h
    ·exact h.2
    ·omega
    ·omega
   ·
    have hex:∃τ y,i<τ/\τ<n/\listed.getD τ true=true/\xs[τ]?=some y/\zcr y.op=true/\zjz y.op x.op=true/\∀k z,i<k->k<τ->xs[k]?=some z->zcm z.op=true\/(zcx z.op=true/\y.guard=none/\y.op.strict=true):=by
     simp only[Classical.not_forall]at hall
     obtain⟨τ,h1,h2,h3,h4⟩:=hall
     have h4:listed.getD τ true=true:=by
      cases h:listed.getD τ true with
      |true=>rfl
      |false=>exact absurd h h4
     rcases hord τ h2 h3 with h|h|⟨h5,y,h6,h7,h8⟩
     ·omega
     ·rw[h4]at h;cases h.2
     ·obtain⟨z,hz,hzt⟩:=h3
      have:z=y:=xau (hz.symm.trans h6)
      subst this
      exact⟨τ,z,h5,h2,h4,h6,hzt,h7,h8⟩
    obtain⟨τ,y,hiτ,hτn,hlτ,hyτ,hyt,hwat,hcal⟩:=hex
    have hothers:∀j,i<j->j<n->j≠τ->zdi xs j->listed.getD j true=false:=by
     intro j h1 h2 h3 h4
     rcases hord j h2 h4 with h|h|⟨h5,z,h6,h7,h8⟩
     ·omega
     ·exact h.2
     ·exfalso
      obtain⟨z',hz',hzt⟩:=h4
      have:z'=z:=xau (hz'.symm.trans h6)
      subst this
      rcases xa1 j τ with h9|h9
      ·rw[zsj (hcal j z' h1 h9 hz')]at hzt;cases hzt
      ·rw[zsj (h8 τ y hiτ (by omega) hyτ)]at hyt;cases hyt
    have hbefore:∀j,j<i->zdi xs j->listed.getD j true=true:=fun j h1 h2=>by
     rcases hord j (by omega) h2 with h|h|h
     ·exact h.2
     ·omega
     ·omega
    obtain⟨agg,u,hop,hld,hlen⟩:=yiq hwat (d.step τ y hτn hyτ)
    have hnone:∀j,i<=j->j<τ->¬zdi xs j:=fun j h1 h2 ⟨z,hz,hzt⟩=>by
     by_cases hji:j=i
     ·subst hji
      have:z=x:=xau (hz.symm.trans hx)
      subst this
      exact htc hzt
     ·rw[zsj (hcal j z (by omega) h2 hz)]at hzt;cases hzt
    have hmemτ:∀id,id<(S i).mem.length->(S τ).mem[id]?=(S i).mem[id]?:=fun id hid=>d.keep hid τ (by omega) (by omega) fun j h1 h2 h3=>absurd h3 (hnone j h1 h2)
    have hu:=hreads u (xaj.2 (.inl (by rw[hop];simp[XOp.reads,za8])))
    have huτ:(S τ).env.get u=(S i).env.get u:=by
     refine d.get u i τ (by omega) (by omega) fun k z h1 h2 h3 h4=>?_
     have hur:u∈x.reads:=xaj.2 (.inl (by rw[hop];simp[XOp.reads,za8]))
     have:=((d.one i k x z u hi (by omega) hx h3 h4).2 hur).1
     omega
    have hnτ:(S i).mem.length<=(S (τ+1)).mem.length:=mono i (τ+1) (by omega) (by omega)
    have hlive:∀id,K id->t.mem[id]?=(S (τ+1)).mem[id]?:=fun id ⟨h3,h4⟩=>by
     refine p.live id (τ+1) (by omega) (by omega) h4 (fun j h5 h6 h7=>hothers j (by omega) h6 (by omega) h7) fun j h5 h6=>?_
     rcases Nat.lt_trichotomy j i with h|h|h
     ·exact .inl (hbefore j h h6)
     ·subst h
      obtain⟨z,hz,hzt⟩:=h6
      have:z=x:=xau (hz.symm.trans hx)
      subst this
      exact absurd hzt htc
     ·by_cases hjτ:j=τ
      ·rw[hjτ];exact .inl hlτ
      ·exfalso
       obtain⟨z,hz,hzt⟩:=h6
       rw[zsj (hcal j z h (by omega) hz)]at hzt;cases hzt
    have hload:loadAt t.mem agg ((S i).env.get u)=loadAt (S i).mem agg ((S i).env.get u):=by
     rw[zwl (s:=(S (τ+1)).mem) fun id hid=>hlive id (hu.2 id hid),<-huτ,hld,huτ]
     exact zwl fun id hid=>hmemτ id (hu.2 id hid).1
    obtain⟨v,hv,hS,ht⟩:=yay hop (K:=K) (s:=S i) (t:=t) (fun u hu=>(hreads u hu).1) hload (fun v hv=>by
     have hA:zci (fun id=>id<(S (τ+1)).mem.length/\zb6 S n listed id) t.mem t.mem:=⟨fun _ _=>rfl,fun id o hk ho j hj=>by
      obtain⟨h3,_,h4⟩:=p.mem id o ho j hj
      exact⟨h4 (τ+1) (by omega) hk.1 fun j h5 h6 h7=>hothers j (by omega) h6 (by omega) h7,h3⟩⟩
     have h9:=zwe hA (fun id hid=>⟨by have:=(hu.2 id hid).1;omega,(hu.2 id hid).2⟩) hv
     intro j hj
     refine⟨?_,(h9 j hj).2⟩
     have hvτ:loadAt (S τ).mem agg ((S τ).env.get u)=some v:=by
      rw[huτ,zwl (s:=(S i).mem) fun id hid=>hmemτ id (hu.2 id hid).1,<-hload];exact hv
     by_cases hcalm:∀k z,i<k->k<τ->xs[k]?=some z->zcm z.op=true
     ·have hmem_i1:(S (i+1)).mem=(S i).mem:=by
       refine d.still (a:=i) (i+1) (by omega) (by omega) fun j z h1 h2 h3=>?_
       have hji:j=i:=by omega
       subst hji
       have:z=x:=xau (h3.symm.trans hx)
       subst this
       rw[hop];rfl
      have hme:(S τ).mem=(S i).mem:=by
       rw[<-hmem_i1]
       exact d.still (a:=i+1) τ (by omega) (by omega) fun j z h1 h2 h3=>hcalm j z (by omega) h2 h3
      rcases hlen.1 with hlen|hlen
      ·have:=(h9 j hj).1
       rw[hlen,hme]at this
       exact this
      ·have:=hlen v hvτ j hj
       rw[hme]at this
       exact this
     ·simp only[Classical.not_forall]at hcalm
      obtain⟨k,z,h1,h2,h3,h4⟩:=hcalm
      rcases hcal k z h1 h2 h3 with h5|⟨_,h6,h7⟩
      ·exact absurd h5 h4
      ·have h8:=hlen.2 h6 h7 v hvτ j hj
       have h10:=(d.pre 0 τ (by omega) (by omega)).2
       have h11:=p.k0
       have h12:=mono 0 i (by omega) (by omega)
       omega) (d.step i x hi hx)
    refine⟨0,fun _=>v,fun _=>[],fun _ _=>none,zly (zml hv),fun _=>rfl,?_,?_,fun h=>absurd h htc⟩
    ·rw[zgm,xas];exact hS
    ·rw[zgm,xas,show x.strip=x by cases x;simp only[XO.strip,zxy hq]];exact ht
end
section
variable {num:Names} {P:Program}
variable {call:zac} {N:Nat} {ops:Array Oper} {xs:List XO} {n:Nat} {s0 sF:St} {S:Nat->St}
theorem DrawnT.part_step(d:DrawnT call P num N ops xs n s0 sF S)(hcall:zc3 num P call){listed:Array Bool}{t:St}(inv:HeadInv .any ops n listed)(p:zlw xs n S listed t){i:Nat}(hi:i<n)(hr:i∈Region.ready .any ops listed){x:XO}(hx:xs[i]?=some x){o:Oper}(htr:∀fn l,x.op=.call .own fn l->zbm P num o.op=some (XOp.call .view fn l)){C:Cx}{a:Act}(hs:zas num C t a):
  ∃t1,za9 call t x.strip=some t1/\∀D a',zas num D t1 a'->∃t2 E,E.w=D.w/\Later num t1.k D t1.mem a' E t2 a'/\zlw xs n S (listed.setIfInBounds i true) t2:=by
 have hun:listed.getD i true=false:=(mem_ready.1 hr).1
 have pre:=fun (i j:Nat) (h1:i<=j) (h2:j<=n)=>d.pre i j h1 h2
 have mono:∀i j,i<=j->j<=n->(S i).mem.length<=(S j).mem.length:=fun i j h1 h2=>(pre i j h1 h2).1
 obtain⟨len,val,new,upd,st⟩:=d.step_of hcall inv p hi hr hx htr hs
 have hmk:=st.acts.made
 have hS:=st.eqS
 refine⟨_,st.eqt,fun D a' hD=>?_⟩
 have hlen:=p.len
 rw[hlen]at hD ⊢
 generalize hM:(S n).mem.length=M at hD hlen ⊢
 have hpos1:(S (i+1)).mem.length=(S i).mem.length+len:=by rw[hS,zeb];simp[hmk.size,ze9]
 have hpM:(S i).mem.length+len<=M:=by rw[<-hpos1,<-hM];exact mono (i+1) n (by omega) (xap _)
 generalize hl:zh9 M (S i).mem.length len=l
 have hlget:∀id,id<M->l[id]?=some (if (S i).mem.length<=id/\id<(S i).mem.length+len then M+(id-(S i).mem.length)else id):=fun id h=>by rw[<-hl];exact zsm h
 have hllen:l.length=M:=by rw[<-hl];simp[zh9]
 have hlnd:l.Nodup:=by rw[<-hl];exact zsn ..
 generalize hf:place l=f
 have hf1:∀j,j<len->f (M+j)=some ((S i).mem.length+j):=fun j hj=>by rw[<-hf,<-hl];exact z4h hj hpM
 have hf2:∀id,id<M->¬((S i).mem.length<=id/\id<(S i).mem.length+len)->f id=some id:=fun id h1 h2=>by rw[<-hf,<-hl];exact z4i h1 h2
 have hnr:∀id,zb6 S n listed id->¬((S i).mem.length<=id/\id<(S i).mem.length+len):=fun id h ⟨h1,h2⟩=>by
  have:=h i hi h1 (by omega)
  rw[hun]at this;cases this
 have hf3:∀id,zb6 S n listed id->id<M->f id=some id:=fun id h1 h2=>hf2 id h2 (hnr id h1)
 have hiM:(S i).mem.length<=M:=by omega
 have hfK:∀id,(id<(S i).mem.length/\zb6 S n listed id)->f id=some id:=fun id hk=>hf3 id hk.2 (by have:=hk.1;omega)
 obtain⟨hv,hn⟩:=hmk.ren M (S i).mem.length f hf1 hfK
 have hu:=st.acts.renU M (S i).mem.length f hf1 hfK
 have h0i:(S 0).mem.length<=(S i).mem.length:=mono 0 i (by omega) (by omega)
 have hk0:=p.k0
 have hkt:=p.k
 generalize ht1:(({ t with mem:=t.mem.upd (upd M)++new M }:St).bind x.dst (val M))=t1 at hD ⊢
 have ht1k:t1.k=(S 0).k:=by rw[<-ht1,zl0];exact hkt
 have ht1m:t1.mem=t.mem.upd (upd M)++new M:=by rw[<-ht1,zeb]
 have ht1e:∀u,t1.env.get u=if x.dst=some u then val M else t.env.get u:=fun u=>by rw[<-ht1,zgp]
 have hlat:=z2v hD hlnd (fun j hj=>by
  rw[ht1k]at hj
  rw[hlget j (by omega),if_neg (by omega)]) (by rw[ht1k,hllen];omega)
 rw[hf]at hlat
 refine⟨_,D.pick l,rfl,hlat,?_⟩
 have hset:∀j,j≠i->(listed.setIfInBounds i true).getD j true=listed.getD j true:=fun j hj=>getD_set_ne true (Ne.symm hj)
 have hseti:(listed.setIfInBounds i true).getD i true=true:=by
  rw[xbn,Array.getElem?_setIfInBounds]
  split<;>(try split)<;>simp_all
 have up1:∀id,zb6 S n listed id->zb6 S n (listed.setIfInBounds i true) id:=fun id h j hj h1 h2=>by
  by_cases hji:j=i
  ·subst hji;exact hseti
  ·rw[hset j hji];exact h j hj h1 h2
 have up2:∀id,(S i).mem.length<=id->id<(S i).mem.length+len->zb6 S n (listed.setIfInBounds i true) id:=fun id h1 h2 j hj h3 h4=>by
  by_cases hji:j=i
  ·subst hji;exact hseti
  ·exfalso
   rcases xa1 j i with h|h
   ·have:=mono (j+1) i (by omega) (by omega);omega
   ·have:=mono (i+1) j (by omega) (by omega);omega
 have down:∀id,zb6 S n (listed.setIfInBounds i true) id->¬((S i).mem.length<=id/\id<(S i).mem.length+len)->zb6 S n listed id:=fun id h hno j hj h1 h2=>by
  by_cases hji:j=i
  ·subst hji;exact absurd ⟨h1,by omega⟩ hno
  ·rw[<-hset j hji];exact h j hj h1 h2
 have hnewM:(new M).length=len:=hmk.size M
 have htchset:∀j,zdi xs j->j≠i->(listed.setIfInBounds i true).getD j true=listed.getD j true:=fun j _ h=>hset j h
 have hTi:zdi xs i↔zcr x.op=true:=⟨fun ⟨y,hy,h⟩=>by
  have:y=x:=xau (hy.symm.trans hx)
  subst this;exact h,fun h=>⟨x,hx,h⟩⟩
 have hupd:∀p id o,upd p id=some o->zcr x.op=true:=fun q id o h=>by
  by_cases htc:zcr x.op=true
  ·exact htc
  ·rw[st.still (by simpa using htc)]at h;cases h
 have get1:∀id,id<M->¬((S i).mem.length<=id/\id<(S i).mem.length+len)->(Mem.pickAll t1.mem l)[id]?=some ((upd (S i).mem.length id).getD ((t.mem[id]?).getD .dead)):=by
  intro id hid hno
  rw[ht1m,Mem.pickAll,xar,hlget id hid,if_neg hno]
  simp only[xao]
  rw[xac (by rw[ze9];omega),zpz _ _ (by omega)]
  simp only[xa0,xaf]
  rw[hf,<-hu id]
  cases hq:upd M id with
  |some o=>rfl
  |none=>
   simp only[xci,xcz]
   have hq2:t.mem[id]?=some t.mem[id]:=xaa (by omega)
   rw[hq2,xa0]
   refine zhe fun j hj=>?_
   obtain⟨h1,h2,_⟩:=p.mem id _ hq2 j hj
   exact hf3 j h1 (by omega)
 have get2:∀j,j<len->(Mem.pickAll t1.mem l)[(S i).mem.length+j]?=(new (S i).mem.length)[j]?:=by
  intro j hj
  rw[ht1m,Mem.pickAll,xar,hlget _ (by omega),if_pos ⟨by omega,by omega⟩]
  simp only[xao]
  rw[show M+((S i).mem.length+j-(S i).mem.length)=M+j by omega,xag (by rw[ze9];omega),ze9,show M+j-t.mem.length=j by omega]
  rw[<-hn,xar,hf]
  have hq:(new M)[j]?=some (new M)[j]:=xaa (by omega)
  rw[hq];rfl
 have new_get:∀j,j<len->(new (S i).mem.length)[j]?=(S (i+1)).mem[(S i).mem.length+j]?:=by
  intro j hj
  rw[hS,zeb,xag (by rw[ze9];omega),ze9,show(S i).mem.length+j-(S i).mem.length=j by omega]
 have getS:∀id,id<(S i).mem.length->(S (i+1)).mem[id]?=some ((upd (S i).mem.length id).getD (((S i).mem[id]?).getD .dead)):=by
  intro id hid
  rw[hS,zeb,xac (by rw[ze9];exact hid),zpz _ _ hid]
 have envKeep:∀u,(∀id∈(t.env.get u).refs,zb6 S n listed id/\id<M)->(t.env.get u).ren f=t.env.get u:=fun u h=>zmv fun id hid=>hf3 id (h id hid).1 (h id hid).2
 have behind:∀id q,zcr x.op=true->q<=n->id<(S (i+1)).mem.length->i+1<=q->(∀j,j<q->zdi xs j->(listed.setIfInBounds i true).getD j true=true\/(S j).mem.length<=id)->(S q).mem[id]?=(S (i+1)).mem[id]?:=by
  intro id q htc hq hid hiq hL
  refine d.keep hid q hiq hq fun j h1 h2 h3=>?_
  exfalso
  rcases hL j h2 h3 with h|h
  ·rw[hset j (by omega)]at h
   have:=(st.stage htc).1 j (by omega) (by omega) h3
   rw[h]at this;cases this
  ·have:=mono (i+1) j h1 (by omega);omega
 refine⟨?_,ht1k,hk0,fun id q hq hid hlv hU hL=>?_,fun id hid hno=>?_,fun j y u hj hy hd hlj=>?_,fun u hu=>?_,fun id o' ho' j hj=>?_,fun τ hτ hTτ hlτ id hid hne=>?_⟩
 ·show(Mem.pickAll _ l).length=_
  rw[Mem.pickAll,xam,hllen,hM]
 ·show(Mem.pickAll _ l)[id]?=_
  have hidM:id<M:=by have:=mono q n hq (xap _);omega
  by_cases hin:(S i).mem.length<=id/\id<(S i).mem.length+len
  ·have hiq:i+1<=q:=by
    rcases xa1 i q with h|h
    ·exact h
    ·have:=mono q i h (by omega);omega
   have h1:=get2 (id-(S i).mem.length) (by omega)
   have h2:=new_get (id-(S i).mem.length) (by omega)
   rw[show(S i).mem.length+(id-(S i).mem.length)=id by omega]at h1 h2
   rw[h1,h2]
   refine(d.keep (by omega) q hiq hq fun j h3 h4 h5=>?_).symm
   rcases hL j h4 h5 with h|h
   ·rw[hset j (by omega)]at h
    refine Classical.byContradiction fun hne=>?_
    have:=p.hand j (by omega) h5 h id (by have:=mono (i+1) j h3 (by omega);omega) hne
    exact hnr id this hin
   ·have:=mono (i+1) j h3 (by omega);omega
  ·rw[get1 id hidM hin]
   cases hq2:upd (S i).mem.length id with
   |some o'=>
    have htc:=hupd _ _ _ hq2
    have hK:=(st.acts.inU _ _ _ hq2).1
    have hiq:i+1<=q:=by
     rcases xa1 i q with h|h
     ·exact h
     ·have:=hU i h hi (hTi.2 htc)
      rw[hseti]at this;cases this
    rw[behind id q htc hq (by have:=hK.1;omega) hiq hL,getS id hK.1,hq2];rfl
   |none=>
    simp only[xcz]
    have hq3:t.mem[id]?=some ((t.mem[id]?).getD .dead):=by rw[xaa (by omega)];rfl
    rw[<-hq3]
    have hlv':=down id hlv hin
    by_cases htc:zcr x.op=true
    ·have hiq:i+1<=q:=by
      rcases xa1 i q with h|h
      ·exact h
      ·have:=hU i h hi (hTi.2 htc)
       rw[hseti]at this;cases this
     rcases xa1 id (S i).mem.length with h0|h0
     ·rw[behind id q htc hq (by omega) hiq hL,getS id h0,hq2,xcz]
      rw[p.live id i (by omega) h0 hlv' (fun j h1 h2 h3=>(st.stage htc).1 j h1 h2 h3) fun j h1 h2=>.inl ((st.stage htc).2 j h1 h2)]
      rw[xaa h0];rfl
     ·refine p.live id q hq hid hlv' (fun j h1 h2 h3=>?_) fun j h1 h2=>?_
      ·rw[<-hset j (by omega)];exact hU j h1 h2 h3
      ·by_cases hji:j=i
       ·subst hji;exact .inr h0
       ·rw[<-hset j hji];exact hL j h1 h2
    ·have hni:∀j,zdi xs j->j≠i:=fun j h1 h2=>by subst h2;exact htc (hTi.1 h1)
     refine p.live id q hq hid hlv' (fun j h1 h2 h3=>?_) fun j h1 h2=>?_
     ·rw[<-hset j (hni j h3)];exact hU j h1 h2 h3
     ·rw[<-hset j (hni j h2)];exact hL j h1 h2
 ·rw[hM]at hid
  have hin:¬((S i).mem.length<=id/\id<(S i).mem.length+len):=fun h=>hno (up2 id h.1 h.2)
  refine(get1 id hid hin).trans ?_
  have hnl:¬zb6 S n listed id:=fun h=>hno (up1 id h)
  have:upd (S i).mem.length id=none:=by
   cases hq:upd (S i).mem.length id with
   |none=>rfl
   |some o'=>exact absurd (st.acts.inU _ _ _ hq).1.2 hnl
  rw[this,xcz,p.dead id (by omega) hnl];rfl
 ·show(Env.ren f _).get u=_/\_
  have heq:∀v,(Env.ren f t1.env).get u=v↔(if x.dst=some u then val M else t.env.get u).ren f=v:=fun v=>by rw[zjh,ht1e]
  by_cases hji:j=i
  ·subst hji
   have:y=x:=xau (hy.symm.trans hx)
   subst this
   have h1:(Env.ren f t1.env).get u=val (S j).mem.length:=by
    rw[heq,if_pos hd];exact hv
   refine⟨h1.trans (by rw[hS,zgp,if_pos hd]),fun id hid=>?_⟩
   have hid':id∈(val (S j).mem.length).refs:=by rw[<-h1];exact hid
   rcases hmk.inV _ id hid' with h|h
   ·exact⟨up1 id h.2,by have:=h.1;omega⟩
   ·exact⟨up2 id h.1 h.2,by omega⟩
  ·have hne:x.dst≠some u:=by
    rcases(d.one i j x y u hi hj hx hy hd).1 with h|h
    ·exact absurd h.symm hji
    ·exact h
   obtain⟨h2,h3⟩:=p.done j y u hj hy hd (by rw[<-hset j hji];exact hlj)
   have h1:(Env.ren f t1.env).get u=t.env.get u:=by
    rw[heq,if_neg hne]
    exact envKeep u fun id hid=>⟨(h3 id hid).1,by have:=(h3 id hid).2;have:=mono (j+1) n (by omega) (xap _);omega⟩
   refine⟨h1.trans h2,fun id hid=>?_⟩
   have hid':id∈(t.env.get u).refs:=by rw[<-h1];exact hid
   exact⟨up1 id (h3 id hid').1,(h3 id hid').2⟩
 ·have hne:x.dst≠some u:=fun h=>by
   have:=hu i x hi hx h
   rw[hseti]at this;cases this
  obtain⟨h2,h3⟩:=p.not u fun j y h3 h4 h5=>by
   have hji:j≠i:=fun h=>by
    subst h
    have:y=x:=xau (h4.symm.trans hx)
    subst this
    exact hne h5
   rw[<-hset j hji]
   exact hu j y h3 h4 h5
  have h1:(Env.ren f t1.env).get u=t.env.get u:=by
   rw[zjh,ht1e,if_neg hne]
   exact envKeep u fun id hid=>⟨fun j hj h1 _=>by have:=mono 0 j (by omega) (by omega);have:=h3 id hid;omega,by have:=h3 id hid;omega⟩
  exact⟨h1.trans h2,fun id hid=>h3 id (by rw[<-h1];exact hid)⟩
 ·have ho':(Mem.pickAll t1.mem l)[id]?=some o':=ho'
  have hid:id<M:=by
   have h1:id<(Mem.pickAll t1.mem l).length:=(xab.1 ho').1
   have h2:(Mem.pickAll t1.mem l).length=M:=by rw[Mem.pickAll,xam,hllen]
   omega
  by_cases hin:(S i).mem.length<=id/\id<(S i).mem.length+len
  ·have h1:=get2 (id-(S i).mem.length) (by omega)
   rw[show(S i).mem.length+(id-(S i).mem.length)=id by omega]at h1
   have hmem:o'∈new (S i).mem.length:=xah (h1.symm.trans ho')
   have hbig:∀i',i'<=n->id<(S i').mem.length->(S i).mem.length+len<=(S i').mem.length:=fun i' hi' h2=>by
    rcases xa1 i i' with h3|h3
    ·have:=mono (i+1) i' (by omega) hi';omega
    ·have:=mono i' i h3 (by omega);omega
   rcases hmk.inN _ o' hmem j hj with h|h
   ·exact⟨up1 j h.2,by have:=h.1;omega,fun i' hi' h2 _=>by have:=h.1;have:=hbig i' hi' h2;omega⟩
   ·exact⟨up2 j h.1 h.2,by omega,fun i' hi' h2 _=>by have:=hbig i' hi' h2;omega⟩
  ·rw[get1 id hid hin]at ho'
   cases hq:upd (S i).mem.length id with
   |some o2=>
    rw[hq,xa0]at ho'
    cases ho'
    have htc:=hupd _ _ _ hq
    have hbig:∀i',i'<=n->(∀τ,i'<=τ->τ<n->zdi xs τ->(listed.setIfInBounds i true).getD τ true=false)->(S i).mem.length+len<=(S i').mem.length:=fun i' hi' h2=>by
     rcases xa1 i i' with h3|h3
     ·have:=mono (i+1) i' (by omega) hi';omega
     ·have:=h2 i h3 hi (hTi.2 htc)
      rw[hseti]at this;cases this
    rcases(st.acts.inU _ _ _ hq).2 j hj with h|h
    ·exact⟨up1 j h.2,by have:=h.1;omega,fun i' hi' _ h2=>by have:=h.1;have:=hbig i' hi' h2;omega⟩
    ·exact⟨up2 j h.1 h.2,by omega,fun i' hi' _ h2=>by have:=hbig i' hi' h2;omega⟩
   |none=>
    rw[hq,xcz]at ho'
    have hq3:t.mem[id]?=some ((t.mem[id]?).getD .dead):=by rw[xaa (by omega)];rfl
    obtain⟨h1,h2,h3⟩:=p.mem id o' (hq3.trans ho') j hj
    refine⟨up1 j h1,by omega,fun i' hi' h4 h5=>h3 i' hi' h4 fun τ h6 h7 h8=>?_⟩
    by_cases hτi:τ=i
    ·rw[hτi];exact hun
    ·rw[<-hset τ hτi];exact h5 τ h6 h7 h8
 ·by_cases hτi:τ=i
  ·subst hτi
   refine up1 id ?_
   cases hq:upd (S τ).mem.length id with
   |some o2=>exact(st.acts.inU _ _ _ hq).1.2
   |none=>
    exfalso
    refine hne ?_
    rw[getS id hid,hq,xcz,xaa hid];rfl
  ·rw[hset τ hτi]at hlτ
   exact up1 id (p.hand τ hτ hTτ hlτ id hid hne)
theorem DrawnT.ready_some(d:DrawnT call P num N ops xs n s0 sF S){listed:Array Bool}(hsz:listed.size=ops.size)(hl:left n listed≠0):Region.ready .any ops listed≠[]:=by
 have hex:∃i,i<n/\listed.getD i true=false:=by
  obtain⟨i,hi,h⟩:=List.countP_pos_iff.1 (Nat.pos_of_ne_zero hl)
  exact⟨i,xa9.1 hi,by simpa using h⟩
 have:∃i,(i<n/\listed.getD i true=false)/\∀j,j<i->¬(j<n/\listed.getD j true=false):=by
  obtain⟨i,hi⟩:=hex
  induction i using Nat.strongRecOn with
  |_ i ih=>
   by_cases h:∃j,j<i/\(j<n/\listed.getD j true=false)
   ·obtain⟨j,h1,h2⟩:=h;exact ih j h1 h2
   ·exact⟨i,hi,fun j hj h'=>h ⟨j,hj,h'⟩⟩
 obtain⟨i,⟨hi,hl⟩,hmin⟩:=this
 have hlt:i<ops.size:=by have:=d.hn;omega
 have ho:ops[i]?=some ops[i]:=xbr hlt
 have:i∈Region.ready .any ops listed:=by
  refine mem_ready.2 ⟨hl,_,ho,fun e he hb=>?_⟩
  have h1:=d.low i _ hi ho e he hb
  have h2:listed.getD e.on true=true:=by
   cases h3:listed.getD e.on true with
   |true=>rfl
   |false=>exact absurd ⟨by omega,h3⟩ (hmin e.on h1)
  have h4:e.on<listed.size:=by omega
  simp[h4]at h2 ⊢;exact h2
 intro h
 rw[h]at this;cases this
theorem DrawnT.all(d:DrawnT call P num N ops xs n s0 sF S){listed:Array Bool}{t:St}(p:zlw xs n S listed t)(hall:∀i,i<n->listed.getD i true=true):t.mem=(S n).mem/\(∀u,t.env.get u=(S n).env.get u)/\t.k=(S n).k:=by
 refine⟨xbf fun id=>?_,fun u=>?_,p.k.trans (d.pre 0 n (xcb _) (xap _)).2.symm⟩
 ·rcases xa1 id (S n).mem.length with h|h
  ·exact p.live id n (xap _) h (fun j hj _ _=>hall j hj) (fun j h1 h2 _=>by omega) fun j h1 _=>.inl (hall j h1)
  ·rw[xaq h,xaq (by rw[p.len];exact h)]
 ·by_cases hw:∃(j:Nat) (y:XO),j<n/\xs[j]?=some y/\y.dst=some u
  ·obtain⟨j,y,hj,hy,hd⟩:=hw
   rw[(p.done j y u hj hy hd (hall j hj)).1]
   exact(d.get u (j+1) n (by omega) (xap _) fun k z h5 h6 h7=>by
    rcases(d.one k j z y u h6 hj h7 hy hd).1 with h|h
    ·omega
    ·exact h).symm
  ·rw[(p.not u fun j y h1 h2 h3=>absurd ⟨j,y,h1,h2,h3⟩ hw).1]
   exact(d.get u 0 n (xcb _) (xap _) fun k z _ h6 h7 h8=>hw ⟨k,z,h6,h7,h8⟩).symm
theorem DrawnT.any{ro:Option Nat}(d:DrawnT call P num N ops xs n s0 sF S)(htail:n=ops.size\/(n<ops.size/\Region.sinkB .any ops n=true/\Region.chainB .any ops n=true))(hseq:Region.seqB .any ops (ops.size-n) n (ziw ops.size n)=true)(hcall:zc3 num P call){Q:Exit->Act->World->Prop}{k:Nat}{C:Cx}{m:Mem}{a0:Act}(hN:N<=a0.tmps.size)(hQ:∀D a',Later num k C m a0 D sF a'->Q .normal a' D.w):
  ∀(c:Nat) (listed:Array Bool) (a:Act) (D:Cx) (t:St),left n listed=c->HeadInv .any ops n listed->zlw xs n S listed t->Later num k C m a0 D t a->wpAnyIn (fz ro) 0 P .any ops Q (c+(ops.size-n)) listed a D.w:=by
 intro c
 induction c with
 |zero=>
  intro listed a D t hl inv p hlat
  rw[xaw]
  have hall:∀i,i<n->listed.getD i true=true:=by
   intro i hi
   cases h:listed.getD i true with
   |true=>rfl
   |false=>
    have:=List.countP_eq_zero.1 hl i (xa9.2 hi)
    simp[h]at this
  have hhead:=z1e inv.size d.hn hall inv.tail
  have hdl:(ops.toList.drop n).length=ops.size-n:=by simp
  obtain⟨h1,h2,h3⟩:=d.all p hall
  have hSn:Later num k C m a0 D (S n) a:=
   ⟨⟨by rw[<-h1];exact hlat.rep.mem,fun u=>by rw[<-h2];exact hlat.rep.env u,by rw[<-h1,<-h3];exact hlat.rep.k⟩,by rw[<-h1];exact hlat.step,by rw[<-h3];exact hlat.k,hlat.size,hlat.marks⟩
  have htr:zf0 P num N ops (ops.toList.drop n)=(xs.drop n).map XO.wipe:=by
   refine zx1 _ _ (by simp[d.len]) fun i o hi=>?_
   rw[xbv]at hi
   obtain⟨x,hx,h⟩:=d.tr (n+i) o (by simpa using hi)
   exact⟨x,by rw[xbv];exact hx,h⟩
  have hw:=zrl (ro:=ro) hcall (Q:=Q) (ops.toList.drop n) (xs.drop n) htr hSn.rep (by rw[hSn.size];exact hN) d.rest fun E a'' hl'=>hQ E a'' (hSn.trans (by rw[hSn.k]at hl';exact hl'))
  have:=zx8 (md:=.any) (Q':=Q) (ops.toList.drop n) n listed a D.w (fun j=>by simp[xbv]) (by rw[hdl,hhead];exact hseq) hw
  rwa [hdl]at this
 |succ c ih=>
  intro listed a D t hl inv p hlat
  rw[show c+1+(ops.size-n)=(c+(ops.size-n))+1 by omega]
  refine⟨fun h=>absurd h (d.ready_some inv.size (by omega)),fun i hi=>?_⟩
  obtain⟨hun,oi,hoi,_⟩:=mem_ready.1 hi
  have hisz:i<ops.size:=(xal.1 hoi).1
  have hin:i<n:=by
   rcases htail with h|⟨h1,h2,h3⟩
   ·omega
   ·rcases xa1 i n with h|h
    ·exact h
    ·obtain⟨j,hj,h4⟩:=List.countP_pos_iff.1 (show 0<left n listed by omega)
     exact absurd hi (tail_waits h2 h3 h1 inv _ j rfl (xa9.1 hj) (by simpa using h4) i h)
  obtain⟨x,hx,htr⟩:=d.tr i oi hoi
  obtain⟨t1,h1,hnext⟩:=d.part_step hcall inv p hin hi hx (fun fn l hop=>by rw[(zsq htr).1];simp only[XO.wipe,hop,XOp.wipe]) hlat.rep
  unfold wpOpIn
  simp only[hoi]
  refine zms hcall (x:=x.strip) (by rw[XO.strip_wipe];exact htr) hlat.rep (by rw[hlat.size];exact hN) h1 fun E a' hl' _=>?_
  obtain⟨t2,F,hw,hl2,p2⟩:=hnext E a' hl'.rep
  rw[<-hw]
  refine ih _ a' F t2 (by have:=zrk hin hun;omega) (inv.set hi hin) p2 ?_
  rw[hlat.k]at hl'
  rw[hl'.k]at hl2
  exact(hlat.trans hl').trans hl2
theorem DrawnT.owner(d:DrawnT call P num N ops xs n s0 sF S){id:Nat}(h0:(S 0).mem.length<=id):∀m,m<=n->id<(S m).mem.length->∃j,j<m/\(S j).mem.length<=id/\id<(S (j+1)).mem.length:=by
 intro m
 induction m with
 |zero=>intro _ h;omega
 |succ m ih=>
  intro hm h
  rcases xa1 id (S m).mem.length with h1|h1
  ·obtain⟨j,h2,h3⟩:=ih (by omega) h1
   exact⟨j,by omega,h3⟩
  ·exact⟨m,by omega,h1,h⟩
theorem DrawnT.start(d:DrawnT call P num N ops xs n s0 sF S){C:Cx}{a:Act}(hs:zas num C s0 a):zlw xs n S (Array.replicate ops.size false) { s0 with mem:=s0.mem++List.replicate ((S n).mem.length-s0.mem.length) AObj.dead }:=by
 have hpre:=d.pre 0 n (xcb _) (xap _)
 have mono:∀i j,i<=j->j<=n->(S i).mem.length<=(S j).mem.length:=fun i j h1 h2=>(d.pre i j h1 h2).1
 have hS0:=d.S0
 have hn:=hs.mem.len
 have hfalse:∀j,j<n->(Array.replicate ops.size false).getD j true=false:=fun j hj=>by
  have hlt:j<ops.size:=by have:=d.hn;omega
  simp[hlt]
 have live0:∀id,id<(S 0).mem.length->zb6 S n (Array.replicate ops.size false) id:=fun id h j hj h1 _=>by have:=mono 0 j (by omega) (by omega);omega
 have hb:(S 0).mem.length=s0.mem.length:=by rw[hS0]
 refine⟨by simp;omega,by rw[hS0],by rw[hS0];exact hs.k,fun id q hq hid hlv hU hL=>?_,fun id hid hno=>?_,fun i x u hi hx hd hl=>?_,fun u _=>?_,fun id o ho j hj=>?_,fun τ hτ _ hl=>?_⟩
 ·rcases xa1 id (S 0).mem.length with h|h
  ·rw[d.keep (a:=0) h q (xcb _) hq fun j _ h2 h3=>?_,hS0]
   ·exact xac (by omega)
   ·exfalso
    rcases hL j h2 h3 with h4|h4
    ·rw[hfalse j (by omega)]at h4;cases h4
    ·have:=mono 0 j (xcb _) (by omega);omega
  ·obtain⟨j,hj,h1,h2⟩:=d.owner h q hq hid
   have:=hlv j (by omega) h1 h2
   rw[hfalse j (by omega)]at this;cases this
 ·have h:(S 0).mem.length<=id:=Nat.le_of_not_lt fun h=>hno (live0 id h)
  show(s0.mem++_)[id]?=_
  rw[xag (by omega),List.getElem?_replicate,if_pos (by omega)]
 ·rw[hfalse i hi]at hl;cases hl
 ·rw[hS0]
  exact⟨rfl,fun id hid=>by have:=zkm (hs.env u) id hid;omega⟩
 ·have hsp:s0.mem[id]?=some o\/o=.dead:=by
   rcases xa1 id s0.mem.length with h|h
   ·left;rw[<-ho];exact(xac h).symm
   ·right
    have ho':(s0.mem++List.replicate ((S n).mem.length-s0.mem.length) AObj.dead)[id]?=some o:=ho
    rw[xag h]at ho'
    exact xby (xah ho')
  rcases hsp with h|rfl
  ·have hjl:=zw0 (hs.mem.obj id o h) j hj
   exact⟨live0 j (by omega),by have:=hpre.1;omega,fun i hi _ _=>by have:=mono 0 i (by omega) hi;omega⟩
  ·simp[AObj.refs]at hj
 ·rw[hfalse τ hτ]at hl;cases hl
theorem z8l{call:zac}{N:Nat}{ops:Array Oper}{xs:List XO}{n:Nat}{s0 sF:St}(htr:zf0 P num N ops ops.toList=xs.map XO.wipe)(hlen:xs.length=ops.size)(hok:zvr ops xs n=true)(h:zbn call s0 xs=some sF):
  ∃S,DrawnT call P num N ops xs n s0 sF S/\(n=ops.size\/(n<ops.size/\Region.sinkB .any ops n=true/\Region.chainB .any ops n=true))/\Region.seqB .any ops (ops.size-n) n (ziw ops.size n)=true:=by
 unfold zvr at hok
 simp only[xae]at hok
 obtain⟨⟨⟨⟨⟨h1,h2⟩,h3⟩,h4⟩,h5⟩,h6⟩:=hok
 have htail:n=ops.size\/(n<ops.size/\Region.sinkB .any ops n=true/\Region.chainB .any ops n=true):=by
  simp only[xbu,beq_iff_eq,xae,decide_eq_true_eq]at h4
  rcases h4 with h|⟨⟨h,h'⟩,h''⟩
  ·exact .inl h
  ·exact .inr ⟨h,h',h''⟩
 have hn':n<=ops.size:=by rcases htail with h|h<;>omega
 have hS:∀i,∃t,zbn call s0 (xs.take i)=some t/\zbn call t (xs.drop i)=some sF:=zv0 xs s0 sF h
 obtain⟨S,hS⟩:∃S:Nat->St,∀i,zbn call s0 (xs.take i)=some (S i)/\zbn call (S i) (xs.drop i)=some sF:=⟨fun i=>Classical.choose (hS i),fun i=>xcn (hS i)⟩
 have go:∀(i:Nat) x,xs[i]?=some x->za9 call (S i) x=some (S (i+1)):=by
  intro i x hx
  have e1:=(hS i).1
  have e2:=(hS (i+1)).1
  have:xs.take (i+1)=xs.take i++[x]:=by
   rw[xbg,hx];rfl
  rw[this]at e2
  exact zvz _ x s0 _ _ e1 e2
 refine⟨S,⟨hlen,hn',fun i o ho=>zx0 ops.toList xs htr h i o (by simpa using ho),?_,?_,?_,?_,?_,fun i x _ hx=>go i x hx,(hS n).2⟩,htail,h5⟩
 ·intro i x hi hx
  refine xai.1 h1 x (xah (i:=i) ?_)
  rw[xce,if_pos hi];exact hx
 ·intro i j x y d hi hj hx hy hyd
  have:=xai.1 (xai.1 h2 i (xa9.2 hi)) j (xa9.2 hj)
  simp only[hx,hy,hyd,xae,xbu,beq_iff_eq,bne_iff_ne,xcd,List.contains_eq_mem,decide_eq_false_iff_not,decide_eq_true_eq]at this
  refine⟨this.1,fun hr=>?_⟩
  rcases this.2 with h|h
  ·exact absurd hr h
  ·exact h
 ·intro i o hi ho e he hb
  have:=xai.1 h3 i (xa9.2 hi)
  simp only[ho]at this
  have:=xb9.1 this e he
  simpa [hb]using this
 ·intro i j x y hi hj hij hx hy htc
  have:=xai.1 (xai.1 h6 i (xa9.2 hi)) j (xa9.2 hj)
  simp only[hx,hy,htc,xbu,xae,beq_iff_eq,decide_eq_true_eq,xcd,Bool.true_eq_false,false_or]at this
  rcases this with h|(((h|h)|h)|h)
  ·exact absurd h hij
  ·exact .inr (.inr (.inl h))
  ·exact .inl h
  ·exact .inr (.inl h)
  ·refine .inr (.inr (.inr ⟨h.1.1,h.1.2,fun k z h1 h2 hz=>?_⟩))
   have:=xai.1 h.2 k (xa9.2 (by omega))
   simp only[hz,xbu,xae,decide_eq_true_eq,Option.isNone_iff_eq_none]at this
   rcases this with(h|h)|h
   ·omega
   ·omega
   ·exact h
 ·have:=(hS 0).1
  simp[zbn]at this
  exact this.symm
end
theorem zy5{s:St}{sz bytes:Nat}{a x r:AV}{s':St}(h:za0 s sz bytes a x=some (r,s')):
  ∃f:Nat->Option Nat,s'.env=s.env.ren f/\s'.k=s.k/\∀e:Env,za0 { s with env:=e } sz bytes a x=some (r,{ s' with env:=e.ren f }):=by
 unfold za0 at h
 cases hel:elems s.mem sz x with
 |none=>simp[hel]at h
 |some nn=>
  obtain⟨n,news⟩:=nn
  simp only[hel]at h
  split at h
  ·split at h
   ·cases h
    refine⟨some,(zcf _).symm,rfl,fun e=>?_⟩
    simp[za0,zcf, *]
   ·split at h
    ·simp only[fresh,xaf,xay]at h
     obtain⟨rfl,rfl⟩:=h
     refine⟨some,(zcf _).symm,rfl,fun e=>?_⟩
     simp[za0,zcf,fresh, *]
    ·cases h
  ·split at h
   ·cases h
    refine⟨some,(zcf _).symm,rfl,fun e=>?_⟩
    simp[za0,zcf, *]
   ·split at h
    ·cases h
    ·split at h
     ·split at h
      ·simp only[fresh,xaf,xay]at h
       obtain⟨rfl,rfl⟩:=h
       refine⟨some,(zcf _).symm,rfl,fun e=>?_⟩
       simp[za0,zcf,fresh, *]
      ·cases h
     ·cases h
  ·split at h
   ·split at h
    ·split at h
     ·split at h
      ·simp only[xaf,xay]at h
       obtain⟨rfl,rfl⟩:=h
       refine⟨some,(zcf _).symm,rfl,fun e=>?_⟩
       simp[za0,zcf, *]
      ·cases h
     ·split at h
      ·split at h
       ·simp only[fresh,xaf,xay]at h
        obtain⟨rfl,rfl⟩:=h
        refine⟨some,(zcf _).symm,rfl,fun e=>?_⟩
        simp[za0,zcf,fresh, *]
       ·cases h
      ·cases h
    ·cases h
   ·cases h
  ·split at h
   ·split at h
    ·split at h
     ·split at h
      ·simp only[xaf,xay]at h
       obtain⟨rfl,rfl⟩:=h
       rw[zxu]
       refine⟨zix _,rfl,rfl,fun e=>?_⟩
       simp[za0,zxu, *]
      ·cases h
     ·cases h
    ·cases h
   ·cases h
  ·cases h
theorem zu9{s:St}{sz bytes:Nat}{a x r:AV}{s':St}(h:zb8 s sz bytes a x=some (r,s')):
  ∃f:Nat->Option Nat,s'.env=s.env.ren f/\s'.k=s.k/\∀e:Env,zb8 { s with env:=e } sz bytes a x=some (r,{ s' with env:=e.ren f }):=by
 refine⟨some,?_⟩
 unfold zb8 at h
 cases hel:zbr s.mem sz x with
 |none=>simp[hel]at h
 |some nn=>
  obtain⟨n,news⟩:=nn
  simp only[hel]at h
  split at h
  ·cases h
  ·split at h
   ·split at h
    ·simp only[fresh,xaf,xay]at h
     obtain⟨rfl,rfl⟩:=h
     exact⟨(zcf _).symm,rfl,fun e=>by simp[zb8,zcf,fresh, *]⟩
    ·cases h
   ·split at h
    ·rename_i hsz
     subst hsz
     split at h
     ·split at h
      ·simp only[xaf,xay]at h
       obtain⟨rfl,rfl⟩:=h
       exact⟨(zcf _).symm,rfl,fun e=>by simp[zb8,zcf, *]⟩
      ·cases h
     ·cases h
    ·cases h
   ·split at h
    ·rename_i hsz
     obtain⟨rfl,hroom⟩:=hsz
     split at h
     ·split at h
      ·simp only[xaf,xay]at h
       obtain⟨rfl,rfl⟩:=h
       exact⟨(zcf _).symm,rfl,fun e=>by simp[zb8,zcf, *]⟩
      ·cases h
     ·cases h
    ·rename_i hno
     split at h
     ·rename_i hsz
      subst hsz
      have hno2:¬_:=fun q=>hno ⟨rfl,q⟩
      split at h
      ·split at h
       ·simp only[fresh,xaf,xay]at h
        obtain⟨rfl,rfl⟩:=h
        exact⟨(zcf _).symm,rfl,fun e=>by simp[zb8,zcf,fresh, *]⟩
       ·cases h
      ·cases h
     ·cases h
   ·cases h
theorem zn3{s:St}{sz bytes:Nat}{a x r:AV}{s':St}(h:zaz s sz bytes a x=some (r,s')):
  ∃f:Nat->Option Nat,s'.env=s.env.ren f/\s'.k=s.k/\∀e:Env,zaz { s with env:=e } sz bytes a x=some (r,{ s' with env:=e.ren f }):=by
 unfold zaz at h
 split at h
 ·rename_i q hq
  cases h
  obtain⟨f,h1,h2,h3⟩:=zy5 hq
  exact⟨f,h1,h2,fun e=>by simp only[zaz,h3 e]⟩
 ·rename_i hq
  obtain⟨f,h1,h2,h3⟩:=zu9 h
  refine⟨f,h1,h2,fun e=>?_⟩
  have hn:za0 { s with env:=e } sz bytes a x=none:=by
   cases hc:za0 { s with env:=e } sz bytes a x with
   |none=>rfl
   |some q=>
    obtain⟨q1,q2⟩:=q
    obtain⟨_,_,_,h4⟩:=zy5 hc
    have:=h4 s.env
    rw[show({ ({ s with env:=e }:St)with env:=s.env }:St)=s from rfl,hq]at this
    cases this
  simp only[zaz,hn,h3 e]
theorem z6g{s:St}{sz bytes:Nat}{a x r:AV}{s':St}(h:zdj s sz bytes a x=some (r,s')):
  ∃f:Nat->Option Nat,s'.env=s.env.ren f/\s'.k=s.k/\∀e:Env,zdj { s with env:=e } sz bytes a x=some (r,{ s' with env:=e.ren f }):=by
 unfold zdj at h
 split at h
 ·rename_i ho
  split at h
  ·rename_i q hq
   cases h
   obtain⟨f,h1,h2,h3⟩:=zu9 hq
   exact⟨f,h1,h2,fun e=>by simp only[zdj,ho,if_true,h3 e]⟩
  ·rename_i hq
   obtain⟨f,h1,h2,h3⟩:=zn3 h
   refine⟨f,h1,h2,fun e=>?_⟩
   have hn:zb8 { s with env:=e } sz bytes a x=none:=by
    cases hc:zb8 { s with env:=e } sz bytes a x with
    |none=>rfl
    |some q=>
     obtain⟨q1,q2⟩:=q
     obtain⟨_,_,_,h4⟩:=zu9 hc
     have:=h4 s.env
     rw[show({ ({ s with env:=e }:St)with env:=s.env }:St)=s from rfl,hq]at this
     cases this
   simp only[zdj,ho,if_true,hn,h3 e]
 ·rename_i ho
  obtain⟨f,h1,h2,h3⟩:=zn3 h
  exact⟨f,h1,h2,fun e=>by simp only[zdj,if_neg ho,h3 e]⟩
theorem z39{call:zac}{s:St}{fn:Nat}{args:List AV}{r:AV}{s':St}(h:zb2 call s fn args=some (r,s')):
  ∃f:Nat->Option Nat,s'.env=s.env.ren f/\s'.k=s.k/\∀e:Env,zb2 call { s with env:=e } fn args=some (r,{ s' with env:=e.ren f }):=by
 unfold zb2 at h
 dsimp only at h
 split at h
 ·cases h
 ·rename_i hok
  split at h
  ·cases h
  ·rename_i rv mc hc
   simp only[xaf,xay]at h
   obtain⟨rfl,rfl⟩:=h
   refine⟨_,rfl,rfl,fun e=>?_⟩
   unfold zb2
   dsimp only
   rw[if_neg hok]
   simp only[hc]
   rfl
theorem yhh{s:St}{c n:Nat}{a x r:AV}{s':St}(h:zen s c n a x=some (r,s')):
  ∃f:Nat->Option Nat,s'.env=s.env.ren f/\s'.k=s.k/\∀e:Env,zen { s with env:=e } c n a x=some (r,{ s' with env:=e.ren f }):=by
 have one:∀{o:Option Mem} {r:AV} {s':St},(o.map fun m=>(AV.junk,{ s with mem:=m }))=some (r,s')->s'.env=s.env.ren some/\s'.k=s.k/\∀e:Env,(o.map fun m=>(AV.junk,{ ({ s with env:=e }:St)with mem:=m }))=some (r,{ s' with env:=e.ren some }):=by
  intro o r s' h
  cases o with
  |none=>cases h
  |some m=>
   cases h
   exact⟨(zcf _).symm,rfl,fun e=>by simp[zcf]⟩
 refine⟨some,?_⟩
 unfold zen at h
 split at h
 ·split at h
  ·split at h
   ·obtain⟨h1,h2,h3⟩:=one h
    exact⟨h1,h2,fun e=>by simpa [zen, *]using h3 e⟩
   ·cases h
  ·split at h
   ·split at h
    ·obtain⟨h1,h2,h3⟩:=one h
     exact⟨h1,h2,fun e=>by simpa [zen, *]using h3 e⟩
    ·cases h
   ·cases h
 ·split at h
  ·obtain⟨h1,h2,h3⟩:=one h
   exact⟨h1,h2,fun e=>by simpa [zen, *]using h3 e⟩
  ·cases h
 ·cases h
theorem zm5{s t:St}(hm:t.mem=s.mem)(hk:t.k=s.k):t={ s with env:=t.env }:=by cases t;cases s;cases hm;cases hk;rfl
theorem yhq{call:zac}{x:XOp}(hc:zpv x=true){s t:St}(hm:t.mem=s.mem)(hk:t.k=s.k)(he:∀n∈x.takes,t.env.get n=s.env.get n){r:AV}{s':St}(h:zag call s x=some (r,s')):
  ∃f:Nat->Option Nat,s'.env=s.env.ren f/\s'.k=s.k/\zag call t x=some (r,{ s' with env:=t.env.ren f }):=by
 have calm:zcm x=true->(∀n∈x.reads,t.env.get n=s.env.get n)->∃f:Nat->Option Nat,s'.env=s.env.ren f/\s'.k=s.k/\zag call t x=some (r,{ s' with env:=t.env.ren f }):=by
  intro hcalm hr
  obtain⟨rfl,h2,_⟩:=zoa (K:=fun _=>True) hcalm (t:=t) ⟨fun _ _=>by rw[hm],fun _ _ _ _ _ _=>trivial⟩ hr (fun _ _ _ _=>trivial) h
  refine⟨some,(zcf _).symm,rfl,?_⟩
  rw[h2,zcf,<-zm5 hm hk]
 have e1:∀y,(∀n∈za8 y,n∈x.takes)->t.env.ev y=s.env.ev y:=fun y hy=>zji fun n hn=>he n (hy n hn)
 unfold zpv at hc
 split at hc
 ·rename_i n a y
  have ha:=e1 a (by simp[XOp.takes];intros;simp[*])
  have hy:=e1 y (by simp[XOp.takes];intros;simp[*])
  refine⟨some,?_⟩
  simp only[zag,ha,hy,hm]at h ⊢
  clear calm e1
  split at h
  ·split at h
   ·simp only[xad,xay]at h
    obtain⟨m,hm',rfl,rfl⟩:=h
    refine⟨(zcf _).symm,rfl,?_⟩
    simp only[*,if_true,xao,zcf]
   ·cases h
  ·cases h
 ·rename_i c n a y
  have ha:=e1 a (by simp[XOp.takes];intros;simp[*])
  have hy:=e1 y (by simp[XOp.takes];intros;simp[*])
  simp only[zag,ha,hy]at h ⊢
  obtain⟨f,h1,h2,h3⟩:=yhh h
  exact⟨f,h1,h2,by rw[zm5 hm hk];exact h3 t.env⟩
 ·rename_i n b a y
  have ha:=e1 a (by simp[XOp.takes];intros;simp[*])
  have hy:=e1 y (by simp[XOp.takes];intros;simp[*])
  simp only[zag,ha,hy]at h ⊢
  obtain⟨f,h1,h2,h3⟩:=zn3 h
  exact⟨f,h1,h2,by rw[zm5 hm hk];exact h3 t.env⟩
 ·cases h
 ·cases h
 ·rename_i n b a y
  have ha:=e1 a (by simp[XOp.takes];intros;simp[*])
  have hy:=e1 y (by simp[XOp.takes];intros;simp[*])
  simp only[zag,ha,hy]at h ⊢
  obtain⟨f,h1,h2,h3⟩:=z6g h
  exact⟨f,h1,h2,by rw[zm5 hm hk];exact h3 t.env⟩
 ·rename_i g l
  have hg:=e1 g (by simp[XOp.takes];intros;simp[*])
  have hl:l.map t.env.ev=l.map s.env.ev:=zg8 fun n hn=>he n (by simp only[XOp.takes];exact xaj.2 (.inr hn))
  simp only[zag,hg,hl]at h ⊢
  clear calm e1
  split at h
  ·obtain⟨f,h1,h2,h3⟩:=z39 h
   refine⟨f,h1,h2,?_⟩
   have h4:=h3 t.env
   rw[<-zm5 hm hk]at h4
   simp only[*]
  ·cases h
 ·rename_i kd m k v
  have h1:=e1 m (by simp[XOp.takes];intros;simp[*])
  have h2:=e1 k (by simp[XOp.takes];intros;simp[*])
  have h3:=e1 v (by simp[XOp.takes];intros;simp[*])
  refine⟨some,?_⟩
  simp only[zag,h1,h2,h3,hm]at h ⊢
  clear calm e1
  split at h
  ·split at h
   ·split at h
    ·split at h
     ·cases h
      refine⟨(zcf _).symm,rfl,?_⟩
      simp only[*,if_true,zcf]
     ·cases h
      refine⟨(zcf _).symm,rfl,?_⟩
      simp only[*,if_true,zcf]
     ·cases h
    ·cases h
   ·cases h
  ·cases h
 ·rename_i fn l
  have hl:l.map t.env.ev=l.map s.env.ev:=zg8 fun n hn=>he n (by simp only[XOp.takes,XOp.reads];exact hn)
  simp only[zag,hl]at h ⊢
  obtain⟨f,h1,h2,h3⟩:=z39 h
  exact⟨f,h1,h2,by rw[zm5 hm hk];exact h3 t.env⟩
 ·cases h
 ·refine calm hc fun n hn=>he n ?_
  unfold XOp.takes
  split<;>first|exact hn|(cases hc;done)|(rename_i hx _;simp[XOp.reads]at hn)
theorem z3f(v:AV):v.ren some=v:=zjx v
theorem z4j{call:zac}{x:XO}(hc:zpv x.op=true){s t:St}(hm:t.mem=s.mem)(hk:t.k=s.k)(he:∀n∈x.takes,t.env.get n=s.env.get n){s':St}(h:za9 call s x=some s'):
  ∃(f:Nat->Option Nat) (v:AV) (t':St),za9 call t x=some t'/\t'.mem=s'.mem/\t'.k=s'.k/\s'.k=s.k/\(∀u,s'.env.get u=if x.dst=some u then v else(s.env.get u).ren f)/\∀u,t'.env.get u=if x.dst=some u then v else(t.env.get u).ren f:=by
 have r1:∀n∈x.op.takes,n∈x.takes:=fun n hn=>xaj.2 (.inl hn)
 have r3:∀u b,x.guard=some (u,b)->u∈x.takes:=fun u b hg=>xaj.2 (.inr (by simp[hg]))
 rcases zis h with⟨v,s1,hx,rfl,hg⟩|⟨rfl,u,b,hg,hcc⟩
 ·obtain⟨f,h1,h2,h3⟩:=yhq hc hm hk (fun n hn=>he n (r1 n hn)) hx
  have hbm:∀(u:St),(u.bind x.dst v).mem=u.mem:=fun u=>by cases x.dst<;>rfl
  have hbk:∀(u:St),(u.bind x.dst v).k=u.k:=fun u=>by cases x.dst<;>rfl
  refine⟨f,v,({ s1 with env:=t.env.ren f }:St).bind x.dst v,?_,by rw[hbm,hbm],by rw[hbk,hbk],by rw[hbk,h2],fun u=>by rw[zgp,h1,zjh],fun u=>by rw[zgp,zjh]⟩
  unfold za9
  rcases hg with hg|⟨u,b,hg,hcc⟩
  ·simp only[hg,h3,xao];cases x.dst<;>rfl
  ·have:t.env.get u=.imm (.val (.bool b)):=by rw[he u (r3 u b hg)];exact hcc
   simp only[hg,this,h3,xao,if_true];cases x.dst<;>rfl
 ·have hbm:∀(u:St),(u.bind x.dst (.tup [])).mem=u.mem:=fun u=>by cases x.dst<;>rfl
  have hbk:∀(u:St),(u.bind x.dst (.tup [])).k=u.k:=fun u=>by cases x.dst<;>rfl
  refine⟨some,.tup [],t.bind x.dst (.tup []),?_,by rw[hbm,hbm,hm],by rw[hbk,hbk,hk],by rw[hbk],fun u=>by rw[zgp,z3f],fun u=>by rw[zgp,z3f]⟩
  unfold za9
  rcases hcc with⟨c,hcc,hne⟩|hcc
  ·have:t.env.get u=.imm (.val (.bool c)):=by rw[he u (r3 u b hg)];exact hcc
   simp only[hg,this,hne,if_false]
   cases x.dst<;>rfl
  ·have:t.env.get u=.tup []:=by rw[he u (r3 u b hg)];exact hcc
   simp only[hg,this]
   cases x.dst<;>rfl
section
variable {num:Names} {P:Program}
variable {call:zac} {N:Nat} {ops:Array Oper} {xs:List XO} {n:Nat} {s0 sF:St} {S:Nat->St}
theorem zwj{i:Nat}(h:ze4 ops xs n i=true):∃(x:XO) (y d:Nat),xs[i]?=some x/\x.op=.mv (.t y)/\x.dst=some d/\x.guard=none/\y≠d/\
  ∀(j:Nat) z,n<=j->xs[j]?=some z->z.dst≠some d/\z.dst≠some y/\(d∈z.takes->Region.waitsFor .any ops j i=true):=by
 unfold ze4 at h
 split at h
 ·rename_i x hx
  split at h
  ·rename_i y d hop hd hg
   simp only[xae,bne_iff_ne,ne_eq,xai,xa9,xbu,decide_eq_true_eq]at h
   obtain⟨hyd,hall⟩:=h
   refine⟨x,y,d,hx,hop,hd,hg,hyd,fun j z hj hz=>?_⟩
   have hjl:j<xs.length:=(xab.1 hz).1
   rcases hall j hjl with h|h
   ·omega
   ·rw[hz]at h
    simp only[xae,bne_iff_ne,ne_eq,xbu,xcd,List.contains_eq_mem,decide_eq_false_iff_not]at h
    obtain⟨h1,h2,h3⟩:=h
    refine⟨h1,h2,fun hd=>?_⟩
    rcases h3 with h3|h3
    ·exact absurd hd h3
    ·exact h3
  ·cases h
 ·cases h
structure Floats (ops:Array Oper) (xs:List XO) (n:Nat):Prop where
 strong:∀(j:Nat) z,n<=j->xs[j]?=some z->zpv z.op=true
 sink:∀i,i<n->ze4 ops xs n i=false->∃j,j<=n/\i<j/\Region.waitsFor .any ops j i=true/\(j=n\/ze4 ops xs n j=false)
 lt:n<ops.size
 chain:Region.chainB .any ops n=true
 low:∀(i:Nat) o,ops[i]?=some o->∀e∈o.after,Region.binds .any e=true->e.on<i
theorem zzh(h:Region.chainB .any ops n=true){t:Nat}(hn:n<t)(ht:t<ops.size):Region.waitsFor .any ops t (t-1)=true:=by
 have:=xai.1 h t (xa9.2 ht)
 simp only[xbu,decide_eq_true_eq]at this
 rcases this with h|h
 ·omega
 ·exact h
theorem Floats.waits(fl:Floats ops xs n){listed:Array Bool}(inv:HeadInv .any ops n listed):∀(d i:Nat),n-i=d->i<n->ze4 ops xs n i=false->listed.getD i true=false->∀t,n<=t->t ∉ Region.ready .any ops listed:=by
 intro d
 induction d using Nat.strongRecOn with
 |_ d ih=>
  intro i hd hi hlate hun t ht hr
  have htlt:t<ops.size:=by
   obtain⟨_,ot,hot,_⟩:=mem_ready.1 hr
   exact(xal.1 hot).1
  by_cases htn:t=n
  ·subst htn
   obtain⟨j,hj1,hj2,hw,hj3⟩:=fl.sink i hi hlate
   by_cases hjt:j=t
   ·subst hjt
    have:=zi1 hr hw
    rw[getD_both hun]at this;cases this
   ·have hjl:ze4 ops xs t j=false:=by rcases hj3 with h|h;exact absurd h hjt;exact h
    cases hl:listed.getD j false with
    |true=>
     obtain⟨oj,hoj,e,he,hb,hon⟩:=Region.waitsFor_spec hw
     have h2:=inv.closed j oj hoj hl e he hb
     rw[hon,getD_both hun]at h2
     cases h2
    |false=>
     have hjs:j<listed.size:=by rw[inv.size];omega
     exact ih (t-j) (by omega) j rfl (by omega) hjl (getD_in hjs hl) t (xap _) hr
  ·have:=zi1 hr (zzh fl.chain (by omega) htlt)
   rw[getD_both (inv.tail (t-1) (by omega) (by omega))]at this
   cases this
theorem Floats.ready_some(fl:Floats ops xs n){listed:Array Bool}(hsz:listed.size=ops.size)(hl:left ops.size listed≠0):Region.ready .any ops listed≠[]:=by
 have hex:∃i,i<ops.size/\listed.getD i true=false:=by
  obtain⟨i,hi,h⟩:=List.countP_pos_iff.1 (Nat.pos_of_ne_zero hl)
  exact⟨i,xa9.1 hi,by simpa using h⟩
 have:∃i,(i<ops.size/\listed.getD i true=false)/\∀j,j<i->¬(j<ops.size/\listed.getD j true=false):=by
  obtain⟨i,hi⟩:=hex
  induction i using Nat.strongRecOn with
  |_ i ih=>
   by_cases h:∃j,j<i/\(j<ops.size/\listed.getD j true=false)
   ·obtain⟨j,h1,h2⟩:=h;exact ih j h1 h2
   ·exact⟨i,hi,fun j hj h'=>h ⟨j,hj,h'⟩⟩
 obtain⟨i,⟨hi,hl⟩,hmin⟩:=this
 have ho:ops[i]?=some ops[i]:=xbr hi
 have:i∈Region.ready .any ops listed:=by
  refine mem_ready.2 ⟨hl,_,ho,fun e he hb=>?_⟩
  have h1:=fl.low i _ ho e he hb
  have h2:listed.getD e.on true=true:=by
   cases h3:listed.getD e.on true with
   |true=>rfl
   |false=>exact absurd ⟨by omega,h3⟩ (hmin e.on h1)
  have h4:e.on<listed.size:=by omega
  simp[h4]at h2 ⊢;exact h2
 intro h
 rw[h]at this;cases this
structure z5s (ops:Array Oper) (xs:List XO) (n:Nat) (S:Nat->St) (listed:Array Bool) (t:St) (k:Nat):Prop where
 lo:n<=k
 hi:k<=ops.size
 size:listed.size=ops.size
 head:∀i,i<n->ze4 ops xs n i=false->listed.getD i true=true
 done:∀i,n<=i->i<k->listed.getD i true=true
 todo:∀i,k<=i->i<ops.size->listed.getD i true=false
 mem:t.mem=(S k).mem
 kk:t.k=(S k).k
 env:∀u,(∀(i:Nat) x,i<n->ze4 ops xs n i=true->xs[i]?=some x->x.dst=some u->listed.getD i true=true)->t.env.get u=(S k).env.get u
theorem Drawn.moved(d:Drawn call P num N ops xs n s0 sF S fun _=>false)(fl:Floats ops xs n){i:Nat}(hi:i<n){x:XO}{y dd:Nat}(hx:xs[i]?=some x)(hop:x.op=.mv (.t y))(hd:x.dst=some dd)(hg:x.guard=none)(hyd:y≠dd)
  (hno:∀(j:Nat) z,n<=j->xs[j]?=some z->z.dst≠some dd/\z.dst≠some y):∀k,n<=k->k<=ops.size->(S k).env.get dd=(S k).env.get y:=by
 intro k
 induction k with
 |zero=>intro h1 _;omega
 |succ k ih=>
  intro h1 h2
  rcases xa1 k n with hk|hk
  ·have hkn:k+1=n:=by omega
   rw[hkn]
   have h3:(S (i+1)).env.get dd=(S i).env.get y/\(S (i+1)).env.get y=(S i).env.get y:=by
    have:=d.step i x hi hx
    simp only[za9,hg,hop,zag,xao,hd,xaf]at this
    rw[<-this]
    simp[Env.get,Env.ev,hyd]
   have h4:(S n).env.get dd=(S (i+1)).env.get dd:=d.get dd (i+1) n (by omega) (xap _) fun j z h5 h6 h7=>by
    rcases(d.one j i z x dd h6 hi h7 hx hd).1 with h|h
    ·omega
    ·exact h
   have h5:(S n).env.get y=(S (i+1)).env.get y:=d.get y (i+1) n (by omega) (xap _) fun j z h5 h6 h7 hz=>by
    have:=(d.one i j x z y hi h6 hx h7 hz).2 (by simp[XO.reads,hop,XOp.reads,za8])
    omega
   rw[h4,h5,h3.1,h3.2]
  ·have ih':=ih hk (by omega)
   have hkl:k<xs.length:=by rw[d.len];omega
   have hz:xs[k]?=some xs[k]:=xaa hkl
   obtain⟨f,v,t',_,_,_,_,h6,_⟩:=z4j (fl.strong k _ hk hz) rfl rfl (fun _ _=>rfl) (d.go k _ hz)
   obtain⟨h7,h8⟩:=hno k _ hk hz
   rw[h6,h6,if_neg h7,if_neg h8,ih']
theorem Drawn.behind{ro:Option Nat}(d:Drawn call P num N ops xs n s0 sF S fun _=>false)(fl:Floats ops xs n)(hcall:zc3 num P call){Q:Exit->Act->World->Prop}{k0:Nat}{C:Cx}{m:Mem}{a0:Act}(hN:N<=a0.tmps.size)(hQ:∀D a',Later num k0 C m a0 D sF a'->Q .normal a' D.w):
  ∀(c:Nat) (listed:Array Bool) (a:Act) (D:Cx) (t:St) (k:Nat),left ops.size listed=c->z5s ops xs n S listed t k->Later num k0 C m a0 D t a->wpAnyIn (fz ro) 0 P .any ops Q c listed a D.w:=by
 intro c
 induction c with
 |zero=>
  intro listed a D t k hl b hlat
  have hall:∀i,i<ops.size->listed.getD i true=true:=by
   intro i hi
   cases h:listed.getD i true with
   |true=>rfl
   |false=>
    have:=List.countP_eq_zero.1 hl i (xa9.2 hi)
    simp[h]at this
  have hk:k=ops.size:=by
   rcases xa1 k ops.size with h|h
   ·have:=b.todo k (xap _) h
    rw[hall k h]at this;cases this
   ·have:=b.hi;omega
  subst hk
  refine⟨?_,?_⟩
  ·rw[List.eq_nil_iff_forall_not_mem]
   intro i hi
   obtain⟨h1,o,ho,_⟩:=mem_ready.1 hi
   rw[hall i (xal.1 ho).1]at h1;cases h1
  ·have hfin:S ops.size=sF:=by rw[<-d.len];exact d.fin
   have henv:∀u,t.env.get u=sF.env.get u:=fun u=>by rw[<-hfin];exact b.env u fun i x hi _ _ _=>hall i (by have:=d.hn;omega)
   have hmem:=b.mem
   have hkk:=b.kk
   rw[hfin]at hmem hkk
   exact hQ D a ⟨⟨by rw[<-hmem];exact hlat.rep.mem,fun u=>by rw[<-henv];exact hlat.rep.env u,by rw[<-hmem,<-hkk];exact hlat.rep.k⟩,by rw[<-hmem];exact hlat.step,by rw[<-hkk];exact hlat.k,hlat.size,hlat.marks⟩
 |succ c ih=>
  intro listed a D t k hl b hlat
  refine⟨fun h=>absurd h (fl.ready_some b.size (by omega)),fun i hi=>?_⟩
  obtain⟨hun,oi,hoi,_⟩:=mem_ready.1 hi
  have hisz:i<ops.size:=(xal.1 hoi).1
  obtain⟨x,hx,htr⟩:=d.tr i oi rfl hoi
  have hleft:left ops.size (listed.setIfInBounds i true)=c:=by have:=zrk hisz hun;omega
  rcases xa1 i n with hin|hin
  ·
   have hlate:ze4 ops xs n i=true:=by
    cases h:ze4 ops xs n i with
    |true=>rfl
    |false=>rw[b.head i hin h]at hun;cases hun
   obtain⟨x',y,dd,hx',hop,hd,hg,hyd,hno⟩:=zwj hlate
   rw[hx]at hx'
   cases hx'
   have hy:t.env.get y=(S k).env.get y:=b.env y fun j z hj hlj hz hzd=>by
    have:=(d.one i j x z y hin hj hx hz hzd).2 (by simp[XO.reads,hop,XOp.reads,za8])
    have h2:=zi1 hi this.2
    exact zkx h2
   have h1:za9 call t x=some (t.bind (some dd) (t.env.get y)):=by
    simp only[za9,hg,hop,zag,xao,hd]
    rfl
   unfold wpOpIn
   simp only[hoi]
   refine zms hcall htr hlat.rep (by rw[hlat.size];exact hN) h1 fun E a' hl' _=>?_
   rw[hlat.k]at hl'
   refine ih _ a' E _ k hleft ?_ (hlat.trans hl')
   refine⟨b.lo,b.hi,by simp[b.size],fun j hj hjl=>?_,fun j h2 h3=>?_,fun j h2 h3=>?_,b.mem,b.kk,fun u hu=>?_⟩
   ·have h4:=b.head j hj hjl
    by_cases hij:i=j
    ·subst hij;rw[hlate]at hjl;cases hjl
    ·rw[getD_set_ne true hij];exact h4
   ·rw[getD_set_ne true (by omega)];exact b.done j h2 h3
   ·rw[getD_set_ne true (by have:=b.lo;omega)];exact b.todo j h2 h3
   ·rw[zgp]
    by_cases hud:u=dd
    ·subst hud
     rw[if_pos rfl,hy]
     exact(d.moved fl hin hx hop hd hg hyd (fun j z hj hz=>⟨(hno j z hj hz).1,(hno j z hj hz).2.1⟩) k b.lo b.hi).symm
    ·rw[if_neg (by intro h;cases h;exact hud rfl)]
     refine b.env u fun j z hj hlj hz hzd=>?_
     have h5:=hu j z hj hlj hz hzd
     by_cases hij:i=j
     ·subst hij
      rw[hx]at hz;cases hz
      rw[hd]at hzd;cases hzd
      exact absurd rfl hud
     ·rw[getD_set_ne true hij]at h5;exact h5
  ·
   have hik:i=k:=by
    rcases Nat.lt_trichotomy i k with h|h|h
    ·rw[b.done i hin h]at hun;cases hun
    ·exact h
    ·have:=zi1 hi (zzh fl.chain (by have:=b.lo;omega) hisz)
     rw[getD_both (b.todo (i-1) (by omega) (by omega))]at this
     cases this
   subst hik
   have hst:=d.go i x hx
   have htail:=fl.strong i x hin hx
   obtain⟨f,v,t',h1,h2,h3,h4,h5,h6⟩:=z4j htail b.mem b.kk (fun u hu=>b.env u fun j z hj hlj hz hzd=>by
    obtain⟨z',y,dd,hz',hop,hd,hg,hyd,hno⟩:=zwj hlj
    rw[hz]at hz'
    cases hz'
    rw[hzd]at hd
    cases hd
    exact zkx (zi1 hi ((hno i x hin hx).2.2 hu))) hst
   unfold wpOpIn
   simp only[hoi]
   refine zms hcall htr hlat.rep (by rw[hlat.size];exact hN) h1 fun E a' hl' _=>?_
   rw[hlat.k]at hl'
   refine ih _ a' E _ (i+1) hleft ?_ (hlat.trans hl')
   refine⟨by omega,by omega,by simp[b.size],fun j hj hjl=>?_,fun j h7 h8=>?_,fun j h7 h8=>?_,h2,h3,fun u hu=>?_⟩
   ·rw[getD_set_ne true (by omega)];exact b.head j hj hjl
   ·by_cases hij:i=j
    ·subst hij;simp[b.size,hisz]
    ·rw[getD_set_ne true hij];exact b.done j h7 (by omega)
   ·rw[getD_set_ne true (by omega)];exact b.todo j (by omega) h8
   ·rw[h5,h6]
    by_cases hud:x.dst=some u
    ·rw[if_pos hud,if_pos hud]
    ·rw[if_neg hud,if_neg hud,b.env u fun j z hj hlj hz hzd=>?_]
     have h9:=hu j z hj hlj hz hzd
     rwa [getD_set_ne true (by omega)]at h9
theorem Drawn.late{ro:Option Nat}(d:Drawn call P num N ops xs n s0 sF S fun _=>false)(fl:Floats ops xs n)(hcall:zc3 num P call){Q:Exit->Act->World->Prop}{k0:Nat}{C:Cx}{m:Mem}{a0:Act}(hN:N<=a0.tmps.size)(hQ:∀D a',Later num k0 C m a0 D sF a'->Q .normal a' D.w):
  ∀(c:Nat) (listed:Array Bool) (a:Act) (D:Cx) (t:St),left ops.size listed=c->HeadInv .any ops n listed->zlv xs n S listed t->Later num k0 C m a0 D t a->wpAnyIn (fz ro) 0 P .any ops Q c listed a D.w:=by
 intro c
 induction c with
 |zero=>
  intro listed a D t hl inv p hlat
  have:=List.countP_eq_zero.1 hl n (xa9.2 fl.lt)
  rw[inv.tail n (xap _) fl.lt]at this
  simp at this
 |succ c ih=>
  intro listed a D t hl inv p hlat
  by_cases hall:∀i,i<n->ze4 ops xs n i=false->listed.getD i true=true
  ·
   refine d.behind fl hcall hN hQ (c+1) listed a D t n hl ⟨xap _,d.hn,inv.size,hall,fun i h1 h2=>by omega,inv.tail,?_,p.k.trans (d.pre 0 n (xcb _) (xap _)).2.2.symm,fun u hu=>?_⟩ hlat
   ·refine xbf fun id=>?_
    rcases xa1 id (S n).mem.length with h|h
    ·refine p.live id h fun j hj h1 h2=>?_
     cases hlj:ze4 ops xs n j with
     |false=>exact hall j hj hlj
     |true=>
      obtain⟨x,y,dd,hx,hop,hd,hg,_⟩:=zwj hlj
      have:=d.step j x hj hx
      simp only[za9,hg,hop,zag,xao,hd,xaf]at this
      rw[<-this]at h2
      exact absurd h2 (by show ¬id<(S j).mem.length;omega)
    ·rw[xaq h,xaq (by rw[p.len];exact h)]
   ·by_cases hw:∃(j:Nat) (y:XO),j<n/\xs[j]?=some y/\y.dst=some u
    ·obtain⟨j,y,hj,hy,hd⟩:=hw
     have hlj:listed.getD j true=true:=by
      cases hl:ze4 ops xs n j with
      |false=>exact hall j hj hl
      |true=>exact hu j y hj hl hy hd
     rw[(p.done j y u hj hy hd hlj).1]
     exact(d.get u (j+1) n (by omega) (xap _) fun k z h5 h6 h7=>by
      rcases(d.one k j z y u h6 hj h7 hy hd).1 with h|h
      ·omega
      ·exact h).symm
    ·rw[(p.not u fun j y h1 h2 h3=>absurd ⟨j,y,h1,h2,h3⟩ hw).1]
     exact(d.get u 0 n (xcb _) (xap _) fun k z _ h6 h7 h8=>hw ⟨k,z,h6,h7,h8⟩).symm
  ·have hex:∃j,j<n/\ze4 ops xs n j=false/\listed.getD j true=false:=by
    apply Classical.byContradiction
    intro hne
    apply hall
    intro i hi hli
    cases h:listed.getD i true with
    |true=>rfl
    |false=>exact absurd ⟨i,hi,hli,h⟩ hne
   obtain⟨j,hj,hlj,hjun⟩:=hex
   refine⟨fun h=>absurd h (fl.ready_some inv.size (by omega)),fun i hi=>?_⟩
   obtain⟨hun,oi,hoi,_⟩:=mem_ready.1 hi
   have hisz:i<ops.size:=(xal.1 hoi).1
   have hin:i<n:=by
    rcases xa1 i n with h|h
    ·exact h
    ·exact absurd hi (fl.waits inv _ j rfl hj hlj hjun i h)
   obtain⟨x,hx,htr⟩:=d.tr i oi rfl hoi
   obtain⟨t1,h1,hnext⟩:=d.part_step hcall p hin hi hx (fun fn l hop=>by rw[(zsq htr).1];simp only[XO.wipe,hop,XOp.wipe]) hlat.rep
   unfold wpOpIn
   simp only[hoi]
   refine zms hcall htr hlat.rep (by rw[hlat.size];exact hN) h1 fun E a' hl' _=>?_
   obtain⟨t2,F,hw,hl2,p2⟩:=hnext E a' hl'.rep
   rw[<-hw]
   refine ih _ a' F t2 (by have:=zrk hisz hun;omega) (inv.set hi hin) p2 ?_
   rw[hlat.k]at hl'
   rw[hl'.k]at hl2
   exact(hlat.trans hl').trans hl2
end
section
variable {num:Names} {P:Program}
theorem yfw{ro:Option Nat}{call:zac}(hcall:zc3 num P call)(hmix:P.follows .mixedOrders=true){N id:Nat}{ops:Array Oper}{draw:Bool}{keep:List Nat}{xs:List XO}(htr:zf0 P num N ops ops.toList=xs.map XO.wipe)(hd:zc5 (.region id ops draw) (.region keep xs)=true){C:Cx}{s s':St}{a:Act}(hs:zas num C s a)(hN:N<=a.tmps.size)(h:zbn call s xs=some s')
  {Q:Exit->Act->World->Prop} (hQ:∀D a',Later num s.k C s.mem a D s' a'->Q .normal a' D.w):(Code.region id ops draw).wpIn (fz ro) 0 P Q a C.w:=by
 cases draw with
 |false=>exact wpIn_region_list (zrl hcall ops.toList xs htr hs hN h hQ)
 |true=>
  simp only[zc5,xae,xbu (List.any _ _),beq_iff_eq]at hd
  obtain⟨hd,hlen⟩:=hd
  rcases hd with hd|hd
  case inr=>
   obtain⟨n,_,hok⟩:=xcc.1 hd
   obtain⟨S,d,htail,k5⟩:=z8l (call:=call) (s0:=s) htr hlen hok h
   have hn':=d.hn
   refine wpIn_region_any hmix ?_
   have h0:=zvs hs
   have h1:=zxj h0.rep ((S n).mem.length-s.mem.length)
   have:=d.any (ro:=ro) htail k5 hcall (Q:=Q) (k:=s.k) (C:=C) (m:=s.mem) (a0:=a) hN hQ n (Array.replicate ops.size false) a _ _ (zxe n ops.size hn')
    ⟨by simp,fun j oj _ hl=>(by rw[getD_replicate_false]at hl;cases hl),fun t ht h2=>getD_in (by simpa using h2) (getD_replicate_false _ _)⟩
    (d.start h0.rep) (h0.trans h1)
   rw[show n+(ops.size-n)=ops.size by omega]at this
   exact this
  obtain⟨n,hn,hok⟩:=xcc.1 hd
  rw[xbu]at hok
  rcases hok with hok|hok
  case inr=>
   simp only[zz9,xae]at hok
   obtain⟨⟨⟨⟨⟨⟨k1,k2⟩,k3⟩,k4⟩,k5⟩,k6⟩,k7⟩:=hok
   simp only[decide_eq_true_eq]at k6
   obtain⟨S,d⟩:=z0b (call:=call) (s0:=s) htr hlen k1 k2 k3 (by omega) h
   have fl:Floats ops xs n:=by
    refine⟨fun j z hj hz=>?_,fun i hi hli=>?_,k6.1,k6.2,fun i o ho e he hb=>?_⟩
    ·refine xai.1 k4 z (xah (i:=j-n) ?_)
     rw[xbv,<-hz]
     congr 1;omega
    ·have:=xai.1 k5 i (xa9.2 hi)
     rw[hli,Bool.false_or]at this
     obtain⟨j,hj,h2⟩:=xcc.1 this
     simp only[xae,decide_eq_true_eq,xbu,beq_iff_eq,xcd]at h2
     exact⟨j,by have:=xa9.1 hj;omega,h2.1,h2.2.1,h2.2.2⟩
    ·have:=xai.1 k7 i (xa9.2 (xal.1 ho).1)
     simp only[ho]at this
     have:=xb9.1 this e he
     simpa [hb]using this
   refine wpIn_region_any hmix ?_
   have h0:=zvs hs
   have h1:=zxj h0.rep ((S n).mem.length-s.mem.length)
   exact d.late fl hcall (Q:=Q) (k0:=s.k) (C:=C) (m:=s.mem) (a0:=a) hN hQ ops.size (Array.replicate ops.size false) a _ _ (zxe ops.size ops.size (xap _))
    ⟨by simp,fun j oj _ hl=>(by rw[getD_replicate_false]at hl;cases hl),fun t ht h2=>getD_in (by simpa using h2) (getD_replicate_false _ _)⟩
    (d.start h0.rep) (h0.trans h1)
  simp only[zz8,xae]at hok
  obtain⟨⟨⟨⟨k1,k2⟩,k3⟩,k4⟩,k5⟩:=hok
  have htail:n=ops.size\/(n<ops.size/\Region.sinkB .any ops n=true/\Region.chainB .any ops n=true):=by
   simp only[xbu,beq_iff_eq,xae,decide_eq_true_eq]at k4
   rcases k4 with h|⟨⟨h,h'⟩,h''⟩
   ·exact .inl h
   ·exact .inr ⟨h,h',h''⟩
  have hn':n<=ops.size:=by rcases htail with h|h<;>omega
  obtain⟨S,d⟩:=z0b (call:=call) (s0:=s) htr hlen k1 k2 k3 hn' h
  refine wpIn_region_any hmix ?_
  have h0:=zvs hs
  have h1:=zxj h0.rep ((S n).mem.length-s.mem.length)
  have:=d.any (ro:=ro) htail k5 hcall (Q:=Q) (k:=s.k) (C:=C) (m:=s.mem) (a0:=a) hN hQ n (Array.replicate ops.size false) a _ _ (zxe n ops.size hn')
   ⟨by simp,fun j oj _ hl=>(by rw[getD_replicate_false]at hl;cases hl),fun t ht h2=>getD_in (by simpa using h2) (getD_replicate_false _ _)⟩
   (d.start h0.rep) (h0.trans h1)
  rw[show n+(ops.size-n)=ops.size by omega]at this
  exact this
end
section
variable {num:Names} {P:Program}
theorem yiv{F:Fence}{n:Nat}{c:Code}{Q:Exit->Act->World->Prop}{a:Act}{w:World}(h:c.wpIn F n P (Exit.noGoto Q) a w):(Code.scope c).wpIn F n P Q a w:=by
 intro b k cs hro hb hr
 obtain⟨e,a₁,w₁,hq,harr⟩:=h b (.inScope c::k) cs hro hb hr
 have h0:(lone (b.atR a (.code (.scope c)::k)) cs w).fenced P F:=fenced_calm hb hr rfl
 have s0:step P (lone (b.atR a (.code (.scope c)::k)) cs w)=.next (lone (b.atR a (.code c:: .inScope c::k)) cs w):=step_lone_go (by simp[stepG,stepG.exec,Frame.atR])
 have s1:∀a w,step P (lone (b.atR a (.inScope c::k)) cs w)=.next (lone (b.atR a k) cs w):=fun a w=>step_lone_go (by simp[stepG,stepG.exec,Frame.atR])
 cases e with
 |normal=>exact⟨.normal,a₁,w₁,hq,.head h0 s0 (StepsIn.trans harr (.one (fenced_calm hb hr rfl) (s1 _ _)))⟩
 |goto l=>exact hq.elim
 |exit id=>exact⟨_,a₁,w₁,hq,.of_steps (.one h0 s0) ⟨fun k' hk=>harr.1 k' (by simp[exitTo,hk]),fun hr hk=>by
   obtain⟨k₁,h1,h2⟩:=harr.2 hr (by simp[exitTo,hk])
   exact⟨k₁,h1,h2⟩⟩⟩
 |ret=>exact⟨_,a₁,w₁,hq,.of_steps (.one h0 s0) harr⟩
 |panic ch=>exact⟨_,a₁,w₁,hq,.of_steps (.one h0 s0) harr⟩
 |outgrown=>exact⟨_,a₁,w₁,hq,.of_steps (.one h0 s0) harr⟩
theorem z22{C:Cx}{b:Nat}{o:Obj}(hI:¬C.I b)(hb:∀arr e fz,C.w.heap[b]?≠some (.cells arr e fz)):Tr some C { C with w:=C.w.putObj b o }:=by
 refine⟨fun _ h=>h,fun c hc=>?_,fun i j hi hj=>?_⟩
 ·exact World.putObj_heap_other (fun h=>hI (by rw[<-h];exact hc))
 ·cases hj
  refine⟨hi,rfl,fun n e h=>h.same ?_⟩
  refine World.putObj_heap_other fun heq=>?_
  obtain⟨arr,fz,h1,_⟩:=h
  rw[heq]at h1
  exact hb _ _ _ h1
theorem yfc{C D:Cx}{m m':Mem}{k:Nat}(hst:Step num k C m D m'){b:Nat}{o:Obj}(hlo:C.w.heap.size<=b)(hI:¬D.I b)(hb:∀arr e fz,D.w.heap[b]?≠some (.cells arr e fz))(hown:¬Own D m' b):
  Step num k C m { D with w:=D.w.putObj b o } m':=by
 have ht:=z22 (o:=o) hI hb
 refine⟨⟨hst.rep.len,fun i p hp=>?_,hst.rep.inj,hst.rep.imm,fun c hc=>by simp;exact hst.rep.bd c hc,num.up hst.rep.glo ht.imm ht.keep⟩,hst.os,hst.tape,hst.out,by simp;exact hst.size,fun c hc hno=>?_,fun c n e h=>?_,hst.imm,hst.imm',hst.own,hst.same,hst.len⟩
 ·by_cases hl:p.live=true
  ·exact zh6 ht rfl (fun x hx=>by rw[<-hx];exact World.putObj_heap_other fun he=>hown ⟨i,p,hp,hl,he⟩) (hst.rep.obj i p hp)
  ·cases p with
   |dead=>trivial
   |_=>exact absurd rfl hl
 ·rw[<-hst.keep c hc hno]
  exact World.putObj_heap_other (by omega)
 ·have h1:=hst.sz c n e h
  refine h1.same (World.putObj_heap_other fun heq=>?_)
  obtain⟨arr,fz,h2,_⟩:=h1
  rw[heq]at h2
  exact hb _ _ _ h2
end
def Le(c d:zac):Prop:=∀f a m r,c f a m=some r->d f a m=some r
theorem z80{c d:zac}(h:Le c d){s:St}{fn:Nat}{as:List AV}{r:AV×St}(hr:zbl c s fn as=some r):zbl d s fn as=some r:=by
 unfold zbl at *
 cases ha:as.mapM (frz s.mem)with
 |none=>simp[ha]at hr
 |some l=>
  simp only[ha]at hr ⊢
  cases hc:c fn l []with
  |none=>simp[hc]at hr
  |some p=>simp only[hc]at hr;simp only[h _ _ _ _ hc];exact hr
theorem z8x{c d:zac}(h:Le c d){s:St}{fn:Nat}{as:List AV}{r:AV×St}(hr:zbk c s fn as=some r):zbk d s fn as=some r:=by
 unfold zbk at *
 cases ha:as.mapM (frz s.mem)with
 |none=>simp[ha]at hr
 |some l=>
  simp only[ha]at hr ⊢
  cases hc:c fn l []with
  |none=>simp[hc]at hr
  |some p=>simp only[hc]at hr;simp only[h _ _ _ _ hc];exact hr
theorem z0o{c d:zac}(h:Le c d){s:St}{fn:Nat}{as:List AV}{r:AV×St}(hr:zb2 c s fn as=some r):zb2 d s fn as=some r:=by
 unfold zb2 at *
 dsimp only at *
 generalize hm:AV.ren.renL (place (order 0 (AV.refs.refsL as) s.mem)) as=l at *
 generalize hq:s.mem.pickAll (order 0 (AV.refs.refsL as) s.mem)=q at *
 cases hc:c fn l q with
 |none=>simp[hc]at hr
 |some p=>simp only[hc]at hr;simp only[h _ _ _ _ hc];exact hr
theorem z8y{c d:zac}(h:Le c d){s:St}{fn:Nat}{as:List AV}{r:AV×St}(hr:zdc c s fn as=some r):zdc d s fn as=some r:=by
 unfold zdc at *
 dsimp only at *
 generalize hm:AV.ren.renL (place (order 0 (AV.refs.refsL as) s.mem)) as=l at *
 cases hc:c fn l (s.mem.pickAll (order 0 (AV.refs.refsL as) s.mem))with
 |none=>simp[hc]at hr
 |some p=>simp only[hc]at hr;simp only[h _ _ _ _ hc];exact hr
theorem z8r{c d:zac}(h:Le c d){s:St}{fn:Nat}{as:List AV}{r:AV×St}(hr:zbg c s fn as=some r):zbg d s fn as=some r:=by
 unfold zbg at *
 dsimp only at *
 generalize hm:AV.ren.renL (place (order 0 (AV.refs.refsL as) s.mem)) as=l at *
 cases hc:c fn l (s.mem.pickAll (order 0 (AV.refs.refsL as) s.mem))with
 |none=>simp[hc]at hr
 |some p=>simp only[hc]at hr;simp only[h _ _ _ _ hc];exact hr
theorem z0p{c d:zac}(h:Le c d){s:St}{fn:Nat}{as:List AV}{r:AV×St}(hr:zf7 c s fn as=some r):zf7 d s fn as=some r:=by
 unfold zf7 at *
 dsimp only at *
 generalize hm:AV.ren.renL (place (order 0 (AV.refs.refsL as) s.mem)) as=l at *
 cases hc:c fn l (s.mem.pickAll (order 0 (AV.refs.refsL as) s.mem))with
 |none=>simp[hc]at hr
 |some p=>simp only[hc]at hr;simp only[h _ _ _ _ hc];exact hr
theorem z0q{c d:zac}(h:Le c d){s:St}{fn:Nat}{as:List AV}{r:AV×St}(hr:zdk c s fn as=some r):zdk d s fn as=some r:=by
 unfold zdk at *
 cases hc:c fn as s.mem with
 |none=>simp[hc]at hr
 |some p=>simp only[hc]at hr;simp only[h _ _ _ _ hc];exact hr
theorem z8v{c d:zac}(h:Le c d){s:St}{op:XOp}{r:AV×St}(hr:zag c s op=some r):zag d s op=some r:=by
 cases op with
 |call mode fn args=>
  cases mode with
  |view=>exact z80 h hr
  |own=>exact z8x h hr
  |share=>exact z0o h hr
  |peek=>exact z8y h hr
  |look=>exact z8r h hr
  |touch=>exact z0p h hr
  |whole=>exact z0q h hr
 |callV f args=>
  simp only[zag]at hr ⊢
  split at hr
  ·rename_i heq;exact z0o h hr
  ·cases hr
 |callW f args=>
  simp only[zag]at hr ⊢
  split at hr
  ·rename_i heq;exact z0q h hr
  ·cases hr
 |callT f args w=>
  simp only[zag]at hr ⊢
  split at hr
  ·split at hr
   ·rename_i hx;rw[z0p h hx];exact hr
   ·cases hr
  ·cases hr
 |_=>exact hr
theorem z0m{c d:zac}(h:Le c d){s:St}{o:XO}{r:St}(hr:za9 c s o=some r):za9 d s o=some r:=by
 unfold za9 at *
 have hop:∀x,zag c s o.op=some x->zag d s o.op=some x:=fun x hx=>z8v h hx
 have hgo:∀(g:AV×St->St),(zag c s o.op).map g=some r->(zag d s o.op).map g=some r:=by
  intro g hg
  cases hx:zag c s o.op with
  |none=>simp[hx]at hg
  |some x=>rw[hop x hx];rwa [hx]at hg
 dsimp only at *
 split at hr
 ·exact hgo _ hr
 ·split at hr
  ·rename_i heq
   split at hr
   ·rename_i hcb;simp only[hcb,if_true]at *;exact hgo _ hr
   ·rename_i hcb;simp only[hcb,if_false]at *;exact hr
  ·exact hr
  ·cases hr
theorem z0n{c d:zac}(h:Le c d)(l:List XO):∀{s:St} {r:St},zbn c s l=some r->zbn d s l=some r:=by
 induction l with
 |nil=>intro s r hr;exact hr
 |cons o l ih=>
  intro s r hr
  simp only[zbn]at *
  cases hx:za9 c s o with
  |none=>simp[hx]at hr
  |some s'=>rw[hx]at hr;rw[z0m h hx];exact ih hr
theorem zr6{f g:St->Option (XExit×St)}(h:∀s r,f s=some r->g s=some r):∀(n m:Nat),n<=m->∀{s r},zep f n s=some r->zep g m s=some r:=by
 intro n
 induction n with
 |zero=>intro m _ s r hr;simp[zep]at hr
 |succ n ih=>
  intro m hm s r hr
  obtain⟨m,rfl⟩:∃k,m=k+1:=⟨m-1,by omega⟩
  simp only[zep]at *
  cases hx:f s with
  |none=>simp[hx]at hr
  |some p=>
   rw[h _ _ hx]
   rw[hx]at hr
   obtain⟨e,s'⟩:=p
   cases e with
   |normal=>exact ih m (by omega) hr
   |exit id=>exact hr
   |ret=>exact hr
theorem zfw{c d:zac}(h:Le c d){n m:Nat}(hnm:n<=m)(x:XCode):∀{s r},za4 c n x s=some r->za4 d m x s=some r:=by
 induction x with
 |skip=>intro s r hr;exact hr
 |region keep ops=>
  intro s r hr
  simp only[za4]at *
  cases hx:zbn c s ops with
  |none=>simp[hx]at hr
  |some s'=>rw[hx]at hr;rw[z0n h ops hx];exact hr
 |lregion keep ops=>intro s r h;cases h
 |seq a b iha ihb=>
  intro s r hr
  simp only[za4]at *
  cases hx:za4 c n a s with
  |none=>simp[hx]at hr
  |some p=>
   rw[iha hx]
   rw[hx]at hr
   obtain⟨e,s'⟩:=p
   cases e with
   |normal=>exact ihb hr
   |exit id=>exact hr
   |ret=>exact hr
 |cond k a b iha ihb=>
  intro s r hr
  simp only[za4]at *
  split at hr
  ·split at hr
   ·rename_i ht;simp only[ht,if_true];exact iha hr
   ·rename_i ht;simp only[ht];exact ihb hr
  ·cases hr
 |block id b ih=>
  intro s r hr
  simp only[za4]at *
  cases hx:za4 c n b s with
  |none=>simp[hx]at hr
  |some p=>rw[ih hx];rw[hx]at hr;exact hr
 |loop keep b ih=>
  intro s r hr
  simp only[za4]at *
  exact zr6 (fun s r hs=>ih hs) n m hnm hr
 |exit id=>intro s r hr;exact hr
 |ret=>intro s r hr;exact hr
 |rangeF f ps keep as b=>intro s r hr;cases hr
theorem z8q{c d:zac}(h:Le c d){n m:Nat}(hnm:n<=m){f:zab}{as:List AV}{q:Mem}{r}(hr:zjj c n f as q=some r):zjj d m f as q=some r:=by
 unfold zjj at *
 cases hx:za4 c n f.body { k:=q.length,env:=enter 0 as,mem:=q }with
 |none=>simp[hx]at hr
 |some p=>rw[zfw h hnm f.body hx];rw[hx]at hr;exact hr
section
variable (code:Nat->Option zab) (ext:zac)
theorem z66(n:Nat):Le (zb7 code ext n) (zb7 code ext (n+1)):=by
 induction n with
 |zero=>intro f a m r h;simp[zb7]at h
 |succ n ih=>
  intro f a m r h
  unfold zb7 at h ⊢
  cases hc:code f with
  |none=>
   simp only[hc]at h ⊢
   split at h
   ·cases h
   ·rename_i hy;rw[if_neg hy];exact h
  |some x=>simp only[hc]at h ⊢;exact z8q ih (Nat.le_succ n) h
theorem zje {n m : Nat} (h : n ≤ m) : Le (zb7 code ext n) (zb7 code ext m) := by
  induction m with
  | zero => obtain rfl : n = 0 := by omega
            exact fun _ _ _ _ h => h
  | succ m ih =>
    rcases xa1 n (m + 1) with h' | h'
    · exact fun f a q r hr => z66 code ext m f a q r (ih (by omega) f a q r hr)
    · obtain rfl : n = m + 1 := by omega
      exact fun _ _ _ _ h => h
open Classical in
noncomputable def callW:zac:=fun f a m=>if h:∃r,∃n,zb7 code ext n f a m=some r then some (Classical.choose h)else none
theorem zff{f:Nat}{a:List AV}{m:Mem}{r:AV×Mem}:callW code ext f a m=some r↔ ∃n,zb7 code ext n f a m=some r:=by
 unfold callW
 constructor
 ·intro h
  split at h
  ·rename_i hx
   obtain⟨n,hn⟩:=xcn hx
   have:Classical.choose hx=r:=by simpa using h
   exact⟨n,this▸hn⟩
  ·cases h
 ·rintro⟨n,hn⟩
  have hx:∃r,∃n,zb7 code ext n f a m=some r:=⟨r,n,hn⟩
  rw[dif_pos hx]
  obtain⟨k,hk⟩:=xcn hx
  have h1:=zje code ext (Nat.le_max_left n k) f a m r hn
  have h2:=zje code ext (Nat.le_max_right n k) f a m _ hk
  rw[h1]at h2
  exact h2.symm
theorem z5v(n:Nat):Le (zb7 code ext n) (callW code ext):=fun _ _ _ _ h=>(zff code ext).2 ⟨n,h⟩
open Classical in
noncomputable def den (x:XCode) (s:St):Option (XExit×St):=if h:∃r,∃n,za4 (callW code ext) n x s=some r then some (Classical.choose h)else none
theorem zcc{x:XCode}{s:St}{r}:den code ext x s=some r↔ ∃n,za4 (callW code ext) n x s=some r:=by
 unfold den
 constructor
 ·intro h
  split at h
  ·rename_i hx
   obtain⟨n,hn⟩:=xcn hx
   have:Classical.choose hx=r:=by simpa using h
   exact⟨n,this▸hn⟩
  ·cases h
 ·rintro⟨n,hn⟩
  have hx:∃r,∃n,za4 (callW code ext) n x s=some r:=⟨r,n,hn⟩
  rw[dif_pos hx]
  obtain⟨k,hk⟩:=xcn hx
  have h1:=zfw (c:=callW code ext) (d:=callW code ext) (fun _ _ _ _ h=>h) (Nat.le_max_left n k) x hn
  have h2:=zfw (c:=callW code ext) (d:=callW code ext) (fun _ _ _ _ h=>h) (Nat.le_max_right n k) x hk
  rw[h1]at h2
  exact h2.symm
theorem z8z{s:St}{fn:Nat}{as:List AV}{r}(h:zb2 (callW code ext) s fn as=some r):∃n,zb2 (zb7 code ext n) s fn as=some r:=by
 unfold zb2 at *
 dsimp only at *
 generalize AV.ren.renL (place (order 0 (AV.refs.refsL as) s.mem)) as=l at *
 generalize s.mem.pickAll (order 0 (AV.refs.refsL as) s.mem)=q at *
 cases hc:callW code ext fn l q with
 |none=>simp[hc]at h
 |some p=>obtain⟨n,hn⟩:=(zff code ext).1 hc;simp only[hc]at h;exact⟨n,by simp only[hn];exact h⟩
theorem z8u{s:St}{op:XOp}{r}(h:zag (callW code ext) s op=some r):∃n,zag (zb7 code ext n) s op=some r:=by
 have view:∀fn as,zbl (callW code ext) s fn as=some r->∃n,zbl (zb7 code ext n) s fn as=some r:=by
  intro fn as h
  unfold zbl at *
  cases ha:as.mapM (frz s.mem)with
  |none=>simp[ha]at h
  |some l=>
   simp only[ha]at h ⊢
   cases hc:callW code ext fn l []with
   |none=>simp[hc]at h
   |some p=>obtain⟨n,hn⟩:=(zff code ext).1 hc;simp only[hc]at h;exact⟨n,by simp only[hn];exact h⟩
 have own:∀fn as,zbk (callW code ext) s fn as=some r->∃n,zbk (zb7 code ext n) s fn as=some r:=by
  intro fn as h
  unfold zbk at *
  cases ha:as.mapM (frz s.mem)with
  |none=>simp[ha]at h
  |some l=>
   simp only[ha]at h ⊢
   cases hc:callW code ext fn l []with
   |none=>simp[hc]at h
   |some p=>obtain⟨n,hn⟩:=(zff code ext).1 hc;simp only[hc]at h;exact⟨n,by simp only[hn];exact h⟩
 have share:∀fn as,zb2 (callW code ext) s fn as=some r->∃n,zb2 (zb7 code ext n) s fn as=some r:=fun fn as h=>z8z code ext h
 have peek:∀fn as,zdc (callW code ext) s fn as=some r->∃n,zdc (zb7 code ext n) s fn as=some r:=by
  intro fn as h
  unfold zdc at *
  dsimp only at *
  generalize AV.ren.renL (place (order 0 (AV.refs.refsL as) s.mem)) as=l at *
  cases hc:callW code ext fn l (s.mem.pickAll (order 0 (AV.refs.refsL as) s.mem))with
  |none=>simp[hc]at h
  |some p=>obtain⟨n,hn⟩:=(zff code ext).1 hc;simp only[hc]at h;exact⟨n,by simp only[hn];exact h⟩
 have look:∀fn as,zbg (callW code ext) s fn as=some r->∃n,zbg (zb7 code ext n) s fn as=some r:=by
  intro fn as h
  unfold zbg at *
  dsimp only at *
  generalize AV.ren.renL (place (order 0 (AV.refs.refsL as) s.mem)) as=l at *
  cases hc:callW code ext fn l (s.mem.pickAll (order 0 (AV.refs.refsL as) s.mem))with
  |none=>simp[hc]at h
  |some p=>obtain⟨n,hn⟩:=(zff code ext).1 hc;simp only[hc]at h;exact⟨n,by simp only[hn];exact h⟩
 have whole:∀fn as,zdk (callW code ext) s fn as=some r->∃n,zdk (zb7 code ext n) s fn as=some r:=by
  intro fn as h
  unfold zdk at *
  cases hc:callW code ext fn as s.mem with
  |none=>simp[hc]at h
  |some p=>obtain⟨n,hn⟩:=(zff code ext).1 hc;simp only[hc]at h;exact⟨n,by simp only[hn];exact h⟩
 have touch:∀fn as r,zf7 (callW code ext) s fn as=some r->∃n,zf7 (zb7 code ext n) s fn as=some r:=by
  intro fn as r h
  unfold zf7 at *
  dsimp only at *
  generalize AV.ren.renL (place (order 0 (AV.refs.refsL as) s.mem)) as=l at *
  cases hc:callW code ext fn l (s.mem.pickAll (order 0 (AV.refs.refsL as) s.mem))with
  |none=>simp[hc]at h
  |some p=>obtain⟨n,hn⟩:=(zff code ext).1 hc;simp only[hc]at h;exact⟨n,by simp only[hn];exact h⟩
 cases op with
 |call mode fn args=>
  cases mode with
  |view=>exact view _ _ h
  |own=>exact own _ _ h
  |share=>exact share _ _ h
  |peek=>exact peek _ _ h
  |look=>exact look _ _ h
  |touch=>exact touch _ _ _ h
  |whole=>exact whole _ _ h
 |callV f args=>
  simp only[zag]at h ⊢
  split at h
  ·rename_i heq;exact share _ _ h
  ·cases h
 |callW f args=>
  simp only[zag]at h ⊢
  split at h
  ·rename_i heq;exact whole _ _ h
  ·cases h
 |callT f args w=>
  simp only[zag]at h ⊢
  split at h
  ·split at h
   ·rename_i hx
    obtain⟨n,hn⟩:=touch _ _ _ hx
    exact⟨n,by rw[hn];exact h⟩
   ·cases h
  ·cases h
 |_=>exact⟨0,h⟩
theorem z8s{s:St}{o:XO}{r}(h:za9 (callW code ext) s o=some r):∃n,za9 (zb7 code ext n) s o=some r:=by
 unfold za9 at *
 have hgo:∀(g:AV×St->St),(zag (callW code ext) s o.op).map g=some r->∃n,(zag (zb7 code ext n) s o.op).map g=some r:=by
  intro g hg
  cases hx:zag (callW code ext) s o.op with
  |none=>simp[hx]at hg
  |some x=>obtain⟨n,hn⟩:=z8u code ext hx;exact⟨n,by rw[hn];rwa [hx]at hg⟩
 dsimp only at *
 split at h
 ·exact hgo _ h
 ·split at h
  ·rename_i heq
   split at h
   ·rename_i hcb;simp only[hcb,if_true];exact hgo _ h
   ·rename_i hcb;simp only[hcb,if_false];exact⟨0,h⟩
  ·exact⟨0,h⟩
  ·cases h
theorem z8w(l:List XO):∀{s r},zbn (callW code ext) s l=some r->∃n,zbn (zb7 code ext n) s l=some r:=by
 induction l with
 |nil=>intro s r h;exact⟨0,h⟩
 |cons o l ih=>
  intro s r h
  simp only[zbn]at *
  cases hx:za9 (callW code ext) s o with
  |none=>simp[hx]at h
  |some s'=>
   rw[hx]at h
   obtain⟨n,hn⟩:=z8s code ext hx
   obtain⟨k,hk⟩:=ih h
   exact⟨max n k,by rw[z0m (zje code ext (Nat.le_max_left n k)) hn];exact z0n (zje code ext (Nat.le_max_right n k)) l hk⟩
theorem ygh{f:St->Option (XExit×St)}{g:Nat->St->Option (XExit×St)}(hg:∀n m,n<=m->∀s r,g n s=some r->g m s=some r)(h:∀s r,f s=some r->∃n,g n s=some r):
  ∀(k:Nat) {s r},zep f k s=some r->∃n,zep (g n) k s=some r:=by
 intro k
 induction k with
 |zero=>intro s r hr;simp[zep]at hr
 |succ k ih=>
  intro s r hr
  simp only[zep]at *
  cases hx:f s with
  |none=>simp[hx]at hr
  |some p=>
   rw[hx]at hr
   obtain⟨n,hn⟩:=h _ _ hx
   obtain⟨e,s'⟩:=p
   cases e with
   |normal=>
    obtain⟨j,hj⟩:=ih hr
    exact⟨max n j,by rw[hg n _ (Nat.le_max_left n j) _ _ hn];exact zr6 (hg j _ (Nat.le_max_right n j)) k k (xap k) hj⟩
   |exit id=>exact⟨n,by rw[hn];exact hr⟩
   |ret=>exact⟨n,by rw[hn];exact hr⟩
theorem z8p(k:Nat)(x:XCode):∀{s r},za4 (callW code ext) k x s=some r->∃n,za4 (zb7 code ext n) k x s=some r:=by
 induction x with
 |skip=>intro s r h;exact⟨0,h⟩
 |region keep ops=>
  intro s r h
  simp only[za4]at *
  cases hx:zbn (callW code ext) s ops with
  |none=>simp[hx]at h
  |some s'=>rw[hx]at h;obtain⟨n,hn⟩:=z8w code ext ops hx;exact⟨n,by rw[hn];exact h⟩
 |lregion keep ops=>intro s r h;cases h
 |seq a b iha ihb=>
  intro s r h
  simp only[za4]at *
  cases hx:za4 (callW code ext) k a s with
  |none=>simp[hx]at h
  |some p=>
   rw[hx]at h
   obtain⟨n,hn⟩:=iha hx
   obtain⟨e,s'⟩:=p
   cases e with
   |normal=>
    obtain⟨j,hj⟩:=ihb h
    exact⟨max n j,by rw[zfw (zje code ext (Nat.le_max_left n j)) (xap k) a hn];exact zfw (zje code ext (Nat.le_max_right n j)) (xap k) b hj⟩
   |exit id=>exact⟨n,by rw[hn];exact h⟩
   |ret=>exact⟨n,by rw[hn];exact h⟩
 |cond c a b iha ihb=>
  intro s r h
  simp only[za4]at *
  split at h
  ·split at h
   ·rename_i ht;simp only[ht,if_true];exact iha h
   ·rename_i ht;simp only[ht];exact ihb h
  ·cases h
 |block id b ih=>
  intro s r h
  simp only[za4]at *
  cases hx:za4 (callW code ext) k b s with
  |none=>simp[hx]at h
  |some p=>rw[hx]at h;obtain⟨n,hn⟩:=ih hx;exact⟨n,by rw[hn];exact h⟩
 |loop keep b ih=>
  intro s r h
  simp only[za4]at *
  exact ygh (f:=fun s=>za4 (callW code ext) k b (s.tidy keep)) (g:=fun n s=>za4 (zb7 code ext n) k b (s.tidy keep)) (fun n m hnm s r hs=>zfw (zje code ext hnm) (xap k) b hs) (fun s r hs=>ih hs) k h
 |exit id=>intro s r h;exact⟨0,h⟩
 |ret=>intro s r h;exact⟨0,h⟩
 |rangeF f ps keep as b=>intro s r h;cases h
theorem z74(s:St):den code ext .skip s=some (.normal,s):=(zcc code ext).2 ⟨0,rfl⟩
theorem z70(id:Nat)(s:St):den code ext (.exit id) s=some (.exit id,s):=(zcc code ext).2 ⟨0,rfl⟩
theorem z72(s:St):den code ext .ret s=some (.ret,s):=(zcc code ext).2 ⟨0,rfl⟩
theorem zk1{α:Type}{a b:Option α}(h:∀r,a=some r↔b=some r):a=b:=by
 cases a with
 |none=>cases b with
  |none=>rfl
  |some y=>exact absurd ((h y).2 rfl) (by simp)
 |some x=>exact((h x).1 rfl).symm
theorem z71(keep:List Nat)(ops:List XO)(s:St):
  den code ext (.region keep ops) s=(zbn (callW code ext) s ops).map fun s'=>(.normal,{ s' with env:=s'.env.keep keep }):=by
 refine zk1 fun r=>⟨fun h=>?_,fun h=>(zcc code ext).2 ⟨0,h⟩⟩
 obtain⟨n,hn⟩:=(zcc code ext).1 h
 exact hn
def andThen(p:Option (XExit×St))(f:St->Option (XExit×St)):Option (XExit×St):=
 match p with
 |some (.normal,s)=>f s
 |r=>r
theorem z73(a b:XCode)(s:St):den code ext (.seq a b) s=andThen (den code ext a s) (den code ext b):=by
 refine zk1 fun r=>⟨fun h=>?_,fun h=>?_⟩
 ·obtain⟨n,hn⟩:=(zcc code ext).1 h
  simp only[za4]at hn
  cases hx:za4 (callW code ext) n a s with
  |none=>simp[hx]at hn
  |some p=>
   rw[hx]at hn
   rw[(zcc code ext).2 ⟨n,hx⟩]
   obtain⟨e,s'⟩:=p
   cases e with
   |normal=>exact(zcc code ext).2 ⟨n,hn⟩
   |exit id=>exact hn
   |ret=>exact hn
 ·cases hx:den code ext a s with
  |none=>simp[hx,andThen]at h
  |some p=>
   rw[hx]at h
   obtain⟨n,hn⟩:=(zcc code ext).1 hx
   obtain⟨e,s'⟩:=p
   cases e with
   |normal=>
    obtain⟨k,hk⟩:=(zcc code ext).1 h
    refine(zcc code ext).2 ⟨max n k,?_⟩
    simp only[za4]
    rw[zfw (c:=callW code ext) (fun _ _ _ _ h=>h) (Nat.le_max_left n k) a hn]
    exact zfw (c:=callW code ext) (fun _ _ _ _ h=>h) (Nat.le_max_right n k) b hk
   |exit id=>exact(zcc code ext).2 ⟨n,by simp only[za4];rw[hn];exact h⟩
   |ret=>exact(zcc code ext).2 ⟨n,by simp only[za4];rw[hn];exact h⟩
theorem z7z(c:Src)(a b:XCode)(s:St)(t:Bool)(h:s.env.ev c=.imm (.val (.bool t))):den code ext (.cond c a b) s=if t then den code ext a s else den code ext b s:=by
 refine zk1 fun r=>⟨fun hr=>?_,fun hr=>?_⟩
 ·obtain⟨n,hn⟩:=(zcc code ext).1 hr
  simp only[za4,h]at hn
  cases t
  ·exact(zcc code ext).2 ⟨n,hn⟩
  ·exact(zcc code ext).2 ⟨n,hn⟩
 ·cases t
  ·obtain⟨n,hn⟩:=(zcc code ext).1 hr
   exact(zcc code ext).2 ⟨n,by simp only[za4,h];exact hn⟩
  ·obtain⟨n,hn⟩:=(zcc code ext).1 hr
   exact(zcc code ext).2 ⟨n,by simp only[za4,h];exact hn⟩
def zvd(id:Nat)(p:Option (XExit×St)):Option (XExit×St):=
 match p with
 |some (.exit j,s)=>if j=id then some (.normal,s)else some (.exit j,s)
 |r=>r
theorem z7y(id:Nat)(b:XCode)(s:St):den code ext (.block id b) s=zvd id (den code ext b s):=by
 refine zk1 fun r=>⟨fun h=>?_,fun h=>?_⟩
 ·obtain⟨n,hn⟩:=(zcc code ext).1 h
  simp only[za4]at hn
  cases hx:za4 (callW code ext) n b s with
  |none=>simp[hx]at hn
  |some p=>rw[(zcc code ext).2 ⟨n,hx⟩];rw[hx]at hn;exact hn
 ·cases hx:den code ext b s with
  |none=>simp[hx,zvd]at h
  |some p=>
   obtain⟨n,hn⟩:=(zcc code ext).1 hx
   rw[hx]at h
   exact(zcc code ext).2 ⟨n,by simp only[za4];rw[hn];exact h⟩
theorem zfi(keep:List Nat)(b:XCode)(s:St):den code ext (.loop keep b) s=andThen (den code ext b (s.tidy keep)) (den code ext (.loop keep b)):=by
 refine zk1 fun r=>⟨fun h=>?_,fun h=>?_⟩
 ·obtain⟨n,hn⟩:=(zcc code ext).1 h
  simp only[za4]at hn
  cases n with
  |zero=>simp[zep]at hn
  |succ n=>
   simp only[zep]at hn
   cases hx:za4 (callW code ext) (n+1) b (s.tidy keep)with
   |none=>simp[hx]at hn
   |some p=>
    rw[(zcc code ext).2 ⟨n+1,hx⟩]
    rw[hx]at hn
    obtain⟨e,s'⟩:=p
    cases e with
    |normal=>exact(zcc code ext).2 ⟨n+1,by simp only[za4];exact zr6 (fun _ _ h=>h) n (n+1) (Nat.le_succ n) hn⟩
    |exit id=>exact hn
    |ret=>exact hn
 ·cases hx:den code ext b (s.tidy keep)with
  |none=>simp[hx,andThen]at h
  |some p=>
   rw[hx]at h
   obtain⟨n,hn⟩:=(zcc code ext).1 hx
   obtain⟨e,s'⟩:=p
   cases e with
   |normal=>
    obtain⟨k,hk⟩:=(zcc code ext).1 h
    refine(zcc code ext).2 ⟨max n k+1,?_⟩
    simp only[za4,zep]at hk ⊢
    rw[zfw (c:=callW code ext) (d:=callW code ext) (fun _ _ _ _ h=>h) (m:=max n k+1) (by omega) b hn]
    exact zr6 (fun s r hs=>zfw (c:=callW code ext) (d:=callW code ext) (fun _ _ _ _ h=>h) (by omega) b hs) k (max n k) (by omega) hk
   |exit id=>
    refine(zcc code ext).2 ⟨n+1,?_⟩
    simp only[za4,zep]
    rw[zfw (c:=callW code ext) (d:=callW code ext) (fun _ _ _ _ h=>h) (m:=n+1) (by omega) b hn]
    exact h
   |ret=>
    refine(zcc code ext).2 ⟨n+1,?_⟩
    simp only[za4,zep]
    rw[zfw (c:=callW code ext) (d:=callW code ext) (fun _ _ _ _ h=>h) (m:=n+1) (by omega) b hn]
    exact h
def zv6(f:zab)(p:Option (XExit×St)):Option (AV×Mem):=
 match p with
 |some (.normal,s)|some (.ret,s)=>zha s f
 |_=>none
theorem zad{fn:Nat}{f:zab}(hf:code fn=some f)(as:List AV)(m:Mem):
  callW code ext fn as m=zv6 f (den code ext f.body { k:=m.length,env:=enter 0 as,mem:=m }):=by
 refine zk1 fun r=>⟨fun h=>?_,fun h=>?_⟩
 ·obtain⟨n,hn⟩:=(zff code ext).1 h
  cases n with
  |zero=>simp[zb7]at hn
  |succ n=>
   simp only[zb7,hf,zjj]at hn
   cases hx:za4 (zb7 code ext n) n f.body { k:=m.length,env:=enter 0 as,mem:=m }with
   |none=>simp[hx]at hn
   |some p=>
    rw[(zcc code ext).2 ⟨n,zfw (z5v code ext n) (xap n) f.body hx⟩]
    rw[hx]at hn
    exact hn
 ·cases hx:den code ext f.body { k:=m.length,env:=enter 0 as,mem:=m }with
  |none=>simp[hx,zv6]at h
  |some p=>
   rw[hx]at h
   obtain⟨n,hn⟩:=(zcc code ext).1 hx
   obtain⟨k,hk⟩:=z8p code ext n f.body hn
   refine(zff code ext).2 ⟨max n k+1,?_⟩
   simp only[zb7,hf,zjj]
   rw[zfw (zje code ext (Nat.le_max_right n k)) (Nat.le_max_left n k) f.body hk]
   exact h
theorem zfe{fn:Nat}(hf:code fn=none)(hy:fn≠zfs)(as:List AV)(m:Mem):callW code ext fn as m=ext fn as m:=by
 refine zk1 fun r=>⟨fun h=>?_,fun h=>(zff code ext).2 ⟨1,by simpa [zb7,hf,hy]using h⟩⟩
 obtain⟨n,hn⟩:=(zff code ext).1 h
 cases n with
 |zero=>simp[zb7]at hn
 |succ n=>simpa [zb7,hf,hy]using hn
end
section
variable {num:Names} {P:Program}
def zl8:XExit->Exit
 |.normal=>.normal
 |.exit id=>.exit id
 |.ret=>.ret
theorem yhx{C:Cx}{s:St}{a:Act}(hs:zas num C s a)(keep:List Nat):∃D,D.w=C.w/\Later num s.k C s.mem a D (s.tidy keep) a:=by
 obtain⟨D,hw,h1,h2,h3⟩:=yhy hs keep
 exact⟨D,hw,h1,h2,h3,rfl,fun lo _ h=>h.step hs.mem h2⟩
theorem z95{C D:Cx}{m:Mem}{k:Nat}{s:St}{a a':Act}(h:Later num k C m a D s a')(keep:List Nat):Later num k C m a D { s with env:=s.env.keep keep } a':=
 ⟨⟨h.rep.mem,h.rep.env.keep keep,h.rep.k⟩,h.step,h.k,h.size,h.marks⟩
theorem zqz{call:zac}{n:Nat}{xc:XCode}{s:St}(h:(.cond (.c .nilFunc) .skip .skip:XCode)=xc.wipe):za4 call n xc s=none:=by
 cases xc<;>simp only[XCode.wipe,reduceCtorEq,XCode.cond.injEq]at h
 obtain⟨rfl,_,_⟩:=h
 rfl
theorem zz0{ro:Option Nat}{call:zac}(hcall:zc3 num P call)(hmix:P.follows .mixedOrders=true)(hL:∀a b ps N as bs,znx P num a b ps N as bs->num.L a b ps N as bs){N n:Nat}:∀(c:Code) (xc:XCode) {s s':St} {e:XExit} {a:Act} {C:Cx} {Q:Exit->Act->World->Prop},tr P num N c=xc.wipe->zc5 c xc=true->(ro=none\/xc.still=true)->
  za4 call n xc s=some (e,s')->zas num C s a->N<=a.tmps.size->(∀D a',Later num s.k C s.mem a D s' a'->Q (zl8 e) a' D.w)->c.wpIn (fz ro) 0 P Q a C.w:=by
 intro c
 induction c with
 |skip=>
  intro xc s s' e a C Q htr _ _ h hs _ hQ
  cases xc<;>simp only[tr,XCode.wipe,reduceCtorEq]at htr
  cases h
  exact wpIn_skip (hQ C a (.refl hs))
 |exit id=>
  intro xc s s' e a C Q htr _ _ h hs _ hQ
  cases xc<;>simp only[tr,XCode.wipe,reduceCtorEq,XCode.exit.injEq]at htr
  subst htr
  cases h
  exact wpIn_exit (hQ C a (.refl hs))
 |ret=>
  intro xc s s' e a C Q htr _ _ h hs _ hQ
  cases xc<;>simp only[tr,XCode.wipe,reduceCtorEq]at htr
  cases h
  exact wpIn_ret (hQ C a (.refl hs))
 |region id ops draw=>
  intro xc s s' e a C Q htr hd hro h hs hN hQ
  cases xc<;>simp only[tr,XCode.wipe,reduceCtorEq,XCode.region.injEq,true_and]at htr
  case lregion keep xs=>cases h
  rename_i keep xs
  simp only[za4]at h
  cases hx:zbn call s xs with
  |none=>rw[hx]at h;cases h
  |some s1=>
   rw[hx]at h
   cases h
   exact yfw hcall hmix htr hd hs hN hx fun D a' hl=>hQ D a' (z95 hl keep)
 |seq x y ihx ihy=>
  intro xc s s' e a C Q htr hd hro h hs hN hQ
  cases xc<;>simp only[tr,XCode.wipe,reduceCtorEq,XCode.seq.injEq]at htr
  rename_i x' y'
  simp only[zc5,xae]at hd
  simp only[za4]at h
  cases hx:za4 call n x' s with
  |none=>rw[hx]at h;cases h
  |some p=>
   obtain⟨e1,s1⟩:=p
   rw[hx]at h
   refine wpIn_seq (ihx x' htr.1 hd.1 (hro.imp id fun h=>(Bool.and_eq_true_iff.1 h).1) hx hs hN fun D a' hl=>?_)
   cases e1 with
   |normal=>
    simp only[zl8,Exit.then]
    exact ihy y' htr.2 hd.2 (hro.imp id fun h=>(Bool.and_eq_true_iff.1 h).2) h hl.rep (by rw[hl.size];exact hN) fun E a'' hl'=>hQ E a'' (hl.trans (by rw[hl.k]at hl';exact hl'))
   |exit id=>cases h;exact hQ D a' hl
   |ret=>cases h;exact hQ D a' hl
 |cond o x y ihx ihy=>
  intro xc s s' e a C Q htr hd hro h hs hN hQ
  simp only[tr]at htr
  split at htr
  ·rename_i o' ho
   cases xc<;>simp only[XCode.wipe,reduceCtorEq,XCode.cond.injEq]at htr
   rename_i o'' x' y'
   obtain⟨rfl,h1,h2⟩:=htr
   simp only[zc5,xae]at hd
   simp only[za4]at h
   split at h
   ·rename_i t ht
    have hv:=zgj hs ho ht
    refine wpIn_cond hv ?_
    cases t with
    |true=>simp only[if_true]at h ⊢;exact ihx x' h1 hd.1 (hro.imp id fun h=>(Bool.and_eq_true_iff.1 h).1) h hs hN hQ
    |false=>simp only[xan,if_false]at h ⊢;exact ihy y' h2 hd.2 (hro.imp id fun h=>(Bool.and_eq_true_iff.1 h).2) h hs hN hQ
   ·cases h
  ·rw[zqz htr]at h;cases h
 |block id b ih=>
  intro xc s s' e a C Q htr hd hro h hs hN hQ
  cases xc<;>simp only[tr,XCode.wipe,reduceCtorEq,XCode.block.injEq]at htr
  rename_i id' b'
  obtain⟨rfl,htr⟩:=htr
  simp only[zc5]at hd
  simp only[za4]at h
  cases hx:za4 call n b' s with
  |none=>rw[hx]at h;cases h
  |some p=>
   obtain⟨e1,s1⟩:=p
   rw[hx]at h
   refine wpIn_block (ih b' htr hd hro hx hs hN fun D a' hl=>?_)
   cases e1 with
   |normal=>cases h;exact hQ D a' hl
   |exit j=>
    simp only at h
    split at h
    ·rename_i hj;cases h;simp only[zl8,Exit.inBlock,hj,if_true];exact hQ D a' hl
    ·rename_i hj;cases h;simp only[zl8,Exit.inBlock,hj,if_false];exact hQ D a' hl
   |ret=>cases h;exact hQ D a' hl
 |loop b ih=>
  intro xc s s' e a C Q htr hd hro h hs hN hQ
  cases xc<;>simp only[tr,XCode.wipe,reduceCtorEq,XCode.loop.injEq,true_and]at htr
  rename_i keep b'
  simp only[zc5]at hd
  simp only[za4]at h
  have key:∀(m:Nat) (s:St) (a:Act) (C:Cx),zep (fun s=>za4 call n b' (s.tidy keep)) m s=some (e,s')->zas num C s a->N<=a.tmps.size->(∀D a',Later num s.k C s.mem a D s' a'->Q (zl8 e) a' D.w)->Code.roundsIn (fz ro) 0 P b Q m a C.w:=by
   intro m
   induction m with
   |zero=>intro s a C h;cases h
   |succ m ihm=>
    intro s a C h hs hN hQ
    simp only[zep]at h
    obtain⟨D0,hw,h0⟩:=yhx hs keep
    rw[roundsIn_succ,<-hw]
    cases hx:za4 call n b' (s.tidy keep)with
    |none=>rw[hx]at h;cases h
    |some p=>
     obtain⟨e1,s1⟩:=p
     rw[hx]at h
     refine ih b' htr hd hro hx h0.rep hN fun D a' hl=>?_
     rw[h0.k]at hl
     have hl:=h0.trans hl
     cases e1 with
     |normal=>
      simp only[zl8,Exit.then]
      exact ihm s1 a' D h hl.rep (by rw[hl.size];exact hN) fun E a'' hl'=>hQ E a'' (hl.trans (by rw[hl.k]at hl';exact hl'))
     |exit id=>cases h;exact hQ D a' hl
     |ret=>cases h;exact hQ D a' hl
  exact wpIn_loop_rounds n (key n s a C h hs hN hQ)
 |scope b ih=>
  intro xc s s' e a C Q htr hd hro h hs hN hQ
  simp only[tr]at htr
  simp only[zc5]at hd
  refine yiv (ih xc htr hd hro h hs hN fun D a' hl=>?_)
  have:=hQ D a' hl
  cases e<;>exact this
 |label l=>
  intro xc s s' e a C Q htr _ _ h hs _ hQ
  cases xc<;>simp only[tr,XCode.wipe,reduceCtorEq]at htr
  cases h
  exact wpIn_label (hQ C a (.refl hs))
 |rangeFunc f ps x y=>
  intro xc s s' e a C Q htr hd hro h hs hN hQ
  simp only[tr]at htr
  split at htr
  ·rename_i f' hf
   split at htr
   ·rename_i hps
    cases xc<;>simp only[XCode.wipe,reduceCtorEq,XCode.rangeF.injEq,true_and]at htr
    rename_i f'' ps'' keep xa xb
    obtain⟨rfl,rfl,ha,hb⟩:=htr
    simp only[zc5,xae]at hd
    rcases hro with rfl|hro
    ·cases h
    ·cases hro
   ·rw[zqz htr]at h;cases h
  ·rw[zqz htr]at h;cases h
 |_=>
  intro xc s s' e a C Q htr _ _ h
  simp only[tr]at htr
  rw[zqz htr]at h;cases h
structure FunOK (P:Program) (num:FuncId->Nat) (f:FuncId) (xf:zab):Prop where
 fn:∃fn c,P.funcs[f]?=some fn/\fn.name≠ "runtime.NumGoroutine" /\fn.body=some c/\tr P num fn.ntmps c=xf.body.wipe/\zc5 c xf.body=true/\fn.results.toList.map (zic P)=XRes.outs xf.res/\(∀t ty,ResultVar.cell t ty∈fn.results->known P ty=true)
def zxf(P:Program):ResultVar->Bool
 |.tmp _=>true
 |.cell _ ty=>known P ty
theorem FunOK.of {num:FuncId->Nat} {f:FuncId} {xf:zab} {fn:Func} (h:P.funcs[f]?=some fn) (hn:(fn.name== "runtime.NumGoroutine")=false) (ht:fn.body.map (tr P num fn.ntmps)=some xf.body.wipe) (hd:fn.body.map (zc5 · xf.body)=some true)
  (hr:fn.results.toList.map (zic P)=XRes.outs xf.res) (hk:fn.results.toList.all (zxf P)=true):FunOK P num f xf:=by
 cases hb:fn.body with
 |none=>rw[hb]at ht;cases ht
 |some c=>
  rw[hb]at ht hd
  refine⟨fn,c,h,by simpa using hn,hb,xau ht,xau hd,hr,fun t ty hm=>?_⟩
  exact xai.1 hk _ (xcy.2 hm)
def zpl(tmps:Array Value):ResultVar->Sem Value
 |.tmp t=>pure (tmps.getD t undef)
 |.cell a t=>do loadVar t (<-asAddr (tmps.getD a undef))
theorem yfy(fn:Func)(tmps:Array Value):results fn tmps=(do let vs <-fn.results.mapM (zpl tmps);pure (if h:vs.size=1 then vs[0]else .tuple vs)):=by
 rfl
theorem ygr{fn:Func}{tmps:Array Value}{C:Cx}{s:St}{vs:List AV}(hm:MRep num C s.mem)(he:ERep num C s.env tmps)(hk:∀t ty,ResultVar.cell t ty∈fn.results->known P ty=true)(h:(fn.results.toList.map (zic P)).mapM (zgx s)=some vs):
  ∃v,(results fn tmps).run P C.w=.ok v C.w/\ARep num C (zhk vs) v:=by
 have key:∀(l:List ResultVar) (vs:List AV),(∀t ty,ResultVar.cell t ty∈l->known P ty=true)->(l.map (zic P)).mapM (zgx s)=some vs->
   ∃us:List Value,(l.mapM (zpl tmps)).run P C.w=.ok us C.w/\vs.length=us.length/\∀(j:Nat) (x:AV) (u:Value),vs[j]?=some x->us[j]?=some u->ARep num C x u:=by
  intro l
  induction l with
  |nil=>intro vs _ h;simp at h;subst h;exact⟨[],by simp,rfl,fun j x u hx _=>by simp at hx⟩
  |cons r l ih=>
   intro vs hk h
   simp only[xa4,xa5,xb0,xch]at h
   cases hr:zgx s (zic P r)with
   |none=>rw[hr]at h;simp at h
   |some x=>
    rw[hr]at h
    cases hrest:(l.map (zic P)).mapM (zgx s)with
    |none=>rw[hrest]at h;simp at h
    |some xs=>
     rw[hrest]at h
     simp at h
     subst h
     obtain⟨us,h1,h2,h3⟩:=ih xs (fun t ty hm=>hk t ty (xbc _ hm)) hrest
     have hone:∃u,(zpl tmps r).run P C.w=.ok u C.w/\ARep num C x u:=by
      cases r with
      |tmp t=>simp only[zic,zgx,xaf]at hr;subst hr;exact⟨tmps.getD t undef,by simp only[zpl,Sem.run_pure],he t⟩
      |cell t ty=>
       simp only[zic,zgx]at hr
       obtain⟨b,o,u,hv,h4,h5⟩:=z3x (hk t ty (xbh ..)) hm (he t) hr
       refine⟨u,?_,h5⟩
       simp only[zpl,hv,asAddr,Sem.run_bind,Sem.run_pure,Result.andThen_ok,h4]
     obtain⟨u,h4,h5⟩:=hone
     refine⟨u::us,?_,by simp[h2],fun j y z hy hz=>?_⟩
     ·rw[xa5]
      simp[h4,h1]
     ·cases j with
      |zero=>simp at hy hz;subst hy;subst hz;exact h5
      |succ j=>exact h3 j y z (by simpa using hy) (by simpa using hz)
 obtain⟨us,h1,h2,h3⟩:=key fn.results.toList vs (fun t ty hm=>hk t ty (xcy.1 hm)) h
 have hrun:(results fn tmps).run P C.w=.ok (if h:us.toArray.size=1 then us.toArray[0]else .tuple us.toArray) C.w:=by
  rw[yfy,Array.mapM_eq_mapM_toList]
  simp[h1]
 refine⟨_,hrun,?_⟩
 cases vs with
 |nil=>
  have:us=[]:=by simpa using h2.symm
  subst this
  exact .tup [] #[] rfl fun j x u hx _=>by simp at hx
 |cons x r=>
  cases us with
  |nil=>simp at h2
  |cons u us=>
   cases r with
   |nil=>
    have:us=[]:=by simpa using h2.symm
    subst this
    exact h3 0 x u rfl rfl
   |cons y r=>
    cases us with
    |nil=>simp at h2
    |cons u' us=>
     simp only[zhk]
     rw[dif_neg (by simp)]
     exact .tup _ _ (by simpa using h2) fun j x u hx hu=>h3 j x u hx (by simpa using hu)
theorem z0h:∀(l:List AV) (i t:Nat),(enter i l).get t=if i<=t then(l[t-i]?).getD .junk else .junk
 |[],i,t=>by simp[enter,Env.get]
 |x::r,i,t=>by
  simp only[enter,Env.get]
  by_cases h:t=i
  ·subst h;simp
  ·rw[if_neg h,z0h r (i+1) t]
   by_cases h':i<=t
   ·have h1:i+1<=t:=by omega
    have h2:t-i=(t-(i+1))+1:=by omega
    rw[if_pos h',if_pos h1,h2];simp
   ·rw[if_neg h',if_neg (by omega)]
theorem z49{F:Fence}{n:Nat}{c:Code}{Q Q':Exit->Act->World->Prop}{a:Act}{w:World}(h:c.wpIn F n P Q a w)(hq:∀e a w,Q e a w->Q' e a w):c.wpIn F n P Q' a w:=Code.wpIn_mono hq h
theorem yap{fn:Func}{k:Nat}{C:Cx}{m m1:Mem}{e:Env}{tmps:Array Value}{R:Ending->World->Prop}:∀{ds:List Deferred} {D:Cx},Step num k C m D m1->ERep num D e tmps->Marked C.w.heap.size D ds->
  (∀D,Step num k C m D m1->ERep num D e tmps->∃v,(results fn tmps).run P D.w=.ok v D.w/\R (.returned v) D.w)->LeavesInM Fence.wide 0 P fn tmps R ds .returning D.w:=by
 intro ds
 induction ds with
 |nil=>intro D hst hen _ h;exact h D hst hen
 |cons d ds ih=>
  intro D hst hen hmk h
  obtain⟨rs,h1,h2,h3⟩:=hmk
  cases rs with
  |nil=>cases h1
  |cons r rs=>
   simp only[xa4,xcu]at h1
   obtain⟨rfl,rfl⟩:=h1
   obtain⟨hr,hrs⟩:=List.nodup_cons.1 h2
   obtain⟨g1,g2,g3⟩:=h3 r (xbh ..)
   have hc:∀arr e fz,D.w.heap[r]?≠some (.cells arr e fz):=fun arr e fz h=>by rw[g2]at h;cases h
   have hown:¬Own D m1 r:=fun ho=>by
    rcases z2t hst.rep ho with⟨_,_,_,h⟩|⟨_,_,h⟩|⟨_,h⟩|⟨_,_,h⟩<;>rw[g2]at h<;>cases h
   refine⟨by simp,.inl ⟨r,D.w.putObj r (.deferred none),rfl,run_takeDeferred g2,?_⟩⟩
   refine ih (D:={ D with w:=D.w.putObj r (.deferred none) }) (yfc hst g1 g3 hc hown) (hen.mono (z22 g3 hc)) ⟨rs,rfl,hrs,fun q hq=>?_⟩ h
   obtain⟨q1,q2,q3⟩:=h3 q (xbc _ hq)
   exact⟨q1,(World.putObj_heap_other fun h=>hr (by rw[<-h];exact hq)).trans q2,q3⟩
theorem z9m{call:zac}(hcall:zc3 num P call)(hmix:P.follows .mixedOrders=true)(hL:∀a b ps N as bs,znx P num a b ps N as bs->num.L a b ps N as bs){n:Nat}{f:FuncId}{xf:zab}(hf:FunOK P num f xf){args:List AV}{m m':Mem}{r:AV}{C:Cx}{vals:Array Value}(h:zjj call n xf args m=some (r,m'))(hm:MRep num C m)(hl:args.length=vals.size)
  (hr:∀(j:Nat) (x:AV) (u:Value),args[j]?=some x->vals[j]?=some u->ARep num C x u):
  zkg P f/\Calls P f vals C.w (fun e w'=>∃v D,e=.returned v/\D.w=w'/\Step num m.length C m D m'/\ARep num D r v):=by
 obtain⟨fn,c,h1,h2,h3,h4,h5,h6,h7⟩:=hf.fn
 refine⟨⟨fn,h1,h2,by rw[h3];rfl⟩,(callsIn_wide (n:=0)).1 (callsIn_of_wp_marks h1 h3 trivial ?_)⟩
 generalize ha:({ tmps:=vals++Array.replicate (fn.ntmps-vals.size) undef,defers:=[] }:Act)=a
 have hN:fn.ntmps<=a.tmps.size:=by rw[<-ha];simp;omega
 have hs:zas num C { k:=m.length,env:=enter 0 args,mem:=m } a:=by
  refine⟨hm,fun t=>?_,xap _⟩
  rw[z0h]
  simp only[xcb,if_true,Nat.sub_zero]
  cases hx:args[t]? with
  |none=>exact .junk _
  |some x=>
   have ht:t<vals.size:=by rw[<-hl];exact(xab.1 hx).1
   have:a.tmps.getD t undef=vals[t]:=by
    rw[<-ha]
    simp only[xbn,Array.getElem?_append,if_pos ht]
    simp[ht]
   rw[this]
   exact hr t x vals[t] hx (by simp[ht])
 have hmk0:Marked C.w.heap.size C a.defers:=⟨[],by rw[<-ha];rfl,List.nodup_nil,fun r hr=>by cases hr⟩
 have hdone:∀{s:St},zha s xf=some (r,m')->∀D a',Later num m.length C m a D s a'->LeavesInM Fence.wide 0 P fn a'.tmps (fun e w'=>∃v D,e=.returned v/\D.w=w'/\Step num m.length C m D m'/\ARep num D r v) a'.defers .returning D.w:=by
  intro s hlv D a' hlat
  refine yap hlat.step hlat.rep.env (hlat.marks _ (xap _) hmk0) fun D hst hen=>?_
  unfold zha at hlv
  cases hv:(XRes.outs xf.res).mapM (zgx s)with
  |none=>rw[hv]at hlv;cases hlv
  |some vs=>
   rw[hv]at hlv
   rw[<-h6]at hv
   obtain⟨v,hrun,hx⟩:=ygr hst.rep hen h7 hv
   refine⟨v,hrun,v,?_⟩
   simp only[xao]at hlv
   split at hlv
   ·cases hlv
    exact⟨D,rfl,rfl,hst,hx⟩
   split at hlv
   ·cases hlv
    exact⟨D,rfl,rfl,hst,hx⟩
   ·cases hlv
    have hst1:=z2w hst.rep (k:=s.k) hlat.rep.k (zhk vs).refs
    have hst':Step num m.length D s.mem (D.pick (order s.k (zhk vs).refs s.mem)) (s.mem.pickAll (order s.k (zhk vs).refs s.mem)):=hst1.le (by rw[hlat.k];exact xap _)
    exact⟨D.pick (order s.k (zhk vs).refs s.mem),rfl,rfl,hst.trans hst',hx.tr (zo6 _)⟩
 unfold zjj at h
 split at h
 ·rename_i s hx
  exact z49 (zz0 (ro:=none) hcall hmix hL c xf.body h4 h5 (.inl rfl) hx hs hN (Q:=fun e a' w=>∃D,e=.normal/\D.w=w/\Later num m.length C m a D s a') fun D a' hlat=>⟨D,rfl,rfl,hlat⟩) fun e a' w ⟨D,h1,h2,h3⟩=>by
   subst h1 h2;exact hdone h D a' h3
 ·rename_i s hx
  exact z49 (zz0 (ro:=none) hcall hmix hL c xf.body h4 h5 (.inl rfl) hx hs hN (Q:=fun e a' w=>∃D,e=.ret/\D.w=w/\Later num m.length C m a D s a') fun D a' hlat=>⟨D,rfl,rfl,hlat⟩) fun e a' w ⟨D,h1,h2,h3⟩=>by
   subst h1 h2;exact hdone h D a' h3
 ·cases h
theorem FunOK.one {num:FuncId->Nat} {f:FuncId} {xf:zab} {fn:Func} (h:P.funcs[f]?=some fn) (e:(fn.name== "runtime.NumGoroutine",fn.body.map (tr P num fn.ntmps),fn.body.map (zc5 · xf.body),fn.results.toList.map (zic P),fn.results.toList.all (zxf P))=(false,some xf.body.wipe,some true,XRes.outs xf.res,true)):FunOK P num f xf:=
 .of h (congrArg (·.1) e) (congrArg (·.2.1) e) (congrArg (·.2.2.1) e) (congrArg (·.2.2.2.1) e) (congrArg (·.2.2.2.2) e)
structure zg5 (P:Program) (num:Names) (code:Nat->Option zab) (ext:zac):Prop where
 mix:P.follows .mixedOrders=true
 fns:∀f xf,code (num f)=some xf->FunOK P num f xf
 ext:zev num P ext
 nz:∀f,num f≠zfs
 yld:code zfs=none
 loops:∀a b ps N as bs,znx P num a b ps N as bs↔num.L a b ps N as bs
 seat:∀e n off,zjp P e n off=true->num.B e n off
 byte:∀e,zky P e=true->P.cellsOf e=1->num.U e
theorem zxp{code:Nat->Option zab}{ext:zac}(h:zg5 P num code ext):∀n,zc3 num P (zb7 code ext n)
 |0=>⟨fun f args m r m' C vals hc=>(by cases hc),fun args m r m' C l vals hc=>(by cases hc),h.seat,h.byte⟩
 |n+1=>by
  refine⟨fun f args m r m' C vals hc hm hl hr=>?_,fun args m r m' C l vals hc hm hl h0 hr=>?_,h.seat,h.byte⟩
  ·simp only[zb7]at hc
   cases hf:code (num f)with
   |none=>rw[hf]at hc;simp only[h.nz f,if_false]at hc;exact h.ext f args m r m' C vals hc hm hl hr
   |some xf=>rw[hf]at hc;exact z9m (zxp h n) h.mix (fun a b ps N as bs=>(h.loops a b ps N as bs).1) (h.fns f xf hf) hc hm hl hr
  ·simp only[zb7,h.yld,if_true]at hc
   cases hc
theorem zgg{code:Nat->Option zab}{ext:zac}(h:zg5 P num code ext):zc3 num P (callW code ext):=by
 refine⟨fun f args m r m' C vals hc hm hl hr=>?_,fun args m r m' C l vals hc hm hl h0 hr=>?_,h.seat,h.byte⟩
 ·obtain⟨n,hn⟩:=(zff code ext).1 hc
  exact(zxp h n).fn f args m r m' C vals hn hm hl hr
 ·obtain⟨n,hn⟩:=(zff code ext).1 hc
  exact(zxp h n).yld args m r m' C l vals hn hm hl h0 hr
theorem zrq:zev num P (fun _ _ _=>none):=fun f args m r m' C vals hc=>by cases hc
end
open Go.RowKit
section
variable {num:Names} {P:Program} {code:Nat->Option zab} {ext:zac}
def Cx.whole(w:World):Cx:={ σ:=fun _=>0,I:=fun b=>b<w.heap.size,n:=0,w:=w }
theorem yir(w:World)(hG:num.G (fun b=>b<w.heap.size) w):MRep num (Cx.whole w) []:=
 ⟨rfl,fun id o h=>by simp at h,fun i j o p h=>by simp at h,fun b ⟨id,o,h,_⟩=>by simp at h,fun b h=>h,hG⟩
end
end Go.EX

