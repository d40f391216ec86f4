import Derived.Test.YtjdfihnmpmckjaaGreatDoorK4
import Derived.LoopN
import Derived.StillTail
import Derived.OrdersIn
import Derived.TacticsIn
import Derived.OwnWalkIn
set_option linter.unusedVariables false
set_option linter.unusedSimpArgs false
namespace Go.EX
section
variable {num:Names} {P:Program}
abbrev fz(ro:Option Nat):Fence:={ Fence.wide with round:=ro }
def Marked(lo:Nat)(C:Cx)(ds:List Deferred):Prop:=
 ∃rs:List Nat,ds=rs.map (fun r=>{ target:=.collected r,args:= #[] })∧rs.Nodup∧∀r∈rs,lo≤r∧C.w.heap[r]?=some (.deferred (some []))∧¬C.I r
theorem zn4{C:Cx}{m:Mem}(hm:MRep num C m){b:Nat}(h:Own C m b):(∃arr e fz,C.w.heap[b]?=some (.cells arr e fz))∨(∃es k,C.w.heap[b]?=some (.map es k))∨(∃R,C.w.heap[b]?=some (.loop R))∨∃t i,C.w.heap[b]?=some (.stringIter t i):=by
 obtain⟨id,o,ho,hlv,rfl⟩:=h
 have h1:=hm.obj id o ho
 cases o with
 |flat=>obtain⟨arr,e,h2,_⟩:=h1;exact .inl ⟨arr,e,_,h2⟩
 |rich=>obtain⟨arr,e,h2,_⟩:=h1;exact .inl ⟨arr,e,_,h2⟩
 |fix=>obtain⟨arr,e,h2,_⟩:=h1;exact .inl ⟨arr,e,_,h2⟩
 |map=>obtain⟨es,k,h2,_⟩:=h1;exact .inr (.inl ⟨es,k,h2⟩)
 |loop=>obtain⟨R,N,h2,_⟩:=h1;exact .inr (.inr (.inl ⟨R,h2⟩))
 |iter=>exact .inr (.inr (.inr ⟨_,_,h1⟩))
 |text=>obtain⟨arr,e,h2,_⟩:=h1;exact .inl ⟨arr,e,_,h2⟩
 |dead=>cases hlv
theorem Marked.step{lo k:Nat}{C D:Cx}{m m':Mem}{ds:List Deferred}(h:Marked lo C ds)(hm:MRep num C m)(hst:Step num k C m D m'):Marked lo D ds:=by
 obtain⟨rs,h1,h2,h3⟩:=h
 refine⟨rs,h1,h2,fun r hr=>?_⟩
 obtain⟨h4,h5,h6⟩:=h3 r hr
 have hlt:=(Array.getElem?_eq_some_iff.1 h5).1
 have hno:¬Own C m r:=fun ho=>by
  rcases zn4 hm ho with⟨_,_,_,h⟩|⟨_,_,h⟩|⟨_,h⟩|⟨_,_,h⟩<;>rw[h5]at h<;>cases h
 refine⟨h4,by rw[hst.keep r hlt hno];exact h5,fun hI=>?_⟩
 rcases hst.imm' r hI with h|h|h
 ·exact h6 h
 ·omega
 ·exact hno h
structure Later (num:Names) (k:Nat) (C:Cx) (m:Mem) (a:Act) (D:Cx) (s':St) (a':Act):Prop where
 rep:SRep num D s' a'
 step:Step num k C m D s'.mem
 k:s'.k=k
 size:a'.tmps.size=a.tmps.size
 marks:∀lo,lo≤C.w.heap.size→Marked lo C a.defers→Marked lo D a'.defers
theorem Later.trans{k:Nat}{C D E:Cx}{m:Mem}{s s':St}{a a' a'':Act}(h:Later num k C m a D s a')(g:Later num k D s.mem a' E s' a''):Later num k C m a E s' a'':=
 ⟨g.rep,h.step.trans g.step,g.k,g.size.trans h.size,fun lo hle hl=>g.marks lo (Nat.le_trans hle h.step.size) (h.marks lo hle hl)⟩
theorem Later.refl{C:Cx}{s:St}{a:Act}(hs:SRep num C s a):Later num s.k C s.mem a C s a:=⟨hs,.refl hs.mem hs.k,rfl,rfl,fun _ _ h=>h⟩
theorem zpd(a:Act)(d:Option Tmp)(v:Value):(a.put d v).tmps.size=a.tmps.size:=by cases d<;>simp[Act.put]
theorem zpc(a:Act)(d:Option Tmp)(v:Value):(a.put d v).defers=a.defers:=by cases d<;>rfl
def St.bind(s:St)(d:Option Nat)(v:AV):St:=match d with
 |some d=>{ s with env:=(d,v)::s.env }
 |none=>s
theorem zbp(s:St)(d:Option Nat)(v:AV):(s.bind d v).mem=s.mem:=by cases d<;>rfl
theorem bind_k(s:St)(d:Option Nat)(v:AV):(s.bind d v).k=s.k:=by cases d<;>rfl
theorem zbo{k N:Nat}{C D:Cx}{m:Mem}{s:St}{a:Act}{d:Option Nat}{x:AV}{v:Value}(hm:MRep num C m)(hN:N≤a.tmps.size)(hd:dstOk N d=true)(hst:Step num k C m D s.mem)(he:ERep num D s.env a.tmps)(hx:ARep num D x v)(hk:s.k=k):
  Later num k C m a D (s.bind d x) (a.put d v):=by
 refine⟨⟨by rw[zbp];exact hst.rep,?_,by rw[bind_k,zbp,hk];exact hst.len⟩,by rw[zbp];exact hst,by rw[bind_k,hk],zpd ..,fun lo _ h=>by rw[zpc];exact h.step hm hst⟩
 cases d with
 |none=>exact he
 |some d=>
  have:d<a.tmps.size:=Nat.lt_of_lt_of_le (by simpa [dstOk]using hd) hN
  exact he.put this hx
theorem zer{ro:Option Nat}{op:Op}{ty:TypeId}{pos:String}{after:Array Edge}{a:Act}{C:Cx}{s s':St}{x:AV}(hm:MRep num C s.mem)(h:Does num P op ty pos after a C s x s'){N:Nat}(hN:N≤a.tmps.size){d:Option Tmp}(hd:dstOk N d=true)(g:Option (Nat×Bool))
  {K:Act→World→Prop} {Q:Exit→Act→World→Prop} (hK:∀D a',Later num s.k C s.mem a D (s'.bind d x) a'→(∃v,a'=a.put d v)→K a' D.w):Oper.wpIn (fz ro) 0 P ⟨d,op,ty,pos,after,g⟩ a C.w K Q:=by
 have hnd:∀c,op≠ .defer c:=by
  rintro c rfl
  have hbad:∀(r:Result Next),(execOp a.eval ⟨d,.defer c,ty,pos,after,g⟩).run P C.w=r→(∀dd w,r≠ .ok (.defer dd) w)→(∀x w,r≠ .halt x w)→False:=by
   intro r hr h1 h2
   simp only[execOp,Sem.run_bind]at hr
   cases hq:(resolve a.eval c ty).run P C.w with
   |ok v w=>rw[hq]at hr;simp only[Result.andThen,Sem.run_pure]at hr;exact h1 _ _ hr.symm
   |halt x w=>rw[hq]at hr;simp only[Result.andThen]at hr;exact h2 _ _ hr.symm
  rcases h with⟨v,D,hrun,_⟩|⟨f,vals,hrun,_⟩|⟨l,fn,tmps,as,bd,hrun,_⟩
  ·rcases hrun d g with h|⟨h,_⟩<;>exact hbad _ h (fun _ _=>by simp) (fun _ _=>by simp)
  ·exact hbad _ (hrun d g) (fun _ _=>by simp) (fun _ _=>by simp)
  ·exact hbad _ (hrun d g) (fun _ _=>by simp) (fun _ _=>by simp)
 unfold Oper.wpIn
 refine⟨fun _ _=>trivial,?_⟩
 rw[Oper.semAt_eq _ _ _ hnd]
 rcases h with⟨v,D,hrun,hst,he,hx,hk⟩|⟨f,vals,hrun,hc⟩|⟨l,fn,tmps,as,bd,hrun,hc⟩
 ·rcases hrun d g with h|⟨h,rfl⟩<;>rw[h]
  ·rw[Oper.uponIn_value];exact hK D _ (zbo hm hN hd hst he hx hk) ⟨_,rfl⟩
  ·rw[Oper.uponIn_skip];exact hK D _ (zbo hm hN hd hst he hx hk) ⟨_,rfl⟩
 ·rw[hrun d g,Oper.uponIn_enter]
  refine⟨fun h=>(by cases h),?_⟩
  refine CallsIn.mono (R:=fun e w'=>∃v D,e=.returned v∧D.w=w'∧Step num s.k C s.mem D s'.mem∧ERep num D s'.env a.tmps∧ARep num D x v∧s'.k=s.k) (callsIn_wide.2 hc) fun e w' ⟨v,D,he',hw,hst,he,hx,hk⟩=>?_
  subst he' hw
  exact hK D _ (zbo hm hN hd hst he hx hk) ⟨_,rfl⟩
 ·rw[hrun d g,Oper.uponIn_round]
  refine⟨fun h=>(by cases h),?_⟩
  have hc':RoundIn (fz ro) (0-1) P l fn tmps as bd C.w (fun e w'=>∃v D,e=.returned v∧D.w=w'∧Step num s.k C s.mem D s'.mem∧ERep num D s'.env a.tmps∧ARep num D x v∧s'.k=s.k):=hc
  refine hc'.mono fun e w' ⟨v,D,he',hw,hst,he,hx,hk⟩=>?_
  subst he' hw
  exact hK D _ (zbo hm hN hd hst he hx hk) ⟨_,rfl⟩
theorem zus{N:Nat}{ops:Array Oper}{o:Oper}{x:XO}(h:trOper P num N ops o=some x):trOp P num o.op=some x.op∧trGuard ops o.guard=some x.guard∧x.dst=o.dst∧dstOk N o.dst=true∧∀(t:Nat) (b:Bool),x.guard=some (t,b)→t<N:=by
 unfold trOper at h
 split at h
 ·rename_i y g h1 h2
  split at h
  ·cases h;rename_i hd;simp only[Bool.and_eq_true]at hd;exact⟨h1,h2,rfl,hd.1,fun t b hg=>by simp only at hg;subst hg;simpa [dstOk]using hd.2⟩
  ·cases h
 ·cases h
theorem zfm{call:Calls'}{s:St}{o:XO}{s':St}(h:exOne call s o=some s'):
  (∃v s1,exOp call s o.op=some (v,s1)∧s'=s1.bind o.dst v∧(o.guard=none∨∃t b,o.guard=some (t,b)∧s.env.get t=.imm (.val (.bool b))))∨
  (s'=s.bind o.dst (.tup [])∧∃t b,o.guard=some (t,b)∧((∃c,s.env.get t=.imm (.val (.bool c))∧c≠b)∨s.env.get t=.tup [])):=by
 unfold exOne at h
 dsimp only at h
 have go:∀{s'},(exOp call s o.op).map (fun (v,s')=>match o.dst with|some d=>{ s' with env:=(d,v)::s'.env }|none=>s')=some s'→∃v s1,exOp call s o.op=some (v,s1)∧s'=s1.bind o.dst v:=by
  intro s' h
  cases hx:exOp call s o.op with
  |none=>rw[hx]at h;cases h
  |some p=>
   obtain⟨v,s1⟩:=p
   rw[hx]at h
   refine⟨v,s1,rfl,?_⟩
   simp only[Option.map_some,Option.some.injEq]at h
   rw[←h]
   cases o.dst<;>rfl
 split at h
 ·rename_i hg
  obtain⟨v,s1,h1,h2⟩:=go h
  exact .inl ⟨v,s1,h1,h2,.inl hg⟩
 ·rename_i t b hg
  split at h
  ·rename_i c hc
   split at h
   ·rename_i hcb
    obtain⟨v,s1,h1,h2⟩:=go h
    exact .inl ⟨v,s1,h1,h2,.inr ⟨t,b,hg,by rw[hc,hcb]⟩⟩
   ·rename_i hcb
    refine .inr ⟨?_,t,b,hg,.inl ⟨c,hc,hcb⟩⟩
    simp only[Option.some.injEq]at h
    rw[←h]
    cases o.dst<;>rfl
  ·rename_i hc
   refine .inr ⟨?_,t,b,hg,.inr hc⟩
   simp only[Option.some.injEq]at h
   rw[←h]
   cases o.dst<;>rfl
  ·cases h
theorem zv0{ops:Array Oper}{o:Oper}{a:Act}{C:Cx}{s:St}(hs:SRep num C s a){t:Nat}{b:Bool}{j:Nat}{c:Bool}(hg:o.guard=some (j,b))(hj:(ops[j]?).bind (·.dst)=some t)(ht:t<a.tmps.size)(hc:s.env.get t=.imm (.val (.bool c))):
  Region.wanted o (yielded ops a.tmps)=(c==b):=by
 have h1:=hs.env t
 rw[hc]at h1
 have h2:=zqs h1
 have h3:a.tmps[t]?=some (.bool c):=by
  simp only[Array.getD,ht,dite_true]at h2
  rw[Array.getElem?_eq_getElem ht];exact congrArg some h2
 simp only[Region.wanted,hg,yielded,hj,Option.bind_some,h3]
 cases c<;>cases b<;>rfl
theorem zvr{ops:Array Oper}{o:Oper}{a:Act}{C:Cx}{s:St}(hs:SRep num C s a){t:Nat}{b:Bool}{j:Nat}(hg:o.guard=some (j,b))(hj:(ops[j]?).bind (·.dst)=some t)(ht:t<a.tmps.size)(hc:s.env.get t=.tup []):
  Region.wanted o (yielded ops a.tmps)=false:=by
 have h1:=hs.env t
 rw[hc]at h1
 have h3:a.tmps[t]?=some (.tuple #[]):=by
  generalize hv:a.tmps.getD t undef=v at h1
  cases h1 with
  |tup _ vs hl _=>
   have:vs= #[]:=by simpa using hl.symm
   subst this
   simp only[Array.getD,ht,dite_true]at hv
   rw[Array.getElem?_eq_getElem ht];exact congrArg some hv
 simp only[Region.wanted,hg,yielded,hj,Option.bind_some,h3]
 cases b<;>rfl
theorem ztt(C:Cx):ARep num C (.tup []) undef:=.tup [] #[] rfl fun j x u hx _=>by simp at hx
theorem one_wp{ro:Option Nat}{call:Calls'}(hcall:CallOK num P call){N:Nat}{ops:Array Oper}{o:Oper}{x:XO}(htr:trOper P num N ops o=some x.wipe){a:Act}{C:Cx}{s s':St}(hs:SRep num C s a)(hN:N≤a.tmps.size)(h:exOne call s x=some s')
  {K:Act→World→Prop} {Q:Exit→Act→World→Prop} (hK:∀D a',Later num s.k C s.mem a D s' a'→(∃v,a'=a.put o.dst v)→K a' D.w):
  if Region.wanted o (yielded ops a.tmps)then o.wpIn (fz ro) 0 P a C.w K Q else(∀f,o.about P C.w a.eval=some f→(fz ro).fn f)∧K (a.put o.dst undef) C.w:=by
 obtain⟨h1,h2,h3,h4,hgd⟩:=zus htr
 have hguard:x.wipe.guard=x.guard:=rfl
 have hdst:x.wipe.dst=x.dst:=rfl
 rw[hguard]at h2
 rw[hdst]at h3
 have wgd:∀(t:Nat) (b:Bool),x.guard=some (t,b)→∃j,o.guard=some (j,b)∧(ops[j]?).bind (·.dst)=some t:=by
  intro t b hx
  rw[hx]at h2
  unfold trGuard at h2
  split at h2
  ·cases h2
  ·rename_i j b' hjb
   split at h2
   ·rename_i t' ht
    simp only[Option.some.injEq,Prod.mk.injEq]at h2
    obtain⟨rfl,rfl⟩:=h2
    exact⟨_,hjb,ht⟩
   ·cases h2
 rcases zfm h with⟨v,s1,hx,rfl,hg⟩|⟨rfl,t,b,hg,hc⟩
 ·have hw:Region.wanted o (yielded ops a.tmps)=true:=by
   rcases hg with hg|⟨t,b,hg,hc⟩
   ·rw[hg]at h2
    unfold trGuard at h2
    split at h2
    ·simp[Region.wanted, *]
    ·split at h2<;>simp at h2
   ·obtain⟨j,hj,hd⟩:=wgd t b hg
    rw[zv0 hs hj hd (Nat.lt_of_lt_of_le (hgd t b hg) hN) hc];simp
  rw[if_pos hw]
  have:=zer (ro:=ro) hs.mem (zfp (ty:=o.type) (pos:=o.pos) (after:=o.after) hcall hs h1 hx) hN h4 o.guard (K:=K) (Q:=Q)
  obtain⟨d,op,ty,pos,after,g⟩:=o
  dsimp only at *
  refine this fun D a' hl hp=>hK D a' ?_ hp
  rw[h3]
  exact hl
 ·obtain⟨j,hj,hd⟩:=wgd t b hg
  have hw:Region.wanted o (yielded ops a.tmps)=false:=by
   rcases hc with⟨c,hc,hne⟩|hc
   ·rw[zv0 hs hj hd (Nat.lt_of_lt_of_le (hgd t b hg) hN) hc];simpa using hne
   ·exact zvr hs hj hd (Nat.lt_of_lt_of_le (hgd t b hg) hN) hc
  rw[hw]
  simp only[Bool.false_eq_true,if_false]
  refine⟨fun _ _=>trivial,hK C _ ?_ ⟨_,rfl⟩⟩
  rw[h3]
  exact zbo hs.mem hN h4 (.refl hs.mem hs.k) hs.env (ztt C) rfl
theorem zje{ro:Option Nat}{call:Calls'}(hcall:CallOK num P call){N:Nat}{ops:Array Oper}{Q:Exit→Act→World→Prop}:∀(l:List Oper) (xs:List XO) {a:Act} {C:Cx} {s s':St},trOps P num N ops l=xs.map XO.wipe→SRep num C s a→N≤a.tmps.size→exOps call s xs=some s'→
  (∀D a',Later num s.k C s.mem a D s' a'→Q .normal a' D.w)→wpListIn (fz ro) 0 P ops Q l a C.w
 |[],xs,a,C,s,s',htr,hs,_,h,hQ=>by
  cases xs with
  |nil=>cases h;exact hQ C a (.refl hs)
  |cons x r=>simp[trOps]at htr
 |o::l,xs,a,C,s,s',htr,hs,hN,h,hQ=>by
  simp only[trOps]at htr
  cases ho:trOper P num N ops o with
  |none=>
   rw[ho]at htr
   cases xs with
   |nil=>simp at htr
   |cons x r=>
    simp only[List.map_cons,List.cons.injEq]at htr
    have hb:x.wipe=badOp:=htr.1.symm
    have h1:(x.op=.callV (.c (.bool true)) []∨x.op=.callP (.c (.bool true)) []∨x.op=.callW (.c (.bool true)) []∨∃w,x.op=.callT (.c (.bool true)) [] w)∧x.guard=none:=by
     obtain⟨d,op,g⟩:=x
     simp only[XO.wipe,badOp,XO.mk.injEq]at hb
     obtain⟨_,h2,h3⟩:=hb
     refine⟨?_,h3⟩
     cases op<;>simp only[XOp.wipe,reduceCtorEq]at h2
     ·exact .inl h2
     ·cases h2;exact .inr (.inl rfl)
     ·cases h2;exact .inr (.inr (.inl rfl))
     ·cases h2;exact .inr (.inr (.inr ⟨_,rfl⟩))
    simp only[exOps]at h
    unfold exOne at h
    rcases h1.1 with h4|h4|h4|⟨_,h4⟩<;>simp only[h4,h1.2,exOp,Env.ev,Option.map_none,Option.bind_none]at h<;>cases h
  |some y=>
   rw[ho]at htr
   cases xs with
   |nil=>simp at htr
   |cons x r=>
    simp only[List.map_cons,List.cons.injEq]at htr
    obtain⟨h1,h2⟩:=htr
    subst h1
    simp only[exOps]at h
    cases hx:exOne call s x with
    |none=>rw[hx]at h;cases h
    |some s1=>
     rw[hx]at h
     simp only[Option.bind_some]at h
     have:=one_wp hcall ho hs hN hx (ro:=ro) (Q:=Q) (K:=wpListIn (fz ro) 0 P ops Q l) fun D a' hl _=>
      zje hcall l r h2 hl.rep (by rw[hl.size];exact hN) h fun E a'' hl'=>hQ E a'' (hl.trans (by rw[hl.k]at hl';exact hl'))
     unfold wpListIn
     exact this
theorem zwh{F:Fence}{n:Nat}{md:Region.Mode}{ops:Array Oper}{Q':Exit→Act→World→Prop}:∀(l:List Oper) (k:Nat) (listed:Array Bool) (a:Act) (w:World),(∀j,l[j]?=ops[k+j]?)→
  Region.seqB md ops l.length k listed=true→wpListIn F n P ops Q' l a w→wpAnyIn F n P md ops Q' l.length listed a w
 |[],_,_,_,_,_,hB,h=>⟨by simpa [Region.seqB]using hB,h⟩
 |o::l,k,listed,a,w,hl,hB,h=>by
  have h0:ops[k]?=some o:=by simpa using(hl 0).symm
  simp only[List.length_cons,Region.seqB,Bool.and_eq_true,decide_eq_true_eq]at hB
  refine⟨fun h1=>(by rw[hB.1]at h1;cases h1),fun i hi=>?_⟩
  rw[hB.1]at hi
  have hik:i=k:=by simpa using hi
  subst hik
  have hw:wpOpIn F n P ops Q' i (wpListIn F n P ops Q' l) a w:=by unfold wpOpIn;simp only[h0];exact h
  exact wpOpIn_mono (fun a' w' h'=>zwh l (i+1) _ a' w' (fun j=>by have:=hl (j+1);simpa [Nat.add_assoc,Nat.add_comm 1 j]using this) hB.2 h') hw
end
end Go.EX


namespace Go.EX
theorem zfh{s t:Env}{y:Src}(he:∀n∈srcTmp y,t.get n=s.get n):t.ev y=s.ev y:=by
 cases y with
 |t n=>exact he n (by simp[srcTmp])
 |c v=>rfl
 |f n=>rfl
theorem zff{s t:Env}{y:Option Src}(he:∀n∈srcTmpO y,t.get n=s.get n):y.map t.ev=y.map s.ev:=by
 cases y with
 |none=>rfl
 |some y=>exact congrArg some (zfh he)
theorem zfe{s t:Env}{l:List Src}(he:∀n∈l.flatMap srcTmp,t.get n=s.get n):l.map t.ev=l.map s.ev:=
 List.map_congr_left fun y hy=>zfh fun n hn=>he n (List.mem_flatMap.2 ⟨y,hy,hn⟩)
theorem zfg{s t:Env}{l:List (Nat×Nat×Src)}(he:∀n∈l.flatMap (fun p=>srcTmp p.2.2),t.get n=s.get n):l.map (fun (o,n,x)=>(o,n,t.ev x))=l.map fun (o,n,x)=>(o,n,s.ev x):=
 List.map_congr_left fun y hy=>by
  have:=zfh (s:=s) (t:=t) (y:=y.2.2) fun n hn=>he n (List.mem_flatMap.2 ⟨y,hy,hn⟩)
  simp only[this]
def In(K:Nat→Prop)(x:AV):Prop:=∀id∈x.refs,K id
def InL(K:Nat→Prop)(l:List AV):Prop:=∀x∈l,In K x
theorem in_agg{K:Nat→Prop}{l:List AV}:In K (.agg l)↔InL K l:=by
 constructor
 ·intro h x hx id hid;exact h id (by simp only[AV.refs];exact refsL_mem.2 ⟨x,hx,hid⟩)
 ·intro h id hid;simp only[AV.refs]at hid;obtain⟨x,hx,hid⟩:=refsL_mem.1 hid;exact h x hx id hid
theorem in_tup{K:Nat→Prop}{l:List AV}:In K (.tup l)↔InL K l:=by
 constructor
 ·intro h x hx id hid;exact h id (by simp only[AV.refs];exact refsL_mem.2 ⟨x,hx,hid⟩)
 ·intro h id hid;simp only[AV.refs]at hid;obtain⟨x,hx,hid⟩:=refsL_mem.1 hid;exact h x hx id hid
theorem in_clo{K:Nat→Prop}{n:Nat}{l:List AV}:In K (.clo n l)↔InL K l:=by
 constructor
 ·intro h x hx id hid;exact h id (by simp only[AV.refs];exact refsL_mem.2 ⟨x,hx,hid⟩)
 ·intro h id hid;simp only[AV.refs]at hid;obtain⟨x,hx,hid⟩:=refsL_mem.1 hid;exact h x hx id hid
theorem in_imm{K:Nat→Prop}{x:IV}:In K (.imm x):=fun id hid=>by simp[AV.refs]at hid
theorem in_tag{K:Nat→Prop}{b a:Nat}{x:IV}:In K (.tag b a x):=fun id hid=>by simp[AV.refs]at hid
theorem zh0{K:Nat→Prop}:In K .junk:=fun id hid=>by simp[AV.refs]at hid
theorem in_optr{K:Nat→Prop}{i o:Nat}:In K (.optr i o)↔K i:=by simp[In,AV.refs]
theorem in_osl{K:Nat→Prop}{i a b c:Nat}{d:Option Nat}:In K (.osl i a b c d)↔K i:=by simp[In,AV.refs]
theorem in_omap{K:Nat→Prop}{i:Nat}:In K (.omap i)↔K i:=by simp[In,AV.refs]
theorem in_ev{K:Nat→Prop}{e:Env}{y:Src}(h:∀n∈srcTmp y,In K (e.get n)):In K (e.ev y):=by
 cases y with
 |t n=>exact h n (by simp[srcTmp])
 |c v=>exact in_imm
 |f n=>exact in_clo.2 fun x hx=>by cases hx
theorem InL.get{K:Nat→Prop}{l:List AV}(h:InL K l){j:Nat}{x:AV}(hx:l[j]?=some x):In K x:=h x (List.mem_of_getElem? hx)
theorem InL.mapImm{K:Nat→Prop}{α:Type}(l:List α)(f:α→IV):InL K (l.map fun x=>.imm (f x)):=fun x hx=>by obtain⟨y,_,rfl⟩:=List.mem_map.1 hx;exact in_imm
theorem zh7{K:Nat→Prop}:∀(xs l:List AV) (off:Nat),InL K l→InL K xs→InL K (setAll l off xs)
 |[],l,off,hl,_=>hl
 |x::xs,l,off,hl,hx=>by
  simp only[setAll]
  refine zh7 xs _ _ (fun y hy=>?_) (fun y hy=>hx y (List.mem_cons_of_mem _ hy))
  rcases List.mem_or_eq_of_mem_set hy with h|h
  ·exact hl y h
  ·rw[h];exact hx x (List.mem_cons_self ..)
theorem zhw{K:Nat→Prop}{x:AV}{cs:List AV}(h:In K x)(hc:x.cells=some cs):InL K cs:=by
 cases x<;>simp only[AV.cells,Option.some.injEq,reduceCtorEq]at hc<;>subst hc<;>first|exact in_agg.1 h|(intro y hy;rw[List.mem_singleton.1 hy];exact h)
theorem zhx{K:Nat→Prop}:∀(ps:List (Nat×Nat×AV)) (cs r:List AV),InL K cs→(∀p∈ps,In K p.2.2)→fillAll cs ps=some r→InL K r
 |[],cs,r,hc,_,h=>by cases h;exact hc
 |(off,n,v)::ps,cs,r,hc,hp,h=>by
  simp only[fillAll]at h
  split at h
  ·rename_i vs hv
   split at h
   ·exact zhx ps _ _ (zh7 vs cs off hc (zhw (hp _ (List.mem_cons_self ..)) hv)) (fun p hp'=>hp p (List.mem_cons_of_mem _ hp')) h
   ·cases h
  ·cases h
theorem in_cut{K:Nat→Prop}{l r:List AV}{off n:Nat}(hl:InL K l)(h:cut l off n=some r):InL K r:=by
 unfold cut at h
 dsimp only at h
 split at h
 ·cases h;exact fun x hx=>hl x (List.mem_of_mem_drop (List.mem_of_mem_take hx))
 ·cases h
theorem zhy{K:Nat→Prop}{l:List AV}{agg:Option Nat}{off:Nat}{r:AV}(hl:InL K l)(h:getCells agg l off=some r):In K r:=by
 cases agg with
 |none=>exact hl.get h
 |some n=>
  simp only[getCells,Option.map_eq_some_iff]at h
  obtain⟨c,hc,rfl⟩:=h
  exact in_agg.2 (in_cut hl hc)
theorem zhz{K:Nat→Prop}{l:List IV}{agg:Option Nat}{off:Nat}{r:AV}(h:getCellsI agg l off=some r):In K r:=by
 cases agg with
 |none=>simp only[getCellsI,Option.map_eq_some_iff]at h;obtain⟨c,_,rfl⟩:=h;exact in_imm
 |some n=>
  simp only[getCellsI,Option.map_eq_some_iff]at h
  obtain⟨c,hc,rfl⟩:=h
  exact in_agg.2 (InL.mapImm c id)
theorem in_imZ{K:Nat→Prop}(zs:List Value):InL K (imZ zs):=InL.mapImm zs .val
structure Agree (K:Nat→Prop) (s t:Mem):Prop where
 same:∀id,K id→t[id]?=s[id]?
 closed:∀id o,K id→s[id]?=some o→∀j∈o.refs,K j
theorem zh6{K:Nat→Prop}{s t:Mem}(h:Agree K s t){id:Nat}(hk:K id){cs:List AV}(hc:s[id]?=some (.rich cs)):InL K cs:=fun x hx j hj=>h.closed id _ hk hc j (by simp only[AObj.refs];exact refsL_mem.2 ⟨x,hx,hj⟩)
theorem in_map{K:Nat→Prop}{s t:Mem}(h:Agree K s t){id:Nat}(hk:K id){es:List (AV×AV)}(hc:s[id]?=some (.map es)):∀p∈es,In K p.1∧In K p.2:=fun p hp=>
 ⟨fun j hj=>h.closed id _ hk hc j (by simp only[AObj.refs,List.mem_append];exact .inl (refsL_mem.2 ⟨p.1,List.mem_map.2 ⟨p,hp,rfl⟩,hj⟩)),
  fun j hj=>h.closed id _ hk hc j (by simp only[AObj.refs,List.mem_append];exact .inr (refsL_mem.2 ⟨p.2,List.mem_map.2 ⟨p,hp,rfl⟩,hj⟩))⟩
theorem zjv{α β:Type}{f g:α→Option β}:∀(l:List α),(∀x∈l,f x=g x)→l.mapM f=l.mapM g
 |[],_=>rfl
 |x::r,h=>by
  rw[List.mapM_cons,List.mapM_cons,h x (List.mem_cons_self ..),zjv r fun y hy=>h y (List.mem_cons_of_mem _ hy)]
theorem zgr{K:Nat→Prop}{s t:Mem}(h:Agree K s t):∀(n:Nat) (x:AV),In K x→frzV t n x=frzV s n x
 |n,.imm x,_=>by cases n<;>rfl
 |0,.osl ..,_=>rfl
 |0,.optr ..,_=>rfl
 |n+1,.osl id off sz len cap,hx=>by
  have hk:=in_osl.1 hx
  simp only[frzV,h.same id hk]
  cases hc:s[id]? with
  |none=>rfl
  |some o=>
   cases o with
   |rich cs=>simp only[];rw[zjv cs fun y hy=>zgr h n y (zh6 h hk hc y hy)]
   |_=>rfl
 |n+1,.optr id off,hx=>by
  have hk:=in_optr.1 hx
  simp only[frzV,h.same id hk]
  cases hc:s[id]? with
  |none=>rfl
  |some o=>
   cases o with
   |rich cs=>simp only[];rw[zjv cs fun y hy=>zgr h n y (zh6 h hk hc y hy)]
   |_=>rfl
 |n,.omap _,_=>by cases n<;>rfl
 |n,.clo ..,_=>by cases n<;>rfl
 |n,.agg _,_=>by cases n<;>rfl
 |n,.tup _,_=>by cases n<;>rfl
 |n,.yld _,_=>by cases n<;>rfl
 |n,.seat ..,_=>by cases n<;>rfl
 |n,.tag ..,_=>by cases n<;>rfl
 |n,.err,_=>by cases n<;>rfl
 |n,.junk,_=>by cases n<;>rfl
theorem zgp{K:Nat→Prop}{s t:Mem}(h:Agree K s t)(x:AV)(hx:In K x):frz.frz1 t x=frz.frz1 s x:=by
 cases x with
 |agg cs=>simp only[frz.frz1];rw[zjv cs fun y hy=>zgr h 20 y (in_agg.1 hx y hy)]
 |_=>simp only[frz.frz1];rw[zgr h 20 _ hx]
theorem zgq{K:Nat→Prop}{s t:Mem}(h:Agree K s t)(x:AV)(hx:In K x):frz.frzC t x=frz.frzC s x:=by
 cases x with
 |clo fn caps=>rfl
 |_=>simp only[frz.frzC];rw[zgr h 20 _ hx]
theorem zgv{K:Nat→Prop}{s t:Mem}(h:Agree K s t)(x:AV)(hx:In K x):frz t x=frz s x:=by
 cases x with
 |agg cs=>simp only[frz];rw[zjv cs fun y hy=>zgr h 20 y (in_agg.1 hx y hy)]
 |tup vs=>simp only[frz];rw[zjv vs fun y hy=>zgp h y (in_tup.1 hx y hy)]
 |clo fn caps=>simp only[frz];rw[zjv caps fun y hy=>zgq h y (in_clo.1 hx y hy)]
 |_=>simp only[frz];rw[zgr h 20 _ hx]
theorem zhv{K:Nat→Prop}(l:List IV):In K (.agg (l.map .imm)):=in_agg.2 (InL.mapImm l id)
mutual
theorem zp7:∀(x:AV),(x.ren fun _=>none).refs=[]
 |.imm _=>rfl
 |.osl .. =>rfl
 |.optr .. =>rfl
 |.omap _=>rfl
 |.clo fn caps=>by simp only[AV.ren,AV.refs];exact zp4 caps
 |.agg cells=>by simp only[AV.ren,AV.refs];exact zp4 cells
 |.tup vs=>by simp only[AV.ren,AV.refs];exact zp4 vs
 |.yld _=>rfl
 |.seat .. =>rfl
 |.tag .. =>rfl
 |.err=>rfl
 |.junk=>rfl
theorem zp4:∀(l:List AV),AV.refs.refsL (AV.ren.renL (fun _=>none) l)=[]
 |[]=>rfl
 |x::r=>by simp only[AV.ren.renL,AV.refs.refsL,zp7 x,zp4 r,List.append_nil]
end
theorem in_frz{K:Nat→Prop}{m:Mem}{x y:AV}(h:frz m x=some y):In K y:=by
 have one:∀{x y:AV},frz.frz1 m x=some y→In K y:=by
  intro x y h
  cases x<;>simp only[frz.frz1,Option.map_eq_some_iff]at h<;>obtain⟨l,_,rfl⟩:=h<;>first|exact in_imm|exact zhv l
 cases x with
 |agg cs=>simp only[frz,Option.map_eq_some_iff]at h;obtain⟨l,_,rfl⟩:=h;exact zhv l
 |tup vs=>
  simp only[frz,Option.map_eq_some_iff]at h
  obtain⟨l,hl,rfl⟩:=h
  refine in_tup.2 fun y hy=>?_
  obtain⟨j,hj⟩:=List.getElem?_of_mem hy
  obtain⟨x,_,hx⟩:=(zjw _ vs l hl).2 j y hj
  exact one hx
 |clo fn caps=>
  simp only[frz,Option.map_eq_some_iff]at h
  obtain⟨l,hl,rfl⟩:=h
  refine in_clo.2 fun y hy=>?_
  obtain⟨j,hj⟩:=List.getElem?_of_mem hy
  obtain⟨x,_,hx⟩:=(zjw _ caps l hl).2 j y hj
  cases x with
  |clo g cs=>
   simp only[frz.frzC,Option.some.injEq]at hx
   subst hx
   intro id hid
   simp only[AV.refs,zp4]at hid
   cases hid
  |_=>simp only[frz.frzC,Option.map_eq_some_iff]at hx;obtain⟨l,_,rfl⟩:=hx;exact in_imm
 |_=>simp only[frz,Option.map_eq_some_iff]at h;obtain⟨l,_,rfl⟩:=h;exact in_imm
theorem zjg{K:Nat→Prop}{s t:Mem}(h:Agree K s t){agg:Option Nat}{x:AV}(hx:In K x):loadAt t agg x=loadAt s agg x:=by
 unfold loadAt
 cases x with
 |optr id off=>simp only[h.same id (in_optr.1 hx)]
 |imm y=>cases y<;>rfl
 |tag b a y=>cases y<;>rfl
 |_=>rfl
theorem zh1{K:Nat→Prop}{s t:Mem}(h:Agree K s t){agg:Option Nat}{x r:AV}(hx:In K x)(hr:loadAt s agg x=some r):In K r:=by
 unfold loadAt at hr
 split at hr
 ·exact zhz hr
 ·exact zhz hr
 ·rename_i id off
  have hk:=in_optr.1 hx
  split at hr
  ·exact zhz hr
  ·rename_i cs hc;exact zhy (zh6 h hk hc) hr
  ·exact zhz hr
  ·cases hr
 ·cases hr
theorem zih{K:Nat→Prop}{s t:Mem}(h:Agree K s t)(kind:Nat){x y:AV}(hx:In K x)(hy:In K y):keyEq t kind x y=keyEq s kind x y:=by
 unfold keyEq
 split<;>first|rfl|skip
 rename_i i o j p
 rw[h.same i (in_optr.1 hx),h.same j (in_optr.1 hy)]
theorem zgc{K:Nat→Prop}{s t:Mem}(h:Agree K s t)(kind:Nat){k:AV}(hk:In K k):∀(es:List (AV×AV)) (i:Nat),(∀p∈es,In K p.1)→findK t kind k es i=findK s kind k es i
 |[],_,_=>rfl
 |e::es,i,he=>by
  simp only[findK,zih h kind hk (he e (List.mem_cons_self ..)),zgc h kind hk es (i+1) fun p hp=>he p (List.mem_cons_of_mem _ hp)]
theorem zh4{K:Nat→Prop}{x:AV}(h:x.plain1=true):In K x:=by
 unfold AV.plain1 at h
 split at h
 ·exact in_imm
 ·intro id hid;cases hid
 ·cases h
theorem zh5{K:Nat→Prop}{x:AV}(h:x.plain2=true):In K x:=by
 cases x with
 |agg cs=>exact in_agg.2 fun y hy=>zh4 (List.all_eq_true.1 h y hy)
 |_=>exact zh4 h
theorem zh3{K:Nat→Prop}{x:AV}(h:x.plain=true):In K x:=by
 cases x with
 |tup cs=>exact in_tup.2 fun y hy=>zh5 (List.all_eq_true.1 h y hy)
 |_=>exact zh5 h
end Go.EX


namespace Go.EX
structure Makes (K:Nat→Prop) (len:Nat) (val:Nat→AV) (new:Nat→List AObj):Prop where
 size:∀p,(new p).length=len
 inV:∀p,In (fun id=>K id∨(p≤id∧id<p+len)) (val p)
 inN:∀p o,o∈new p→∀id∈o.refs,K id∨(p≤id∧id<p+len)
 ren:∀p q f,(∀j,j<len→f (p+j)=some (q+j))→(∀id,K id→f id=some id)→(val p).ren f=val q∧(new p).map (AObj.ren f)=new q
theorem zjs{K:Nat→Prop}(o:AObj)(ho:∀id∈o.refs,K id)(val:Nat→AV)(hv:∀p,(val p).refs=[p])(hr:∀p q f,f p=some q→(val p).ren f=val q):Makes K 1 val fun _=>[o]:=by
 refine⟨fun _=>rfl,fun p id hid=>?_,fun p o' ho' id hid=>?_,fun p q f h1 h2=>⟨hr p q f (by simpa using h1 0 (by omega)),?_⟩⟩
 ·rw[hv]at hid;simp at hid;exact .inr (by omega)
 ·rw[List.mem_singleton.1 ho']at hid;exact .inl (ho id hid)
 ·simp only[List.map_cons,List.map_nil]
  rw[zm7 fun id hid=>h2 id (ho id hid)]
theorem zjt{K:Nat→Prop}(cs:List AV)(off:Nat)(hcs:InL K cs):Makes K 1 (fun id=>.optr id 0) fun p=>[.rich (cs.set off (.seat p off))]:=by
 have hin:∀p,∀x∈cs.set off (.seat p off),x=.seat p off∨In K x:=by
  intro p x hx
  rcases List.mem_or_eq_of_mem_set hx with h|h
  ·exact .inr (hcs x h)
  ·exact .inl h
 refine⟨fun _=>rfl,fun p id hid=>?_,fun p o' ho' id hid=>?_,fun p q f h1 h2=>⟨by simp[AV.ren,show f p=some q by simpa using h1 0 (by omega)],?_⟩⟩
 ·simp[AV.refs]at hid;exact .inr (by omega)
 ·rw[List.mem_singleton.1 ho']at hid
  simp only[AObj.refs]at hid
  obtain⟨x,hx,hid⟩:=refsL_mem.1 hid
  rcases hin p x hx with rfl|h
  ·simp[AV.refs]at hid;exact .inr (by omega)
  ·exact .inl (h id hid)
 ·simp only[List.map_cons,List.map_nil,AObj.ren,zqc,List.map_set,AV.ren,show f p=some q by simpa using h1 0 (by omega)]
  have:cs.map (AV.ren f)=cs:=by
   conv=>rhs;rw[←List.map_id cs]
   exact List.map_congr_left fun x hx=>ren_id fun id hid=>h2 id (hcs x hx id hid)
  rw[this]
theorem zh2{K:Nat→Prop}{cs:List AV}(h:InL K cs):∀id∈(mkObj cs).refs,K id:=by
 unfold mkObj
 split
 ·intro id hid;simp[AObj.refs]at hid
 ·intro id hid;simp only[AObj.refs]at hid;obtain⟨x,hx,hid⟩:=refsL_mem.1 hid;exact h x hx id hid
theorem zpl{K:Nat→Prop}{s t:Mem}(h:Agree K s t):∀(n:Nat) (todo acc:List Nat),(∀x∈todo,K x)→(∀x∈acc,K x)→reach t n todo acc=reach s n todo acc∧∀x∈reach s n todo acc,K x
 |0,todo,acc,h1,h2=>by simp only[reach,true_and];exact h2
 |n+1,[],acc,h1,h2=>by simp only[reach,true_and];exact h2
 |n+1,id::todo,acc,h1,h2=>by
  have hk:=h1 id (by simp)
  have hs:=h.same id hk
  have hlt:id<t.length↔id<s.length:=by
   constructor
   ·intro hi;rw[List.getElem?_eq_getElem hi]at hs;exact(List.getElem?_eq_some_iff.1 hs.symm).1
   ·intro hi;rw[List.getElem?_eq_getElem hi]at hs;exact(List.getElem?_eq_some_iff.1 hs).1
  simp only[reach,hs,hlt]
  have ht:∀x∈todo,K x:=fun x hx=>h1 x (by simp[hx])
  split
  ·exact zpl h n todo acc ht h2
  ·split
   ·rename_i hi
    refine zpl h n _ _ (fun x hx=>?_) (fun x hx=>?_)
    ·rcases List.mem_append.1 hx with hx|hx
     ·exact ht x hx
     ·rw[List.getElem?_eq_getElem hi]at hx
      exact h.closed id _ hk (List.getElem?_eq_getElem hi) x hx
    ·rcases List.mem_append.1 hx with hx|hx
     ·exact h2 x hx
     ·rw[List.mem_singleton.1 hx];exact hk
   ·exact zpl h n todo acc ht h2
theorem zog{K:Nat→Prop}{s t:Mem}(h:Agree K s t){l:List Nat}(hl:∀x∈l,K x):t.pickAll l=s.pickAll l:=by
 unfold Mem.pickAll
 refine List.map_congr_left fun x hx=>?_
 rw[h.same x (hl x hx)]
theorem zns{K:Nat→Prop}{s t:Mem}(hm:Agree K s t){as:List AV}(hk:InL K as):order 0 (AV.refs.refsL as) t=order 0 (AV.refs.refsL as) s∧∀x∈order 0 (AV.refs.refsL as) s,K x:=by
 have hroots:∀x∈AV.refs.refsL as,K x:=fun x hx=>by
  obtain⟨y,hy,hxy⟩:=refsL_mem.1 hx
  exact hk y hy x hxy
 have h0:∀m:Mem,order 0 (AV.refs.refsL as) m=reach m 1000000000000 (AV.refs.refsL as++Mem.refs (m.take 0)) (List.range 0):=fun _=>rfl
 rw[h0,h0]
 simp only[List.take_zero]
 refine zpl hm 1000000000000 _ _ (fun x hx=>?_) (fun x hx=>?_)
 ·rcases List.mem_append.1 hx with hx|hx
  ·exact hroots x hx
  ·simp[Mem.refs]at hx
 ·simp at hx
theorem zjj{call:Calls'}{K:Nat→Prop}{s t:St}{fn:Nat}{as:List AV}(hm:Agree K s.mem t.mem)(hk:InL K as){r:AV}{s':St}(h:exLook call s fn as=some (r,s')):
  ∃(len:Nat) (val:Nat→AV) (new:Nat→List AObj),Makes K len val new∧r=val s.mem.length∧s'={ s with mem:=s.mem++new s.mem.length }∧exLook call t fn as=some (val t.mem.length,{ t with mem:=t.mem++new t.mem.length }):=by
 have hord:=zns hm hk
 unfold exLook at h ⊢
 dsimp only at h ⊢
 rw[hord.1,zog hm hord.2]
 have hK:=hord.2
 clear hord
 generalize order 0 (AV.refs.refsL as) s.mem=l at *
 cases hc:call fn (AV.ren.renL (place l) as) (s.mem.pickAll l)with
 |none=>simp[hc]at h
 |some rm=>
  obtain⟨rv,mc⟩:=rm
  simp only[hc]at h ⊢
  split at h
  case isFalse=>cases h
  rename_i hq
  obtain⟨hmc,hall⟩:=hq
  rw[Bool.and_eq_true]at hall
  obtain⟨ha1,ha2⟩:=hall
  rw[Bool.and_eq_true]at ha2
  have hb1:∀i∈rv.refs,i<mc.length:=fun i hi=>by simpa using List.all_eq_true.1 ha2.1 i hi
  have hb2:∀o∈mc.drop l.length,∀i∈o.refs,i<mc.length:=fun o ho i hi=>by
   have:=List.all_eq_true.1 ha2.2 o (List.mem_of_mem_drop ho)
   simpa using List.all_eq_true.1 this i hi
  cases h
  have hback:∀(p i id:Nat),i<mc.length→(if i<l.length then l[i]? else some (p+(i-l.length)))=some id→K id∨(p≤id∧id<p+(mc.length-l.length)):=by
   intro p i id hi he
   split at he
   ·exact .inl (hK id (List.mem_of_getElem? he))
   ·cases he;right;omega
  have hbind:∀(p q:Nat) (f:Nat→Option Nat),(∀j,j<mc.length-l.length→f (p+j)=some (q+j))→(∀id,K id→f id=some id)→∀i,i<mc.length→((if i<l.length then l[i]? else some (p+(i-l.length))).bind f)=(if i<l.length then l[i]? else some (q+(i-l.length))):=by
   intro p q f h1 h2 i hi
   split
   ·rename_i hil
    rw[List.getElem?_eq_getElem hil,Option.bind_some]
    exact h2 _ (hK _ (List.getElem_mem hil))
   ·rw[Option.bind_some];exact h1 _ (by omega)
  refine⟨mc.length-l.length,fun p=>rv.ren fun i=>if i<l.length then l[i]? else some (p+(i-l.length)),fun p=>(mc.drop l.length).map (AObj.ren fun i=>if i<l.length then l[i]? else some (p+(i-l.length))),⟨fun p=>by simp,fun p id hid=>?_,fun p o ho id hid=>?_,fun p q f h1 h2=>⟨?_,?_⟩⟩,rfl,rfl,?_⟩
  ·obtain⟨i,hi,e⟩:=zqm rv id hid
   exact hback p i id (hb1 i hi) e
  ·obtain⟨o',ho',rfl⟩:=List.mem_map.1 ho
   obtain⟨i,hi,e⟩:=zm8 o' id hid
   exact hback p i id (hb2 o' ho' i hi) e
  ·rw[zqn]
   exact zqi rv fun i hi=>hbind p q f h1 h2 i (hb1 i hi)
  ·rw[List.map_map]
   refine List.map_congr_left fun o ho=>?_
   simp only[Function.comp,zm9]
   exact zm6 o fun i hi=>hbind p q f h1 h2 i (hb2 o ho i hi)
  ·rw[if_pos]
   refine⟨hmc,?_⟩
   rw[Bool.and_eq_true,Bool.and_eq_true]
   refine⟨?_,ha2⟩
   rw[List.all_eq_true]at ha1 ⊢
   intro id hid
   have:=ha1 id hid
   rw[hm.same id (hK id hid)]
   exact this
theorem zjr{call:Calls'}{K:Nat→Prop}{x:XOp}(hc:makeOp x=true){s t:St}(hm:Agree K s.mem t.mem)(he:∀n∈x.needs,t.env.get n=s.env.get n)(hk:∀n∈x.needs,In K (s.env.get n))
  (hb:∀fn l as r mc,x=.call .own fn l→(l.map s.env.ev).mapM (frz s.mem)=some as→call fn as []=some (r,mc)→(∀id∈r.refs,id<mc.length)∧∀o∈mc,∀id∈o.refs,id<mc.length) {r:AV} {s':St} (h:exOp call s x=some (r,s')):
  ∃(len:Nat) (val:Nat→AV) (new:Nat→List AObj),Makes K len val new∧r=val s.mem.length∧s'={ s with mem:=s.mem++new s.mem.length }∧exOp call t x=some (val t.mem.length,{ t with mem:=t.mem++new t.mem.length }):=by
 have e1:∀y,(∀n∈srcTmp y,n∈x.needs)→t.env.ev y=s.env.ev y:=fun y hy=>zfh fun n hn=>he n (hy n hn)
 have k1:∀y,(∀n∈srcTmp y,n∈x.needs)→In K (s.env.ev y):=fun y hy=>in_ev fun n hn=>hk n (hy n hn)
 cases x with
 |alloc zs=>
  cases h
  refine⟨1,fun id=>.optr id 0,fun _=>[.rich (imZ zs)],zjs _ (fun id hid=>?_) _ (fun _=>rfl) (fun p q f hf=>by simp[AV.ren,hf]),rfl,rfl,rfl⟩
  simp only[AObj.refs]at hid;obtain⟨x,hx,hid⟩:=refsL_mem.1 hid;exact in_imZ zs x hx id hid
 |box n y=>
  have ky:=k1 y (by simp[XOp.needs])
  simp only[exOp]at h ⊢
  rw[e1 y (by simp[XOp.needs])]
  cases hcs:(s.env.ev y).cells with
  |none=>rw[hcs]at h;cases h
  |some cs=>
   rw[hcs]at h
   cases h
   refine⟨1,fun id=>.optr id 0,fun _=>[.rich cs],zjs _ (fun id hid=>?_) _ (fun _=>rfl) (fun p q f hf=>by simp[AV.ren,hf]),rfl,rfl,rfl⟩
   simp only[AObj.refs]at hid;obtain⟨x,hx,hid⟩:=refsL_mem.1 hid;exact zhw ky hcs x hx id hid
 |allocB off zs=>
  cases h
  exact⟨1,fun id=>.optr id 0,fun p=>[.rich ((imZ zs).set off (.seat p off))],zjt _ off (in_imZ zs),rfl,rfl,rfl⟩
 |boxB off n y=>
  have ky:=k1 y (by simp[XOp.needs])
  simp only[exOp]at h ⊢
  rw[e1 y (by simp[XOp.needs])]
  cases hcs:(s.env.ev y).cells with
  |none=>rw[hcs]at h;cases h
  |some cs=>
   rw[hcs]at h
   dsimp only at h ⊢
   split at h
   ·rename_i hln
    split at h
    ·rename_i hnil
     cases h
     exact⟨1,fun id=>.optr id 0,fun p=>[.rich (cs.set off (.seat p off))],zjt _ off (zhw ky hcs),rfl,rfl,by rw[if_pos hln];rfl⟩
    ·cases h
   ·cases h
 |buildSlice sz zs len ps=>
  simp only[exOp]at h ⊢
  rw[zfg (s:=s.env) (t:=t.env) (by simpa [XOp.needs]using he)]
  cases hf:fillAll (imZ (copies len zs)) (ps.map fun (o,n,x)=>(o,n,s.env.ev x))with
  |none=>rw[hf]at h;cases h
  |some cs=>
   rw[hf]at h
   cases h
   refine⟨1,fun id=>.osl id 0 sz len (some len),fun _=>[mkObj cs],zjs _ (zh2 (zhx _ _ _ (in_imZ _) (fun p hp=>?_) hf)) _ (fun _=>rfl) (fun p q f hf=>by simp[AV.ren,hf]),rfl,rfl,rfl⟩
   obtain⟨q,hq,rfl⟩:=List.mem_map.1 hp
   exact k1 q.2.2 fun n hn=>by simp only[XOp.needs];exact List.mem_flatMap.2 ⟨q,hq,hn⟩
 |makeSlice sz bytes zs l c=>
  simp only[exOp]at h ⊢
  rw[e1 l (by simp[XOp.needs];intros;simp[*]),e1 c (by simp[XOp.needs];intros;simp[*])]
  split at h
  ·rename_i i j hi hj
   split at h
   ·rename_i hbd
    cases h
    refine⟨1,fun id=>.osl id 0 sz i.toNat (some j.toNat),fun _=>[.flat (copies j.toNat (zs.map .val)) false],zjs _ (fun id hid=>by simp[AObj.refs]at hid) _ (fun _=>rfl) (fun p q f hf=>by simp[AV.ren,hf]),rfl,rfl,?_⟩
    simp only[hi,hj,hbd,and_self,if_true]
    rfl
   ·cases h
  ·cases h
 |makeMap hint=>
  have mk:Makes K 1 (fun id=>.omap id) (fun _=>[.map []]):=zjs _ (fun id hid=>by simp[AObj.refs,AV.refs.refsL]at hid) _ (fun _=>rfl) (fun p q f hf=>by simp[AV.ren,hf])
  simp only[exOp]at h ⊢
  cases hint with
  |none=>cases h;exact⟨1,_,_,mk,rfl,rfl,rfl⟩
  |some y=>
   simp only at h ⊢
   rw[e1 y (by simp[XOp.needs,srcTmpO])]
   split at h
   ·rename_i i hi;cases h;exact⟨1,_,_,mk,rfl,rfl,by rfl⟩
   ·cases h
 |call mode fn l=>
  cases mode with
  |own=>
   simp only[exOp,exOwn]at h ⊢
   have hin:InL K (l.map s.env.ev):=fun x hx=>by
    obtain⟨q,hq,rfl⟩:=List.mem_map.1 hx
    exact k1 q fun n hn=>by simp only[XOp.needs];exact List.mem_flatMap.2 ⟨q,hq,hn⟩
   rw[zfe (s:=s.env) (t:=t.env) (by simpa [XOp.needs]using he),zjv _ fun x hx=>zgv hm x (hin x hx)]
   split at h
   ·cases h
   ·rename_i as has
    split at h
    ·cases h
    ·rename_i r0 mc hcall
     obtain⟨hb1,hb2⟩:=hb fn l as r0 mc rfl has hcall
     split at h
     ·rename_i hcond
      cases h
      refine⟨mc.length,fun p=>r0.ren fun i=>some (p+i),fun p=>mc.map (AObj.ren fun i=>some (p+i)),⟨fun p=>by simp,fun p id hid=>?_,fun p o ho id hid=>?_,fun p q f h1 h2=>⟨?_,?_⟩⟩,rfl,rfl,by simp only[hcall,hcond,if_true]⟩
      ·obtain⟨i,hi,e⟩:=zqm r0 id hid
       cases e
       exact .inr ⟨by omega,by have:=hb1 i hi;omega⟩
      ·obtain⟨o',ho',rfl⟩:=List.mem_map.1 ho
       obtain⟨i,hi,e⟩:=zm8 o' id hid
       cases e
       exact .inr ⟨by omega,by have:=hb2 o' ho' i hi;omega⟩
      ·rw[zqn]
       exact zqi r0 fun id hid=>by simpa using h1 id (hb1 id hid)
      ·rw[List.map_map]
       refine List.map_congr_left fun o ho=>?_
       simp only[Function.comp,zm9]
       exact zm6 o fun id hid=>by simpa using h1 id (hb2 o ho id hid)
     ·cases h
  |look=>
   simp only[exOp]at h ⊢
   have hin:InL K (l.map s.env.ev):=fun x hx=>by
    obtain⟨q,hq,rfl⟩:=List.mem_map.1 hx
    exact k1 q fun n hn=>by simp only[XOp.needs];exact List.mem_flatMap.2 ⟨q,hq,hn⟩
   rw[zfe (s:=s.env) (t:=t.env) (by simpa [XOp.needs]using he)]
   exact zjj hm hin h
  |view=>cases hc
  |share=>cases hc
  |peek=>cases hc
  |touch=>cases hc
  |whole=>cases hc
 |_=>cases hc
end Go.EX


namespace Go.EX
theorem zoe{call:Calls'}{K:Nat→Prop}{s t:St}{fn:Nat}{as:List AV}(hm:Agree K s.mem t.mem)(hk:InL K as){r:AV}{s':St}(h:exPeek call s fn as=some (r,s')):
  s'=s∧exPeek call t fn as=some (r,t)∧In K r:=by
 have hroots:∀x∈AV.refs.refsL as,K x:=fun x hx=>by
  obtain⟨y,hy,hxy⟩:=refsL_mem.1 hx
  exact hk y hy x hxy
 have hord:order 0 (AV.refs.refsL as) t.mem=order 0 (AV.refs.refsL as) s.mem∧∀x∈order 0 (AV.refs.refsL as) s.mem,K x:=by
  have h0:∀m:Mem,order 0 (AV.refs.refsL as) m=reach m 1000000000000 (AV.refs.refsL as++Mem.refs (m.take 0)) (List.range 0):=fun _=>rfl
  rw[h0,h0]
  simp only[List.take_zero]
  refine zpl hm 1000000000000 _ _ (fun x hx=>?_) (fun x hx=>?_)
  ·rcases List.mem_append.1 hx with hx|hx
   ·exact hroots x hx
   ·simp[Mem.refs]at hx
  ·simp at hx
 unfold exPeek at h ⊢
 dsimp only at h ⊢
 rw[hord.1,zog hm hord.2]
 cases hc:call fn (AV.ren.renL (place (order 0 (AV.refs.refsL as) s.mem)) as) (s.mem.pickAll (order 0 (AV.refs.refsL as) s.mem))with
 |none=>simp[hc]at h
 |some rm=>
  obtain⟨rv,mc⟩:=rm
  simp only[hc]at h ⊢
  split at h
  case isFalse=>cases h
  rename_i hq
  obtain⟨hmc,hp,hall⟩:=hq
  cases h
  refine⟨rfl,?_,zh3 hp⟩
  rw[if_pos]
  refine⟨hmc,hp,?_⟩
  rw[List.all_eq_true]at hall ⊢
  intro id hid
  have:=hall id hid
  rw[hm.same id (hord.2 id hid)]
  exact this
end Go.EX


namespace Go.EX
theorem zb7{call:Calls'}{K:Nat→Prop}{x:XOp}(hc:calmOp x=true){s t:St}(hm:Agree K s.mem t.mem)(he:∀n∈x.reads,t.env.get n=s.env.get n)(hk:∀n∈x.reads,In K (s.env.get n)){r:AV}{s':St}(h:exOp call s x=some (r,s')):
  s'=s∧exOp call t x=some (r,t)∧In K r:=by
 have hmap:∀{α:Type} (o:Option α) (f:α→AV),o.map (fun v=>(f v,s))=some (r,s')→(∀v,o=some v→In K (f v))→s'=s∧o.map (fun v=>(f v,t))=some (r,t)∧In K r:=by
  intro α o f ho hf
  cases o with
  |none=>cases ho
  |some v=>cases ho;exact⟨rfl,rfl,hf v rfl⟩
 have e1:∀y,(∀n∈srcTmp y,n∈x.reads)→t.env.ev y=s.env.ev y:=fun y hy=>zfh fun n hn=>he n (hy n hn)
 have k1:∀y,(∀n∈srcTmp y,n∈x.reads)→In K (s.env.ev y):=fun y hy=>in_ev fun n hn=>hk n (hy n hn)
 have eO:∀y,(∀n∈srcTmpO y,n∈x.reads)→y.map t.env.ev=y.map s.env.ev:=fun y hy=>zff fun n hn=>he n (hy n hn)
 cases x with
 |mv y=>
  have ky:=k1 y (by simp[XOp.reads])
  simp only[exOp]at h ⊢
  rw[e1 y (by simp[XOp.reads])]
  cases h;exact⟨rfl,rfl,ky⟩
 |load agg y=>
  have ky:=k1 y (by simp[XOp.reads])
  simp only[exOp]at h ⊢
  rw[e1 y (by simp[XOp.reads]),zjg hm ky]
  exact hmap _ _ h fun v hv=>zh1 hm ky hv
 |loadI agg y=>
  have ky:=k1 y (by simp[XOp.reads])
  simp only[exOp]at h ⊢
  rw[e1 y (by simp[XOp.reads])]
  split at h
  ·exact hmap _ _ h fun v hv=>zh1 (s:=[]) (t:=[]) ⟨fun _ _=>rfl,fun id o _ ho=>by simp at ho⟩ in_imm hv
  ·cases h
 |nilCheck y=>
  have ky:=k1 y (by simp[XOp.reads])
  simp only[exOp]at h ⊢
  rw[e1 y (by simp[XOp.reads])]
  revert h;split<;>intro h<;>first|(cases h;done)|(cases h;exact⟨rfl,rfl,ky⟩)
 |extract y i=>
  have ky:=k1 y (by simp[XOp.reads])
  simp only[exOp]at h ⊢
  rw[e1 y (by simp[XOp.reads])]
  revert h;split<;>intro h<;>first|(cases h;done)|skip
  rename_i vs hv
  rw[hv]at ky
  exact hmap _ _ h fun v hv=>(in_tup.1 ky).get hv
 |field off agg y=>
  have ky:=k1 y (by simp[XOp.reads])
  simp only[exOp]at h ⊢
  rw[e1 y (by simp[XOp.reads])]
  revert h;split<;>intro h<;>first|(cases h;done)|skip
  rename_i cs hv
  rw[hv]at ky
  exact hmap _ _ h fun v hv=>zhy (in_agg.1 ky) hv
 |fieldA off y=>
  have ky:=k1 y (by simp[XOp.reads])
  simp only[exOp]at h ⊢
  rw[e1 y (by simp[XOp.reads])]
  revert h;split<;>intro h<;>first|(cases h;done)|skip
  ·cases h;exact⟨rfl,rfl,in_imm⟩
  ·cases h;exact⟨rfl,rfl,in_tag⟩
  ·rename_i id o hv
   rw[hv]at ky
   cases h;exact⟨rfl,rfl,in_optr.2 (in_optr.1 ky)⟩
 |eqNil _ _ y|un _ y|conv _ y|convS y|len y|lenS y|cap y=>
  simp only[exOp]at h ⊢
  rw[e1 y (by simp[XOp.reads])]
  first
   |exact hmap _ _ h fun _ _=>in_imm
   |(revert h;split<;>intro h<;>first|(cases h;done)|(cases h;exact⟨rfl,rfl,in_imm⟩)|exact hmap _ _ h fun _ _=>in_imm)
 |idxP n sz y z=>
  have ky:=k1 y (by simp[XOp.reads];intros;simp[*])
  simp only[exOp]at h ⊢
  rw[e1 y (by simp[XOp.reads];intros;simp[*]),e1 z (by simp[XOp.reads];intros;simp[*])]
  split at h
  ·cases h
  ·split at h
   ·rename_i hb
    split at h
    ·cases h;refine⟨rfl,?_,in_imm⟩;simp only[*,and_self,if_true]
    ·rename_i heq;cases h;rw[heq]at ky;refine⟨rfl,?_,in_optr.2 (in_optr.1 ky)⟩;simp only[*,and_self,if_true]
    ·cases h
   ·cases h
 |idxV n sz agg y z=>cases h
 |strOf y=>cases h
 |bytesOf y=>cases h
 |minmax mn y z=>
  simp only[exOp]at h ⊢
  rw[e1 y (by simp[XOp.reads];intros;simp[*]),e1 z (by simp[XOp.reads];intros;simp[*])]
  revert h;split<;>intro h<;>first|(cases h;done)|(cases h;exact⟨rfl,rfl,in_imm⟩)
 |pick a b c=>
  have kb:=k1 b (by simp[XOp.reads];intros;simp[*])
  have kc:=k1 c (by simp[XOp.reads];intros;simp[*])
  simp only[exOp]at h ⊢
  rw[e1 a (by simp[XOp.reads];intros;simp[*]),e1 b (by simp[XOp.reads];intros;simp[*]),e1 c (by simp[XOp.reads];intros;simp[*])]
  revert h;split<;>intro h<;>first|(cases h;done)|skip
  cases h
  refine⟨rfl,rfl,?_⟩
  split
  ·exact kb
  ·exact kc
 |bin _ y z|binB _ y z|eqCells _ _ y z|idxS y z=>
  simp only[exOp]at h ⊢
  rw[e1 y (by simp[XOp.reads];intros;simp[*]),e1 z (by simp[XOp.reads];intros;simp[*])]
  repeat' (first|exact hmap _ _ h fun _ _=>in_imm|(cases h;done)|(cases h;exact⟨rfl,rfl,in_imm⟩)|(revert h;split<;>intro h))
 |idxA _ y z=>
  have ky:=k1 y (by simp[XOp.reads];intros;simp[*])
  simp only[exOp]at h ⊢
  rw[e1 y (by simp[XOp.reads];intros;simp[*]),e1 z (by simp[XOp.reads];intros;simp[*])]
  split at h
  ·cases h
  ·split at h
   ·split at h
    ·rename_i hb;cases h;refine⟨rfl,?_,in_imm⟩;simp only[*,and_self,if_true]
    ·cases h
   ·split at h
    ·rename_i hb;cases h;refine⟨rfl,?_,in_tag⟩;simp only[*,and_self,if_true]
    ·cases h
   ·rename_i heq
    split at h
    ·rename_i hb;cases h;rw[heq]at ky;refine⟨rfl,?_,in_optr.2 (in_osl.1 ky)⟩;simp only[*,and_self,if_true]
    ·cases h
   ·cases h
 |build zs ps=>
  simp only[exOp]at h ⊢
  rw[zfg (s:=s.env) (t:=t.env) (by simpa [XOp.reads]using he)]
  refine hmap _ _ h fun v hv=>in_agg.2 (zhx _ _ _ (in_imZ zs) (fun p hp=>?_) hv)
  obtain⟨q,hq,rfl⟩:=List.mem_map.1 hp
  exact k1 q.2.2 fun n hn=>by simp only[XOp.reads];exact List.mem_flatMap.2 ⟨q,hq,hn⟩
 |slice sz y lo hi=>
  have ky:=k1 y (by simp[XOp.reads];intros;simp[*])
  simp only[exOp]at h ⊢
  rw[e1 y (by simp[XOp.reads];intros;simp[*]),eO lo (by simp[XOp.reads];intros;simp[*]),eO hi (by simp[XOp.reads];intros;simp[*])]
  refine hmap _ _ h fun v hv=>?_
  generalize s.env.ev y=yv at hv ky
  unfold exSlice at hv
  split at hv
  ·simp only[Option.map_eq_some_iff]at hv;obtain⟨_,_,rfl⟩:=hv;exact in_imm
  ·simp only[Option.map_eq_some_iff]at hv;obtain⟨_,_,rfl⟩:=hv;exact in_imm
  ·split at hv
   ·simp only[Option.map_eq_some_iff]at hv;obtain⟨_,_,rfl⟩:=hv;exact in_osl.2 (in_osl.1 ky)
   ·cases hv
  ·cases hv
 |slice3 sz y hi mx=>
  have ky:=k1 y (by simp[XOp.reads];intros;simp[*])
  simp only[exOp]at h ⊢
  rw[e1 y (by simp[XOp.reads];intros;simp[*]),e1 hi (by simp[XOp.reads];intros;simp[*]),e1 mx (by simp[XOp.reads];intros;simp[*])]
  refine hmap _ _ h fun v hv=>?_
  generalize s.env.ev y=yv at hv ky
  unfold exSlice3 at hv
  split at hv
  ·split at hv
   ·split at hv
    ·cases hv;exact in_imm
    ·cases hv
   ·split at hv
    ·cases hv;exact in_imm
    ·cases hv
   ·split at hv
    ·cases hv;exact in_osl.2 (in_osl.1 ky)
    ·cases hv
   ·cases hv
  ·cases hv
 |sliceS y lo hi=>
  simp only[exOp]at h ⊢
  rw[e1 y (by simp[XOp.reads];intros;simp[*]),eO lo (by simp[XOp.reads];intros;simp[*]),eO hi (by simp[XOp.reads];intros;simp[*])]
  revert h;split<;>intro h<;>first|(cases h;done)|exact hmap _ _ h fun _ _=>in_imm
 |mkClo _ l=>
  simp only[exOp]at h ⊢
  rw[zfe (s:=s.env) (t:=t.env) (by simpa [XOp.reads]using he)]
  cases h
  refine⟨rfl,rfl,in_clo.2 fun x hx=>?_⟩
  obtain⟨q,hq,rfl⟩:=List.mem_map.1 hx
  exact k1 q fun n hn=>by simp only[XOp.reads];exact List.mem_flatMap.2 ⟨q,hq,hn⟩
 |lookup kind zs agg y z ok=>
  have ky:=k1 y (by simp[XOp.reads];intros;simp[*])
  have kz:=k1 z (by simp[XOp.reads];intros;simp[*])
  simp only[exOp]at h ⊢
  rw[e1 y (by simp[XOp.reads];intros;simp[*]),e1 z (by simp[XOp.reads];intros;simp[*])]
  generalize s.env.ev y=yv at h ky ⊢
  generalize s.env.ev z=zv at h kz ⊢
  have kzero:In K (zeroAV zs agg):=by
   unfold zeroAV
   split
   ·exact in_agg.2 (in_imZ zs)
   ·split
    ·exact in_imm
    ·exact zh0
  have kout:∀(v:AV) (b:Bool),In K v→In K (.tup [v,.imm (.val (.bool b))]):=fun v b hv=>in_tup.2 fun x hx=>by
   simp only[List.mem_cons,List.not_mem_nil,or_false]at hx
   rcases hx with rfl|rfl
   ·exact hv
   ·exact in_imm
  split at h
  ·rename_i hik
   rw[if_pos hik]
   split at h
   ·cases ok<;>cases h
    ·exact⟨rfl,rfl,kzero⟩
    ·exact⟨rfl,rfl,kout _ _ kzero⟩
   ·rename_i id
    have hid:=in_omap.1 ky
    simp only[hm.same id hid]
    split at h
    ·rename_i es hes
     have hin:=in_map hm hid hes
     rw[zgc hm kind kz es 0 fun p hp=>(hin p hp).1]
     split at h
     ·cases ok<;>cases h
      ·exact⟨rfl,rfl,kzero⟩
      ·exact⟨rfl,rfl,kout _ _ kzero⟩
     ·rename_i i hi
      cases hp:es[i]? with
      |none=>rw[hp]at h;cases h
      |some p=>
       rw[hp]at h
       have kp:=(hin p (List.mem_of_getElem? hp)).2
       cases ok<;>cases h
       ·exact⟨rfl,rfl,kp⟩
       ·exact⟨rfl,rfl,kout _ _ kp⟩
     ·cases h
    ·cases h
   ·cases h
  ·cases h
 |lenM y=>
  have ky:=k1 y (by simp[XOp.reads])
  simp only[exOp]at h ⊢
  rw[e1 y (by simp[XOp.reads])]
  generalize s.env.ev y=yv at h ky ⊢
  split at h
  ·cases h;exact⟨rfl,rfl,in_imm⟩
  ·rename_i id
   simp only[hm.same id (in_omap.1 ky)]
   split at h
   ·cases h;exact⟨rfl,rfl,in_imm⟩
   ·cases h
  ·cases h
 |call mode fn l=>
  cases mode with
  |view=>
   simp only[exOp,exView]at h ⊢
   have hin:InL K (l.map s.env.ev):=fun x hx=>by
    obtain⟨q,hq,rfl⟩:=List.mem_map.1 hx
    exact k1 q fun n hn=>by simp only[XOp.reads];exact List.mem_flatMap.2 ⟨q,hq,hn⟩
   rw[zfe (s:=s.env) (t:=t.env) (by simpa [XOp.reads]using he),zjv _ fun x hx=>zgv hm x (hin x hx)]
   split at h
   ·cases h
   ·split at h
    ·cases h
    ·rename_i mc hcall
     split at h
     ·rename_i hp
      cases h
      refine⟨rfl,by simp only[hcall,hp,if_true],?_⟩
      exact zh3 hp
     ·rename_i hp
      split at h
      ·rename_i hi
       simp only[hcall,hp,hi,Bool.false_eq_true,if_true,if_false]
       exact hmap _ _ h fun v hv=>in_frz hv
      ·cases h
  |own=>cases hc
  |share=>cases hc
  |look=>cases hc
  |touch=>cases hc
  |whole=>cases hc
  |peek=>
   simp only[exOp]at h ⊢
   have hin:InL K (l.map s.env.ev):=fun x hx=>by
    obtain⟨q,hq,rfl⟩:=List.mem_map.1 hx
    exact k1 q fun n hn=>by simp only[XOp.reads];exact List.mem_flatMap.2 ⟨q,hq,hn⟩
   rw[zfe (s:=s.env) (t:=t.env) (by simpa [XOp.reads]using he)]
   exact zoe hm hin h
 |alloc|allocB|box|boxB|buildSlice|store|storeF|frz|ice|append|appendK|appendS|appendN|appendT|makeSlice|copy|clear|callV|callT|callW|makeMap|mapSet|rangeS|nextS=>cases hc
 |callP g l=>cases h
 |restore n y z=>cases h
 |junk=>cases h;exact⟨rfl,rfl,zh0⟩
 |litA|litI|litM|litL=>cases h
end Go.EX


namespace Go.EX
section
variable {num:Names} {P:Program}
theorem zdu{p q:Nat→Bool}{i:Nat}(hp:p i=true)(hq:q i=false)(h:∀j,j≠i→q j=p j):∀(l:List Nat),l.Nodup→(i∈l→l.countP q+1=l.countP p)∧(i ∉ l→l.countP q=l.countP p)
 |[],_=>⟨fun h=>absurd h (by simp),fun _=>rfl⟩
 |j::l,hn=>by
  obtain⟨hj,hn⟩:=List.nodup_cons.1 hn
  obtain⟨h1,h2⟩:=zdu hp hq h l hn
  by_cases hji:j=i
  ·subst hji
   refine⟨fun _=>?_,fun hh=>absurd (List.mem_cons_self ..) hh⟩
   rw[List.countP_cons,List.countP_cons,hp,hq,h2 hj];simp
  ·refine⟨fun hh=>?_,fun hh=>?_⟩
   ·have:i∈l:=by rcases List.mem_cons.1 hh with h|h;exact absurd h.symm hji;exact h
    rw[List.countP_cons,List.countP_cons,h j hji,←h1 this];omega
   ·have:i ∉ l:=fun hh'=>hh (List.mem_cons_of_mem _ hh')
    rw[List.countP_cons,List.countP_cons,h j hji,h2 this]
def left(n:Nat)(listed:Array Bool):Nat:=(List.range n).countP fun i=> !listed.getD i true
theorem zjc{n i:Nat}{listed:Array Bool}(hi:i<n)(hl:listed.getD i true=false):left n (listed.setIfInBounds i true)+1=left n listed:=by
 refine(zdu (p:=fun i=> !listed.getD i true) (q:=fun j=> !(listed.setIfInBounds i true).getD j true) (i:=i) (by simp[hl]) ?_ ?_ (List.range n) List.nodup_range).1 (List.mem_range.2 hi)
 ·show(!(listed.setIfInBounds i true).getD i true)=false
  rw[Array.getD_eq_getD_getElem?,Array.getElem?_setIfInBounds]
  split<;>(try split)<;>simp_all
 ·intro j hj
  show(!(listed.setIfInBounds i true).getD j true)=_
  rw[getD_set_ne true (Ne.symm hj)]
theorem zfv{call:Calls'}:∀(xs:List XO) (s s':St),exOps call s xs=some s'→∀i,∃t,exOps call s (xs.take i)=some t∧exOps call t (xs.drop i)=some s'
 |[],s,s',h,i=>⟨s,by simp[exOps],by simpa using h⟩
 |x::xs,s,s',h,0=>⟨s,rfl,h⟩
 |x::xs,s,s',h,i+1=>by
  simp only[exOps]at h
  cases hx:exOne call s x with
  |none=>rw[hx]at h;cases h
  |some s1=>
   rw[hx]at h
   obtain⟨t,h1,h2⟩:=zfv xs s1 s' h i
   exact⟨t,by simp only[List.take_succ_cons,exOps,hx,Option.bind_some,h1],by simpa using h2⟩
theorem zfu{call:Calls'}:∀(xs:List XO) (x:XO) (s t u:St),exOps call s xs=some t→exOps call s (xs++[x])=some u→exOne call t x=some u
 |[],x,s,t,u,h,g=>by
  cases h
  simp only[List.nil_append,exOps]at g
  cases hx:exOne call s x with
  |none=>rw[hx]at g;cases g
  |some s1=>rw[hx]at g;cases g;rfl
 |y::xs,x,s,t,u,h,g=>by
  simp only[List.cons_append,exOps]at h g
  cases hx:exOne call s y with
  |none=>rw[hx]at h;cases h
  |some s1=>rw[hx]at h g;exact zfu xs x s1 t u h g
theorem zbn(s:St)(d:Option Nat)(v:AV)(t:Nat):(s.bind d v).env.get t=if d=some t then v else s.env.get t:=by
 cases d with
 |none=>simp[St.bind]
 |some d=>
  simp only[St.bind,Env.get,Option.some.injEq]
  by_cases h:t=d
  ·subst h;simp
  ·rw[if_neg h,if_neg (fun h'=>h h'.symm)]
theorem zni{call:Calls'}{K:Nat→Prop}{x:XO}(hc:(calmOp x.op||makeOp x.op)=true){s t:St}(hm:Agree K s.mem t.mem)(he:∀n∈x.reads,t.env.get n=s.env.get n)(hk:∀n∈x.reads,In K (s.env.get n))
  (hb:∀fn l as r mc,x.op=.call .own fn l→(l.map s.env.ev).mapM (frz s.mem)=some as→call fn as []=some (r,mc)→(∀id∈r.refs,id<mc.length)∧∀o∈mc,∀id∈o.refs,id<mc.length) {s':St} (h:exOne call s x=some s'):
  ∃(len:Nat) (val:Nat→AV) (new:Nat→List AObj),Makes K len val new∧s'=({ s with mem:=s.mem++new s.mem.length }:St).bind x.dst (val s.mem.length)∧exOne call t x=some (({ t with mem:=t.mem++new t.mem.length }:St).bind x.dst (val t.mem.length)):=by
 have r1:∀n∈x.op.reads,n∈x.reads:=fun n hn=>List.mem_append.2 (.inl hn)
 have r2:∀n∈x.op.needs,n∈x.reads:=fun n hn=>List.mem_append.2 (.inr (List.mem_append.2 (.inl hn)))
 have r3:∀u b,x.guard=some (u,b)→u∈x.reads:=fun u b hg=>List.mem_append.2 (.inr (List.mem_append.2 (.inr (by simp[hg]))))
 have calm:∀v,In K v→Makes K 0 (fun _=>v) (fun _=>[]):=fun v hv=>⟨fun _=>rfl,fun p id hid=>.inl (hv id hid),fun p o ho=>absurd ho (by simp),fun p q f _ h2=>⟨ren_id fun id hid=>h2 id (hv id hid),rfl⟩⟩
 have nil:∀(u:St),({ u with mem:=u.mem++[] }:St)=u:=fun u=>by cases u;simp
 rcases zfm h with⟨v,s1,hx,rfl,hg⟩|⟨rfl,u,b,hg,hcc⟩
 ·have hop:∃(len:Nat) (val:Nat→AV) (new:Nat→List AObj),Makes K len val new∧v=val s.mem.length∧s1={ s with mem:=s.mem++new s.mem.length }∧exOp call t x.op=some (val t.mem.length,{ t with mem:=t.mem++new t.mem.length }):=by
   by_cases hcalm:calmOp x.op=true
   ·obtain⟨rfl,h2,h3⟩:=zb7 hcalm hm (fun n hn=>he n (r1 n hn)) (fun n hn=>hk n (r1 n hn)) hx
    exact⟨0,fun _=>v,fun _=>[],calm v h3,rfl,(nil _).symm,by rw[nil];exact h2⟩
   ·have hmake:makeOp x.op=true:=by simpa [hcalm]using hc
    exact zjr hmake hm (fun n hn=>he n (r2 n hn)) (fun n hn=>hk n (r2 n hn)) hb hx
  obtain⟨len,val,new,h1,rfl,rfl,h4⟩:=hop
  refine⟨len,val,new,h1,rfl,?_⟩
  unfold exOne
  rcases hg with hg|⟨u,b,hg,hcc⟩
  ·simp only[hg,h4,Option.map_some];cases x.dst<;>rfl
  ·have:t.env.get u=.imm (.val (.bool b)):=by rw[he u (r3 u b hg)];exact hcc
   simp only[hg,this,h4,Option.map_some,if_true];cases x.dst<;>rfl
 ·refine⟨0,fun _=>.tup [],fun _=>[],calm (.tup []) (in_tup.2 fun y hy=>by cases hy),by rw[nil],?_⟩
  unfold exOne
  rcases hcc with⟨c,hcc,hne⟩|hcc
  ·have:t.env.get u=.imm (.val (.bool c)):=by rw[he u (r3 u b hg)];exact hcc
   simp only[hg,this,hne,if_false,nil]
   cases x.dst<;>rfl
  ·have:t.env.get u=.tup []:=by rw[he u (r3 u b hg)];exact hcc
   simp only[hg,this,nil]
   cases x.dst<;>rfl
theorem za8{C:Cx}{x:AV}{v:Value}(h:ARep num C x v):∀id∈x.refs,id<C.n:=by
 induction h with
 |imm x v h=>intro id hid;simp[AV.refs]at hid
 |osl id off sz len cap c a arr e hid _ _ _ _ _=>intro j hj;simp[AV.refs]at hj;rw[hj];exact hid
 |optr id off hid=>intro j hj;simp[AV.refs]at hj;rw[hj];exact hid
 |omap id hid=>intro j hj;simp[AV.refs]at hj;rw[hj];exact hid
 |clo f caps vs hl h ih=>
  intro j hj
  simp only[AV.refs]at hj
  obtain⟨x,hx,hj⟩:=refsL_mem.1 hj
  obtain⟨i,hi⟩:=List.getElem?_of_mem hx
  have:i<vs.size:=by rw[←hl];exact(List.getElem?_eq_some_iff.1 hi).1
  exact ih i x vs[i] hi (by simp[this]) j hj
 |agg caps vs hl _ h ih=>
  intro j hj
  simp only[AV.refs]at hj
  obtain⟨x,hx,hj⟩:=refsL_mem.1 hj
  obtain⟨i,hi⟩:=List.getElem?_of_mem hx
  have:i<vs.size:=by rw[←hl];exact(List.getElem?_eq_some_iff.1 hi).1
  exact ih i x vs[i] hi (by simp[this]) j hj
 |tup caps vs hl h ih=>
  intro j hj
  simp only[AV.refs]at hj
  obtain⟨x,hx,hj⟩:=refsL_mem.1 hj
  obtain⟨i,hi⟩:=List.getElem?_of_mem hx
  have:i<vs.size:=by rw[←hl];exact(List.getElem?_eq_some_iff.1 hi).1
  exact ih i x vs[i] hi (by simp[this]) j hj
 |yld id hid=>intro j hj;simp[AV.refs]at hj;subst hj;exact hid
 |seat id off n e hid hw hb=>intro j hj;simp[AV.refs]at hj;subst hj;exact hid
 |tag=>intro id hid;simp[AV.refs]at hid
 |err=>intro id hid;simp[AV.refs]at hid
 |junk v=>intro id hid;simp[AV.refs]at hid
theorem znv{C:Cx}{id:Nat}{o:AObj}(h:ORep num C id o):∀j∈o.refs,j<C.n:=by
 intro j hj
 cases o with
 |flat=>simp[AObj.refs]at hj
 |rich cs=>
  obtain⟨arr,e,_,h2⟩:=h
  simp only[AObj.refs]at hj
  obtain⟨x,hx,hj⟩:=refsL_mem.1 hj
  obtain⟨i,hi⟩:=List.getElem?_of_mem hx
  obtain⟨u,_,_,hr⟩:=h2 i x hi
  exact za8 hr j hj
 |map es=>
  obtain⟨es',clock,_,hl,h3⟩:=h
  simp only[AObj.refs,List.mem_append]at hj
  have one:∀(p:AV×AV),p∈es→(j∈p.1.refs∨j∈p.2.refs)→j<C.n:=by
   intro p hp hj
   obtain⟨i,hi⟩:=List.getElem?_of_mem hp
   have:i<es'.size:=by rw[hl];exact(List.getElem?_eq_some_iff.1 hi).1
   obtain⟨g1,g2⟩:=h3 i p es'[i] hi (by simp[this])
   rcases hj with hj|hj
   ·exact za8 g1 j hj
   ·exact za8 g2 j hj
  rcases hj with hj|hj
  ·obtain⟨x,hx,hj⟩:=refsL_mem.1 hj
   obtain⟨p,hp,rfl⟩:=List.mem_map.1 hx
   exact one p hp (.inl hj)
  ·obtain⟨x,hx,hj⟩:=refsL_mem.1 hj
   obtain⟨p,hp,rfl⟩:=List.mem_map.1 hx
   exact one p hp (.inr hj)
 |dead=>simp[AObj.refs]at hj
 |fix=>simp[AObj.refs]at hj
 |loop env ps as b y=>
  obtain⟨R,N,_,_,_,_,_,_,h7⟩:=h
  simp only[AObj.refs]at hj
  obtain⟨p,hp,hj⟩:=env_roots_mem.1 hj
  exact za8 (h7 p hp) j hj
 |text=>simp[AObj.refs]at hj
 |iter=>simp[AObj.refs]at hj
theorem zn1{call:Calls'}(hcall:CallOK num P call){C:Cx}{s:St}{a:Act}(hs:SRep num C s a){op:Op}{fn:Nat}{l:List Src}{as:List AV}{r:AV}{mc:Mem}(htr:trOp P num op=some (XOp.call .view fn l))(has:(l.map s.env.ev).mapM (frz s.mem)=some as)(hc:call fn as []=some (r,mc)):
  (∀id∈r.refs,id<mc.length)∧∀o∈mc,∀id∈o.refs,id<mc.length:=by
 have:∃f args ats,op=.call ⟨.value (.func f),args,ats⟩∧num f=fn∧args.toList.mapM (trSrc num)=some l:=by
  have hm1:∀{o:Operand} {g:Src→XOp},(∀y,g y≠ .call .view fn l)→(trSrc num o).map g≠some (.call .view fn l):=by
   intro o g hg h
   cases ho:trSrc num o with
   |none=>rw[ho]at h;cases h
   |some y=>rw[ho]at h;exact hg y (Option.some.inj h)
  cases op with
  |call c=>
   obtain⟨callee,args,ats⟩:=c
   simp only[trOp]at htr
   cases callee with
   |invoke=>simp[trCall]at htr
   |builtin b=>
    simp only[trCall]at htr
    repeat' (first|(cases htr;done)|exact absurd htr (hm1 fun y hy=>by cases hy)|split at htr)
   |value fo=>
    cases fo with
    |func f=>
     simp only[trCall,Option.map_eq_some_iff]at htr
     obtain⟨ys,hy,hx⟩:=htr
     cases hx
     exact⟨f,args,ats,rfl,rfl,hy⟩
    |_=>
     simp only[trCall]at htr
     repeat' (first|(cases htr;done)|split at htr)
  |makeFunc f fi cs=>
   cases f<;>simp only[trOp]at htr<;>repeat' (first|(cases htr;done)|split at htr)
   simp only[Option.map_eq_some_iff]at htr
   obtain⟨_,_,h⟩:=htr
   cases h
  |build t ps=>
   simp only[trOp]at htr
   repeat' (first|(cases htr;done)|(simp only[Option.map_eq_some_iff]at htr;obtain⟨_,_,h⟩:=htr;cases h;done)|split at htr)
  |buildSlice t n ps=>
   simp only[trOp]at htr
   repeat' (first|(cases htr;done)|(simp only[Option.map_eq_some_iff]at htr;obtain⟨_,_,h⟩:=htr;cases h;done)|split at htr)
  |next o is=>
   cases is<;>simp only[trOp,reduceCtorEq]at htr
   exact absurd htr (hm1 fun y hy=>by cases hy)
  |slice t o lo hi mx=>
   cases mx<;>cases lo<;>cases hi<;>simp only[trOp]at htr<;>repeat' (first|(cases htr;done)|split at htr)
  |_=>
   simp only[trOp]at htr
   repeat' (first|(cases htr;done)|exact absurd htr (hm1 fun y hy=>by cases hy)|split at htr)
 obtain⟨f,args,ats,rfl,rfl,hy⟩:=this
 obtain⟨hl,hr⟩:=zbc hs args.toList l hy
 obtain⟨h1,h2⟩:=zba hs.mem has hl hr (C.view s.mem num) (fun _ h=>h) rfl
 obtain⟨_,hcs⟩:=hcall.fn f as [] r mc _ _ hc (zvy hs.mem) h1 h2
 obtain⟨e,w',fr,⟨v,D,_,_,hst,hrv⟩,_⟩:=hcs []
 have hn:=hst.rep.len
 refine⟨fun id hid=>by have:=za8 hrv id hid;omega,fun o ho id hid=>?_⟩
 obtain⟨i,hi⟩:=List.getElem?_of_mem ho
 have:=znv (hst.rep.obj i o hi) id hid
 omega
theorem zut{call:Calls'}{N:Nat}{ops:Array Oper}:∀(l:List Oper) (xs:List XO) {s s':St},trOps P num N ops l=xs.map XO.wipe→exOps call s xs=some s'→∀(i:Nat) (o:Oper),l[i]?=some o→∃x:XO,xs[i]?=some x∧trOper P num N ops o=some x.wipe
 |[],_,_,_,_,_,i,o,ho=>by simp at ho
 |o::l,xs,s,s',htr,h,i,o',hi=>by
  simp only[trOps]at htr
  cases ho:trOper P num N ops o with
  |none=>
   rw[ho]at htr
   cases xs with
   |nil=>simp at htr
   |cons x r=>
    simp only[List.map_cons,List.cons.injEq]at htr
    have hb:x.wipe=badOp:=htr.1.symm
    have h1:(x.op=.callV (.c (.bool true)) []∨x.op=.callP (.c (.bool true)) []∨x.op=.callW (.c (.bool true)) []∨∃w,x.op=.callT (.c (.bool true)) [] w)∧x.guard=none:=by
     obtain⟨d,op,g⟩:=x
     simp only[XO.wipe,badOp,XO.mk.injEq]at hb
     obtain⟨_,h2,h3⟩:=hb
     refine⟨?_,h3⟩
     cases op<;>simp only[XOp.wipe,reduceCtorEq]at h2
     ·exact .inl h2
     ·cases h2;exact .inr (.inl rfl)
     ·cases h2;exact .inr (.inr (.inl rfl))
     ·cases h2;exact .inr (.inr (.inr ⟨_,rfl⟩))
    simp only[exOps]at h
    unfold exOne at h
    rcases h1.1 with h4|h4|h4|⟨_,h4⟩<;>simp only[h4,h1.2,exOp,Env.ev,Option.map_none,Option.bind_none]at h<;>cases h
  |some y=>
   rw[ho]at htr
   cases xs with
   |nil=>simp at htr
   |cons x r=>
    simp only[List.map_cons,List.cons.injEq]at htr
    simp only[exOps]at h
    cases hx:exOne call s x with
    |none=>rw[hx]at h;cases h
    |some s1=>
     rw[hx]at h
     cases i with
     |zero=>simp at hi;subst hi;exact⟨x,rfl,by rw[ho,htr.1]⟩
     |succ i=>exact zut l r htr.2 h i o' (by simpa using hi)
theorem zuu{N:Nat}{ops:Array Oper}:∀(l:List Oper) (xs:List XO),l.length=xs.length→(∀(i:Nat) (o:Oper),l[i]?=some o→∃x:XO,xs[i]?=some x∧trOper P num N ops o=some x.wipe)→trOps P num N ops l=xs.map XO.wipe
 |[],xs,hl,_=>by cases xs with|nil=>rfl|cons=>cases hl
 |o::l,xs,hl,h=>by
  cases xs with
  |nil=>cases hl
  |cons x r=>
   obtain⟨y,hy,ho⟩:=h 0 o rfl
   simp at hy;subst hy
   simp only[trOps,ho,List.map_cons]
   rw[zuu l r (by simpa using hl) fun i o hi=>h (i+1) o (by simpa using hi)]
theorem zhk{m n:Nat}{listed:Array Bool}(hs:listed.size=m)(hn:n≤m)(h1:∀i,i<n→listed.getD i true=true)(h2:∀t,n≤t→t<m→listed.getD t true=false):listed=headArr m n:=by
 apply Array.ext
 ·simp[headArr,hs]
 ·intro i hi _
  have hi':i<m:=by omega
  have:listed[i]=listed.getD i true:=by simp[hi]
  rw[this]
  by_cases hin:i<n
  ·rw[h1 i hin];simp[headArr,hin]
  ·rw[h2 i (by omega) hi'];simp[headArr,hin]
theorem zom{C:Cx}{m:Mem}(hm:MRep num C m){k:Nat}{l:List Nat}(hn:l.Nodup)(hk:∀i,i<k→l[i]?=some i)(hkl:k≤l.length):Step num k C m (C.pick l) (m.pickAll l):=by
 have hown:∀b,Own (C.pick l) (m.pickAll l) b→Own C m b:=by
  intro b hb
  obtain⟨id,o,_,ho,hl,hb⟩:=zoj hb
  exact⟨id,o,ho,hl,hb⟩
 refine⟨zok hm hn,rfl,rfl,rfl,Nat.le_refl _,fun _ _ _=>rfl,fun _ _ _ h=>h,fun _ h=>h,fun _ h=>.inl h,fun b hb=>.inr (hown b hb),fun i hi p hp hmv=>?_,by rw[Mem.pickAll,List.length_map];exact hkl⟩
 obtain⟨id,h3,rfl⟩:=zoh hp
 rw[hk i hi]at h3
 cases h3
 rw[zql]at hmv
 obtain⟨o,ho,he⟩:=zg5 hmv
 rw[he]at hmv
 exact⟨o,ho,hmv,pick_σ (hk i hi)⟩
theorem zoi{C:Cx}{s:St}{a:Act}(hs:SRep num C s a){l:List Nat}(hn:l.Nodup)(hk:∀i,i<s.k→l[i]?=some i)(hkl:s.k≤l.length):Later num s.k C s.mem a (C.pick l) { k:=s.k,env:=s.env.ren (place l),mem:=s.mem.pickAll l } a:=by
 have hst:=zom hs.mem hn hk hkl
 exact⟨⟨hst.rep,hs.env.tr (zon _),hst.len⟩,hst,rfl,rfl,fun _ _ h=>h⟩
theorem zq9{C:Cx}{s:St}{a:Act}(hs:SRep num C s a)(d:Nat):Later num s.k C s.mem a { C with n:=C.n+d } { s with mem:=s.mem++List.replicate d AObj.dead } a:=by
 have hm:=hs.mem
 have ht:Tr some C { C with n:=C.n+d }:=⟨fun _ h=>h,fun _ _=>rfl,fun id j hid hj=>by cases hj;exact⟨by show _<C.n+d;omega,rfl,fun _ _ h=>h⟩⟩
 have split:∀(i:Nat) (p:AObj),(s.mem++List.replicate d AObj.dead)[i]?=some p→s.mem[i]?=some p∨p=.dead:=by
  intro i p hp
  rcases Nat.lt_or_ge i s.mem.length with h|h
  ·rw[List.getElem?_append_left h]at hp;exact .inl hp
  ·rw[List.getElem?_append_right h]at hp
   exact .inr (List.eq_of_mem_replicate (List.mem_of_getElem? hp))
 have hown:∀b,Own { C with n:=C.n+d } (s.mem++List.replicate d AObj.dead) b→Own C s.mem b:=by
  rintro b ⟨i,p,hp,hl,hb⟩
  rcases split i p hp with h|rfl
  ·exact⟨i,p,h,hl,hb⟩
  ·cases hl
 have hk:s.k≤(s.mem++List.replicate d AObj.dead).length:=by have:=hs.k;simp;omega
 have hrep:MRep num { C with n:=C.n+d } (s.mem++List.replicate d AObj.dead):=by
  refine⟨by simp[hm.len],fun i p hp=>?_,fun i j p q hp hq hlp hlq he=>?_,fun b hb=>hm.imm b (hown b hb),hm.bd,hm.glo⟩
  ·rcases split i p hp with h|rfl
   ·exact znw ht rfl (fun _ h=>h) (hm.obj i p h)
   ·trivial
  ·rcases split i p hp with h|rfl
   ·rcases split j q hq with h'|rfl
    ·exact hm.inj i j p q h h' hlp hlq he
    ·cases hlq
   ·cases hlp
 refine⟨⟨hrep,hs.env.mono ht,hk⟩,⟨hrep,rfl,rfl,rfl,Nat.le_refl _,fun _ _ _=>rfl,fun _ _ _ h=>h,fun _ h=>h,fun _ h=>.inl h,fun b hb=>.inr (hown b hb),fun i _ p hp hmv=>?_,hk⟩,rfl,rfl,fun _ _ h=>h⟩
 rcases split i p hp with h|rfl
 ·exact⟨p,h,hmv,rfl⟩
 ·cases hmv
structure Drawn (call:Calls') (P:Program) (num:Names) (N:Nat) (ops:Array Oper) (xs:List XO) (n:Nat) (s0 sF:St) (S:Nat→St) (sp:Nat→Bool):Prop where
 len:xs.length=ops.size
 hn:n≤ops.size
 tr:∀(i:Nat) o,sp i=false→ops[i]?=some o→∃x:XO,xs[i]?=some x∧trOper P num N ops o=some x.wipe
 quiet:∀(i:Nat) x,i<n→xs[i]?=some x→(calmOp x.op||makeOp x.op)=true
 one:∀(i j:Nat) x y d,i<n→j<n→xs[i]?=some x→xs[j]?=some y→y.dst=some d→(i=j∨x.dst≠some d)∧(d∈x.reads→j<i∧Region.waitsFor .any ops i j=true)
 low:∀(i:Nat) o,i<n→ops[i]?=some o→∀e∈o.after,Region.binds .any e=true→e.on<i
 S0:S 0=s0
 go:∀(i:Nat) x,xs[i]?=some x→exOne call (S i) x=some (S (i+1))
 fin:S xs.length=sF
 step:∀(i:Nat) x,i<n→xs[i]?=some x→exOne call (S i) x=some (S (i+1))
 rest:exOps call (S n) (xs.drop n)=some sF
section
variable {call:Calls'} {N:Nat} {ops:Array Oper} {xs:List XO} {n:Nat} {s0 sF:St} {S:Nat→St} {sp:Nat→Bool}
def Live(S:Nat→St)(n:Nat)(listed:Array Bool)(id:Nat):Prop:=∀j,j<n→(S j).mem.length≤id→id<(S (j+1)).mem.length→listed.getD j true=true
structure Part (xs:List XO) (n:Nat) (S:Nat→St) (listed:Array Bool) (t:St):Prop where
 len:t.mem.length=(S n).mem.length
 k:t.k=(S 0).k
 k0:(S 0).k≤(S 0).mem.length
 live:∀id,id<(S n).mem.length→Live S n listed id→t.mem[id]?=(S n).mem[id]?
 dead:∀id,id<(S n).mem.length→¬Live S n listed id→t.mem[id]?=some .dead
 done:∀(i:Nat) x u,i<n→xs[i]?=some x→x.dst=some u→listed.getD i true=true→t.env.get u=(S (i+1)).env.get u∧∀id∈(t.env.get u).refs,Live S n listed id∧id<(S (i+1)).mem.length
 not:∀u,(∀(i:Nat) x,i<n→xs[i]?=some x→x.dst=some u→listed.getD i true=false)→t.env.get u=(S 0).env.get u∧∀id∈(t.env.get u).refs,id<(S 0).mem.length
 mem:∀(id:Nat) o,t.mem[id]?=some o→∀j∈o.refs,Live S n listed j∧∀i,i≤n→id<(S i).mem.length→j<(S i).mem.length
end
section
variable {call:Calls'} {N:Nat} {ops:Array Oper} {xs:List XO} {n:Nat} {s0 sF:St} {S:Nat→St} {sp:Nat→Bool}
theorem zjq{x:XOp}(hc:makeOp x=true){s s':St}{r:AV}(h:exOp call s x=some (r,s')):∃new,s'={ s with mem:=s.mem++new }:=by
 cases x with
 |alloc zs=>cases h;exact⟨_,rfl⟩
 |allocB off zs=>cases h;exact⟨_,rfl⟩
 |boxB off n y=>
  simp only[exOp]at h
  split at h
  ·split at h
   ·split at h
    ·cases h;exact⟨_,rfl⟩
    ·cases h
   ·cases h
  ·cases h
 |box n y=>
  simp only[exOp,Option.map_eq_some_iff]at h
  obtain⟨cs,_,h⟩:=h
  cases h;exact⟨_,rfl⟩
 |buildSlice sz zs len ps=>
  simp only[exOp,Option.map_eq_some_iff]at h
  obtain⟨cs,_,h⟩:=h
  cases h;exact⟨_,rfl⟩
 |makeSlice sz bytes zs l c=>
  simp only[exOp]at h
  split at h
  ·split at h
   ·cases h;exact⟨_,rfl⟩
   ·cases h
  ·cases h
 |makeMap hint=>
  simp only[exOp]at h
  split at h
  ·cases h;exact⟨_,rfl⟩
  ·split at h
   ·cases h;exact⟨_,rfl⟩
   ·cases h
 |call mode fn l=>
  cases mode with
  |own=>
   simp only[exOp,exOwn]at h
   split at h
   ·cases h
   ·split at h
    ·cases h
    ·split at h
     ·cases h;exact⟨_,rfl⟩
     ·cases h
  |look=>
   simp only[exOp,exLook]at h
   split at h
   ·cases h
   ·split at h
    ·cases h;exact⟨_,rfl⟩
    ·cases h
  |view=>cases hc
  |share=>cases hc
  |peek=>cases hc
  |touch=>cases hc
  |whole=>cases hc
 |_=>cases hc
theorem zpf{x:XO}(hc:(calmOp x.op||makeOp x.op)=true){s s':St}(h:exOne call s x=some s'):∃new v,s'=({ s with mem:=s.mem++new }:St).bind x.dst v:=by
 have nil:∀(u:St),({ u with mem:=u.mem++[] }:St)=u:=fun u=>by cases u;simp
 rcases zfm h with⟨v,s1,hx,rfl,hg⟩|⟨rfl,u,b,hg,hcc⟩
 ·by_cases hcalm:calmOp x.op=true
  ·obtain⟨rfl,_,_⟩:=zb7 (K:=fun _=>True) hcalm (t:=s) ⟨fun _ _=>rfl,fun _ _ _ _ _ _=>trivial⟩ (fun _ _=>rfl) (fun _ _ _ _=>trivial) hx
   exact⟨[],v,by rw[nil]⟩
  ·have hmake:makeOp x.op=true:=by simpa [hcalm]using hc
   obtain⟨new,rfl⟩:=zjq hmake hx
   exact⟨new,v,rfl⟩
 ·exact⟨[],.tup [],by rw[nil]⟩
theorem Drawn.add(d:Drawn call P num N ops xs n s0 sF S sp){i:Nat}(hi:i<n){x:XO}(hx:xs[i]?=some x):∃new v,S (i+1)=({ S i with mem:=(S i).mem++new }:St).bind x.dst v:=zpf (d.quiet i x hi hx) (d.step i x hi hx)
theorem Drawn.at(d:Drawn call P num N ops xs n s0 sF S sp){i:Nat}(hi:i<n):∃x,xs[i]?=some x:=by
 have:i<xs.length:=by have:=d.hn;have:=d.len;omega
 exact⟨_,List.getElem?_eq_getElem this⟩
theorem Drawn.pre (d : Drawn call P num N ops xs n s0 sF S sp) (i : Nat) : ∀ j, i ≤ j → j ≤ n → (S i).mem.length ≤ (S j).mem.length ∧ (∀ id, id < (S i).mem.length → (S j).mem[id]? = (S i).mem[id]?) ∧ (S j).k = (S i).k := by
  intro j
  induction j with
  | zero => intro h _; have : i = 0 := by omega
            subst this; exact ⟨Nat.le_refl _, fun _ _ => rfl, rfl⟩
  | succ j ih =>
    intro hij hj
    by_cases hi : i = j + 1
    · subst hi; exact ⟨Nat.le_refl _, fun _ _ => rfl, rfl⟩
    · obtain ⟨h1, h2, h3⟩ := ih (by omega) (by omega)
      obtain ⟨x, hx⟩ := d.at (show j < n by omega)
      obtain ⟨new, v, he⟩ := d.add (show j < n by omega) hx
      rw [he, zbp, bind_k]
      refine ⟨by simp; omega, fun id hid => ?_, h3⟩
      rw [List.getElem?_append_left (by omega)]
      exact h2 id hid
theorem Drawn.get (d : Drawn call P num N ops xs n s0 sF S sp) (t : Nat) (i : Nat) : ∀ j, i ≤ j → j ≤ n → (∀ (k : Nat) x, i ≤ k → k < j → xs[k]? = some x → x.dst ≠ some t) → (S j).env.get t = (S i).env.get t := by
  intro j
  induction j with
  | zero => intro hij _ _; have : i = 0 := by omega
            subst this; rfl
  | succ j ih =>
    intro hij hj h
    by_cases hi : i = j + 1
    · subst hi; rfl
    · obtain ⟨x, hx⟩ := d.at (show j < n by omega)
      obtain ⟨new, v, he⟩ := d.add (show j < n by omega) hx
      rw [he, zbn, if_neg (h j _ (by omega) (by omega) hx)]
      exact ih (by omega) (by omega) fun k x h1 h2 h3 => h k x h1 (by omega) h3
theorem zpu{listed:Array Bool}{i j:Nat}(h:i∈Region.ready .any ops listed)(hw:Region.waitsFor .any ops i j=true):listed.getD j false=true:=by
 obtain⟨_,o,ho,hall⟩:=mem_ready.1 h
 obtain⟨o',ho',e,he,hb,hon⟩:=Region.waitsFor_spec hw
 have:o'=o:=Option.some.inj (ho'.symm.trans ho)
 subst this
 rw[←hon]
 exact hall e he hb
theorem zg6{listed:Array Bool}{i:Nat}(h:listed.getD i false=true):listed.getD i true=true:=by
 rcases Nat.lt_or_ge i listed.size with h'|h'
 ·simp[h']at h ⊢;exact h
 ·simp[Array.getElem?_eq_none h']at h
def swapIn(M p len:Nat):List Nat:=(List.range M).map fun id=>if p≤id∧id<p+len then M+(id-p)else id
theorem zub{M p len id:Nat}(h:id<M):(swapIn M p len)[id]?=some (if p≤id∧id<p+len then M+(id-p)else id):=by
 simp[swapIn,h]
theorem zuc(M p len:Nat):(swapIn M p len).Nodup:=by
 unfold swapIn
 refine List.pairwise_map.2 (List.Pairwise.imp_of_mem ?_ List.nodup_range)
 intro a b ha hb hab h
 have:=List.mem_range.1 ha
 have:=List.mem_range.1 hb
 split at h<;>split at h<;>omega
theorem zua{M p len j:Nat}(hj:j<len)(hp:p+len≤M):place (swapIn M p len) (M+j)=some (p+j):=by
 refine zoq _ _ _ (zuc ..) ?_
 rw[zub (by omega),if_pos ⟨by omega,by omega⟩]
 exact congrArg some (by omega)
theorem zud{M p len id:Nat}(h:id<M)(hn:¬(p≤id∧id<p+len)):place (swapIn M p len) id=some id:=by
 refine zoq _ _ _ (zuc ..) ?_
 rw[zub h,if_neg hn]
theorem Drawn.part_step(d:Drawn call P num N ops xs n s0 sF S sp)(hcall:CallOK num P call){listed:Array Bool}{t:St}(p:Part xs n S listed t){i:Nat}(hi:i<n)(hr:i∈Region.ready .any ops listed){x:XO}(hx:xs[i]?=some x){o:Oper}(htr:∀fn l,x.op=.call .own fn l→trOp P num o.op=some (XOp.call .view fn l)){C:Cx}{a:Act}(hs:SRep num C t a):
  ∃t1,exOne call t x=some t1∧∀D a',SRep num D t1 a'→∃t2 E,E.w=D.w∧Later num t1.k D t1.mem a' E t2 a'∧Part xs n S (listed.setIfInBounds i true) t2:=by
 have hun:listed.getD i true=false:=(mem_ready.1 hr).1
 have pre:=fun (i j:Nat) (h1:i≤j) (h2:j≤n)=>d.pre i j h1 h2
 have mono:∀i j,i≤j→j≤n→(S i).mem.length≤(S j).mem.length:=fun i j h1 h2=>(pre i j h1 h2).1
 let K:Nat→Prop:=fun id=>id<(S i).mem.length∧Live S n listed id
 have live0:∀id,id<(S 0).mem.length→Live S n listed id:=fun id h j hj h1 _=>by have:=mono 0 j (by omega) (by omega);omega
 have hAgree:Agree K (S i).mem t.mem:=by
  have same:∀id,K id→t.mem[id]?=(S i).mem[id]?:=fun id ⟨h1,h2⟩=>by
   have:=mono i n (by omega) (Nat.le_refl _)
   rw[p.live id (by omega) h2]
   exact(pre i n (by omega) (Nat.le_refl _)).2.1 id h1
  refine⟨same,fun id o' hk ho' j hj=>?_⟩
  obtain⟨h1,h2⟩:=p.mem id o' (by rw[same id hk];exact ho') j hj
  exact⟨h2 i (by omega) hk.1,h1⟩
 have hreads:∀u∈x.reads,t.env.get u=(S i).env.get u∧In K ((S i).env.get u):=by
  intro u hu
  by_cases hw:∃(j:Nat) (y:XO),j<n∧xs[j]?=some y∧y.dst=some u
  ·obtain⟨j,y,hj,hy,hd⟩:=hw
   obtain⟨h3,h4⟩:=(d.one i j x y u hi hj hx hy hd).2 hu
   obtain⟨h5,h6⟩:=p.done j y u hj hy hd (zg6 (zpu hr h4))
   have h7:=d.get u (j+1) i (by omega) (by omega) fun k z h5 h6 h7=>by
    rcases(d.one k j z y u (by omega) hj h7 hy hd).1 with h|h
    ·omega
    ·exact h
   have h8:t.env.get u=(S i).env.get u:=h5.trans h7.symm
   refine⟨h8,fun id hid=>?_⟩
   rw[←h8]at hid
   obtain⟨h9,h10⟩:=h6 id hid
   have:=mono (j+1) i (by omega) (by omega)
   exact⟨by omega,h9⟩
  ·have hno:∀(j:Nat) (y:XO),j<n→xs[j]?=some y→y.dst≠some u:=fun j y h1 h2 h3=>hw ⟨j,y,h1,h2,h3⟩
   obtain⟨h5,h6⟩:=p.not u fun j y h1 h2 h3=>absurd h3 (hno j y h1 h2)
   have h7:=d.get u 0 i (Nat.zero_le _) (by omega) fun k z _ h6 h7=>hno k z (by omega) h7
   have h8:t.env.get u=(S i).env.get u:=h5.trans h7.symm
   refine⟨h8,fun id hid=>?_⟩
   rw[←h8]at hid
   have h9:=h6 id hid
   have:=mono 0 i (by omega) (by omega)
   exact⟨by omega,live0 id h9⟩
 have hb:∀fn l as r mc,x.op=.call .own fn l→(l.map (S i).env.ev).mapM (frz (S i).mem)=some as→call fn as []=some (r,mc)→(∀id∈r.refs,id<mc.length)∧∀o∈mc,∀id∈o.refs,id<mc.length:=by
  intro fn l as r mc hop has hc
  have hsub:∀u∈l.flatMap srcTmp,u∈x.reads:=fun u hu=>List.mem_append.2 (.inr (List.mem_append.2 (.inl (by rw[hop];exact hu))))
  have hin:InL K (l.map (S i).env.ev):=fun y hy=>by
   obtain⟨q,hq,rfl⟩:=List.mem_map.1 hy
   exact in_ev fun u hu=>(hreads u (hsub u (List.mem_flatMap.2 ⟨q,hq,hu⟩))).2
  refine zn1 hcall hs (op:=o.op) (l:=l) (fn:=fn) (htr fn l hop) (as:=as) ?_ hc
  rw[zfe (s:=(S i).env) (t:=t.env) fun u hu=>(hreads u (hsub u hu)).1,zjv _ fun y hy=>zgv hAgree y (hin y hy)]
  exact has
 obtain⟨len,val,new,hmk,hS,ht1⟩:=zni (d.quiet i x hi hx) hAgree (fun u hu=>(hreads u hu).1) (fun u hu=>(hreads u hu).2) hb (d.step i x hi hx)
 refine⟨_,ht1,fun D a' hD=>?_⟩
 have hlen:=p.len
 rw[hlen]at hD ⊢
 generalize hM:(S n).mem.length=M at hD hlen ⊢
 have hpos1:(S (i+1)).mem.length=(S i).mem.length+len:=by rw[hS,zbp];simp[hmk.size]
 have hpM:(S i).mem.length+len≤M:=by rw[←hpos1,←hM];exact mono (i+1) n (by omega) (Nat.le_refl _)
 generalize hl:swapIn M (S i).mem.length len=l
 have hlget:∀id,id<M→l[id]?=some (if (S i).mem.length≤id∧id<(S i).mem.length+len then M+(id-(S i).mem.length)else id):=fun id h=>by rw[←hl];exact zub h
 have hllen:l.length=M:=by rw[←hl];simp[swapIn]
 have hlnd:l.Nodup:=by rw[←hl];exact zuc ..
 generalize hf:place l=f
 have hf1:∀j,j<len→f (M+j)=some ((S i).mem.length+j):=fun j hj=>by rw[←hf,←hl];exact zua hj hpM
 have hf2:∀id,id<M→¬((S i).mem.length≤id∧id<(S i).mem.length+len)→f id=some id:=fun id h1 h2=>by rw[←hf,←hl];exact zud h1 h2
 have hnr:∀id,Live S n listed id→¬((S i).mem.length≤id∧id<(S i).mem.length+len):=fun id h ⟨h1,h2⟩=>by
  have:=h i hi h1 (by omega)
  rw[hun]at this;cases this
 have hf3:∀id,Live S n listed id→id<M→f id=some id:=fun id h1 h2=>hf2 id h2 (hnr id h1)
 have hiM:(S i).mem.length≤M:=by omega
 obtain⟨hv,hn⟩:=hmk.ren M (S i).mem.length f hf1 fun id hk=>hf3 id hk.2 (by have:=hk.1;omega)
 have h0i:(S 0).mem.length≤(S i).mem.length:=mono 0 i (by omega) (by omega)
 have hk0:=p.k0
 have hkt:=p.k
 have ht1k:(({ t with mem:=t.mem++new M }:St).bind x.dst (val M)).k=(S 0).k:=by rw[bind_k];exact hkt
 have hlat:=zoi hD hlnd (fun j hj=>by
  rw[ht1k]at hj
  rw[hlget j (by omega),if_neg (by omega)]) (by rw[ht1k,hllen];omega)
 rw[hf]at hlat
 refine⟨_,D.pick l,rfl,hlat,?_⟩
 have hset:∀j,j≠i→(listed.setIfInBounds i true).getD j true=listed.getD j true:=fun j hj=>getD_set_ne true (Ne.symm hj)
 have hseti:(listed.setIfInBounds i true).getD i true=true:=by
  rw[Array.getD_eq_getD_getElem?,Array.getElem?_setIfInBounds]
  split<;>(try split)<;>simp_all
 have up1:∀id,Live S n listed id→Live S n (listed.setIfInBounds i true) id:=fun id h j hj h1 h2=>by
  by_cases hji:j=i
  ·subst hji;exact hseti
  ·rw[hset j hji];exact h j hj h1 h2
 have up2:∀id,(S i).mem.length≤id→id<(S i).mem.length+len→Live S n (listed.setIfInBounds i true) id:=fun id h1 h2 j hj h3 h4=>by
  by_cases hji:j=i
  ·subst hji;exact hseti
  ·exfalso
   rcases Nat.lt_or_ge j i with h|h
   ·have:=mono (j+1) i (by omega) (by omega);omega
   ·have:=mono (i+1) j (by omega) (by omega);omega
 have down:∀id,Live S n (listed.setIfInBounds i true) id→¬((S i).mem.length≤id∧id<(S i).mem.length+len)→Live S n listed id:=fun id h hno j hj h1 h2=>by
  by_cases hji:j=i
  ·subst hji;exact absurd ⟨h1,by omega⟩ hno
  ·rw[←hset j hji];exact h j hj h1 h2
 have hnewM:(new M).length=len:=hmk.size M
 have get1:∀id,id<M→¬((S i).mem.length≤id∧id<(S i).mem.length+len)→(Mem.pickAll (({ t with mem:=t.mem++new M }:St).bind x.dst (val M)).mem l)[id]?=t.mem[id]?:=by
  intro id hid hno
  rw[zbp,Mem.pickAll,List.getElem?_map,hlget id hid,if_neg hno]
  simp only[Option.map_some]
  rw[List.getElem?_append_left (by omega)]
  have hq:t.mem[id]?=some t.mem[id]:=List.getElem?_eq_getElem (by omega)
  rw[hq]
  simp only[Option.getD_some,Option.some.injEq]
  rw[hf]
  refine zm7 fun j hj=>?_
  obtain⟨h1,h2⟩:=p.mem id _ hq j hj
  exact hf3 j h1 (by have:=h2 n (Nat.le_refl _) (by omega);omega)
 have get2:∀j,j<len→(Mem.pickAll (({ t with mem:=t.mem++new M }:St).bind x.dst (val M)).mem l)[(S i).mem.length+j]?=(new (S i).mem.length)[j]?:=by
  intro j hj
  rw[zbp,Mem.pickAll,List.getElem?_map,hlget _ (by omega),if_pos ⟨by omega,by omega⟩]
  simp only[Option.map_some]
  rw[show M+((S i).mem.length+j-(S i).mem.length)=M+j by omega,List.getElem?_append_right (by omega),show M+j-t.mem.length=j by omega]
  rw[←hn,List.getElem?_map,hf]
  have hq:(new M)[j]?=some (new M)[j]:=List.getElem?_eq_getElem (by omega)
  rw[hq];rfl
 have new_get:∀j,j<len→(new (S i).mem.length)[j]?=(S n).mem[(S i).mem.length+j]?:=by
  intro j hj
  rw[(pre (i+1) n (by omega) (Nat.le_refl _)).2.1 _ (by omega),hS,zbp,List.getElem?_append_right (by omega),show(S i).mem.length+j-(S i).mem.length=j by omega]
 have envKeep:∀u,(∀id∈(t.env.get u).refs,Live S n listed id∧id<M)→(t.env.get u).ren f=t.env.get u:=fun u h=>ren_id fun id hid=>hf3 id (h id hid).1 (h id hid).2
 refine⟨?_,ht1k,hk0,fun id hid hlv=>?_,fun id hid hno=>?_,fun j y u hj hy hd hlj=>?_,fun u hu=>?_,fun id o' ho' j hj=>?_⟩
 ·show(Mem.pickAll _ l).length=_
  rw[Mem.pickAll,List.length_map,hllen,hM]
 ·rw[hM]at hid
  by_cases hin:(S i).mem.length≤id∧id<(S i).mem.length+len
  ·show(Mem.pickAll _ l)[id]?=_
   have h1:=get2 (id-(S i).mem.length) (by omega)
   have h2:=new_get (id-(S i).mem.length) (by omega)
   rw[show(S i).mem.length+(id-(S i).mem.length)=id by omega]at h1 h2
   exact h1.trans h2
  ·exact(get1 id hid hin).trans (p.live id (by omega) (down id hlv hin))
 ·rw[hM]at hid
  have hin:¬((S i).mem.length≤id∧id<(S i).mem.length+len):=fun h=>hno (up2 id h.1 h.2)
  exact(get1 id hid hin).trans (p.dead id (by omega) fun h=>hno (up1 id h))
 ·have heq:∀v,(Env.ren f (({ t with mem:=t.mem++new M }:St).bind x.dst (val M)).env).get u=v↔(if x.dst=some u then val M else t.env.get u).ren f=v:=fun v=>by rw[ze7,zbn]
  show(Env.ren f _).get u=_∧_
  by_cases hji:j=i
  ·subst hji
   have:y=x:=Option.some.inj (hy.symm.trans hx)
   subst this
   have h1:(Env.ren f (({ t with mem:=t.mem++new M }:St).bind y.dst (val M)).env).get u=val (S j).mem.length:=by
    rw[heq,if_pos hd];exact hv
   refine⟨h1.trans (by rw[hS,zbn,if_pos hd]),fun id hid=>?_⟩
   have hid':id∈(val (S j).mem.length).refs:=by rw[←h1];exact hid
   rcases hmk.inV _ id hid' with h|h
   ·exact⟨up1 id h.2,by have:=h.1;omega⟩
   ·exact⟨up2 id h.1 h.2,by omega⟩
  ·have hne:x.dst≠some u:=by
    rcases(d.one i j x y u hi hj hx hy hd).1 with h|h
    ·exact absurd h.symm hji
    ·exact h
   obtain⟨h2,h3⟩:=p.done j y u hj hy hd (by rw[←hset j hji];exact hlj)
   have h1:(Env.ren f (({ t with mem:=t.mem++new M }:St).bind x.dst (val M)).env).get u=t.env.get u:=by
    rw[heq,if_neg hne]
    exact envKeep u fun id hid=>⟨(h3 id hid).1,by have:=(h3 id hid).2;have:=mono (j+1) n (by omega) (Nat.le_refl _);omega⟩
   refine⟨h1.trans h2,fun id hid=>?_⟩
   have hid':id∈(t.env.get u).refs:=by rw[←h1];exact hid
   exact⟨up1 id (h3 id hid').1,(h3 id hid').2⟩
 ·have hne:x.dst≠some u:=fun h=>by
   have:=hu i x hi hx h
   rw[hseti]at this;cases this
  obtain⟨h2,h3⟩:=p.not u fun j y h3 h4 h5=>by
   have hji:j≠i:=fun h=>by
    subst h
    have:y=x:=Option.some.inj (h4.symm.trans hx)
    subst this
    exact hne h5
   rw[←hset j hji]
   exact hu j y h3 h4 h5
  have h1:(Env.ren f (({ t with mem:=t.mem++new M }:St).bind x.dst (val M)).env).get u=t.env.get u:=by
   rw[ze7,zbn,if_neg hne]
   exact envKeep u fun id hid=>⟨live0 id (h3 id hid),by have:=h3 id hid;omega⟩
  exact⟨h1.trans h2,fun id hid=>h3 id (by rw[←h1];exact hid)⟩
 ·have hid:id<M:=by
   have h1:id<(Mem.pickAll (({ t with mem:=t.mem++new M }:St).bind x.dst (val M)).mem l).length:=(List.getElem?_eq_some_iff.1 ho').1
   have h2:(Mem.pickAll (({ t with mem:=t.mem++new M }:St).bind x.dst (val M)).mem l).length=M:=by rw[Mem.pickAll,List.length_map,hllen]
   omega
  by_cases hin:(S i).mem.length≤id∧id<(S i).mem.length+len
  ·have h1:=get2 (id-(S i).mem.length) (by omega)
   rw[show(S i).mem.length+(id-(S i).mem.length)=id by omega]at h1
   have hmem:o'∈new (S i).mem.length:=List.mem_of_getElem? (h1.symm.trans ho')
   rcases hmk.inN _ o' hmem j hj with h|h
   ·exact⟨up1 j h.2,fun i' _ h2=>by have:=h.1;omega⟩
   ·refine⟨up2 j h.1 h.2,fun i' hi' h2=>?_⟩
    rcases Nat.lt_or_ge i i' with h3|h3
    ·have:=mono (i+1) i' (by omega) hi';omega
    ·have:=mono i' i h3 (by omega);omega
  ·obtain⟨h1,h2⟩:=p.mem id o' ((get1 id hid hin).symm.trans ho') j hj
   exact⟨up1 j h1,h2⟩
theorem Drawn.ready_some(d:Drawn call P num N ops xs n s0 sF S sp){listed:Array Bool}(hsz:listed.size=ops.size)(hl:left n listed≠0):Region.ready .any ops listed≠[]:=by
 have hex:∃i,i<n∧listed.getD i true=false:=by
  obtain⟨i,hi,h⟩:=List.countP_pos_iff.1 (Nat.pos_of_ne_zero hl)
  exact⟨i,List.mem_range.1 hi,by simpa using h⟩
 have:∃i,(i<n∧listed.getD i true=false)∧∀j,j<i→¬(j<n∧listed.getD j true=false):=by
  obtain⟨i,hi⟩:=hex
  induction i using Nat.strongRecOn with
  |_ i ih=>
   by_cases h:∃j,j<i∧(j<n∧listed.getD j true=false)
   ·obtain⟨j,h1,h2⟩:=h;exact ih j h1 h2
   ·exact⟨i,hi,fun j hj h'=>h ⟨j,hj,h'⟩⟩
 obtain⟨i,⟨hi,hl⟩,hmin⟩:=this
 have hlt:i<ops.size:=by have:=d.hn;omega
 have ho:ops[i]?=some ops[i]:=Array.getElem?_eq_getElem hlt
 have:i∈Region.ready .any ops listed:=by
  refine mem_ready.2 ⟨hl,_,ho,fun e he hb=>?_⟩
  have h1:=d.low i _ hi ho e he hb
  have h2:listed.getD e.on true=true:=by
   cases h3:listed.getD e.on true with
   |true=>rfl
   |false=>exact absurd ⟨by omega,h3⟩ (hmin e.on h1)
  have h4:e.on<listed.size:=by omega
  simp[h4]at h2 ⊢;exact h2
 intro h
 rw[h]at this;cases this
theorem Drawn.all(d:Drawn call P num N ops xs n s0 sF S sp){listed:Array Bool}{t:St}(p:Part xs n S listed t)(hall:∀i,i<n→listed.getD i true=true):t.mem=(S n).mem∧(∀u,t.env.get u=(S n).env.get u)∧t.k=(S n).k:=by
 refine⟨List.ext_getElem? fun id=>?_,fun u=>?_,p.k.trans (d.pre 0 n (Nat.zero_le _) (Nat.le_refl _)).2.2.symm⟩
 ·rcases Nat.lt_or_ge id (S n).mem.length with h|h
  ·exact p.live id h fun j hj _ _=>hall j hj
  ·rw[List.getElem?_eq_none h,List.getElem?_eq_none (by rw[p.len];exact h)]
 ·by_cases hw:∃(j:Nat) (y:XO),j<n∧xs[j]?=some y∧y.dst=some u
  ·obtain⟨j,y,hj,hy,hd⟩:=hw
   rw[(p.done j y u hj hy hd (hall j hj)).1]
   exact(d.get u (j+1) n (by omega) (Nat.le_refl _) fun k z h5 h6 h7=>by
    rcases(d.one k j z y u h6 hj h7 hy hd).1 with h|h
    ·omega
    ·exact h).symm
  ·rw[(p.not u fun j y h1 h2 h3=>absurd ⟨j,y,h1,h2,h3⟩ hw).1]
   exact(d.get u 0 n (Nat.zero_le _) (Nat.le_refl _) fun k z _ h6 h7 h8=>hw ⟨k,z,h6,h7,h8⟩).symm
theorem Drawn.any{ro:Option Nat}(d:Drawn call P num N ops xs n s0 sF S fun _=>false)(htail:n=ops.size∨(n<ops.size∧Region.sinkB .any ops n=true∧Region.chainB .any ops n=true))(hseq:Region.seqB .any ops (ops.size-n) n (headArr ops.size n)=true)(hcall:CallOK num P call){Q:Exit→Act→World→Prop}{k:Nat}{C:Cx}{m:Mem}{a0:Act}(hN:N≤a0.tmps.size)(hQ:∀D a',Later num k C m a0 D sF a'→Q .normal a' D.w):
  ∀(c:Nat) (listed:Array Bool) (a:Act) (D:Cx) (t:St),left n listed=c→HeadInv .any ops n listed→Part xs n S listed t→Later num k C m a0 D t a→wpAnyIn (fz ro) 0 P .any ops Q (c+(ops.size-n)) listed a D.w:=by
 intro c
 induction c with
 |zero=>
  intro listed a D t hl inv p hlat
  rw[Nat.zero_add]
  have hall:∀i,i<n→listed.getD i true=true:=by
   intro i hi
   cases h:listed.getD i true with
   |true=>rfl
   |false=>
    have:=List.countP_eq_zero.1 hl i (List.mem_range.2 hi)
    simp[h]at this
  have hhead:=zhk inv.size d.hn hall inv.tail
  have hdl:(ops.toList.drop n).length=ops.size-n:=by simp
  obtain⟨h1,h2,h3⟩:=d.all p hall
  have hSn:Later num k C m a0 D (S n) a:=
   ⟨⟨by rw[←h1];exact hlat.rep.mem,fun u=>by rw[←h2];exact hlat.rep.env u,by rw[←h1,←h3];exact hlat.rep.k⟩,by rw[←h1];exact hlat.step,by rw[←h3];exact hlat.k,hlat.size,hlat.marks⟩
  have htr:trOps P num N ops (ops.toList.drop n)=(xs.drop n).map XO.wipe:=by
   refine zuu _ _ (by simp[d.len]) fun i o hi=>?_
   rw[List.getElem?_drop]at hi
   obtain⟨x,hx,h⟩:=d.tr (n+i) o rfl (by simpa using hi)
   exact⟨x,by rw[List.getElem?_drop];exact hx,h⟩
  have hw:=zje (ro:=ro) hcall (Q:=Q) (ops.toList.drop n) (xs.drop n) htr hSn.rep (by rw[hSn.size];exact hN) d.rest fun E a'' hl'=>hQ E a'' (hSn.trans (by rw[hSn.k]at hl';exact hl'))
  have:=zwh (md:=.any) (Q':=Q) (ops.toList.drop n) n listed a D.w (fun j=>by simp[List.getElem?_drop]) (by rw[hdl,hhead];exact hseq) hw
  rwa [hdl]at this
 |succ c ih=>
  intro listed a D t hl inv p hlat
  rw[show c+1+(ops.size-n)=(c+(ops.size-n))+1 by omega]
  refine⟨fun h=>absurd h (d.ready_some inv.size (by omega)),fun i hi=>?_⟩
  obtain⟨hun,oi,hoi,_⟩:=mem_ready.1 hi
  have hisz:i<ops.size:=(Array.getElem?_eq_some_iff.1 hoi).1
  have hin:i<n:=by
   rcases htail with h|⟨h1,h2,h3⟩
   ·omega
   ·rcases Nat.lt_or_ge i n with h|h
    ·exact h
    ·obtain⟨j,hj,h4⟩:=List.countP_pos_iff.1 (show 0<left n listed by omega)
     exact absurd hi (tail_waits h2 h3 h1 inv _ j rfl (List.mem_range.1 hj) (by simpa using h4) i h)
  obtain⟨x,hx,htr⟩:=d.tr i oi rfl hoi
  obtain⟨t1,h1,hnext⟩:=d.part_step hcall p hin hi hx (fun fn l hop=>by rw[(zus htr).1];simp only[XO.wipe,hop,XOp.wipe]) hlat.rep
  unfold wpOpIn
  simp only[hoi]
  refine one_wp hcall htr hlat.rep (by rw[hlat.size];exact hN) h1 fun E a' hl' _=>?_
  obtain⟨t2,F,hw,hl2,p2⟩:=hnext E a' hl'.rep
  rw[←hw]
  refine ih _ a' F t2 (by have:=zjc hin hun;omega) (inv.set hi hin) p2 ?_
  rw[hlat.k]at hl'
  rw[hl'.k]at hl2
  exact(hlat.trans hl').trans hl2
theorem Drawn.owner(d:Drawn call P num N ops xs n s0 sF S sp){id:Nat}(h0:(S 0).mem.length≤id):∀m,m≤n→id<(S m).mem.length→∃j,j<m∧(S j).mem.length≤id∧id<(S (j+1)).mem.length:=by
 intro m
 induction m with
 |zero=>intro _ h;omega
 |succ m ih=>
  intro hm h
  rcases Nat.lt_or_ge id (S m).mem.length with h1|h1
  ·obtain⟨j,h2,h3⟩:=ih (by omega) h1
   exact⟨j,by omega,h3⟩
  ·exact⟨m,by omega,h1,h⟩
theorem Drawn.start(d:Drawn call P num N ops xs n s0 sF S sp){C:Cx}{a:Act}(hs:SRep num C s0 a):Part xs n S (Array.replicate ops.size false) { s0 with mem:=s0.mem++List.replicate ((S n).mem.length-s0.mem.length) AObj.dead }:=by
 have hpre:=d.pre 0 n (Nat.zero_le _) (Nat.le_refl _)
 have hS0:=d.S0
 have hn:=hs.mem.len
 have hfalse:∀j,j<n→(Array.replicate ops.size false).getD j true=false:=fun j hj=>by
  have hlt:j<ops.size:=by have:=d.hn;omega
  simp[hlt]
 have live0:∀id,id<(S 0).mem.length→Live S n (Array.replicate ops.size false) id:=fun id h j hj h1 _=>by have:=(d.pre 0 j (by omega) (by omega)).1;omega
 have hb:(S 0).mem.length=s0.mem.length:=by rw[hS0]
 refine⟨by simp;omega,by rw[hS0],by rw[hS0];exact hs.k,fun id hid hlv=>?_,fun id hid hno=>?_,fun i x u hi hx hd hl=>?_,fun u _=>?_,fun id o ho j hj=>?_⟩
 ·rcases Nat.lt_or_ge id (S 0).mem.length with h|h
  ·rw[hpre.2.1 id h,hS0]
   exact List.getElem?_append_left (by omega)
  ·obtain⟨j,hj,h1,h2⟩:=d.owner h n (Nat.le_refl _) hid
   have:=hlv j hj h1 h2
   rw[hfalse j hj]at this;cases this
 ·have h:(S 0).mem.length≤id:=Nat.le_of_not_lt fun h=>hno (live0 id h)
  show(s0.mem++_)[id]?=_
  rw[List.getElem?_append_right (by omega),List.getElem?_replicate,if_pos (by omega)]
 ·rw[hfalse i hi]at hl;cases hl
 ·rw[hS0]
  exact⟨rfl,fun id hid=>by have:=za8 (hs.env u) id hid;omega⟩
 ·have hsp:s0.mem[id]?=some o∨o=.dead:=by
   rcases Nat.lt_or_ge id s0.mem.length with h|h
   ·left;rw[←ho];exact(List.getElem?_append_left h).symm
   ·right
    have ho':(s0.mem++List.replicate ((S n).mem.length-s0.mem.length) AObj.dead)[id]?=some o:=ho
    rw[List.getElem?_append_right h]at ho'
    exact List.eq_of_mem_replicate (List.mem_of_getElem? ho')
  rcases hsp with h|rfl
  ·have hjl:=znv (hs.mem.obj id o h) j hj
   exact⟨live0 j (by omega),fun i hi _=>by have:=(d.pre 0 i (by omega) hi).1;omega⟩
  ·simp[AObj.refs]at hj
end
theorem zev{call:Calls'}{N:Nat}{ops:Array Oper}{xs:List XO}{n:Nat}{s0 sF:St}(htr:trOps P num N ops ops.toList=xs.map XO.wipe)(hlen:xs.length=ops.size)(h1:(xs.take n).all (fun x=>calmOp x.op||makeOp x.op)=true)
  (h2:((List.range n).all fun i=>(List.range n).all fun j=>match xs[i]?,xs[j]? with
  |some x,some y=>match y.dst with
   |none=>true
   |some d=>(i==j||x.dst != some d)&&(!x.reads.contains d||(decide (j<i)&&Region.waitsFor .any ops i j))
  |_,_=>false)=true)
  (h3:((List.range n).all fun i=>match ops[i]? with
  |some o=>o.after.all fun e=> !Region.binds .any e||decide (e.on<i)
  |none=>false)=true) (hn:n≤ops.size) (h:exOps call s0 xs=some sF):∃S,Drawn call P num N ops xs n s0 sF S fun _=>false:=by
 have hS:∀i,∃t,exOps call s0 (xs.take i)=some t∧exOps call t (xs.drop i)=some sF:=zfv xs s0 sF h
 obtain⟨S,hS⟩:∃S:Nat→St,∀i,exOps call s0 (xs.take i)=some (S i)∧exOps call (S i) (xs.drop i)=some sF:=⟨fun i=>Classical.choose (hS i),fun i=>Classical.choose_spec (hS i)⟩
 have go:∀(i:Nat) x,xs[i]?=some x→exOne call (S i) x=some (S (i+1)):=by
  intro i x hx
  have e1:=(hS i).1
  have e2:=(hS (i+1)).1
  have:xs.take (i+1)=xs.take i++[x]:=by
   rw[List.take_add_one,hx];rfl
  rw[this]at e2
  exact zfu _ x s0 _ _ e1 e2
 refine⟨S,hlen,hn,fun i o _ ho=>zut ops.toList xs htr h i o (by simpa using ho),?_,?_,?_,?_,go,?_,fun i x _ hx=>go i x hx,?_⟩
 ·intro i x hi hx
  refine List.all_eq_true.1 h1 x (List.mem_of_getElem? (i:=i) ?_)
  rw[List.getElem?_take,if_pos hi];exact hx
 ·intro i j x y d hi hj hx hy hyd
  have:=List.all_eq_true.1 (List.all_eq_true.1 h2 i (List.mem_range.2 hi)) j (List.mem_range.2 hj)
  simp only[hx,hy,hyd,Bool.and_eq_true,Bool.or_eq_true,beq_iff_eq,bne_iff_ne,Bool.not_eq_true',List.contains_eq_mem,decide_eq_false_iff_not,decide_eq_true_eq]at this
  refine⟨this.1,fun hr=>?_⟩
  rcases this.2 with h|h
  ·exact absurd hr h
  ·exact h
 ·intro i o hi ho e he hb
  have:=List.all_eq_true.1 h3 i (List.mem_range.2 hi)
  simp only[ho]at this
  have:=Array.all_eq_true_iff_forall_mem.1 this e he
  simpa [hb]using this
 ·have:=(hS 0).1
  simp[exOps]at this
  exact this.symm
 ·have:=(hS xs.length).2
  simp[exOps]at this
  exact this
 ·exact(hS n).2
def Cx.draw(C:Cx):Cx:={ C with w:={ C.w with drawn:=C.w.drawn+1 } }
theorem zeu(C:Cx):Tr some C C.draw:=⟨fun _ h=>h,fun _ _=>rfl,fun id j hid hj=>by cases hj;exact⟨hid,rfl,fun _ _ h=>h⟩⟩
theorem zet{C:Cx}{m:Mem}(h:MRep num C m):MRep num C.draw m:=
 ⟨h.len,fun id o ho=>znw (zeu C) rfl (fun _ hx=>hx) (h.obj id o ho),h.inj,h.imm,h.bd,num.up h.glo (zeu C).imm (zeu C).keep⟩
theorem zes{C:Cx}{s:St}{a:Act}(hs:SRep num C s a):Later num s.k C s.mem a C.draw s a:=by
 refine⟨⟨zet hs.mem,hs.env.mono (zeu C),hs.k⟩,⟨zet hs.mem,rfl,rfl,rfl,Nat.le_refl _,fun _ _ _=>rfl,fun _ _ _ h=>h,fun _ h=>h,fun _ h=>.inl h,fun _ h=>.inr h,fun i _ o' ho hm=>⟨o',ho,hm,rfl⟩,hs.k⟩,rfl,rfl,fun _ _ h=>h⟩
theorem zqt(n m:Nat)(h:n≤m):left n (Array.replicate m false)=n:=by
 unfold left
 rw[List.countP_eq_length.2]
 ·simp
 ·intro i hi
  have:=List.mem_range.1 hi
  have h':i<m:=by omega
  simp[h']
end
end Go.EX

