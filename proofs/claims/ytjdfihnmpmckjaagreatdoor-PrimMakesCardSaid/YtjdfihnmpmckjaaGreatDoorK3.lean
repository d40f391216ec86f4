import Derived.Test.YtjdfihnmpmckjaaGreatDoorK2
import Derived.Laws.StructEq
import Derived.CallsIn
import Derived.Laws.Strings
import GoSem.Instr.MapUpdate
set_option linter.unusedVariables false
set_option linter.unusedSimpArgs false
namespace Go.EX
section
variable {num:Names} {P:Program}
variable {ty:TypeId} {pos:String} {after:Array Edge} {a:Act} {C:Cx} {s:St}
def Cx.claim(C:Cx)(nb:Nat)(w':World):Cx:={ σ:=fun i=>if i=C.n then nb else C.σ i,I:=C.I,n:=C.n+1,w:=w' }
theorem zvg{m:Mem}(hm:MRep num C m){id:Nat}{o:AObj}(ho:m[id]?=some o)(hlo:o.live=true){w':World}{nb:Nat}
  (hw:∀b,b<C.w.heap.size->b≠C.σ id->w'.heap[b]?=C.w.heap[b]?) (hsz:∀n e,RowAt C.w (C.σ id) n e->RowAt (w') (C.σ id) n e):
  Tr some C (C.claim nb w'):=by
 refine⟨fun _ h=>h,fun b hb=>hw b (hm.bd b hb) fun e=>hm.imm b ⟨id,o,ho,hlo,e.symm⟩ hb,fun i j hi hj=>?_⟩
 cases hj
 have hne:i≠C.n:=by omega
 refine⟨Nat.lt_succ_of_lt hi,by simp[Cx.claim,hne],fun arr e h=>?_⟩
 by_cases hc:C.σ i=C.σ id
 ·rw[hc]at h ⊢;exact hsz arr e h
 ·exact h.same (hw _ h.lt hc)
theorem zzt{m:Mem}(hm:MRep num C m){id:Nat}{o:AObj}(ho:m[id]?=some o)(hlo:o.live=true){w':World}{nb:Nat}(hnb:nb=C.σ id\/(C.w.heap.size<=nb))
  (hos:w'.os=C.w.os) (htp:w'.tape=C.w.tape) (hout:w'.output=C.w.output) (hsize:C.w.heap.size<=w'.heap.size)
  (hw:∀b,b<C.w.heap.size->b≠C.σ id->w'.heap[b]?=C.w.heap[b]?) (hsz:∀n e,RowAt C.w (C.σ id) n e->RowAt (w') (C.σ id) n e)
  {p:AObj} (hr:zc4 num (C.claim nb w') C.n p) {k:Nat} (hk:k<=m.length) (hof:o.isFix=false:=by rfl):
  Step num k C m (C.claim nb w') (m.set id .dead++[p]):=by
 have ht:=zvg (nb:=nb) hm ho hlo hw hsz
 have hid:id<m.length:=(xab.1 ho).1
 have hlen:=hm.len
 have hσ:∀i,i<m.length->(C.claim nb w').σ i=C.σ i:=fun i hi=>by simp only[Cx.claim];rw[if_neg (by omega)]
 have hσn:(C.claim nb w').σ C.n=nb:=by simp[Cx.claim]
 have split:∀(i:Nat) (q:AObj),(m.set id .dead++[p])[i]?=some q->(i<m.length/\i≠id/\m[i]?=some q)\/(i=id/\q=.dead)\/(i=C.n/\q=p):=by
  intro i q hq
  rcases xa1 i m.length with h|h
  ·rw[xac (by rw[xb8];exact h),zhi]at hq
   split at hq
   ·rename_i hi;exact .inr (.inl ⟨hi.1.symm,(xau hq).symm⟩)
   ·rename_i hi;exact .inl ⟨h,fun e=>hi ⟨e.symm,by rw[e];exact hid⟩,hq⟩
  ·rw[xag (by rw[xb8];exact h),xb8]at hq
   have h0:i-m.length=0:=by
    rcases xcx (i-m.length)with h0|h0
    ·exact h0
    ·rw[xaq (by simp;omega)]at hq;cases hq
   rw[h0]at hq
   exact .inr (.inr ⟨by omega,by simpa using hq.symm⟩)
 have hlt:∀i q,m[i]?=some q->q.live=true->C.σ i<C.w.heap.size:=fun i q hq hl=>MRep.lt num hm ⟨i,q,hq,hl,rfl⟩
 have hown:∀b,Own (C.claim nb w') (m.set id .dead++[p]) b->C.w.heap.size<=b\/Own C m b:=by
  rintro b ⟨i,q,hq,hl,hb⟩
  rcases split i q hq with⟨hi,hne,hq'⟩|⟨rfl,rfl⟩|⟨rfl,rfl⟩
  ·rw[hσ i hi]at hb;exact .inr ⟨i,q,hq',hl,hb⟩
  ·cases hl
  ·rw[hσn]at hb
   rcases hnb with h|h
   ·exact .inr ⟨id,o,ho,hlo,by rw[<-hb,h]⟩
   ·exact .inl (by omega)
 refine⟨⟨by simp[Cx.claim,hlen],?_,?_,?_,fun b hb=>xbz (hm.bd b hb) hsize,num.up hm.glo ht.imm ht.keep⟩,hos,htp,hout,hsize,?_,?_,fun _ h=>h,fun _ h=>.inl h,hown,?_,by simp;omega⟩
 ·intro i q hq
  rcases split i q hq with⟨hi,hne,hq'⟩|⟨rfl,rfl⟩|⟨rfl,rfl⟩
  ·by_cases hlq:q.live=true
   ·refine zh6 ht (hσ i hi) (fun x h=>?_) (hm.obj i q hq')
    show w'.heap[C.σ i]?=_
    rw[hw _ (hlt i q hq' hlq) fun e=>hne (hm.inj2 num i id q o hq' ho hlq hlo hof e)]
    exact h
   ·cases q with
    |dead=>trivial
    |_=>exact absurd rfl hlq
  ·trivial
  ·exact hr
 ·intro i j q q2 hq hq2 hl1 hl2 he
  rcases split i q hq with⟨hi,hne,hq'⟩|⟨rfl,rfl⟩|⟨rfl,rfl⟩<;>rcases split j q2 hq2 with⟨hj,hne2,hq2'⟩|⟨rfl,rfl⟩|⟨rfl,rfl⟩
  ·rw[hσ i hi,hσ j hj]at he;exact hm.inj i j q q2 hq' hq2' hl1 hl2 he
  ·cases hl2
  ·rw[hσ i hi,hσn]at he
   have hb:=hlt i q hq' hl1
   rcases hnb with h|h
   ·exact absurd (hm.inj2 num i id q o hq' ho hl1 hlo hof (by rw[he,h])) hne
   ·omega
  ·cases hl1
  ·exact .inl rfl
  ·cases hl1
  ·rw[hσ j hj,hσn]at he
   have hb:=hlt j q2 hq2' hl2
   rcases hnb with h|h
   ·exact absurd (hm.inj2 num j id q2 o hq2' ho hl2 hlo hof (by rw[<-he,h])) hne2
   ·omega
  ·cases hl2
  ·exact .inl rfl
 ·intro b hb hI
  rcases hown b hb with h|h
  ·have:=hm.bd b hI;omega
  ·exact hm.imm b h hI
 ·intro b hb hno
  exact hw b hb fun e=>hno ⟨id,o,ho,hlo,e.symm⟩
 ·intro b arr e h
  by_cases hb:b=C.σ id
  ·subst hb;exact hsz arr e h
  ·exact h.same (hw b h.lt hb)
 ·intro i _ q hq hmq
  rcases split i q hq with⟨hi,hne,hq'⟩|⟨rfl,rfl⟩|⟨rfl,rfl⟩
  ·exact⟨q,hq',hmq,hσ i hi⟩
  ·cases hmq
  ·omega
structure zyt (num:Names) (P:Program) (C:Cx) (sz:Nat) (v:Value) (n:Nat) (news:List AV) (us:Array Value):Prop where
 len:∀w,(Builtin.lenOf v).run P w=.ok n w
 cells:∀w,w.heap=C.w.heap->(Builtin.firstCells sz n v).run P w=.ok us w
 size:us.size=n*sz
 count:news.length=n*sz
 rep:∀(j:Nat) x,news[j]?=some x->∃u:Value,us[j]?=some u/\u.oneCell'=true/\ARep num C x u
theorem zv7{m:Mem}(hm:MRep num C m){sz:Nat}{x:AV}{v:Value}(hx:ARep num C x v){n:Nat}{news:List AV}(h:zbr m sz x=some (n,news)):
  ∃us,zyt num P C sz v n news us:=by
 unfold zbr at h
 split at h
 ·rename_i id off sz' len cap
  have key:∀(l:List AV),zja num C (C.σ id) 0 l->cut l off (len*sz)=some news->n=len->∃us,zyt num P C sz v n news us:=by
   rintro l hl hc rfl
   have hrl:=zhw hc
   have hcell:∀(j:Nat) x,news[j]?=some x->∃u:Value,C.w.cell? ⟨C.σ id,off+j,none⟩=some u/\u.oneCell'=true/\ARep num C x u:=by
    intro j x hx
    have hj:j<n*sz:=by rw[<-hrl];exact(xab.1 hx).1
    have h2:=zai hc j hj
    rw[hx]at h2
    obtain⟨u,hu,ho,hr⟩:=hl _ _ h2
    exact⟨u,by rw[xaw]at hu;exact hu,ho,hr⟩
   cases hx with
   |osl _ _ _ _ _ c ad arr e hid hl' hk ha hw hs=>
    rcases ha with rfl|rfl
    ·let f:Nat->Value:=fun j=>(C.w.cell? ⟨C.σ id,ad+j,none⟩).getD undef
     refine⟨((List.range (n*sz)).map f).toArray,⟨fun w=>rfl,fun w hw=>?_,by simp,hrl,fun j x hx=>?_⟩⟩
     ·simp only[Builtin.firstCells]
      refine run_loadCells w _ (n*sz) f fun j hj=>?_
      rw[z1f hw]
      obtain⟨u,hu,_⟩:=hcell j news[j] (xaa (by omega))
      rw[zel,hu]
      simp[f,hu]
     ·obtain⟨u,hu,ho,hr⟩:=hcell j x hx
      have hj:j<n*sz:=by rw[<-hrl];exact(xab.1 hx).1
      exact⟨u,by simp[f,hu,hj],ho,hr⟩
    ·have hl0:n=0:=by omega
     subst hl0
     have hr0:news=[]:=xat (by omega)
     subst hr0
     exact⟨#[],⟨fun w=>rfl,fun w _=>by simp[Builtin.firstCells,loadCells,loadCellsFrom],by simp,by simp,fun j x hx=>by simp at hx⟩⟩
  split at h
  ·rename_i cs ho
   cases hc:cut cs off (len*sz)with
   |none=>simp[hc]at h
   |some r=>
    simp[hc]at h
    obtain⟨rfl,rfl⟩:=h
    exact key _ (zve (hm.obj id _ ho)) hc rfl
  ·rename_i cs mv ho
   cases hc:cut cs off (len*sz)with
   |none=>simp[hc]at h
   |some r=>
    simp[hc]at h
    obtain⟨rfl,rfl⟩:=h
    exact key _ (zl2 (hm.obj id _ ho)) (by rw[zof,hc];rfl) rfl
  ·cases h
 ·rename_i row off len cap
  cases hc:cut row off (len*sz)with
  |none=>simp[hc]at h
  |some r=>
   simp[hc]at h
   obtain⟨rfl,rfl⟩:=h
   obtain⟨us,hg⟩:=zrd (P:=P) hm hx (sz:=sz) (n:=len) (news:=r) (by unfold elems;simp[hc])
   refine⟨us,⟨hg.len,hg.cells,hg.size,by rw[xam];exact hg.count,fun j x hx=>?_⟩⟩
   rw[xar,xad]at hx
   obtain⟨y,hy,rfl⟩:=hx
   obtain⟨u,hu,hr⟩:=hg.rep j y hy
   exact⟨u,hu,hr.one,.imm y _ hr⟩
 ·cases h
theorem zxg{D:Cx}(ht:Tr some C D){olds us:Array Value}{rest:List Value}{ol nl:List AV}(ho:∀(j:Nat) x,ol[j]?=some x->∃u:Value,olds[j]?=some u/\u.oneCell'=true/\ARep num C x u)(hol:ol.length=olds.size)
  (hn:∀(j:Nat) x,nl[j]?=some x->∃u:Value,us[j]?=some u/\u.oneCell'=true/\ARep num C x u) {arr:Array Value} (h1:∀j:Nat,j<olds.size->arr[j]?=olds[j]?) (h2:∀j:Nat,j<us.size->arr[olds.size+j]?=us[j]?):
  ∀(j:Nat) x,(ol++nl)[j]?=some x->∃u:Value,arr[j]?=some u/\u.oneCell'=true/\ARep num D x u:=by
 intro j x hx
 rcases xa1 j ol.length with h|h
 ·rw[xac h]at hx
  obtain⟨u,hu,hone,hr⟩:=ho j x hx
  exact⟨u,by rw[h1 j (by omega)];exact hu,hone,hr.mono ht⟩
 ·rw[xag h]at hx
  obtain⟨u,hu,hone,hr⟩:=hn _ x hx
  have hj:=(xal.1 hu).1
  refine⟨u,?_,hone,hr.mono ht⟩
  have:=h2 (j-ol.length) hj
  rw[<-hol]at this
  have e:ol.length+(j-ol.length)=j:=by omega
  rw[e]at this
  rw[this];exact hu
theorem zyn(hs:zas num C s a){t u e:TypeId}{d:TypeDesc}{x y:Operand}{x' y':Src}(ht:P.underlying t=some (.slice e))(hu:P.underlying u=some d)(hd:zmm d=true)(hk:known P e=true)(h0:0<P.cellsOf e)(hb0:0<P.bytesOf e)
  (hz:zns P e=true) (hx:zah num x=some x') (hy:zah num y=some y') {r:AV} {s':St} (h:zb8 s (P.cellsOf e) (P.bytesOf e) (s.env.ev x') (s.env.ev y')=some (r,s')):
  zbe num P (.call { callee:=.builtin .append,args:= #[x,y],argTypes:= #[t,u] }) ty pos after a C s r s':=by
 obtain⟨i,dd,hi,_,hsz,hby⟩:=zd7 hk
 obtain⟨z,hzi,hzs⟩:∃z,i.zero=some z/\z.cells.size=P.cellsOf e:=by
  unfold zns zd9 at hz
  rw[hi]at hz
  cases hq:i.zero with
  |none=>simp[hq]at hz
  |some z=>simp[hq]at hz;exact⟨z,rfl,hz⟩
 have hm:=hs.mem
 have hlen:=hm.len
 unfold zb8 at h
 cases hel:zbr s.mem (P.cellsOf e) (s.env.ev y')with
 |none=>simp[hel]at h
 |some nn=>
  obtain⟨n,news⟩:=nn
  simp only[hel]at h
  split at h
  ·cases h
  rename_i hn0
  obtain⟨us,hg⟩:=zv7 (P:=P) hm (zba hs hy) hel
  have hax:=zba hs hx
  have hexec:∀(b:Option Addr) (l c:Nat) (v:Value) (w':World),a.eval x=.slice b l c->(Builtin.append_ #[t,u] ty #[.slice b l c,a.eval y]).run P C.w=.ok v w'->
    ∀dst g,(execOp a.eval ⟨dst,.call { callee:=.builtin .append,args:= #[x,y],argTypes:= #[t,u] },ty,pos,after,g⟩).run P C.w=.ok (.value v) w':=by
   intro b l c v w' hb hr dst g
   simp[execOp,resolve,invoke,builtin,hb,hr]
  split at h
  ·rename_i heq
   have hxv:a.eval x=.slice none 0 0:=by rw[heq]at hax;exact zbw hax
   split at h
   ·rename_i hbd
    simp only[fresh,xaf,xay]at h
    obtain⟨rfl,rfl⟩:=h
    have hr:=zpn (P:=P) (ty:=ty) ht hu hd hi hzi C.w none 0 0 n (a.eval y) #[] us (hg.len _) (by rw[<-hsz];exact hg.cells _ rfl) rfl (by omega) (by rw[<-hby,xaw];exact hbd) (by rw[<-hby];exact hb0)
    generalize hrest:Builtin.zeroCells z.cells (grownCap C.w (0+n) 0 e-(0+n))=rest at hr
    have htr:=zgb (w1:=C.w.drew) hm rfl (.cells (#[]++us++rest) e (0,0))
    refine⟨_,C.more C.w.drew (.cells (#[]++us++rest) e (0,0)),fun dst g=>.inl (hexec none 0 0 _ _ hxv hr dst g),zh2 (w1:=C.w.drew) hm rfl rfl rfl rfl _ _ ?_ hs.k,hs.env.mono htr,?_,rfl⟩
    ·refine⟨#[]++us++rest,e,?_,?_⟩
     ·simp only[Cx.more,if_true]
      rw[zd4,if_pos (show C.w.heap.size=C.w.drew.heap.size from rfl)]
     ·intro j x hx
      obtain⟨u,hu,hone,hr'⟩:=hg.rep j x hx
      have hj:=(xal.1 hu).1
      refine⟨u,?_,hone,hr'.mono htr⟩
      rw[xbt (by simp;exact hj)]
      simpa using hu
    ·have hge:=grownCap_ge C.w (0+n) 0 e
     rw[hlen]
     rw[xaw]at hge ⊢
     refine zo0 (w1:=C.w.drew) rfl _ e (zon (by assumption) hb0) (fun k hk=>by cases hk) (.inr ?_)
     have hrs:rest.size=(grownCap C.w (0+n) 0 e-(0+n))*P.cellsOf e:=by rw[<-hrest,zqr,hzs]
     rw[xaw]at hrs
     rw[xb2,xb2,hg.size,hrs]
     simp only[List.size_toArray,xaz,xaw]
     rw[<-Nat.add_mul]
     exact Nat.le_of_eq (by congr 1;omega)
   ·cases h
  ·rename_i id sz' l heq
   split at h
   ·rename_i hsz'
    subst hsz'
    cases hol:zbr s.mem (P.cellsOf e) (.osl id 0 (P.cellsOf e) l none)with
    |none=>simp[hol]at h
    |some pp=>
     obtain⟨l',old⟩:=pp
     simp only[hol]at h
     split at h
     ·rename_i hbd
      simp only[xaf,xay]at h
      obtain⟨rfl,rfl⟩:=h
      have hax0:=hax
      rw[heq]at hax0
      have hll:l'=l:=by
       unfold zbr at hol
       dsimp only at hol
       split at hol
       ·simp only[xad]at hol;obtain⟨_,_,h⟩:=hol;cases h;rfl
       ·simp only[xad]at hol;obtain⟨_,_,h⟩:=hol;cases h;rfl
       ·cases hol
      subst hll
      obtain⟨olds,hg2⟩:=zv7 (P:=P) hm hax0 hol
      obtain⟨o,ho,hlo,hof,a2,e2,hw2⟩:∃o,s.mem[id]?=some o/\o.live=true/\o.isFix=false/\∃a2 e2,C.w.heap[C.σ id]?=some (.cells a2 e2 (0,0)):=by
       unfold zbr at hol
       dsimp only at hol
       split at hol
       ·rename_i ho;obtain⟨a2,e2,h2,_⟩:=hm.obj id _ ho;exact⟨_,ho,rfl,rfl,a2,e2,h2⟩
       ·rename_i ho;obtain⟨a2,e2,h2,_⟩:=hm.obj id _ ho;exact⟨_,ho,rfl,rfl,a2,e2,h2⟩
       ·cases hol
      rw[heq]at hax
      generalize hxv:a.eval x=v at hax hg2
      cases hax with
      |osl _ _ _ _ _ c' ad arr e' hid hl hk' ha hw hss=>
       obtain⟨arr,fz0,hw,rfl⟩:=hw
       rw[hw]at hw2
       obtain⟨rfl,rfl,rfl⟩:arr=a2/\e'=e2/\fz0=(0,0):=by simpa using hw2
       rcases xa1 c' (l'+n)with hgt|hroom
       ·
        have hr:=zpn (P:=P) (ty:=ty) ht hu hd hi hzi C.w (some ⟨C.σ id,ad,none⟩) l' c' n (a.eval y) olds us (hg.len _) (by rw[<-hsz];exact hg.cells _ rfl) (by rw[<-hsz];exact hg2.cells _ rfl) hgt (by rw[<-hby];exact hbd) (by rw[<-hby];exact hb0)
        generalize hrest:Builtin.zeroCells z.cells (grownCap C.w (l'+n) c' e-(l'+n))=rest at hr
        have hlt:C.σ id<C.w.heap.size:=(xal.1 hw).1
        have hwk:∀b,b<C.w.heap.size->(C.w.drew.alloc (.cells (olds++us++rest) e)).heap[b]?=C.w.heap[b]?:=by
         intro b hb
         rw[zd4,if_neg (show ¬b=C.w.drew.heap.size by show ¬b=C.w.heap.size;omega)]
         rfl
        have hnew:(C.w.drew.alloc (.cells (olds++us++rest) e)).heap[C.w.heap.size]?=some (.cells (olds++us++rest) e (0,0)):=by
         rw[zd4,if_pos (show C.w.heap.size=C.w.drew.heap.size from rfl)]
        have hsz3:∀n9 e9,RowAt C.w (C.σ id) n9 e9->RowAt (C.w.drew.alloc (.cells (olds++us++rest) e)) (C.σ id) n9 e9:=fun _ _ h=>h.same (hwk _ hlt)
        have htr:=zvg (nb:=C.w.heap.size) hm ho hlo (w':=C.w.drew.alloc (.cells (olds++us++rest) e)) (fun b hb _=>hwk b hb) hsz3
        refine⟨_,C.claim C.w.heap.size (C.w.drew.alloc (.cells (olds++us++rest) e)),fun dst g=>.inl (hexec _ l' c' _ _ hxv hr dst g),zzt (w':=C.w.drew.alloc (.cells (olds++us++rest) e)) hm ho hlo (.inr (xap _)) rfl rfl rfl (by rw[World.size_alloc];exact Nat.le_succ C.w.heap.size) (fun b hb _=>hwk b hb) hsz3 ?_ hs.k hof,hs.env.mono htr,?_,rfl⟩
        ·refine⟨olds++us++rest,e,by simp only[Cx.claim,if_true];exact hnew,zxg htr (rest:=[]) hg2.rep (by rw[hg2.count,hg2.size]) hg.rep (fun j hj=>?_) (fun j hj=>?_)⟩
         ·rw[Array.append_assoc,xbt hj]
         ·rw[Array.append_assoc,xcq (by omega),xbt (by omega)]
          congr 1;omega
        ·have hrs:rest.size=(grownCap C.w (l'+n) c' e-(l'+n))*P.cellsOf e:=by rw[<-hrest,zqr,hzs]
         have hge:=grownCap_ge C.w (l'+n) c' e
         have hσn:(C.claim C.w.heap.size (C.w.drew.alloc (.cells (olds++us++rest) e))).σ C.n=C.w.heap.size:=by simp[Cx.claim]
         rw[hlen]
         conv=>arg 4;rw[<-hσn]
         refine .osl0 C.n 0 _ _ none _ 0 _ e (by simp[Cx.claim]) (zon (by assumption) hb0) (fun k hk=>by cases hk) (.inl rfl) (by rw[hσn];exact hnew) (.inr ?_)
         rw[xb2,xb2,hg2.size,hg.size,hrs,<-Nat.add_mul,<-Nat.add_mul,xaw]
         exact Nat.le_of_eq (by congr 1;omega)
       ·
        have hus:us.toList.length=n*P.cellsOf e:=by rw[xck,hg.size]
        have hc0:c'≠0:=by omega
        rcases ha with rfl|h00
        ·have hfit:l'*P.cellsOf e+us.toList.length<=arr.size:=by
          rw[hus,<-Nat.add_mul]
          rcases hss with h0|h0
          ·omega
          ·have:=xb6 (P.cellsOf e) hroom
           omega
         have hone:∀u∈us.toList,u.oneCell'=true:=by
          intro u hu
          obtain⟨j,hj⟩:=xa3 hu
          rw[xbs]at hj
          have hlt:j<news.length:=by rw[hg.count,<-hg.size];exact(xal.1 hj).1
          obtain⟨u',hu',h1,_⟩:=hg.rep j news[j] (xaa hlt)
          rw[hj]at hu'
          cases hu'
          exact h1
         have hst:=run_storeCells_at P (C.σ id) (l'*P.cellsOf e) e' us.toList 0 arr C.w hw (by rw[xbi];exact hfit) hone
         simp only[xbi]at hst
         have hr:=zm0 (P:=P) (ty:=ty) ht hu hd hi C.w (some ⟨C.σ id,0,none⟩) l' c' n (a.eval y) us (hg.len _) (by rw[<-hsz];exact hg.cells _ rfl) hroom
          (fun ad' had=>by cases had;rw[zel,<-hsz,xaw];exact hst) (fun h=>by cases h)
         have hsp:=zgi arr (l'*P.cellsOf e) us.toList hfit
         generalize hnr:(arr.toList.take (l'*P.cellsOf e)++us.toList++arr.toList.drop (l'*P.cellsOf e+us.toList.length)).toArray=narr at hr hsp hst
         have hwk:∀b,b<C.w.heap.size->b≠C.σ id->(C.w.setRow (C.σ id) narr).heap[b]?=C.w.heap[b]?:=by
          intro b _ hb
          rw[zfn _ _ _ _ _ hw,if_neg hb]
         have hws:(C.w.setRow (C.σ id) narr).heap[C.σ id]?=some (.cells narr e' (0,0)):=by
          rw[zfn _ _ _ _ _ hw,if_pos rfl]
         have hsz3:∀n9 e9,RowAt C.w (C.σ id) n9 e9->RowAt (C.w.setRow (C.σ id) narr) (C.σ id) n9 e9:=by
          intro n0 e0 h0'
          exact h0'.put hw hws hsp
         have htr:=zvg (nb:=C.σ id) hm ho hlo (w':=C.w.setRow (C.σ id) narr) hwk hsz3
         have hσn:(C.claim (C.σ id) (C.w.setRow (C.σ id) narr)).σ C.n=C.σ id:=by simp[Cx.claim]
         have holds:∀j:Nat,j<olds.size->arr[j]?=olds[j]?:=by
          intro j hj
          obtain⟨u,hu⟩:∃u,olds[j]?=some u:=⟨_,xbr hj⟩
          have h3:=hg2.cells C.w rfl
          simp only[Builtin.firstCells]at h3
          rw[hu]
          have hl2:l'*P.cellsOf e<=arr.size:=by omega
          have h4:=run_loadCells (P:=P) C.w ⟨C.σ id,0,none⟩ (l'*P.cellsOf e) (fun j=>arr.getD j undef) (fun j hj=>by
           rw[zel,cell_of_row C.w _ _ arr e' _ hw]
           have:0+j<arr.size:=by omega
           simp[Array.getD,show j<arr.size by omega])
          rw[h4]at h3
          simp only[Result.ok.injEq]at h3
          have h5:=h3.1
          rw[<-h5]at hu
          have hj2:j<l'*P.cellsOf e:=by rw[<-hg2.size];exact hj
          simp[hj2]at hu
          have hja:j<arr.size:=by omega
          simp[hja]at hu
          rw[xbr hja,hu]
         refine⟨_,C.claim (C.σ id) (C.w.setRow (C.σ id) narr),fun dst g=>.inl (hexec _ l' c' _ _ hxv hr dst g),zzt (w':=C.w.setRow (C.σ id) narr) hm ho hlo (.inl rfl) rfl rfl rfl (by rw[size_setRow];exact xap _) hwk hsz3 ?_ hs.k hof,hs.env.mono htr,?_,rfl⟩
         ·refine⟨narr,e',by simp only[Cx.claim,if_true];exact hws,zxg htr (rest:=[]) hg2.rep (by rw[hg2.count,hg2.size]) hg.rep (fun j hj=>?_) (fun j hj=>?_)⟩
          ·rw[<-hnr,zjy arr _ us.toList hfit,if_neg (by rw[<-hg2.size];omega)]
           exact holds j hj
          ·rw[<-hnr,zjy arr _ us.toList hfit,if_pos (by rw[hg2.size,hus,<-hg.size];omega),xbs]
           congr 1;rw[hg2.size];omega
         ·rw[hlen]
          conv=>arg 4;rw[<-hσn]
          exact .osl0 C.n 0 _ _ none c' 0 _ e' (by simp[Cx.claim]) (by omega) (fun k hk=>by cases hk) (.inl rfl) (by rw[hσn];exact hws) (by rw[hsp];exact hss)
        ·omega
     ·cases h
   ·cases h
  ·rename_i id off sz' l c heq
   split at h
   ·rename_i hsr
    obtain⟨rfl,hroom⟩:=hsr
    rw[heq]at hax
    generalize hxv:a.eval x=v at hax
    cases hax with
    |osl _ _ _ _ _ c' ad arr e' hid hl hk' ha hw hss=>
     obtain⟨arr,fz0,hw,rfl⟩:=hw
     have hcc:=hk' c rfl
     subst hcc
     split at h
     ·rename_i cs hrich
      split at h
      ·rename_i hfitc
       simp only[xaf,xay]at h
       obtain⟨rfl,rfl⟩:=h
       obtain⟨o,ho,hlo,hmo,hof,rfl,hcs⟩:∃o,s.mem[id]?=some o/\o.live=true/\o.moved=false/\o.isFix=false/\fz0=(0,0)/\∀(j:Nat) x,cs[j]?=some x->∃u:Value,arr[j]?=some u/\u.oneCell'=true/\ARep num C x u:=by
        unfold zhh at hrich
        split at hrich
        ·rename_i ho
         cases hrich
         obtain⟨arr2,e2,hw2,hcs⟩:=hm.obj id _ ho
         rw[hw]at hw2
         obtain⟨rfl,rfl,rfl⟩:arr=arr2/\e'=e2/\fz0=(0,0):=by simpa using hw2
         exact⟨_,ho,rfl,rfl,rfl,rfl,hcs⟩
        ·rename_i cs0 ho
         cases hrich
         obtain⟨arr2,e2,hw2,hcs⟩:=hm.obj id _ ho
         rw[hw]at hw2
         obtain⟨rfl,rfl,rfl⟩:arr=arr2/\e'=e2/\fz0=(0,0):=by simpa using hw2
         refine⟨_,ho,rfl,rfl,rfl,rfl,fun j x hx=>?_⟩
         rw[xar]at hx
         cases hq:cs0[j]? with
         |none=>simp[hq]at hx
         |some y=>
          simp[hq]at hx;subst hx
          obtain⟨u,hu,hr'⟩:=hcs j y hq
          exact⟨u,hu,hr'.one,.imm y _ hr'⟩
        ·cases hrich
       have hcl:cs.length<=arr.size:=by
        rcases xa1 arr.size cs.length with h1|h1
        ·obtain⟨u,hu,_⟩:=hcs arr.size _ (xaa h1)
         rw[Array.getElem?_eq_none (xap _)]at hu;cases hu
        ·exact h1
       rcases ha with rfl|h00
       ·have hus:us.toList.length=n*P.cellsOf e:=by rw[xck,hg.size]
        have hfit:ad+l*P.cellsOf e+us.toList.length<=arr.size:=by rw[hus,xb4,<-Nat.add_mul];omega
        have hone:∀u∈us.toList,u.oneCell'=true:=by
         intro u hu
         obtain⟨j,hj⟩:=xa3 hu
         rw[xbs]at hj
         have hlt:j<news.length:=by rw[hg.count,<-hg.size];exact(xal.1 hj).1
         obtain⟨u',hu',h1,_⟩:=hg.rep j news[j] (xaa hlt)
         rw[hj]at hu'
         cases hu'
         exact h1
        have hst:=run_storeCells_at P (C.σ id) (ad+l*P.cellsOf e) e' us.toList 0 arr C.w hw (by rw[xbi];exact hfit) hone
        simp only[xbi]at hst
        have hr:=zm0 (P:=P) (ty:=ty) ht hu hd hi C.w (some ⟨C.σ id,ad,none⟩) l c' n (a.eval y) us (hg.len _) (by rw[<-hsz];exact hg.cells _ rfl) hroom
         (fun ad' had=>by cases had;rw[zel,<-hsz];exact hst) (fun h=>by cases h)
        have hsp:=zgi arr (ad+l*P.cellsOf e) us.toList hfit
        have htr:=zi7 hm ho hlo hw hsp
        refine⟨_,_,fun dst g=>.inl (hexec _ l c' _ _ hxv hr dst g),zp0 (o':=.rich (setAll cs (ad+l*P.cellsOf e) news)) hm ho hlo hw hsp rfl (fun _=>hmo) ?_ hs.k hof,hs.env.mono htr,?_,rfl⟩
        ·refine⟨_,e',by show(C.w.setRow _ _).heap[_]?=_;rw[zfn _ _ _ _ _ hw,if_pos rfl],fun j x hx=>?_⟩
         have hnl:news.length=us.toList.length:=by rw[hg.count,hus]
         rw[zi5]at hx
         rw[zjy arr _ us.toList hfit]
         split at hx
         ·rename_i hj
          rw[if_pos (by omega)]
          obtain⟨u,hu',h1,hr'⟩:=hg.rep _ x hx
          exact⟨u,by rw[xbs];exact hu',h1,hr'.mono htr⟩
         ·rename_i hj
          have hj2:j<cs.length:=(xab.1 hx).1
          rw[if_neg (by omega)]
          obtain⟨u,hu',h1,hr'⟩:=hcs j x hx
          exact⟨u,hu',h1,hr'.mono htr⟩
        ·refine .osl0 id ad _ _ _ c' ad _ e' hid (by omega) (fun k hk=>by cases hk;rfl) (.inl rfl) (by show(C.w.setRow _ _).heap[_]?=_;rw[zfn _ _ _ _ _ hw,if_pos rfl]) (by rw[hsp];exact hss)
       ·exfalso;omega
      ·cases h
     ·cases h
   ·rename_i hno
    split at h
    ·rename_i hsz'
     subst hsz'
     have hgt:c<l+n:=by
      rcases xa1 c (l+n)with h1|h1
      ·exact h1
      ·exact absurd ⟨rfl,h1⟩ hno
     cases hol:zbr s.mem (P.cellsOf e) (.osl id off (P.cellsOf e) l (some c))with
     |none=>simp[hol]at h
     |some pp=>
      obtain⟨l',old⟩:=pp
      simp only[hol]at h
      split at h
      ·rename_i hbd
       simp only[fresh,xaf,xay]at h
       obtain⟨rfl,rfl⟩:=h
       have hax0:=hax
       rw[heq]at hax0
       have hll:l'=l:=by
        unfold zbr at hol
        dsimp only at hol
        split at hol
        ·simp only[xad]at hol;obtain⟨_,_,h⟩:=hol;cases h;rfl
        ·simp only[xad]at hol;obtain⟨_,_,h⟩:=hol;cases h;rfl
        ·cases hol
       subst hll
       obtain⟨olds,hg2⟩:=zv7 (P:=P) hm hax0 hol
       rw[heq]at hax
       generalize hxv:a.eval x=v at hax hg2
       cases hax with
       |osl _ _ _ _ _ c' ad arr e' hid hl hk' ha hw hss=>
        have hcc:=hk' c rfl
        subst hcc
        have hr:=zpn (P:=P) (ty:=ty) ht hu hd hi hzi C.w (some ⟨C.σ id,ad,none⟩) l' c' n (a.eval y) olds us (hg.len _) (by rw[<-hsz];exact hg.cells _ rfl) (by rw[<-hsz];exact hg2.cells _ rfl) hgt (by rw[<-hby];exact hbd) (by rw[<-hby];exact hb0)
        generalize hrest:Builtin.zeroCells z.cells (grownCap C.w (l'+n) c' e-(l'+n))=rest at hr
        have htr:=zgb (w1:=C.w.drew) hm rfl (.cells (olds++us++rest) e (0,0))
        refine⟨_,C.more C.w.drew (.cells (olds++us++rest) e),fun dst g=>.inl (hexec _ l' c' _ _ hxv hr dst g),zh2 (w1:=C.w.drew) hm rfl rfl rfl rfl _ _ ?_ hs.k,hs.env.mono htr,?_,rfl⟩
        ·refine⟨olds++us++rest,e,?_,zxg htr (rest:=[]) hg2.rep (by rw[hg2.count,hg2.size]) hg.rep (fun j hj=>?_) (fun j hj=>?_)⟩
         ·simp only[Cx.more,if_true]
          rw[zd4,if_pos (show C.w.heap.size=C.w.drew.heap.size from rfl)]
         ·rw[Array.append_assoc,xbt hj]
         ·rw[Array.append_assoc,xcq (by omega),xbt (by omega)]
          congr 1;omega
        ·have hge:=grownCap_ge C.w (l'+n) c' e
         rw[hlen]
         refine zo0 (w1:=C.w.drew) rfl _ e (zon (by assumption) hb0) (fun k hk=>by cases hk) (.inr ?_)
         have hrs:rest.size=(grownCap C.w (l'+n) c' e-(l'+n))*P.cellsOf e:=by rw[<-hrest,zqr,hzs]
         rw[xb2,xb2,hg2.size,hg.size,hrs,<-Nat.add_mul,<-Nat.add_mul]
         exact Nat.le_of_eq (by congr 1;omega)
      ·cases h
    ·cases h
  ·cases h
theorem zyo(hs:zas num C s a){t u e:TypeId}{d:TypeDesc}{x y:Operand}{x' y':Src}(ht:P.underlying t=some (.slice e))(hu:P.underlying u=some d)(hd:zmm d=true)(hk:known P e=true)(h0:0<P.cellsOf e)(hb0:0<P.bytesOf e)
  (hz:zns P e=true) (hx:zah num x=some x') (hy:zah num y=some y') {r:AV} {s':St} (h:zaz s (P.cellsOf e) (P.bytesOf e) (s.env.ev x') (s.env.ev y')=some (r,s')):
  zbe num P (.call { callee:=.builtin .append,args:= #[x,y],argTypes:= #[t,u] }) ty pos after a C s r s':=by
 unfold zaz at h
 split at h
 ·rename_i q hq
  cases h
  exact yjw hs ht hu hd hk h0 hb0 hz hx hy hq
 ·exact zyn hs ht hu hd hk h0 hb0 hz hx hy h
end
section
variable {num:Names} {P:Program}
variable {ty:TypeId} {pos:String} {after:Array Edge} {a:Act} {C:Cx} {s:St}
theorem z86{t:TypeId}{ks:List Nat}(h:zra P t=some ks):∃fs,P.underlying t=some (.struct fs)/\P.stoodInHeld t=false/\P.eqGuardType P.depth t=false/\(∀f∈fs.toList,f.name≠ "_")/\fs.toList.map (·.offset)=List.range fs.size/\fs.toList.mapM (fun f=>zjm (P.underlying f.type))=some ks:=by
 unfold zra at h
 split at h
 ·rename_i fs ht
  split at h
  ·rename_i hc
   simp only[xae,xcd,beq_iff_eq]at hc
   obtain⟨⟨⟨h1,h2⟩,h3⟩,h4⟩:=hc
   refine⟨fs,ht,h1,h2,fun f hf=>?_,h4,h⟩
   rw[xb9]at h3
   have:=h3 f (by simpa using hf)
   simpa using this
  ·cases h
 ·cases h
theorem z3y{t:TypeId}{k0:Nat}(ht:zjm (P.underlying t)=some k0){us:Array Value}{k:Nat}{u:Value}(hu:us[k]?=some u)(w:World):(part t us k).run P w=.ok u w:=by
 have:(isAgg t).run P w=.ok false w:=by
  unfold zjm at ht
  split at ht<;>first|(rename_i h;simp[isAgg,run_underlying h])|cases ht
 simp[part,this,hu]
theorem z32(d:Nat){us vs:Array Value}(w:World):∀(fs:List Field) (ks:List Nat) (k:Nat) (xs ys:List AV) (b:Bool),fs.map (·.offset)=List.range' k fs.length->(∀f∈fs,f.name≠ "_")->fs.mapM (fun f=>zjm (P.underlying f.type))=some ks->
  (∀(j:Nat) x,xs[j]?=some x->∃u,us[k+j]?=some u/\ARep num C x u)->(∀(j:Nat) x,ys[j]?=some x->∃u,vs[k+j]?=some u/\ARep num C x u)->
  zcy ks xs ys=some b->(Op.eqFields (d+1) us vs fs).run P w=.ok b w
 |[],ks,k,xs,ys,b,_,_,hk,_,_,h=>by
  simp at hk
  subst hk
  unfold zcy at h
  split at h<;>simp_all
  rfl
 |f::fs,ks,k,xs,ys,b,ho,hp,hk,hx,hy,h=>by
  simp only[xa5,xb0,xb5,xch,xaf]at hk
  obtain⟨k0,hk0,ks',hks,rfl⟩:=hk
  have hoff:f.offset=k:=by
   simp only[xa4,xax,List.range'_succ,xcu]at ho
   exact ho.1
  have ho':fs.map (·.offset)=List.range' (k+1) fs.length:=by
   simp only[xa4,xax,List.range'_succ,xcu]at ho
   exact ho.2
  have hn:=hp f (by simp)
  have go:∀x xs' y ys' q b',xs=x::xs'->ys=y::ys'->(∀u v,ARep num C x u->ARep num C y v->(Op.equalIn (d+1) f.type u v).run P w=.ok q w)->zcy ks' xs' ys'=some b'->(Op.eqFields (d+1) us vs (f::fs)).run P w=.ok (q&&b') w:=by
   rintro x xs' y ys' q b' rfl rfl hq hb'
   obtain⟨u,hu,hur⟩:=hx 0 x rfl
   obtain⟨v,hv,hvr⟩:=hy 0 y rfl
   simp only[xbi]at hu hv
   have e:=z32 d w fs ks' (k+1) xs' ys' b' ho' (fun g hg=>hp g (by simp[hg])) hks
    (fun j z hz=>by have:=hx (j+1) z (by simpa using hz);rwa [show k+(j+1)=k+1+j by omega]at this)
    (fun j z hz=>by have:=hy (j+1) z (by simpa using hz);rwa [show k+(j+1)=k+1+j by omega]at this) hb'
   simp only[Op.eqFields]
   rw[if_pos hn]
   simp only[hoff,Sem.run_bind,z3y hk0 hu,z3y hk0 hv,Result.andThen_ok,hq u v hur hvr]
   cases q
   ·simp
   ·simp[e]
  unfold zcy at h
  split at h
  ·simp_all
  ·rename_i ks2 k1 i1 xs2 k2 j1 ys2 heq
   cases heq
   split at h
   ·rename_i hkk
    subst hkk
    cases hs:zcy ks' xs2 ys2 with
    |none=>simp[hs]at h
    |some b'=>
     simp[hs]at h
     subst h
     refine go _ _ _ _ _ b' rfl rfl (fun u v hur hvr=>?_) hs
     have:=zbw hur;subst this
     have:=zbw hvr;subst this
     unfold zjm at hk0
     split at hk0<;>first|(cases hk0;done)|skip
     rename_i kk hk
     exact run_equalIn_int w d f.type k1 kk i1 j1 hk
   ·cases h
  ·rename_i ks2 i1 xs2 j1 ys2 heq
   cases heq
   cases hs:zcy ks' xs2 ys2 with
   |none=>simp[hs]at h
   |some b'=>
    simp[hs]at h
    subst h
    refine go _ _ _ _ _ b' rfl rfl (fun u v hur hvr=>?_) hs
    have:=zbw hur;subst this
    have:=zbw hvr;subst this
    unfold zjm at hk0
    split at hk0<;>first|(cases hk0;done)|skip
    rename_i hk
    exact Go.run_equalIn_bool w d f.type i1 j1 hk
  ·rename_i ks2 i1 xs2 j1 ys2 heq
   cases heq
   cases hs:zcy ks' xs2 ys2 with
   |none=>simp[hs]at h
   |some b'=>
    simp[hs]at h
    subst h
    refine go _ _ _ _ _ b' rfl rfl (fun u v hur hvr=>?_) hs
    have:=zbw hur;subst this
    have:=zbw hvr;subst this
    unfold zjm at hk0
    split at hk0<;>first|(cases hk0;done)|skip
    rename_i hk
    rw[run_equalIn_string w d f.type i1 j1 hk,<-beq_toListBytes]
  ·cases h
theorem yj6(hs:zas num C s a){t yt:TypeId}{ks:List Nat}{x y:Operand}{x' y':Src}{neg:Bool}(hx:zah num x=some x')(hy:zah num y=some y')(hf:zra P t=some ks){xs ys:List AV}(h1:s.env.ev x'=.agg xs)(h2:s.env.ev y'=.agg ys){b:Bool}(hb:zcy ks xs ys=some b):
  zbe num P (.binOp (if neg then .neq else .eql) t x y yt) ty pos after a C s (.imm (.val (.bool (if neg then !b else b)))) s:=by
 obtain⟨fs,ht,hst,hg,hn,ho,hk⟩:=z86 hf
 have hax:=zba hs hx
 have hay:=zba hs hy
 rw[h1]at hax
 rw[h2]at hay
 generalize hu:a.eval x=u at hax
 generalize hv:a.eval y=v at hay
 cases hax with
 |agg _ us hul hu1 hur=>
  cases hay with
  |agg _ vs hvl hv1 hvr=>
   have hfo:P.fieldsOf t=fs:=by simp[Program.fieldsOf,ht]
   have get:∀(l:List AV) (arr:Array Value),l.length=arr.size->(∀(j:Nat) (x:AV) (u:Value),l[j]?=some x->arr[j]?=some u->ARep num C x u)->∀(j:Nat) x,l[j]?=some x->∃u,arr[0+j]?=some u/\ARep num C x u:=by
    intro l arr hl hr j x hx
    have hj:j<arr.size:=by rw[<-hl];exact(xab.1 hx).1
    exact⟨arr[j],by simp[hj],hr j x _ hx (by simp[hj])⟩
   have hrun:(Op.equalIn 10000 t (.agg us) (.agg vs)).run P C.w=.ok b C.w:=by
    rw[show(10000:Nat)=9999+1 from rfl,run_equalIn_struct C.w 9999 t us vs (by rw[hfo];exact ht) hst,hfo]
    refine z32 9998 C.w fs.toList ks 0 xs ys b ?_ hn hk (get xs us hul hur) (get ys vs hvl hvr) hb
    rw[ho,List.range_eq_range',xck]
   refine zbj (v:=.bool (if neg then !b else b)) hs (fun _ _=>?_) (.imm _ _ (.val _ rfl))
   cases neg
   ·simp only[execOp,hu,hv,Sem.run_bind,xan,if_false,run_eqGuard_agg C.w _ t x y us vs hg,Result.andThen_ok,run_eql_struct,hrun]
    rfl
   ·simp only[execOp,hu,hv,Sem.run_bind,if_true,run_eqGuard_agg C.w _ t x y us vs hg,Result.andThen_ok,run_neq_struct,hrun]
    rfl
end
section
variable {num:Names} {P:Program}
variable {ty:TypeId} {pos:String} {after:Array Edge} {a:Act} {C:Cx} {s:St}
def zkg(P:Program)(f:FuncId):Prop:=∃fn,P.funcs[f]?=some fn/\fn.name≠ "runtime.NumGoroutine" /\fn.body.isSome=true
def zev(num:Names)(P:Program)(call:zac):Prop:=
 ∀f args m r m' C (vals:Array Value),call (num f) args m=some (r,m')->MRep num C m->args.length=vals.size->(∀(j:Nat) (x:AV) (u:Value),args[j]?=some x->vals[j]?=some u->ARep num C x u)->
  zkg P f/\Calls P f vals C.w (fun e w'=>∃v D,e=.returned v/\D.w=w'/\Step num m.length C m D m'/\ARep num D r v)
structure zc3 (num:Names) (P:Program) (call:zac):Prop where
 fn:zev num P call
 yld:∀args m r m' C (l:Nat) (vals:Array Value),call zfs args m=some (r,m')->MRep num C m->args.length=vals.size+1->(∀x,args[0]?=some x->ARep num C x (.func (.yield l) #[] #[]))->
  (∀(j:Nat) (x:AV) (u:Value),args[j+1]?=some x->vals[j]?=some u->ARep num C x u)->
  ∃fn tmps assign body,(Instr.yield l vals).run P C.w=.ok (.round l fn tmps assign body) C.w/\
   RoundIn Fence.wide 0 P l fn tmps assign body C.w (fun e w'=>∃v D,e=.returned v/\D.w=w'/\Step num m.length C m D m'/\ARep num D r v)
 seat:∀e n off,zjp P e n off=true->num.B e n off
 byte:∀e,zky P e=true->P.cellsOf e=1->num.U e
def zkh(num:Names)(P:Program)(op:Op)(ty:TypeId)(pos:String)(after:Array Edge)(a:Act)(C:Cx)(s:St)(x:AV)(s':St):Prop:=
 ∃f vals,(∀dst g,(execOp a.eval ⟨dst,op,ty,pos,after,g⟩).run P C.w=.ok (.enter f vals) C.w)/\
  Calls P f vals C.w (fun e w'=>∃v D,e=.returned v/\D.w=w'/\Step num s.k C s.mem D s'.mem/\ERep num D s'.env a.tmps/\ARep num D x v/\s'.k=s.k)
def z5u(num:Names)(P:Program)(op:Op)(ty:TypeId)(pos:String)(after:Array Edge)(a:Act)(C:Cx)(s:St)(x:AV)(s':St):Prop:=
 ∃l fn tmps assign body,(∀dst g,(execOp a.eval ⟨dst,op,ty,pos,after,g⟩).run P C.w=.ok (.round l fn tmps assign body) C.w)/\
  RoundIn Fence.wide 0 P l fn tmps assign body C.w (fun e w'=>∃v D,e=.returned v/\D.w=w'/\Step num s.k C s.mem D s'.mem/\ERep num D s'.env a.tmps/\ARep num D x v/\s'.k=s.k)
theorem zv2{m:Mem}(hm:MRep num C m){w':World}{J:Nat->Prop}(hk:∀b,b<C.w.heap.size->w'.heap[b]?=C.w.heap[b]?)(hI:∀b,C.I b->J b):Tr some C { σ:=C.σ,I:=J,n:=C.n,w:=w' }:=by
 refine⟨hI,fun b hb=>hk b (hm.bd b hb),fun i j hi hj=>?_⟩
 cases hj
 exact⟨hi,rfl,fun _ _ h=>h.same (hk _ h.lt)⟩
theorem zv1{m:Mem}(hm:MRep num C m){w':World}{J:Nat->Prop}(hos:w'.os=C.w.os)(htp:w'.tape=C.w.tape)(hout:w'.output=C.w.output)(hsize:C.w.heap.size<=w'.heap.size)(hk:∀b,b<C.w.heap.size->w'.heap[b]?=C.w.heap[b]?)
  (hI:∀b,C.I b->J b) (hI':∀b,J b->C.I b\/C.w.heap.size<=b) (hbd:∀b,J b->b<w'.heap.size) {k:Nat} (hkm:k<=m.length):Step num k C m { σ:=C.σ,I:=J,n:=C.n,w:=w' } m:=by
 have ht:=zv2 hm hk hI
 have hown:∀b,Own { σ:=C.σ,I:=J,n:=C.n,w:=w' } m b->Own C m b:=fun b h=>h
 refine⟨⟨hm.len,fun i o ho=>?_,hm.inj,fun b hb hJ=>?_,hbd,num.up hm.glo ht.imm ht.keep⟩,hos,htp,hout,hsize,fun b hb _=>hk b hb,fun _ _ _ h=>h.same (hk _ h.lt),hI,fun b hb=>?_,fun b hb=>.inr (hown b hb),fun i _ o' ho hmv=>⟨o',ho,hmv,rfl⟩,hkm⟩
 ·have hob:=hm.obj i o ho
  exact zh6 ht rfl (fun x h=>by show w'.heap[_]?=_;rw[hk _ (xal.1 h).1];exact h) hob
 ·rcases hI' b hJ with h|h
  ·exact hm.imm b hb h
  ·have:=MRep.lt num hm hb;omega
 ·rcases hI' b hb with h|h
  ·exact .inl h
  ·exact .inr (.inl h)
theorem zol(m:Mem)(n:Nat)(x:IV):za5 m n (.imm x)=some x:=by cases n<;>rfl
theorem zgv{α β:Type}(f:α->Option β):∀(l:List α) (r:List β),l.mapM f=some r->r.length=l.length/\∀(j:Nat) y,r[j]?=some y->∃x,l[j]?=some x/\f x=some y
 |[],r,h=>by simp at h;subst h;exact⟨rfl,fun j y hy=>by simp at hy⟩
 |x::l,r,h=>by
  simp only[xa5,xb0,xb5,xch,xaf]at h
  obtain⟨y,hy,r',hr,rfl⟩:=h
  obtain⟨h1,h2⟩:=zgv f l r' hr
  refine⟨by simp[h1],fun j z hz=>?_⟩
  cases j with
  |zero=>simp at hz;subst hz;exact⟨x,rfl,hy⟩
  |succ j=>simp at hz;obtain⟨q,h3,h4⟩:=h2 j z hz;exact⟨q,by simpa using h3,h4⟩
def Cx.view(C:Cx)(m:Mem)(num:Names):Cx:={ σ:=C.σ,I:=fun b=>C.I b\/Own C m b,n:=0,w:=C.w }
theorem zsu{m:Mem}(hm:MRep num C m):MRep num (C.view m num) []:=
 ⟨rfl,fun i o h=>by simp at h,fun i j o p h=>by simp at h,fun b ⟨i,o,h,_⟩=>by simp at h,fun b hb=>by
  rcases hb with h|h
  ·exact hm.bd b h
  ·exact MRep.lt num hm h,num.up hm.glo (fun b h=>.inl h) fun _ _=>rfl⟩
theorem zma{m:Mem}(hm:MRep num C m):∀(n:Nat) (x:AV) (y:IV) (v:Value),za5 m n x=some y->ARep num C x v->IRep (C.view m num).I C.w y v
 |n,.imm x,y,v,h,hx=>by
  rw[zol]at h
  cases h
  cases hx with|imm _ _ hx=>exact hx.mono (fun _ h=>.inl h) (fun _ _=>rfl)
 |0,.osl ..,y,v,h,hx=>by cases h
 |0,.optr ..,y,v,h,hx=>by cases h
 |n,.omap ..,y,v,h,hx=>by cases n<;>cases h
 |n,.clo ..,y,v,h,hx=>by cases n<;>cases h
 |n,.agg ..,y,v,h,hx=>by cases n<;>cases h
 |n,.tup ..,y,v,h,hx=>by cases n<;>cases h
 |n,.yld ..,y,v,h,hx=>by cases n<;>cases h
 |n,.seat ..,y,v,h,hx=>by cases n<;>cases h
 |n,.tag b a x,y,v,h,hx=>by
  have:za5 m n (.tag b a x)=some x:=by cases n<;>rfl
  rw[this]at h
  cases h
  cases hx with|tag _ _ _ _ hx ha=>exact hx.mono (fun _ h=>.inl h) (fun _ _=>rfl)
 |n,.err,y,v,h,hx=>by cases n<;>cases h
 |n,.junk,y,v,h,hx=>by cases n<;>cases h
 |n+1,.osl id off sz len cap,y,v,h,hx=>by
  simp only[za5]at h
  cases hx with
  |osl _ _ _ _ _ c ad arr0 e0 hid hl hk ha hw hs=>
   split at h
   ·rename_i cs mv ho
    cases h
    obtain⟨arr,e,h1,h2⟩:=hm.obj id _ ho
    have hget:∀(j:Nat) x,cs[j]?=some x->C.w.cell? ⟨C.σ id,0+j,none⟩=some (arr.getD j undef)/\IRep C.I C.w x (arr.getD j undef):=by
     intro j x hx
     obtain⟨u,hu,hr⟩:=h2 j x hx
     have:arr.getD j undef=u:=by simp[xbn,hu]
     rw[this]
     exact⟨by rw[cell_of_row C.w _ _ arr e _ h1,xaw];exact hu,hr⟩
    exact .slice cs off len cap (C.σ id) 0 c ad (fun j=>arr.getD j undef) (.inr ⟨id,_,ho,rfl,rfl⟩) (fun j x hx=>(hget j x hx).1) (fun j x hx=>(hget j x hx).2.mono (fun _ h=>.inl h) (fun _ _=>rfl)) hl.1 hk (by rw[xaw];exact ha)
   ·rename_i cs ho
    simp only[xad]at h
    obtain⟨row,hrow,rfl⟩:=h
    obtain⟨arr,e,h1,h2⟩:=hm.obj id _ ho
    obtain⟨_,h4⟩:=zgv _ _ _ hrow
    have hget:∀(j:Nat) x,row[j]?=some x->C.w.cell? ⟨C.σ id,0+j,none⟩=some (arr.getD j undef)/\IRep (C.view m num).I C.w x (arr.getD j undef):=by
     intro j x hx
     obtain⟨q,hq,hf⟩:=h4 j x hx
     obtain⟨u,hu,_,hr⟩:=h2 j q hq
     have:arr.getD j undef=u:=by simp[xbn,hu]
     rw[this]
     exact⟨by rw[cell_of_row C.w _ _ arr e _ h1,xaw];exact hu,zma hm n q x u hf hr⟩
    exact .slice row off len cap (C.σ id) 0 c ad (fun j=>arr.getD j undef) (.inr ⟨id,_,ho,rfl,rfl⟩) (fun j x hx=>(hget j x hx).1) (fun j x hx=>(hget j x hx).2) hl.1 hk (by rw[xaw];exact ha)
   ·cases h
 |n+1,.optr id off,y,v,h,hx=>by
  simp only[za5]at h
  cases hx with
  |optr _ _ hid=>
   split at h
   ·rename_i cs mv ho
    cases h
    obtain⟨arr,e,h1,h2⟩:=hm.obj id _ ho
    have hget:∀(j:Nat) x,cs[j]?=some x->C.w.cell? ⟨C.σ id,0+j,none⟩=some (arr.getD j undef)/\IRep C.I C.w x (arr.getD j undef):=by
     intro j x hx
     obtain⟨u,hu,hr⟩:=h2 j x hx
     have:arr.getD j undef=u:=by simp[xbn,hu]
     rw[this]
     exact⟨by rw[cell_of_row C.w _ _ arr e _ h1,xaw];exact hu,hr⟩
    have:=IRep.ptr (I:=(C.view m num).I) (w:=C.w) cs off (C.σ id) 0 (fun j=>arr.getD j undef) (.inr ⟨id,_,ho,rfl,rfl⟩) (fun j x hx=>(hget j x hx).1) (fun j x hx=>(hget j x hx).2.mono (fun _ h=>.inl h) (fun _ _=>rfl))
    rwa [xaw]at this
   ·rename_i cs ho
    simp only[xad]at h
    obtain⟨row,hrow,rfl⟩:=h
    obtain⟨arr,e,h1,h2⟩:=hm.obj id _ ho
    obtain⟨_,h4⟩:=zgv _ _ _ hrow
    have hget:∀(j:Nat) x,row[j]?=some x->C.w.cell? ⟨C.σ id,0+j,none⟩=some (arr.getD j undef)/\IRep (C.view m num).I C.w x (arr.getD j undef):=by
     intro j x hx
     obtain⟨q,hq,hf⟩:=h4 j x hx
     obtain⟨u,hu,_,hr⟩:=h2 j q hq
     have:arr.getD j undef=u:=by simp[xbn,hu]
     rw[this]
     exact⟨by rw[cell_of_row C.w _ _ arr e _ h1,xaw];exact hu,zma hm n q x u hf hr⟩
    have:=IRep.ptr (I:=(C.view m num).I) (w:=C.w) row off (C.σ id) 0 (fun j=>arr.getD j undef) (.inr ⟨id,_,ho,rfl,rfl⟩) (fun j x hx=>(hget j x hx).1) (fun j x hx=>(hget j x hx).2)
    rwa [xaw]at this
   ·cases h
theorem z02{m:Mem}(hm:MRep num C m){k:Nat}{cells:List AV}{l:List IV}{v:Value}(h:cells.mapM (za5 m k)=some l)(hx:ARep num C (.agg cells) v)(D:Cx)(hI:∀b,(C.view m num).I b->D.I b)(hw:D.w=C.w):ARep num D (.agg (l.map .imm)) v:=by
 cases hx with
 |agg _ vs hl h1 hr=>
  obtain⟨h2,h3⟩:=zgv _ _ _ h
  refine .agg _ vs (by rw[xam,h2];exact hl) h1 fun j x u hx hu=>?_
  rw[xar]at hx
  cases hq:l[j]? with
  |none=>simp[hq]at hx
  |some y=>
   simp[hq]at hx
   subst hx
   obtain⟨q,h4,h5⟩:=h3 j y hq
   exact .imm _ _ ((zma hm k q y u h5 (hr j q u h4 hu)).mono hI (fun b _=>by rw[hw]))
theorem z05{m:Mem}(hm:MRep num C m){x y:AV}{v:Value}(h:frz m x=some y)(hx:ARep num C x v)(D:Cx)(hI:∀b,(C.view m num).I b->D.I b)(hw:D.w=C.w):ARep num D y v:=by
 have one:∀z,(za5 m 20 x).map AV.imm=some z->ARep num D z v:=by
  intro z hz
  simp only[xad]at hz
  obtain⟨i,hi,rfl⟩:=hz
  exact .imm _ _ ((zma hm 20 x i v hi hx).mono hI (fun b _=>by rw[hw]))
 unfold frz at h
 split at h
 ·rename_i cells
  simp only[xad]at h
  obtain⟨l,hl,rfl⟩:=h
  exact z02 hm hl hx D hI hw
 ·rename_i vs
  simp only[xad]at h
  obtain⟨l,hl,rfl⟩:=h
  cases hx with
  |tup _ us hlen hr=>
   obtain⟨h2,h3⟩:=zgv _ _ _ hl
   refine .tup _ us (by rw[h2];exact hlen) fun j x u hx hu=>?_
   obtain⟨q,h4,h5⟩:=h3 j x hx
   have hq:=hr j q u h4 hu
   unfold frz.frz1 at h5
   split at h5
   ·simp only[xad]at h5
    obtain⟨l',hl',rfl⟩:=h5
    exact z02 hm hl' hq D hI hw
   ·simp only[xad]at h5
    obtain⟨i,hi,rfl⟩:=h5
    exact .imm _ _ ((zma hm 20 q i u hi hq).mono hI (fun b _=>by rw[hw]))
 ·rename_i fn caps
  simp only[xad]at h
  obtain⟨l,hl,rfl⟩:=h
  cases hx with
  |clo g _ us hlen hr=>
   obtain⟨h2,h3⟩:=zgv _ _ _ hl
   refine .clo g _ us (by rw[h2];exact hlen) fun j x u hx hu=>?_
   obtain⟨q,h4,h5⟩:=h3 j x hx
   have hq:=hr j q u h4 hu
   unfold frz.frzC at h5
   split at h5
   ·cases h5
    exact hq.tr (f:=fun _=>none) ⟨fun b hb=>hI b (.inl hb),fun b _=>by rw[hw],fun id j _ hj=>by cases hj⟩
   ·simp only[xad]at h5
    obtain⟨i,hi,rfl⟩:=h5
    exact .imm _ _ ((zma hm 20 q i u hi hq).mono hI (fun b _=>by rw[hw]))
 ·exact one _ h
theorem z03{m:Mem}{x y:AV}(hi:x.isImm=true)(h:frz m x=some y):y=x:=by
 unfold AV.isImm at hi
 split at hi
 ·rename_i z
  simp[frz,zol]at h
  exact h.symm
 ·rename_i cells
  obtain⟨xs,hxs⟩:=xbm.1 hi
  have:=ziy cells xs hxs
  subst this
  simp only[frz]at h
  have hm:∀l:List IV,(l.map AV.imm).mapM (za5 m 20)=some l:=by
   intro l
   induction l with
   |nil=>rfl
   |cons z l ih=>simp[zol,ih]
  rw[hm]at h
  exact(xau h).symm
 ·cases hi
theorem z1j{x:AV}(hi:x.isImm=true){v:Value}(hx:ARep num C x v)(D:Cx)(hI:∀b,C.I b->D.I b)(hw:D.w=C.w):ARep num D x v:=by
 unfold AV.isImm at hi
 split at hi
 ·cases hx with|imm _ _ h=>exact .imm _ _ (h.mono hI (fun b _=>by rw[hw]))
 ·rename_i cells
  obtain⟨xs,hxs⟩:=xbm.1 hi
  have:=ziy cells xs hxs
  subst this
  cases hx with
  |agg _ vs hl h1 hr=>
   refine .agg _ vs hl h1 fun j x u hx hu=>?_
   have hr':=hr j x u hx hu
   rw[xar]at hx
   cases hq:xs[j]? with
   |none=>simp[hq]at hx
   |some y=>simp[hq]at hx;subst hx;cases hr' with|imm _ _ h=>exact .imm _ _ (h.mono hI (fun b _=>by rw[hw]))
 ·cases hi
theorem zw9{x:AV}(hp:x.plain1=true){v:Value}(hx:ARep num C x v)(D:Cx):ARep num D x v:=by
 unfold AV.plain1 at hp
 split at hp
 ·cases hx with|imm _ _ h=>cases h with|val _ h=>exact .imm _ _ (.val _ h)
 ·cases hx with|err t v=>exact .err t v
 ·cases hp
theorem z2x{x:AV}(hp:x.plain2=true){v:Value}(hx:ARep num C x v)(D:Cx):ARep num D x v:=by
 unfold AV.plain2 at hp
 split at hp
 ·rename_i cells
  cases hx with
  |agg _ vs hl h1 hr=>exact .agg _ vs hl h1 fun j x u hx hu=>zw9 (xai.1 hp x (xah hx)) (hr j x u hx hu) D
 ·exact zw9 hp hx D
theorem ye0{x:AV}(hp:x.plain=true){v:Value}(hx:ARep num C x v)(D:Cx):ARep num D x v:=by
 unfold AV.plain at hp
 split at hp
 ·rename_i xs
  cases hx with
  |tup _ vs hl hr=>exact .tup _ vs hl fun j x u hx hu=>z2x (xai.1 hp x (xah hx)) (hr j x u hx hu) D
 ·exact z2x hp hx D
theorem zva{m:Mem}(hm:MRep num C m){args bs:List AV}(h:args.mapM (frz m)=some bs){vals:Array Value}(hl:args.length=vals.size)(hr:∀(j:Nat) (x:AV) (u:Value),args[j]?=some x->vals[j]?=some u->ARep num C x u)
  (D:Cx) (hI:∀b,(C.view m num).I b->D.I b) (hw:D.w=C.w):bs.length=vals.size/\∀(j:Nat) (x:AV) (u:Value),bs[j]?=some x->vals[j]?=some u->ARep num D x u:=by
 obtain⟨h1,h2⟩:=zgv _ _ _ h
 refine⟨by rw[h1];exact hl,fun j x u hx hu=>?_⟩
 obtain⟨q,h3,h4⟩:=h2 j x hx
 exact z05 hm h4 (hr j q u h3 hu) D hI hw
theorem zkn(hs:zas num C s a):∀(xs:List Operand) (ys:List Src),xs.mapM (zah num)=some ys->(ys.map s.env.ev).length=(xs.map a.eval).toArray.size/\∀(j:Nat) (x:AV) (u:Value),(ys.map s.env.ev)[j]?=some x->(xs.map a.eval).toArray[j]?=some u->ARep num C x u:=by
 intro xs ys h
 obtain⟨h1,h2⟩:=zgv _ _ _ h
 refine⟨by simp[h1],fun j x u hx hu=>?_⟩
 obtain⟨y,hy,rfl⟩:=zow _ _ _ _ hx
 obtain⟨o,ho,ht⟩:=h2 j y hy
 have:u=a.eval o:=by simp[ho]at hu;exact hu.symm
 rw[this]
 exact zba hs ht
theorem zm1{f:FuncId}(hc:zkg P f)(args:Array Operand)(ats:Array TypeId)(w:World)(dst:Option Tmp)(g:Option (Nat×Bool)):
  (execOp a.eval ⟨dst,.call { callee:=.value (.func f),args:=args,argTypes:=ats },ty,pos,after,g⟩).run P w=.ok (.enter f (args.toList.map a.eval).toArray) w:=by
 obtain⟨fn,h1,h2,h3⟩:=hc
 obtain⟨body,hb⟩:=xbm.1 h3
 have harr:args.map a.eval=(args.toList.map a.eval).toArray:=by apply Array.ext';simp
 simp[execOp,resolve,Deferred.ofValue,Act.eval,invoke,callFunc,h1,h2,hb,harr]
theorem ykr{call:zac}(hcall:zc3 num P call)(hs:zas num C s a){f:FuncId}{args:Array Operand}{ats:Array TypeId}{ys:List Src}(hy:args.toList.mapM (zah num)=some ys){r:AV}{s':St}(h:zbl call s (num f) (ys.map s.env.ev)=some (r,s')):
  zkh num P (.call { callee:=.value (.func f),args:=args,argTypes:=ats }) ty pos after a C s r s':=by
 have hm:=hs.mem
 obtain⟨hl,hr⟩:=zkn hs args.toList ys hy
 unfold zbl at h
 cases hf:(ys.map s.env.ev).mapM (frz s.mem)with
 |none=>simp[hf]at h
 |some bs=>
  simp only[hf]at h
  cases hc:call (num f) bs []with
  |none=>simp[hc]at h
  |some rm=>
   obtain⟨rv,mc⟩:=rm
   simp only[hc]at h
   split at h
   ·rename_i hp
    cases h
    have hvr:=zsu hm
    obtain⟨h1,h2⟩:=zva hm hf hl hr (C.view s.mem num) (fun _ h=>h) rfl
    obtain⟨hcb,hcs⟩:=hcall.fn f bs [] r mc _ _ hc hvr h1 h2
    refine⟨f,_,fun dst g=>zm1 hcb args ats C.w dst g,hcs.mono ?_⟩
    rintro e w' ⟨v,D,rfl,rfl,hst,hrv⟩
    have hk:∀b,b<C.w.heap.size->D.w.heap[b]?=C.w.heap[b]?:=fun b hb=>hst.keep b hb fun ⟨i,o,h,_⟩=>by simp at h
    have htr:=zv2 (J:=C.I) hm hk (fun _ h=>h)
    have hext:=zv1 (J:=C.I) hm hst.os hst.tape hst.out hst.size hk (fun _ h=>h) (fun _ h=>.inl h) (fun b hb=>xbz (hm.bd b hb) hst.size) hs.k
    exact⟨v,{ σ:=C.σ,I:=C.I,n:=C.n,w:=D.w },rfl,rfl,hext,hs.env.mono htr,ye0 hp hrv _,rfl⟩
   ·split at h
    ·rename_i _ himm
     simp only[xad,xay]at h
     obtain⟨r',hr',rfl,rfl⟩:=h
     let C0:Cx:={ σ:=C.σ,I:=C.I,n:=0,w:=C.w }
     have hC0:MRep num C0 []:=⟨rfl,fun i o h=>by simp at h,fun i j o p h=>by simp at h,fun b ⟨i,o,h,_⟩=>by simp at h,hm.bd,hm.glo⟩
     obtain⟨h1,h2⟩:=zgv _ _ _ hf
     have h3:∀(j:Nat) (x:AV) (u:Value),bs[j]?=some x->(args.toList.map a.eval).toArray[j]?=some u->ARep num C0 x u:=by
      intro j x u hx hu
      obtain⟨q,hq,hfq⟩:=h2 j x hx
      have hqi:=xai.1 himm q (xah hq)
      have:=z03 hqi hfq
      subst this
      exact z1j hqi (hr j x u hq hu) C0 (fun _ h=>h) rfl
     obtain⟨hcb,hcs⟩:=hcall.fn f bs [] rv mc C0 _ hc hC0 (by rw[h1];exact hl) h3
     refine⟨f,_,fun dst g=>zm1 hcb args ats C.w dst g,hcs.mono ?_⟩
     rintro e w' ⟨v,D,rfl,rfl,hst,hrv⟩
     have hk:∀b,b<C.w.heap.size->D.w.heap[b]?=C.w.heap[b]?:=fun b hb=>hst.keep b hb fun ⟨i,o,h,_⟩=>by simp at h
     have hJ1:∀b,C.I b->(D.view mc num).I b:=fun b hb=>.inl (hst.imm b hb)
     have hJ2:∀b,(D.view mc num).I b->C.I b\/C.w.heap.size<=b:=by
      intro b hb
      rcases hb with hb|hb
      ·rcases hst.imm' b hb with h|h|⟨i,o,h,_⟩
       ·exact .inl h
       ·exact .inr h
       ·simp at h
      ·rcases hst.own b hb with h|⟨i,o,h,_⟩
       ·exact .inr h
       ·simp at h
     have hJ3:∀b,(D.view mc num).I b->b<D.w.heap.size:=(zsu hst.rep).bd
     exact⟨v,{ σ:=C.σ,I:=(D.view mc num).I,n:=C.n,w:=D.w },rfl,rfl,zv1 hm hst.os hst.tape hst.out hst.size hk hJ1 hJ2 hJ3 hs.k,hs.env.mono (zv2 hm hk hJ1),z05 hst.rep hr' hrv _ (fun _ h=>h) rfl,rfl⟩
    ·cases h
end
section
variable {num:Names} {P:Program}
variable {ty:TypeId} {pos:String} {after:Array Edge} {a:Act} {C:Cx} {s:St}
theorem zr1(m:Mem):∀(n:Nat) (todo acc:List Nat),acc.Nodup->(∀x∈acc,x<m.length)->(reach m n todo acc).Nodup/\(∀x∈reach m n todo acc,x<m.length)/\∃r,reach m n todo acc=acc++r
 |0,todo,acc,h1,h2=>⟨h1,h2,[],by simp[reach]⟩
 |n+1,[],acc,h1,h2=>⟨h1,h2,[],by simp[reach]⟩
 |n+1,id::todo,acc,h1,h2=>by
  simp only[reach]
  split
  ·exact zr1 m n todo acc h1 h2
  ·rename_i hid
   split
   ·rename_i hlt
    obtain⟨h3,h4,r,hr⟩:=zr1 m n (todo++((m[id]?).getD .dead).refs) (acc++[id]) (by rw[xco];exact⟨h1,by simp,by intro x hx y hy;simp at hy;subst hy;intro e;subst e;exact hid hx⟩) (by
     intro x hx
     rw[xaj]at hx
     rcases hx with hx|hx
     ·exact h2 x hx
     ·simp at hx;subst hx;exact hlt)
    exact⟨h3,h4,id::r,by rw[hr];simp⟩
   ·exact zr1 m n todo acc h1 h2
theorem zmt{k:Nat}{roots:List Nat}{m:Mem}(hk:k<=m.length):(order k roots m).Nodup/\(∀x∈order k roots m,x<m.length)/\∃r,order k roots m=List.range k++r:=
 zr1 m 1000000000000 _ _ List.nodup_range (fun x hx=>by rw[xa9]at hx;omega)
theorem zdp:∀(l:List Nat) (id i:Nat),place l id=some i->l[i]?=some id
 |[],id,i,h=>by cases h
 |x::l,id,i,h=>by
  simp only[place]at h
  split at h
  ·rename_i e;cases h;simp[e]
  ·simp only[xad]at h
   obtain⟨j,hj,rfl⟩:=h
   simp[zdp l id j hj]
theorem zhg:∀(l:List Nat) (id i:Nat),l.Nodup->l[i]?=some id->place l id=some i
 |[],id,i,_,h=>by simp at h
 |x::l,id,i,hn,h=>by
  rw[List.nodup_cons]at hn
  simp only[place]
  cases i with
  |zero=>simp at h;rw[if_pos h.symm]
  |succ i=>
   simp at h
   have:id≠x:=fun e=>hn.1 (e▸xah h)
   rw[if_neg this,zhg l id i hn.2 h]
   rfl
theorem zw8{l:List Nat}{id:Nat}(h:id ∉ l):place l id=none:=by
 cases hp:place l id with
 |none=>rfl
 |some i=>exact absurd (xah (zdp l id i hp)) h
def Cx.pick(C:Cx)(l:List Nat):Cx:={ σ:=fun i=>C.σ (l.getD i 0),I:=C.I,n:=l.length,w:=C.w }
theorem ziz{l:List Nat}{i id:Nat}(h:l[i]?=some id):(C.pick l).σ i=C.σ id:=by simp[Cx.pick,List.getD,h]
theorem zo6(l:List Nat):Tr (place l) C (C.pick l):=by
 refine⟨fun _ h=>h,fun _ _=>rfl,fun id j _ hj=>?_⟩
 have:=zdp l id j hj
 exact⟨(xab.1 this).1,ziz this,fun _ _ h=>h⟩
theorem zk3{m:Mem}{l:List Nat}{i:Nat}{p:AObj}(h:(m.pickAll l)[i]?=some p):∃id,l[i]?=some id/\p=((m[id]?).getD .dead).ren (place l):=by
 obtain⟨id,h1,h2⟩:=zow _ _ _ _ h
 exact⟨id,h1,h2⟩
theorem zmb{m:Mem}{id:Nat}(h:((m[id]?).getD .dead).live=true):∃o,m[id]?=some o/\(m[id]?).getD .dead=o:=by
 cases hq:m[id]? with
 |none=>rw[hq]at h;cases h
 |some o=>exact⟨o,rfl,rfl⟩
theorem zmc{m:Mem}{id:Nat}(h:((m[id]?).getD .dead).moved=false):∃o,m[id]?=some o/\(m[id]?).getD .dead=o:=by
 cases hq:m[id]? with
 |none=>rw[hq]at h;cases h
 |some o=>exact⟨o,rfl,rfl⟩
theorem zjt{m:Mem}{l:List Nat}{b:Nat}(h:Own (C.pick l) (m.pickAll l) b):∃id o,id∈l/\m[id]?=some o/\o.live=true/\C.σ id=b:=by
 obtain⟨i,p,hp,hl,hb⟩:=h
 obtain⟨id,h1,rfl⟩:=zk3 hp
 rw[zge]at hl
 obtain⟨o,ho,he⟩:=zmb hl
 rw[he]at hl
 exact⟨id,o,xah h1,ho,hl,by rw[<-ziz h1];exact hb⟩
theorem zw7{m:Mem}(hm:MRep num C m){l:List Nat}(hn:l.Nodup):MRep num (C.pick l) (m.pickAll l):=by
 refine⟨by simp[Mem.pickAll,Cx.pick],fun i p hp=>?_,fun i j p q hp hq hlp hlq he=>?_,fun b hb hI=>?_,hm.bd,hm.glo⟩
 ·obtain⟨id,h1,rfl⟩:=zk3 hp
  cases hq:m[id]? with
  |none=>trivial
  |some o=>exact zk2 (zo6 l) (ziz h1) (fun _ h=>h) (hm.obj id o hq)
 ·obtain⟨id,h1,rfl⟩:=zk3 hp
  obtain⟨id2,h2,rfl⟩:=zk3 hq
  rw[zge]at hlp hlq
  obtain⟨o,ho,he1⟩:=zmb hlp
  obtain⟨o2,ho2,he2⟩:=zmb hlq
  rw[he1]at hlp
  rw[he2]at hlq
  rw[ziz h1,ziz h2]at he
  rcases hm.inj id id2 o o2 ho ho2 hlp hlq he with this|htw
  ·subst this
   have e1:=zhg l id i hn h1
   have e2:=zhg l id j hn h2
   rw[e1]at e2
   exact .inl (xau e2)
  ·rw[zpx,he1,he2]
   exact .inr htw
 ·obtain⟨id,o,_,ho,hl,hb⟩:=zjt hb
  exact hm.imm b ⟨id,o,ho,hl,hb⟩ hI
theorem z2w{m:Mem}(hm:MRep num C m){k:Nat}(hk:k<=m.length)(roots:List Nat):Step num k C m (C.pick (order k roots m)) (m.pickAll (order k roots m)):=by
 obtain⟨h1,h2,r,hr⟩:=zmt (roots:=roots) hk
 have hk':∀i,i<k->(order k roots m)[i]?=some i:=by
  intro i hi
  rw[hr,xac (by simpa using hi),xbx hi]
 have hown:∀b,Own (C.pick (order k roots m)) (m.pickAll (order k roots m)) b->Own C m b:=by
  intro b hb
  obtain⟨id,o,_,ho,hl,hb⟩:=zjt hb
  exact⟨id,o,ho,hl,hb⟩
 refine⟨zw7 hm h1,rfl,rfl,rfl,xap _,fun _ _ _=>rfl,fun _ _ _ h=>h,fun _ h=>h,fun _ h=>.inl h,fun b hb=>.inr (hown b hb),fun i hi p hp hmv=>?_,by rw[Mem.pickAll,xam,hr];simp⟩
 obtain⟨id,h3,rfl⟩:=zk3 hp
 rw[hk' i hi]at h3
 cases h3
 rw[zmw]at hmv
 obtain⟨o,ho,he⟩:=zmc hmv
 rw[he]at hmv
 exact⟨o,ho,hmv,ziz (hk' i hi)⟩
theorem yhy(hs:zas num C s a)(keep:List Nat):∃D,D.w=C.w/\zas num D (s.tidy keep) a/\Step num s.k C s.mem D (s.tidy keep).mem/\(s.tidy keep).k=s.k:=by
 unfold St.tidy
 split
 ·exact⟨C,rfl,⟨hs.mem,hs.env.keep keep,hs.k⟩,.refl hs.mem hs.k,rfl⟩
 split
 ·exact⟨C,rfl,⟨hs.mem,hs.env.keep keep,hs.k⟩,.refl hs.mem hs.k,rfl⟩
 ·have hst:=z2w hs.mem hs.k (Env.roots (s.env.keep keep))
  exact⟨C.pick (order s.k (Env.roots (s.env.keep keep)) s.mem),rfl,⟨hst.rep,(hs.env.keep keep).tr (zo6 _),hst.len⟩,hst,rfl⟩
theorem z6k{f:Nat->Option Nat}{D:Cx}(t:Tr f C D){args:List AV}{vals:Array Value}(hl:args.length=vals.size)(hr:∀(j:Nat) (x:AV) (u:Value),args[j]?=some x->vals[j]?=some u->ARep num C x u):
  (AV.ren.renL f args).length=vals.size/\∀(j:Nat) (x:AV) (u:Value),(AV.ren.renL f args)[j]?=some x->vals[j]?=some u->ARep num D x u:=by
 refine⟨by rw[zk6];exact hl,fun j x u hx hu=>?_⟩
 rw[zi2]at hx
 cases hq:args[j]? with
 |none=>simp[hq]at hx
 |some y=>simp[hq]at hx;subst hx;exact(hr j y u hq hu).tr t
theorem yek(o:AObj)(b:Bool):(o.orMoved b).live=o.live:=by cases o<;>rfl
theorem yel(o:AObj)(b:Bool)(h:(o.orMoved b).moved=false):o.moved=false:=by
 cases o with
 |flat cs m=>simp[AObj.orMoved,AObj.moved]at h ⊢;exact h.1
 |rich=>rfl
 |map=>rfl
 |dead=>cases h
 |fix cs m op=>simp[AObj.orMoved,AObj.moved]at h ⊢;exact h.1
 |loop=>rfl
 |text=>rfl
 |iter=>rfl
theorem yem{D:Cx}{id:Nat}{o:AObj}(b:Bool)(h:zc4 num D id o):zc4 num D id (o.orMoved b):=by cases o<;>exact h
theorem zwz(o:AObj):o.orMoved false=o:=by cases o<;>simp[AObj.orMoved]
theorem ycb{l:List Nat}(hn:l.Nodup){id:Nat}(h:id∈l):∃i,place l id=some i:=by
 obtain⟨i,hi⟩:=xa3 h
 exact⟨i,zhg l id i hn hi⟩
theorem zxv{m:Mem}{l:List Nat}(h:zgh m l=true){i j:Nat}(hi:i∈l)(hj:j ∉ l){o p:AObj}(ho:m[i]?=some o)(hp:m[j]?=some p)(ht:o.twin p):False:=by
 simp only[zgh,xbu,xai,xcd,xa9,List.contains_iff_mem]at h
 rcases h with h|h
 ·have:=h i hi
  rw[ho,xa0,(zlc ht).1]at this;cases this
 ·rcases h j (xab.1 hp).1 with h'|h'
  ·exact hj h'
  ·rw[hp,xa0,(zlc ht).2]at h';cases h'
def Cx.back(C D:Cx)(l:List Nat)(n':Nat):Cx:=
 { σ:=fun id=>match place l id with|some i=>D.σ i|none=>if id<C.n then C.σ id else D.σ (l.length+(id-C.n)),I:=D.I,n:=C.n+(n'-l.length),w:=D.w }
theorem yhb{call:zac}(hs:zas num C s a){fn:Nat}{args:List AV}{vals:Array Value}(hl:args.length=vals.size)(hr:∀(j:Nat) (x:AV) (u:Value),args[j]?=some x->vals[j]?=some u->ARep num C x u)
  {r:AV} {s':St} (h:zb2 call s fn args=some (r,s')):
  ∃l rv mc,call fn (AV.ren.renL (place l) args) (s.mem.pickAll l)=some (rv,mc)/\MRep num (C.pick l) (s.mem.pickAll l)/\(AV.ren.renL (place l) args).length=vals.size/\
   (∀(j:Nat) (x:AV) (u:Value),(AV.ren.renL (place l) args)[j]?=some x->vals[j]?=some u->ARep num (C.pick l) x u)/\
   ∀v D,Step num (s.mem.pickAll l).length (C.pick l) (s.mem.pickAll l) D mc->ARep num D rv v->∃E,E.w=D.w/\Step num s.k C s.mem E s'.mem/\ERep num E s'.env a.tmps/\ARep num E r v/\s'.k=s.k:=by
 have hm:=hs.mem
 have hlen:=hm.len
 unfold zb2 at h
 dsimp only at h
 obtain⟨hnd,hlt,_⟩:=zmt (k:=0) (roots:=AV.refs.refsL args) (m:=s.mem) (xcb _)
 generalize hlo:order 0 (AV.refs.refsL args) s.mem=l at h hnd hlt
 split at h
 ·cases h
 rename_i hokn
 have hok:zgh s.mem l=true:=by simpa using hokn
 have notin:∀{id:Nat},place l id=none->id ∉ l:=fun hp hmem=>by
  obtain⟨i,hi⟩:=ycb hnd hmem
  rw[hi]at hp;cases hp
 cases hc:call fn (AV.ren.renL (place l) args) (s.mem.pickAll l)with
 |none=>simp[hc]at h
 |some rm=>
  obtain⟨rv,mc⟩:=rm
  simp only[hc,xaf,xay]at h
  obtain⟨hrr,hss⟩:=h
  obtain⟨hl1,hr1⟩:=z6k (zo6 l) hl hr
  refine⟨l,rv,mc,hc,zw7 hm hnd,hl1,hr1,fun v D hst hrv=>?_⟩
  have hpl:(s.mem.pickAll l).length=l.length:=by simp[Mem.pickAll]
  rw[hpl]at hst
  have hDn:=hst.rep.len
  have hkl:=hst.len
  let E:=C.back D l mc.length
  have hEn:E.n=C.n+(mc.length-l.length):=rfl
  have hEI:E.I=D.I:=rfl
  have hEw:E.w=D.w:=rfl
  let back:Nat->Option Nat:=fun i=>if i<l.length then l[i]? else some (s.mem.length+(i-l.length))
  let stay:Nat->Option Nat:=fun id=>match place l id with
   |some i=>if ((mc[i]?).getD .dead).moved then none else some id
   |none=>some id
  have hEσ1:∀id i,place l id=some i->E.σ id=D.σ i:=by
   intro id i hp
   show(match place l id with|some i=>D.σ i|none=>_)=_
   rw[hp]
  have hEσ2:∀id,place l id=none->id<C.n->E.σ id=C.σ id:=by
   intro id hp hid
   show(match place l id with|some i=>D.σ i|none=>if id<C.n then C.σ id else _)=_
   rw[hp]
   simp[hid]
  have hnew:∀i,l.length<=i->place l (s.mem.length+(i-l.length))=none:=fun i _=>zw8 fun hmem=>by have:=hlt _ hmem;omega
  have hEσ3:∀i,l.length<=i->E.σ (s.mem.length+(i-l.length))=D.σ i:=by
   intro i hi
   show(match place l (s.mem.length+(i-l.length))with|some i=>D.σ i|none=>if _<C.n then _ else D.σ (l.length+(s.mem.length+(i-l.length)-C.n)))=_
   rw[hnew i hi]
   have:¬(s.mem.length+(i-l.length)<C.n):=by omega
   simp only[this,if_false]
   congr 1
   omega
  have tback:Tr back D E:=by
   refine⟨fun _ h=>h,fun _ _=>rfl,fun i j hi hj=>?_⟩
   simp only[back]at hj
   split at hj
   ·rename_i hil
    have hp:=zhg l j i hnd hj
    have hjm:=hlt j (xah hj)
    exact⟨by rw[hEn];omega,hEσ1 j i hp,fun _ _ h=>h⟩
   ·rename_i hil
    cases hj
    exact⟨by rw[hEn];omega,hEσ3 i (by omega),fun _ _ h=>h⟩
  have tstay:Tr stay C E:=by
   refine⟨hst.imm,fun b hb=>?_,fun id j hid hj=>?_⟩
   ·exact hst.keep b (hm.bd b hb) fun ho=>by
     obtain⟨id,o,_,ho,hlv,hb'⟩:=zjt ho
     exact hm.imm b ⟨id,o,ho,hlv,hb'⟩ hb
   ·have hsz:∀n e,RowAt C.w (C.σ id) n e->RowAt (E.w) (C.σ id) n e:=hst.sz _
    simp only[stay]at hj
    split at hj
    ·rename_i i hp
     split at hj
     ·cases hj
     ·rename_i hmv
      cases hj
      have hmv':((mc[i]?).getD .dead).moved=false:=by simpa using hmv
      obtain⟨o',ho',he⟩:=zmc hmv'
      rw[he]at hmv'
      have hil:i<l.length:=(xab.1 (zdp l id i hp)).1
      obtain⟨_,_,_,hσ⟩:=hst.same i hil o' ho' hmv'
      exact⟨by rw[hEn];omega,by rw[hEσ1 id i hp,hσ,ziz (zdp l id i hp)],hsz⟩
    ·rename_i hp
     cases hj
     exact⟨by rw[hEn];omega,hEσ2 id hp hid,hsz⟩
  have hmem:s'.mem=(List.range (s.mem.length+(mc.length-l.length))).map (zd1 s l mc back stay):=congrArg St.mem hss.symm
  have hget:∀(id:Nat) p,s'.mem[id]?=some p->id<s.mem.length+(mc.length-l.length)/\p=zd1 s l mc back stay id:=by
   intro id p hp
   rw[hmem]at hp
   obtain⟨q,hq,rfl⟩:=zow _ _ _ _ hp
   have hlt':id<s.mem.length+(mc.length-l.length):=by have:=(xab.1 hq).1;simpa using this
   rw[xbx hlt']at hq
   cases hq
   exact⟨hlt',rfl⟩
  have hcase:∀(id:Nat) p,s'.mem[id]?=some p->(∃i,place l id=some i/\p=(((mc[i]?).getD .dead).ren back).orMoved (((s.mem[id]?).getD .dead).moved))\/
    (place l id=none/\id<s.mem.length/\p=((s.mem[id]?).getD .dead).ren stay)\/(∃i,l.length<=i/\i<mc.length/\id=s.mem.length+(i-l.length)/\p=((mc[i]?).getD .dead).ren back):=by
   intro id p hp
   obtain⟨h1,rfl⟩:=hget id p hp
   unfold zd1
   cases hpl:place l id with
   |some i=>exact .inl ⟨i,rfl,rfl⟩
   |none=>
    by_cases hid:id<s.mem.length
    ·exact .inr (.inl ⟨rfl,hid,by simp[hid]⟩)
    ·refine .inr (.inr ⟨l.length+(id-s.mem.length),by omega,by omega,by omega,by simp[hid]⟩)
  have hobj:∀(id:Nat) p,s'.mem[id]?=some p->zc4 num E id p:=by
   intro id p hp
   rcases hcase id p hp with⟨i,hpl',rfl⟩|⟨hpl',hid,rfl⟩|⟨i,hi,hi2,rfl,rfl⟩
   ·refine yem _ ?_
    cases hq:mc[i]? with
    |none=>trivial
    |some o=>exact zk2 tback (hEσ1 id i hpl') (fun _ h=>h) (hst.rep.obj i o hq)
   ·cases hq:s.mem[id]? with
    |none=>trivial
    |some o=>
     by_cases hlv:o.live=true
     ·refine zk2 tstay (hEσ2 id hpl' (by omega)) (fun x h=>?_) (hm.obj id o hq)
      show D.w.heap[C.σ id]?=_
      rw[hst.keep _ (xal.1 h).1 fun ho=>?_]
      ·exact h
      ·obtain⟨id2,o2,hmem2,ho2,hlv2,hb⟩:=zjt ho
       rcases hm.inj id2 id o2 o ho2 hq hlv2 hlv hb with this|htw
       ·subst this
        exact notin hpl' hmem2
       ·exact zxv hok hmem2 (notin hpl') ho2 hq htw
     ·cases o with
      |dead=>trivial
      |_=>exact absurd rfl hlv
   ·cases hq:mc[i]? with
    |none=>trivial
    |some o=>exact zk2 tback (hEσ3 i hi) (fun _ h=>h) (hst.rep.obj i o hq)
  have hblock:∀(id:Nat) p,s'.mem[id]?=some p->p.live=true->(∃i o,mc[i]?=some o/\o.live=true/\E.σ id=D.σ i/\(place l id=some i\/(l.length<=i/\id=s.mem.length+(i-l.length)))/\∃f b,p=(o.ren f).orMoved b)\/(∃o,place l id=none/\s.mem[id]?=some o/\o.live=true/\E.σ id=C.σ id/\∃f b,p=(o.ren f).orMoved b):=by
   intro id p hp hlv
   rcases hcase id p hp with⟨i,hpl',rfl⟩|⟨hpl',hid,rfl⟩|⟨i,hi,hi2,rfl,rfl⟩
   ·rw[yek,zge]at hlv
    obtain⟨o,ho,he⟩:=zmb hlv
    rw[he]at hlv
    exact .inl ⟨i,o,ho,hlv,hEσ1 id i hpl',.inl hpl',_,_,by rw[he]⟩
   ·rw[zge]at hlv
    obtain⟨o,ho,he⟩:=zmb hlv
    rw[he]at hlv
    exact .inr ⟨o,hpl',ho,hlv,hEσ2 id hpl' (by omega),stay,false,by rw[he,zwz]⟩
   ·rw[zge]at hlv
    obtain⟨o,ho,he⟩:=zmb hlv
    rw[he]at hlv
    exact .inl ⟨i,o,ho,hlv,hEσ3 i hi,.inr ⟨hi,rfl⟩,back,false,by rw[he,zwz]⟩
  have hold:∀id o,place l id=none->s.mem[id]?=some o->o.live=true->¬Own D mc (C.σ id):=by
   intro id o hp ho hlv hown
   rcases hst.own _ hown with h|h
   ·have:=MRep.lt num hm ⟨id,o,ho,hlv,rfl⟩
    have:(C.pick l).w.heap.size=C.w.heap.size:=rfl
    omega
   ·obtain⟨id2,o2,hmem2,ho2,hlv2,hb⟩:=zjt h
    rcases hm.inj id2 id o2 o ho2 ho hlv2 hlv hb with this|htw
    ·subst this
     exact notin hp hmem2
    ·exact zxv hok hmem2 (notin hp) ho2 ho htw
  have hownE:∀b,Own E s'.mem b->Own D mc b\/Own C s.mem b:=by
   rintro b ⟨id,p,hp,hlv,hb⟩
   rcases hblock id p hp hlv with⟨i,o,ho,hlo,hσ,_⟩|⟨o,_,ho,hlo,hσ,_⟩
   ·exact .inl ⟨i,o,ho,hlo,by rw[<-hσ];exact hb⟩
   ·exact .inr ⟨id,o,ho,hlo,by rw[<-hσ];exact hb⟩
  have hpick:∀b,Own (C.pick l) (s.mem.pickAll l) b->Own C s.mem b:=by
   intro b hb
   obtain⟨id,o,_,ho,hlv,hb⟩:=zjt hb
   exact⟨id,o,ho,hlv,hb⟩
  refine⟨E,rfl,⟨⟨by rw[hmem,hEn];simp[hlen],hobj,?_,?_,hst.rep.bd,hst.rep.glo⟩,hst.os,hst.tape,hst.out,hst.size,fun b hb hno=>hst.keep b hb fun ho=>hno (hpick b ho),hst.sz,hst.imm,?_,?_,?_,?_⟩,?_,?_,by rw[<-hss]⟩
  ·intro i j p q hp hq hlp hlq he
   rcases hblock i p hp hlp with⟨i',o,ho,hlo,hσ,hw1,f1,b1,hpe⟩|⟨o,hpn,ho,hlo,hσ,f1,b1,hpe⟩<;>rcases hblock j q hq hlq with⟨j',o2,ho2,hlo2,hσ2,hw2,f2,b2,hqe⟩|⟨o2,hpn2,ho2,hlo2,hσ2,f2,b2,hqe⟩
   ·rw[hσ,hσ2]at he
    rcases hst.rep.inj i' j' o o2 ho ho2 hlo hlo2 he with this|htw
    case inr=>right;rw[hpe,hqe,z4t,zpx];exact htw
    subst this
    left
    rcases hw1 with h1|⟨h1,rfl⟩<;>rcases hw2 with h2|⟨h2,rfl⟩
    ·have e1:=zdp l i i' h1
     have e2:=zdp l j i' h2
     rw[e1]at e2
     exact xau e2
    ·have:=(xab.1 (zdp l i i' h1)).1;omega
    ·have:=(xab.1 (zdp l j i' h2)).1;omega
    ·rfl
   ·exact absurd ⟨i',o,ho,hlo,by rw[<-hσ,<-hσ2];exact he⟩ (hold j o2 hpn2 ho2 hlo2)
   ·exact absurd ⟨j',o2,ho2,hlo2,by rw[<-hσ2,<-hσ];exact he.symm⟩ (hold i o hpn ho hlo)
   ·rw[hσ,hσ2]at he
    rcases hm.inj i j o o2 ho ho2 hlo hlo2 he with this|htw
    ·exact .inl this
    ·right;rw[hpe,hqe,z4t,zpx];exact htw
  ·intro b hb hI
   rcases hownE b hb with h|h
   ·exact hst.rep.imm b h hI
   ·rcases hst.imm' b hI with h'|h'|h'
    ·exact hm.imm b h h'
    ·have:=MRep.lt num hm h
     have:(C.pick l).w.heap.size=C.w.heap.size:=rfl
     omega
    ·
     obtain⟨id,p,hp,hlv,hbq⟩:=hb
     rcases hblock id p hp hlv with⟨i,o,ho,hlo,hσ,_⟩|⟨o,hpn,ho,hlo,hσ,_⟩
     ·exact hst.rep.imm b ⟨i,o,ho,hlo,by rw[<-hσ];exact hbq⟩ hI
     ·obtain⟨id2,o2,hmem2,ho2,hlv2,hb2⟩:=zjt h'
      rcases hm.inj id2 id o2 o ho2 ho hlv2 hlo (by rw[hb2,<-hσ];exact hbq.symm)with this|htw
      ·subst this
       exact notin hpn hmem2
      ·exact zxv hok hmem2 (notin hpn) ho2 ho htw
  ·intro b hb
   rcases hst.imm' b hb with h|h|h
   ·exact .inl h
   ·exact .inr (.inl h)
   ·exact .inr (.inr (hpick b h))
  ·intro b hb
   rcases hownE b hb with h|h
   ·rcases hst.own b h with h|h
    ·exact .inl h
    ·exact .inr (hpick b h)
   ·exact .inr h
  ·intro id hid p hp hmv
   have hk:=hs.k
   rcases hcase id p hp with⟨i,hpl',rfl⟩|⟨hpl',hid',rfl⟩|⟨i,hi,hi2,rfl,rfl⟩
   ·have h1:=yel _ _ hmv
    rw[zmw]at h1
    obtain⟨o',ho',he⟩:=zmc h1
    rw[he]at h1
    have hil:i<l.length:=(xab.1 (zdp l id i hpl')).1
    obtain⟨o2,ho2,hmv2,hσ⟩:=hst.same i hil o' ho' h1
    obtain⟨id2,hid2,hq2⟩:=zk3 ho2
    rw[zdp l id i hpl']at hid2
    cases hid2
    rw[hq2,zmw]at hmv2
    obtain⟨o3,ho3,he3⟩:=zmc hmv2
    rw[he3]at hmv2
    exact⟨o3,ho3,hmv2,by rw[hEσ1 id i hpl',hσ,ziz (zdp l id i hpl')]⟩
   ·rw[zmw]at hmv
    obtain⟨o,ho,he⟩:=zmc hmv
    rw[he]at hmv
    exact⟨o,ho,hmv,hEσ2 id hpl' (by omega)⟩
   ·omega
  ·rw[hmem];simp;have:=hs.k;omega
  ·have:s'.env=s.env.ren stay:=congrArg St.env hss.symm
   rw[this]
   exact hs.env.tr tstay
  ·rw[<-hrr]
   exact hrv.tr tback
theorem z4a{call:zac}(hcall:zc3 num P call)(hs:zas num C s a){f:FuncId}{args:List AV}{vals:Array Value}(hl:args.length=vals.size)(hr:∀(j:Nat) (x:AV) (u:Value),args[j]?=some x->vals[j]?=some u->ARep num C x u)
  {r:AV} {s':St} (h:zb2 call s (num f) args=some (r,s')):
  zkg P f/\Calls P f vals C.w (fun e w'=>∃v D,e=.returned v/\D.w=w'/\Step num s.k C s.mem D s'.mem/\ERep num D s'.env a.tmps/\ARep num D r v/\s'.k=s.k):=by
 obtain⟨l,rv,mc,hc,hm,hl1,hr1,hback⟩:=yhb hs hl hr h
 obtain⟨hcb,hcs⟩:=hcall.fn f _ _ rv mc (C.pick l) vals hc hm hl1 hr1
 refine⟨hcb,hcs.mono ?_⟩
 rintro e w' ⟨v,D,rfl,rfl,hst,hrv⟩
 obtain⟨E,h1,h2,h3,h4,h5⟩:=hback v D hst hrv
 exact⟨v,E,rfl,h1,h2,h3,h4,h5⟩
end
section
variable {num:Names} {P:Program}
variable {ty:TypeId} {pos:String} {after:Array Edge} {a:Act} {C:Cx} {s:St}
def Cx.join(C D:Cx)(J:Nat->Prop)(k:Nat):Cx:={ σ:=fun i=>if i<C.n then C.σ i else D.σ (i-C.n),I:=J,n:=C.n+k,w:=D.w }
theorem z1v{m mc:Mem}(hm:MRep num C m){C0 D:Cx}(hw0:C0.w=C.w)(hst:Step num 0 C0 [] D mc){J:Nat->Prop}(hJ1:∀b,C.I b->J b)(hJ2:∀b,J b->C.I b\/C.w.heap.size<=b)(hJ3:∀b,J b->b<D.w.heap.size)(hJ4:∀b,Own D mc b->¬J b)
  (hobj:∀(i:Nat) o,mc[i]?=some o->zc4 num (C.join D J mc.length) (C.n+i) (o.ren fun i=>some (m.length+i))) {k:Nat} (hk:k<=m.length):
  Step num k C m (C.join D J mc.length) (m++mc.map (AObj.ren fun i=>some (m.length+i)))/\Tr some C (C.join D J mc.length):=by
 have hlen:=hm.len
 have hsize:C.w.heap.size<=D.w.heap.size:=by have:=hst.size;rwa [hw0]at this
 have hkeep:∀b,b<C.w.heap.size->D.w.heap[b]?=C.w.heap[b]?:=by
  intro b hb
  have:=hst.keep b (by rw[hw0];exact hb) fun ⟨i,o,h,_⟩=>by simp at h
  rwa [hw0]at this
 have hownD:∀b,Own D mc b->C.w.heap.size<=b:=by
  intro b hb
  rcases hst.own b hb with h|⟨i,o,h,_⟩
  ·rwa [hw0]at h
  ·simp at h
 have hσ1:∀i,i<m.length->(C.join D J mc.length).σ i=C.σ i:=fun i hi=>by simp only[Cx.join];rw[if_pos (by omega)]
 have hσ2:∀i,(C.join D J mc.length).σ (m.length+i)=D.σ i:=fun i=>by simp only[Cx.join];rw[if_neg (by omega)];congr 1;omega
 have htr:Tr some C (C.join D J mc.length):=by
  refine⟨hJ1,fun b hb=>hkeep b (hm.bd b hb),fun i j hi hj=>?_⟩
  cases hj
  exact⟨by simp only[Cx.join];omega,hσ1 i (by omega),fun _ _ h=>h.same (hkeep _ h.lt)⟩
 have split:∀(i:Nat) p,(m++mc.map (AObj.ren fun i=>some (m.length+i)))[i]?=some p->(i<m.length/\m[i]?=some p)\/∃j q,i=m.length+j/\mc[j]?=some q/\p=q.ren fun i=>some (m.length+i):=by
  intro i p hp
  rcases xa1 i m.length with h|h
  ·rw[xac h]at hp;exact .inl ⟨h,hp⟩
  ·rw[xag h]at hp
   obtain⟨q,hq,rfl⟩:=zow _ _ _ _ hp
   exact .inr ⟨i-m.length,q,by omega,hq,rfl⟩
 have hownE:∀b,Own (C.join D J mc.length) (m++mc.map (AObj.ren fun i=>some (m.length+i))) b->Own C m b\/Own D mc b:=by
  rintro b ⟨i,p,hp,hl,hb⟩
  rcases split i p hp with⟨hi,hp'⟩|⟨j,q,rfl,hq,rfl⟩
  ·exact .inl ⟨i,p,hp',hl,by rw[<-hσ1 i hi];exact hb⟩
  ·rw[zge]at hl
   exact .inr ⟨j,q,hq,hl,by rw[<-hσ2 j];exact hb⟩
 refine⟨⟨⟨by simp[Cx.join,hlen],fun i p hp=>?_,fun i j p q hp hq hlp hlq he=>?_,fun b hb hJ=>?_,hJ3,num.up hm.glo htr.imm htr.keep⟩,by rw[<-hw0];exact hst.os,by rw[<-hw0];exact hst.tape,by rw[<-hw0];exact hst.out,hsize,fun b hb _=>hkeep b hb,
  fun _ _ _ h=>h.same (hkeep _ h.lt),hJ1,fun b hb=>?_,fun b hb=>?_,fun i hi p hp hmv=>?_,by simp;omega⟩,htr⟩
 ·rcases split i p hp with⟨hi,hp'⟩|⟨j,q,rfl,hq,rfl⟩
  ·have hob:=hm.obj i p hp'
   exact zh6 htr (hσ1 i hi) (fun x h=>by show D.w.heap[_]?=_;rw[hkeep _ (xal.1 h).1];exact h) hob
  ·have:=hobj j q hq
   rwa [<-hlen]at this
 ·rcases split i p hp with⟨hi,hp'⟩|⟨i',p',rfl,hp',rfl⟩<;>rcases split j q hq with⟨hj,hq'⟩|⟨j',q',rfl,hq',rfl⟩
  ·rw[hσ1 i hi,hσ1 j hj]at he;exact hm.inj i j p q hp' hq' hlp hlq he
  ·rw[zge]at hlq
   rw[hσ1 i hi,hσ2]at he
   have h1:=MRep.lt num hm ⟨i,p,hp',hlp,rfl⟩
   have h2:=hownD _ ⟨j',q',hq',hlq,rfl⟩
   omega
  ·rw[zge]at hlp
   rw[hσ1 j hj,hσ2]at he
   have h1:=MRep.lt num hm ⟨j,q,hq',hlq,rfl⟩
   have h2:=hownD _ ⟨i',p',hp',hlp,rfl⟩
   omega
  ·rw[zge]at hlp hlq
   rw[hσ2,hσ2]at he
   rw[zpx]
   rcases hst.rep.inj i' j' p' q' hp' hq' hlp hlq he with h|h
   ·exact .inl (by rw[h])
   ·exact .inr h
 ·rcases hownE b hb with h|h
  ·rcases hJ2 b hJ with h'|h'
   ·exact hm.imm b h h'
   ·have:=MRep.lt num hm h;omega
  ·exact hJ4 b h hJ
 ·rcases hJ2 b hb with h|h
  ·exact .inl h
  ·exact .inr (.inl h)
 ·rcases hownE b hb with h|h
  ·exact .inr h
  ·exact .inl (hownD b h)
 ·rcases split i p hp with⟨hi',hp'⟩|⟨j,q,rfl,_,_⟩
  ·exact⟨p,hp',hmv,hσ1 i hi'⟩
  ·omega
theorem zw2{D E:Cx}{f:Nat->Option Nat}(h:∀id j,id<D.n->f id=some j->j<E.n/\E.σ j=D.σ id/\∀n e,RowAt D.w (D.σ id) n e->RowAt (E.w) (D.σ id) n e)
  {x:AV} (ho:x.own1=true) {v:Value} (hx:ARep num D x v):ARep num E (x.ren f) v:=by
 unfold AV.own1 at ho
 split at ho
 ·exact zw9 rfl hx E
 ·rename_i id off sz len cap
  cases hx with
  |osl _ _ _ _ _ c a arr e hid hl hk ha hw hs=>
   simp only[AV.ren]
   cases hf:f id with
   |none=>exact .junk _
   |some j=>
    obtain⟨h1,h2,h3⟩:=h id j hid hf
    have h4:=h3 arr e hw
    dsimp only
    rw[<-h2]at h4 ⊢
    exact .osl j off sz len cap c a arr e h1 hl hk ha h4 hs
 ·rename_i id off
  cases hx with
  |optr _ _ hid=>
   simp only[AV.ren]
   cases hf:f id with
   |none=>exact .junk _
   |some j=>
    obtain⟨h1,h2,_⟩:=h id j hid hf
    dsimp only
    rw[<-h2]
    exact .optr j off h1
 ·cases ho
theorem z2r{D E:Cx}{f:Nat->Option Nat}(h:∀id j,id<D.n->f id=some j->j<E.n/\E.σ j=D.σ id/\∀n e,RowAt D.w (D.σ id) n e->RowAt (E.w) (D.σ id) n e)
  {x:AV} (ho:x.own2=true) {v:Value} (hx:ARep num D x v):ARep num E (x.ren f) v:=by
 unfold AV.own2 at ho
 split at ho
 ·rename_i cells
  cases hx with
  |agg _ vs hl h1 hr=>
   simp only[AV.ren]
   refine .agg _ vs (by rw[zk6];exact hl) h1 fun j x u hx hu=>?_
   rw[zi2]at hx
   cases hq:cells[j]? with
   |none=>simp[hq]at hx
   |some y=>simp[hq]at hx;subst hx;exact zw2 h (xai.1 ho y (xah hq)) (hr j y u hq hu)
 ·exact zw2 h ho hx
theorem yet{D E:Cx}{f:Nat->Option Nat}(h:∀id j,id<D.n->f id=some j->j<E.n/\E.σ j=D.σ id/\∀n e,RowAt D.w (D.σ id) n e->RowAt (E.w) (D.σ id) n e)
  {x:AV} (ho:x.own=true) {v:Value} (hx:ARep num D x v):ARep num E (x.ren f) v:=by
 unfold AV.own at ho
 split at ho
 ·rename_i xs
  cases hx with
  |tup _ vs hl hr=>
   simp only[AV.ren]
   refine .tup _ vs (by rw[zk6];exact hl) fun j x u hx hu=>?_
   rw[zi2]at hx
   cases hq:xs[j]? with
   |none=>simp[hq]at hx
   |some y=>simp[hq]at hx;subst hx;exact z2r h (xai.1 ho y (xah hq)) (hr j y u hq hu)
 ·exact z2r h ho hx
theorem ykk{call:zac}(hcall:zc3 num P call)(hs:zas num C s a){f:FuncId}{args:Array Operand}{ats:Array TypeId}{ys:List Src}(hy:args.toList.mapM (zah num)=some ys){r:AV}{s':St}(h:zbk call s (num f) (ys.map s.env.ev)=some (r,s')):
  zkh num P (.call { callee:=.value (.func f),args:=args,argTypes:=ats }) ty pos after a C s r s':=by
 have hm:=hs.mem
 have hlen:=hm.len
 obtain⟨hl,hr⟩:=zkn hs args.toList ys hy
 unfold zbk at h
 cases hf:(ys.map s.env.ev).mapM (frz s.mem)with
 |none=>simp[hf]at h
 |some bs=>
  simp only[hf]at h
  cases hc:call (num f) bs []with
  |none=>simp[hc]at h
  |some rm=>
   obtain⟨rv,mc⟩:=rm
   simp only[hc]at h
   split at h
   ·rename_i hcond
    simp only[xaf,xay]at h
    obtain⟨rfl,rfl⟩:=h
    by_cases himm:(ys.map s.env.ev).all AV.isImm=true
    ·let C0:Cx:={ σ:=C.σ,I:=C.I,n:=0,w:=C.w }
     have hC0:MRep num C0 []:=⟨rfl,fun i o h=>by simp at h,fun i j o p h=>by simp at h,fun b ⟨i,o,h,_⟩=>by simp at h,hm.bd,hm.glo⟩
     obtain⟨h1,h2⟩:=zgv _ _ _ hf
     have h3:∀(j:Nat) (x:AV) (u:Value),bs[j]?=some x->(args.toList.map a.eval).toArray[j]?=some u->ARep num C0 x u:=by
      intro j x u hx hu
      obtain⟨q,hq,hfq⟩:=h2 j x hx
      have hqi:=xai.1 himm q (xah hq)
      have:=z03 hqi hfq
      subst this
      exact z1j hqi (hr j x u hq hu) C0 (fun _ h=>h) rfl
     obtain⟨hcb,hcs⟩:=hcall.fn f bs [] rv mc C0 _ hc hC0 (by rw[h1];exact hl) h3
     refine⟨f,_,fun dst g=>zm1 hcb args ats C.w dst g,hcs.mono ?_⟩
     rintro e w' ⟨v,D,rfl,rfl,hst,hrv⟩
     have hDn:=hst.rep.len
     have tup:Tr (fun i=>some (s.mem.length+i)) D (C.join D D.I mc.length):=by
      refine⟨fun _ h=>h,fun _ _=>rfl,fun i j hi hj=>?_⟩
      cases hj
      exact⟨by simp only[Cx.join];omega,by simp only[Cx.join];rw[if_neg (by omega)];congr 1;omega,fun _ _ h=>h⟩
     obtain⟨hj,ht⟩:=z1v (k:=s.k) hm (C0:=C0) rfl hst (J:=D.I) hst.imm (fun b hb=>by
       rcases hst.imm' b hb with h|h|⟨i,o,h,_⟩
       ·exact .inl h
       ·exact .inr h
       ·simp at h) hst.rep.bd hst.rep.imm (fun i o ho=>zk2 tup (by simp only[Cx.join];rw[if_neg (by omega)];congr 1;omega) (fun _ h=>h) (hst.rep.obj i o ho)) hs.k
     exact⟨v,C.join D D.I mc.length,rfl,rfl,hj,hs.env.mono ht,hrv.tr tup,rfl⟩
    ·have hown:rv.own=true/\mc.all AObj.own=true:=by simpa [himm]using hcond
     have hvr:=zsu hm
     obtain⟨h1,h2⟩:=zva hm hf hl hr (C.view s.mem num) (fun _ h=>h) rfl
     obtain⟨hcb,hcs⟩:=hcall.fn f bs [] rv mc _ _ hc hvr h1 h2
     refine⟨f,_,fun dst g=>zm1 hcb args ats C.w dst g,hcs.mono ?_⟩
     rintro e w' ⟨v,D,rfl,rfl,hst,hrv⟩
     have hDn:=hst.rep.len
     have hids:∀id j,id<D.n->(fun i=>some (s.mem.length+i):Nat->Option Nat) id=some j->j<(C.join D C.I mc.length).n/\(C.join D C.I mc.length).σ j=D.σ id/\∀n e,RowAt D.w (D.σ id) n e->RowAt ((C.join D C.I mc.length).w) (D.σ id) n e:=by
      intro i j hi hj
      cases hj
      exact⟨by simp only[Cx.join];omega,by simp only[Cx.join];rw[if_neg (by omega)];congr 1;omega,fun _ _ h=>h⟩
     obtain⟨hj,ht⟩:=z1v (k:=s.k) hm (C0:=C.view s.mem num) rfl hst (J:=C.I) (fun _ h=>h) (fun _ h=>.inl h) (fun b hb=>xbz (hm.bd b hb) hst.size) (fun b hb hI=>hst.rep.imm b hb (hst.imm b (.inl hI))) (fun i o ho=>by
       have hoo:=xai.1 hown.2 o (xah ho)
       have hob:=hst.rep.obj i o ho
       have hσ:(C.join D C.I mc.length).σ (C.n+i)=D.σ i:=by simp only[Cx.join];rw[if_neg (by omega)];congr 1;omega
       cases o with
       |flat cs mv=>
        obtain⟨arr,e,h1,h2⟩:=hob
        refine⟨arr,e,by rw[hσ];exact h1,fun j x hx=>?_⟩
        obtain⟨u,hu,hr'⟩:=h2 j x hx
        have hp:=xai.1 hoo x (xah hx)
        cases x with
        |val z=>cases hr' with|val _ h=>exact⟨_,hu,.val _ h⟩
        |slice=>cases hp
        |ptr=>cases hp
       |rich cs=>
        obtain⟨arr,e,h1,h2⟩:=hob
        refine⟨arr,e,by rw[hσ];exact h1,fun j x hx=>?_⟩
        rw[zi2]at hx
        cases hq:cs[j]? with
        |none=>simp[hq]at hx
        |some y=>
         simp[hq]at hx
         subst hx
         obtain⟨u,hu,h1c,hr'⟩:=h2 j y hq
         exact⟨u,hu,h1c,zw2 hids (xai.1 hoo y (xah hq)) hr'⟩
       |map es=>exact absurd hoo (by simp[AObj.own])
       |dead=>trivial
       |fix=>exact absurd hoo (by simp[AObj.own])
       |loop=>exact absurd hoo (by simp[AObj.own])
       |text=>exact absurd hoo (by simp[AObj.own])
       |iter=>exact absurd hoo (by simp[AObj.own])) hs.k
     exact⟨v,C.join D C.I mc.length,rfl,rfl,hj,hs.env.mono ht,yet hids hown.1 hrv,rfl⟩
   ·cases h
theorem zuz{call:zac}(hcall:zc3 num P call)(hs:zas num C s a){f:FuncId}{args:Array Operand}{ats:Array TypeId}{ys:List Src}(hy:args.toList.mapM (zah num)=some ys){r:AV}{s':St}(h:zb2 call s (num f) (ys.map s.env.ev)=some (r,s')):
  zkh num P (.call { callee:=.value (.func f),args:=args,argTypes:=ats }) ty pos after a C s r s':=by
 obtain⟨hl,hr⟩:=zkn hs args.toList ys hy
 obtain⟨hcb,hcs⟩:=z4a hcall hs hl hr h
 exact⟨f,_,fun dst g=>zm1 hcb args ats C.w dst g,hcs⟩
theorem z45{call:zac}(hcall:zc3 num P call)(hs:zas num C s a){f:FuncId}{args:List AV}{vals:Array Value}(hl:args.length=vals.size)(hr:∀(j:Nat) (x:AV) (u:Value),args[j]?=some x->vals[j]?=some u->ARep num C x u)
  {r:AV} {s':St} (h:zdk call s (num f) args=some (r,s')):
  zkg P f/\Calls P f vals C.w (fun e w'=>∃v D,e=.returned v/\D.w=w'/\Step num s.k C s.mem D s'.mem/\ERep num D s'.env a.tmps/\ARep num D r v/\s'.k=s.k):=by
 unfold zdk at h
 cases hc:call (num f) args s.mem with
 |none=>simp[hc]at h
 |some p=>
  obtain⟨rv,mc⟩:=p
  simp only[hc,xaf,xay]at h
  obtain⟨rfl,rfl⟩:=h
  obtain⟨hcb,hcs⟩:=hcall.fn f _ _ rv mc C _ hc hs.mem hl hr
  refine⟨hcb,hcs.mono ?_⟩
  rintro e w' ⟨v,D,rfl,rfl,hst,hrv⟩
  have htr:Tr (fun id=>if ((mc[id]?).getD .dead).moved then none else some id) C D:=by
   refine⟨hst.imm,fun b hb=>hst.keepI hs.mem hb,fun id j hid hj=>?_⟩
   have hlen:=hs.mem.len
   cases ho:mc[id]? with
   |none=>simp[ho,AObj.moved]at hj
   |some o=>
    cases hmv:o.moved with
    |true=>simp[ho,hmv]at hj
    |false=>
     simp[ho,hmv]at hj
     subst hj
     obtain⟨_,_,_,hσ⟩:=hst.same id (by omega) o ho hmv
     have hlt:id<mc.length:=(xab.1 ho).1
     have hDl:=hst.rep.len
     exact⟨by omega,hσ,fun n e hrow=>hst.sz _ _ _ hrow⟩
  exact⟨v,D,rfl,rfl,hst.le hs.k,hs.env.tr htr,hrv,rfl⟩
theorem yks{call:zac}(hcall:zc3 num P call)(hs:zas num C s a){f:FuncId}{args:Array Operand}{ats:Array TypeId}{ys:List Src}(hy:args.toList.mapM (zah num)=some ys){r:AV}{s':St}(h:zdk call s (num f) (ys.map s.env.ev)=some (r,s')):
  zkh num P (.call { callee:=.value (.func f),args:=args,argTypes:=ats }) ty pos after a C s r s':=by
 obtain⟨hl,hr⟩:=zkn hs args.toList ys hy
 obtain⟨hcb,hcs⟩:=z45 hcall hs hl hr h
 exact⟨f,_,fun dst g=>zm1 hcb args ats C.w dst g,hcs⟩
theorem zuy{call:zac}(hcall:zc3 num P call)(hs:zas num C s a){fo:Operand}{f':Src}{args:Array Operand}{ats:Array TypeId}{ys:List Src}(hfo:zah num fo=some f')(hy:args.toList.mapM (zah num)=some ys){fn:Nat}{caps:List AV}(hf:s.env.ev f'=.clo fn caps){r:AV}{s':St}
  (h:zb2 call s fn (ys.map s.env.ev++caps)=some (r,s')):zkh num P (.call { callee:=.value fo,args:=args,argTypes:=ats }) ty pos after a C s r s':=by
 obtain⟨hl,hr⟩:=zkn hs args.toList ys hy
 have h1:=zba hs hfo
 rw[hf]at h1
 generalize hu:a.eval fo=u at h1
 cases h1 with
 |clo g _ vs hcl hcr=>
  have hl2:(ys.map s.env.ev++caps).length=((args.toList.map a.eval).toArray++vs).size:=by rw[xak,xb2,hl,hcl]
  have hr2:∀(j:Nat) (x:AV) (u:Value),(ys.map s.env.ev++caps)[j]?=some x->((args.toList.map a.eval).toArray++vs)[j]?=some u->ARep num C x u:=by
   intro j x u hx hu'
   rcases xa1 j (ys.map s.env.ev).length with hj|hj
   ·rw[xac hj]at hx
    rw[xbt (by rw[<-hl];exact hj)]at hu'
    exact hr j x u hx hu'
   ·rw[xag hj]at hx
    rw[xcq (by rw[<-hl];exact hj),<-hl]at hu'
    exact hcr _ x u hx hu'
  obtain⟨hcb,hcs⟩:=z4a hcall hs hl2 hr2 h
  refine⟨g,_,fun dst gd=>?_,hcs⟩
  obtain⟨fn',e1,e2,e3⟩:=hcb
  obtain⟨body,hb⟩:=xbm.1 e3
  have harr:args.map a.eval=(args.toList.map a.eval).toArray:=by apply Array.ext';simp
  simp[execOp,resolve,Deferred.ofValue,hu,invoke,callFunc,e1,e2,hb,harr]
theorem z5i{call:zac}(hcall:zc3 num P call)(hs:zas num C s a){fo:Operand}{f':Src}{args:Array Operand}{ats:Array TypeId}{ys:List Src}(hfo:zah num fo=some f')(hy:args.toList.mapM (zah num)=some ys){fn:Nat}{caps:List AV}(hf:s.env.ev f'=.clo fn caps){r:AV}{s':St}
  (h:zdk call s fn (ys.map s.env.ev++caps)=some (r,s')):zkh num P (.call { callee:=.value fo,args:=args,argTypes:=ats }) ty pos after a C s r s':=by
 obtain⟨hl,hr⟩:=zkn hs args.toList ys hy
 have h1:=zba hs hfo
 rw[hf]at h1
 generalize hu:a.eval fo=u at h1
 cases h1 with
 |clo g _ vs hcl hcr=>
  have hl2:(ys.map s.env.ev++caps).length=((args.toList.map a.eval).toArray++vs).size:=by rw[xak,xb2,hl,hcl]
  have hr2:∀(j:Nat) (x:AV) (u:Value),(ys.map s.env.ev++caps)[j]?=some x->((args.toList.map a.eval).toArray++vs)[j]?=some u->ARep num C x u:=by
   intro j x u hx hu'
   rcases xa1 j (ys.map s.env.ev).length with hj|hj
   ·rw[xac hj]at hx
    rw[xbt (by rw[<-hl];exact hj)]at hu'
    exact hr j x u hx hu'
   ·rw[xag hj]at hx
    rw[xcq (by rw[<-hl];exact hj),<-hl]at hu'
    exact hcr _ x u hx hu'
  obtain⟨hcb,hcs⟩:=z45 hcall hs hl2 hr2 h
  refine⟨g,_,fun dst gd=>?_,hcs⟩
  obtain⟨fn',e1,e2,e3⟩:=hcb
  obtain⟨body,hb⟩:=xbm.1 e3
  have harr:args.map a.eval=(args.toList.map a.eval).toArray:=by apply Array.ext';simp
  simp[execOp,resolve,Deferred.ofValue,hu,invoke,callFunc,e1,e2,hb,harr]
end
def zcl:List Nat->List Value->List Value->Option Bool
  |[],[],[]=>some true
  |0::ks,.int k a::xs,.int j b::ys=>if k=j then(zcl ks xs ys).map fun r=>a==b&&r else none
  |1::ks,.bool a::xs,.bool b::ys=>(zcl ks xs ys).map fun r=>a==b&&r
  |2::ks,.string a::xs,.string b::ys=>(zcl ks xs ys).map fun r=>a==b&&r
  |_,_,_=>none
theorem zr9{xs ys:List Value}{r:Bool}(h:zcl [] xs ys=some r):r=true:=by
 cases xs<;>cases ys<;>simp[zcl]at h;exact h
theorem zsa{xs ys:List Value}{r:Bool}(h:zcl [] xs ys=some r):xs=[]/\ys=[]:=by
 cases xs<;>cases ys<;>simp[zcl]at h;exact⟨rfl,rfl⟩
theorem z31:∀(ks:List Nat) (xs ys:List Value) (b:Bool),zcl ks xs ys=some b->xs.length=ks.length/\ys.length=ks.length
 |ks,xs,ys,b,h=>by
  induction ks generalizing xs ys b with
  |nil=>unfold zcl at h;split at h<;>simp_all
  |cons k ks ih=>
   unfold zcl at h
   split at h
   ·simp_all
   ·rename_i heq;cases heq
    split at h
    ·simp only[xad]at h;obtain⟨r,hr,_⟩:=h;have:=ih _ _ _ hr;simp[this]
    ·cases h
   ·rename_i heq;cases heq;simp only[xad]at h;obtain⟨r,hr,_⟩:=h;have:=ih _ _ _ hr;simp[this]
   ·rename_i heq;cases heq;simp only[xad]at h;obtain⟨r,hr,_⟩:=h;have:=ih _ _ _ hr;simp[this]
   ·cases h
theorem zr8:∀(ks:List Nat) (xs ys:List AV) (b:Bool),zcy ks xs ys=some b->∃cs ds:List Value,xs=cs.map (fun v=>AV.imm (.val v))/\ys=ds.map (fun v=>AV.imm (.val v))/\zcl ks cs ds=some b
 |ks,xs,ys,b,h=>by
  induction ks generalizing xs ys b with
  |nil=>
   cases xs with
   |nil=>cases ys with
    |nil=>simp[zcy]at h;exact⟨[],[],rfl,rfl,by simp[zcl,h]⟩
    |cons=>simp[zcy]at h
   |cons=>simp[zcy]at h
  |cons k ks ih=>
   unfold zcy at h
   split at h
   ·simp_all
   ·rename_i heq;cases heq
    split at h
    ·rename_i hk
     simp only[xad]at h;obtain⟨r,hr,hb⟩:=h
     obtain⟨cs,ds,rfl,rfl,h3⟩:=ih _ _ _ hr
     exact⟨_::cs,_::ds,rfl,rfl,by simp[zcl,hk,h3,hb]⟩
    ·cases h
   ·rename_i heq;cases heq;simp only[xad]at h;obtain⟨r,hr,hb⟩:=h
    obtain⟨cs,ds,rfl,rfl,h3⟩:=ih _ _ _ hr
    exact⟨_::cs,_::ds,rfl,rfl,by simp[zcl,h3,hb]⟩
   ·rename_i heq;cases heq;simp only[xad]at h;obtain⟨r,hr,hb⟩:=h
    obtain⟨cs,ds,rfl,rfl,h3⟩:=ih _ _ _ hr
    refine⟨_::cs,_::ds,rfl,rfl,?_⟩
    simp only[zcl,h3,xao,xaf]
    rw[<-hb,beq_toListBytes]
   ·cases h
theorem yg0:∀(k1 k2:List Nat) (xs ys:List Value) (b:Bool),zcl (k1++k2) xs ys=some b->∃b1 b2,zcl k1 (xs.take k1.length) (ys.take k1.length)=some b1/\zcl k2 (xs.drop k1.length) (ys.drop k1.length)=some b2/\b=(b1&&b2)
 |k1,k2,xs,ys,b,h=>by
  induction k1 generalizing xs ys b with
  |nil=>exact⟨true,b,by simp[zcl],by simpa using h,by simp⟩
  |cons k ks ih=>
   rw[xbo]at h
   unfold zcl at h
   split at h
   ·simp_all
   ·rename_i heq;cases heq
    split at h
    ·rename_i hk
     simp only[xad]at h;obtain⟨r,hr,hb⟩:=h
     obtain⟨b1,b2,h1,h2,h3⟩:=ih _ _ _ hr
     refine⟨_,b2,by simp only[xax,List.take_succ_cons,zcl,hk,if_true,h1,xao];rfl,by simpa using h2,by rw[<-hb,h3,Bool.and_assoc]⟩
    ·cases h
   ·rename_i heq;cases heq;simp only[xad]at h;obtain⟨r,hr,hb⟩:=h
    obtain⟨b1,b2,h1,h2,h3⟩:=ih _ _ _ hr
    refine⟨_,b2,by simp only[xax,List.take_succ_cons,zcl,h1,xao];rfl,by simpa using h2,by rw[<-hb,h3,Bool.and_assoc]⟩
   ·rename_i heq;cases heq;simp only[xad]at h;obtain⟨r,hr,hb⟩:=h
    obtain⟨b1,b2,h1,h2,h3⟩:=ih _ _ _ hr
    refine⟨_,b2,by simp only[xax,List.take_succ_cons,zcl,h1,xao];rfl,by simpa using h2,by rw[<-hb,h3,Bool.and_assoc]⟩
   ·cases h
theorem z64{a b:ByteArray}(h:(a.toList==b.toList)=true):b=a:=by
 have:=beq_iff_eq.1 h
 rw[ByteArray.toList_eq,ByteArray.toList_eq]at this
 cases a;cases b
 simp at this
 exact congrArg ByteArray.mk this.symm
theorem yg1:∀(ks:List Nat) (xs ys:List Value),zcl ks xs ys=some true->ys=xs/\((xs.zip xs).all fun p=>Instr.sameBits 9999 p.1 p.2)=true
 |ks,xs,ys,h=>by
  induction ks generalizing xs ys with
  |nil=>obtain⟨rfl,rfl⟩:=zsa h;exact⟨rfl,rfl⟩
  |cons k ks ih=>
   unfold zcl at h
   split at h
   ·simp_all
   ·rename_i heq;cases heq
    split at h
    ·rename_i hk;subst hk
     simp only[xad,xae,beq_iff_eq]at h
     obtain⟨r,hr,rfl,rfl⟩:=h
     obtain⟨rfl,h2⟩:=ih _ _ hr
     exact⟨rfl,by simp only[List.zip_cons_cons,xcp,h2,xcv];simp[Instr.sameBits]⟩
    ·cases h
   ·rename_i heq;cases heq
    simp only[xad,xae,beq_iff_eq]at h
    obtain⟨r,hr,rfl,rfl⟩:=h
    obtain⟨rfl,h2⟩:=ih _ _ hr
    exact⟨rfl,by simp only[List.zip_cons_cons,xcp,h2,xcv];simp[Instr.sameBits]⟩
   ·rename_i heq;cases heq
    simp only[xad,xae]at h
    obtain⟨r,hr,hb,rfl⟩:=h
    obtain⟨rfl,h2⟩:=ih _ _ hr
    rw[beq_toListBytes]at hb
    have e:=z64 hb
    subst e
    refine⟨rfl,by simp only[List.zip_cons_cons,xcp,h2,xcv];simp only[Instr.sameBits];rw[beq_toListBytes];simp⟩
   ·cases h
section
variable {P:Program}
def mkV(P:Program)(t:TypeId)(cs:List Value):Value:=
 match P.underlying t with
 |some (.struct _)=>.agg cs.toArray
 |_=>cs.headD undef
theorem zxo{n:Nat}{t:TypeId}{l:List Nat}(hl:zgt P n t=some l)(hk:known P t=true)(hsz:P.cellsOf t=l.length){us:Array Value}{k:Nat}(hlen:k+l.length<=us.size)(w:World):
  (part t us k).run P w=.ok (mkV P t ((us.toList.drop k).take l.length)) w:=by
 obtain⟨i,d,hi,hd,hs,_⟩:=zd7 hk
 cases n with
 |zero=>cases hl
 |succ n=>
  have one:∀(hag:(isAgg t).run P w=.ok false w) (hl1:l.length=1) (hm:∀c:List Value,mkV P t c=c.headD undef),(part t us k).run P w=.ok (mkV P t ((us.toList.drop k).take l.length)) w:=by
   intro hag hl1 hm
   have hk':k<us.size:=by omega
   rw[hl1,hm]
   have e:(us.toList.drop k).take 1=[us[k]]:=by
    rw[xbl (by simpa using hk')];simp
   rw[e]
   simp[part,hag,hk']
  unfold zgt at hl
  split at hl
  ·rename_i h;cases hl
   exact one (by simp[isAgg,run_underlying h]) rfl (fun c=>by simp[mkV,h])
  ·rename_i h;cases hl
   exact one (by simp[isAgg,run_underlying h]) rfl (fun c=>by simp[mkV,h])
  ·rename_i h;cases hl
   exact one (by simp[isAgg,run_underlying h]) rfl (fun c=>by simp[mkV,h])
  ·rename_i fs h
   have hag:(isAgg t).run P w=.ok true w:=by simp[isAgg,run_underlying h]
   have hm:mkV P t ((us.toList.drop k).take l.length)=.agg ((us.toList.drop k).take l.length).toArray:=by simp[mkV,h]
   rw[hm]
   have e:us.extract k (k+l.length)=((us.toList.drop k).take l.length).toArray:=by
    apply Array.toList_inj.1
    rw[Array.toList_extract]
    simp[List.extract]
   simp[part,hag,zgf hi,<-hs,hsz,e]
  ·cases hl
theorem z0l(w:World):∀(n:Nat) (t:TypeId) (ks:List Nat),zgt P n t=some ks->∀(d:Nat) (cs ds:List Value) (b:Bool),zcl ks cs ds=some b->(Op.equalIn (n+d) t (mkV P t cs) (mkV P t ds)).run P w=.ok b w:=by
 intro n
 induction n with
 |zero=>intro t ks h;cases h
 |succ n ih=>
  intro t ks h d cs ds b hb
  rw[show n+1+d=(n+d)+1 by omega]
  unfold zgt at h
  split at h
  ·rename_i kk hk;cases h
   unfold zcl at hb
   split at hb<;>try (cases hb;done)
   ·simp_all
   ·rename_i heq;cases heq
    split at hb
    ·rename_i hkk;subst hkk
     simp only[xad]at hb
     obtain⟨r,hr,rfl⟩:=hb
     obtain rfl:r=true:=zr9 hr
     obtain⟨rfl,rfl⟩:=zsa hr
     simp only[mkV,hk,List.headD_cons,xcv]
     exact run_equalIn_int w (n+d) t _ kk _ _ hk
    ·cases hb
   ·rename_i heq;cases heq
   ·rename_i heq;cases heq
  ·rename_i hk;cases h
   unfold zcl at hb
   split at hb<;>try (cases hb;done)
   ·simp_all
   ·rename_i heq;cases heq
   ·rename_i heq;cases heq
    simp only[xad]at hb
    obtain⟨r,hr,rfl⟩:=hb
    obtain rfl:r=true:=zr9 hr
    obtain⟨rfl,rfl⟩:=zsa hr
    simp only[mkV,hk,List.headD_cons,xcv]
    exact Go.run_equalIn_bool w (n+d) t _ _ hk
   ·rename_i heq;cases heq
  ·rename_i hk;cases h
   unfold zcl at hb
   split at hb<;>try (cases hb;done)
   ·simp_all
   ·rename_i heq;cases heq
   ·rename_i heq;cases heq
   ·rename_i heq;cases heq
    simp only[xad]at hb
    obtain⟨r,hr,rfl⟩:=hb
    obtain rfl:r=true:=zr9 hr
    obtain⟨rfl,rfl⟩:=zsa hr
    simp only[mkV,hk,List.headD_cons,xcv]
    rw[run_equalIn_string w (n+d) t _ _ hk,<-beq_toListBytes]
  ·rename_i fs hk
   split at h
   ·cases h
   rename_i hst
   have hst':P.stoodInHeld t=false:=by simpa using hst
   have hfo:P.fieldsOf t=fs:=by simp[Program.fieldsOf,hk]
   simp only[mkV,hk]
   rw[run_equalIn_struct w (n+d) t _ _ (by rw[hfo];exact hk) hst',hfo]
   have hl:=z31 _ _ _ _ hb
   have key:∀(fs:List Field) (k:Nat) (ks:List Nat) (b:Bool),zkz P (zgt P n) k fs=some ks->k+ks.length<=cs.length->k+ks.length<=ds.length->zcl ks (cs.drop k) (ds.drop k)=some b->(Op.eqFields (n+d) cs.toArray ds.toArray fs).run P w=.ok b w:=by
    intro fs
    induction fs with
    |nil=>
     intro k ks b h _ _ hb
     simp only[zkz,xaf]at h
     subst h
     obtain rfl:b=true:=zr9 hb
     rfl
    |cons f fs ihf=>
     intro k ks b h hc1 hc2 hb
     unfold zkz at h
     split at h
     ·rename_i hcond
      simp only[xae,beq_iff_eq,bne_iff_ne]at hcond
      obtain⟨⟨ho,hn⟩,hkn⟩:=hcond
      split at h
      ·rename_i l hl
       split at h
       ·rename_i hsz
        simp only[xad]at h
        obtain⟨ks',hks',rfl⟩:=h
        obtain⟨b1,b2,g1,g2,rfl⟩:=yg0 _ _ _ _ _ hb
        rw[xak]at hc1 hc2
        have hp1:=zxo hl hkn hsz (us:=cs.toArray) (k:=k) (by simpa using(by omega:k+l.length<=cs.length)) w
        have hp2:=zxo hl hkn hsz (us:=ds.toArray) (k:=k) (by simpa using(by omega:k+l.length<=ds.length)) w
        have he:=ih f.type l hl d _ _ b1 g1
        rw[List.drop_drop,List.drop_drop]at g2
        have hrest:=ihf (k+l.length) ks' b2 hks' (by omega) (by omega) g2
        simp only[Op.eqFields]
        rw[if_pos hn]
        simp only[ho,Sem.run_bind,hp1,hp2,Result.andThen_ok,he]
        cases b1
        ·simp
        ·simp[hrest]
       ·cases h
      ·cases h
     ·cases h
   exact key fs.toList 0 ks b h (by omega) (by omega) (by simpa using hb)
  ·cases h
theorem z7c(w:World)(e:Bool):∀(n:Nat) (t:TypeId) (ks:List Nat),zgt P n t=some ks->∀(d:Nat) (cs:List Value),cs.length=ks.length->(Instr.checkKey e (n+d) t (mkV P t cs)).run P w=.ok () w:=by
 intro n
 induction n with
 |zero=>intro t ks h;cases h
 |succ n ih=>
  intro t ks h d cs hl
  rw[show n+1+d=(n+d)+1 by omega]
  unfold zgt at h
  split at h
  ·rename_i kk hk
   simp only[Instr.checkKey,Sem.run_bind,run_underlying hk,Result.andThen_ok,Sem.run_pure]
  ·rename_i hk
   simp only[Instr.checkKey,Sem.run_bind,run_underlying hk,Result.andThen_ok,Sem.run_pure]
  ·rename_i hk
   simp only[Instr.checkKey,Sem.run_bind,run_underlying hk,Result.andThen_ok,Sem.run_pure]
  ·rename_i fs hk
   split at h
   ·cases h
   simp only[mkV,hk,Instr.checkKey,Sem.run_bind,run_underlying hk,Result.andThen_ok]
   rw[<-Array.forIn_toList]
   have key:∀(fs:List Field) (k:Nat) (ks:List Nat),zkz P (zgt P n) k fs=some ks->k+ks.length<=cs.length->
     (forIn fs PUnit.unit (fun f _=>(do
      if f.name≠ "_" then Instr.checkKey e (n+d) f.type (<-part f.type cs.toArray f.offset)
      pure (ForInStep.yield PUnit.unit):Sem (ForInStep PUnit)))).run P w=.ok PUnit.unit w:=by
    intro fs
    induction fs with
    |nil=>intro k ks _ _;simp
    |cons f fs ihf=>
     intro k ks h hc
     unfold zkz at h
     split at h
     ·rename_i hcond
      simp only[xae,beq_iff_eq,bne_iff_ne]at hcond
      obtain⟨⟨ho,hn⟩,hkn⟩:=hcond
      split at h
      ·rename_i l hl'
       split at h
       ·rename_i hsz
        simp only[xad]at h
        obtain⟨ks',hks',rfl⟩:=h
        rw[xak]at hc
        have hp1:=zxo hl' hkn hsz (us:=cs.toArray) (k:=k) (by simpa using(by omega:k+l.length<=cs.length)) w
        have he:=ih f.type l hl' d ((cs.toArray.toList.drop k).take l.length) (by simp;omega)
        have hrest:=ihf (k+l.length) ks' hks' (by omega)
        simp at hrest
        simp[List.forIn_cons,hn,ho,hp1,he,Result.andThen]
        exact hrest
       ·cases h
      ·cases h
     ·cases h
   have:=key fs.toList 0 ks h (by omega)
   simp at this
   simp[this,Result.andThen]
  ·cases h
end
section
variable {num:Names} {P:Program}
variable {ty:TypeId} {pos:String} {after:Array Edge} {a:Act} {C:Cx} {s:St}
theorem zy0{cs:List Value}{us:Array Value}(h:ARep num C (.agg (cs.map fun v=>AV.imm (.val v))) (.agg us)):us=cs.toArray:=by
 cases h with
 |agg _ _ hl h1 hr=>
  apply Array.ext
  ·simpa using hl.symm
  ·intro i h1 h2
   have hc:i<cs.length:=by simpa using h2
   have:=hr i (.imm (.val cs[i])) us[i] (by simp[hc]) (by simp[h1])
   have:=zbw this
   simpa using this
theorem z5j(hs:zas num C s a){t yt:TypeId}{ks:List Nat}{x y:Operand}{x' y':Src}{neg:Bool}(hx:zah num x=some x')(hy:zah num y=some y')(hf:zvx P t=some ks){xs ys:List AV}(h1:s.env.ev x'=.agg xs)(h2:s.env.ev y'=.agg ys){b:Bool}(hb:zcy ks xs ys=some b):
  zbe num P (.binOp (if neg then .neq else .eql) t x y yt) ty pos after a C s (.imm (.val (.bool (if neg then !b else b)))) s:=by
 unfold zvx at hf
 split at hf
 ·rename_i ks' hf'
  cases hf
  exact yj6 hs hx hy hf' h1 h2 hb
 ·split at hf
  ·rename_i fs ht
   split at hf
   ·cases hf
   rename_i hg
   have hg:P.eqGuardType P.depth t=false:=by simpa using hg
   have hax:=zba hs hx
   have hay:=zba hs hy
   rw[h1]at hax
   rw[h2]at hay
   obtain⟨cs,ds,rfl,rfl,hv⟩:=zr8 _ _ _ _ hb
   generalize hu:a.eval x=u at hax
   generalize hv':a.eval y=v at hay
   have hu2:∃us,u=.agg us:=by cases hax with|agg _ us=>exact⟨us,rfl⟩
   have hv2:∃us,v=.agg us:=by cases hay with|agg _ us=>exact⟨us,rfl⟩
   obtain⟨us,rfl⟩:=hu2
   obtain⟨vs,rfl⟩:=hv2
   obtain rfl:=zy0 hax
   obtain rfl:=zy0 hay
   have hrun:(Op.equalIn 10000 t (.agg cs.toArray) (.agg ds.toArray)).run P C.w=.ok b C.w:=by
    have:=z0l C.w 100 t ks hf 9900 cs ds b hv
    simpa only[mkV,ht]using this
   refine zbj (v:=.bool (if neg then !b else b)) hs (fun _ _=>?_) (.imm _ _ (.val _ rfl))
   cases neg
   ·simp only[execOp,hu,hv',Sem.run_bind,xan,if_false,run_eqGuard_agg C.w _ t x y _ _ hg,Result.andThen_ok,run_eql_struct,hrun]
    rfl
   ·simp only[execOp,hu,hv',Sem.run_bind,if_true,run_eqGuard_agg C.w _ t x y _ _ hg,Result.andThen_ok,run_neq_struct,hrun]
    rfl
  ·cases hf
end
end Go.EX

