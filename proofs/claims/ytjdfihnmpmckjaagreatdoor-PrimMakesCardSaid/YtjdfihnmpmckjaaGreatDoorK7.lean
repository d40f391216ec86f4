import Derived.Test.YtjdfihnmpmckjaaGreatDoorK6
import Derived.ChangeOld
import Derived.WideShapes
import Derived.OpenShut
import Derived.WalkKit
import Derived.ProofKit
import Derived.ShutString
import Derived.Below
import Derived.Carry
import Derived.Test.YtjdfihnmpmckjaaGreatDoorK1
set_option linter.unusedVariables false
set_option linter.unusedSimpArgs false
namespace Go.EX
open Go.RowKit
structure Ty (α:Type) where
 sz:Nat
 agg:Bool
 enc:α->List IV
 wf:α->Prop
 len:∀x,(enc x).length=sz
def zcs(k:IntKind):Ty Int:=⟨1,false,fun n=>[.val (.int k n)],fun n=>(Lit.int k n).wf=true,fun _=>rfl⟩
def tBool:Ty Bool:=⟨1,false,fun b=>[.val (.bool b)],fun _=>True,fun _=>rfl⟩
def tStr:Ty ByteArray:=⟨1,false,fun s=>[.val (.string s)],fun s=>s.size<=140737488355328,fun _=>rfl⟩
def zak{α:Type}(t:Ty α)(iv:IV)(xs:List α):Prop:=
 (∀x∈xs,t.wf x)/\xs.length<=140737488355328/\((iv=.val (.slice none 0 0)/\xs=[])\/
  ∃row off cap,iv=.slice row off xs.length cap/\(∀c,cap=some c->xs.length<=c)/\cut row off (xs.length*t.sz)=some (xs.flatMap t.enc))
structure Sl {α:Type} (t:Ty α) where
 iv:IV
 xs:List α
 ok:zak t iv xs
def tSl{α:Type}(t:Ty α):Ty (Sl t):=⟨1,false,fun s=>[s.iv],fun _=>True,fun _=>rfl⟩
def zso:Ty Unit:=⟨0,true,fun _=>[],fun _=>True,fun _=>rfl⟩
def zi6{α β:Type}(a:Ty α)(b:Ty β):Ty (α×β):=⟨a.sz+b.sz,true,fun x=>a.enc x.1++b.enc x.2,fun x=>a.wf x.1/\b.wf x.2,fun x=>by simp[a.len,b.len]⟩
def Ty.av{α:Type}(t:Ty α)(x:α):AV:=if t.agg then .agg ((t.enc x).map .imm)else match t.enc x with
 |[y]=>.imm y
 |_=>.junk
def zfu{α:Type}(P:Program)(t:TypeId)(τ:Ty α):Prop:=
 ∀{H:Type} (enc:TypeId×Value->H) (w:World) (spare:Nat->Bool) (_:∀b,spare b=true) (fuel:Nat) (cs:List Value) (x:DataW H×List MemPlace),DataW.trod enc P w 0 spare true fuel t cs=some x->(DataW.weights P t x.1).all (· <=reachBytes)=true->
  ∃d:α,τ.wf d/\cs.length=τ.sz/\∀(j:Nat) (y:IV) (u:Value),(τ.enc d)[j]?=some y->cs[j]?=some u->IRep (fun b=>b<w.heap.size) w y u
section
variable {P:Program} {t:TypeId}
theorem zpb{k:IntKind}(ht:P.underlying t=some (.int k)):zfu P t (zcs k):=by
 intro H enc w spare hsp fuel cs x h hwt
 obtain⟨n,rfl,_,hw⟩:=DataW.trod_int ht h
 refine⟨n,hw,rfl,fun j y u hy hu=>?_⟩
 cases j with
 |zero=>simp[zcs]at hy hu;subst hy;subst hu;exact .val _ rfl
 |succ j=>simp[zcs]at hy
theorem z28(ht:P.underlying t=some .string):zfu P t tStr:=by
 intro H enc w spare hsp fuel cs x h hwt
 obtain⟨s,rfl,rfl,hs⟩:=DataW.trod_string ht h
 refine⟨s,by
  have h2:s.data.toList.length<=reachBytes:=by simpa [DataW.weights]using hwt
  have e:s.data.toList.length=s.size:=xck
  have e2:reachBytes=140737488351232:=rfl
  show s.size<=140737488355328
  omega,rfl,fun j y u hy hu=>?_⟩
 cases j with
 |zero=>simp[tStr]at hy hu;subst hy;subst hu;exact .val _ rfl
 |succ j=>simp[tStr]at hy
theorem cells?_get{w:World}{base:Nat}{a:Addr}{n:Nat}{cs:List Value}(h:w.cells? base a n=some cs):cs.length=n/\∀j,j<n->w.cell? (a.add j)=cs[j]?:=by
 unfold World.cells? at h
 split at h
 ·refine⟨by simpa using mapM_some_length h,fun j hj=>?_⟩
  exact mapM_some_get h j j (by simp[hj])
 ·cases h
theorem zq9{α β:Type}(f:α->List β)(n:Nat)(hn:0<n)(hf:∀x,(f x).length=n):∀(l:List α) (j:Nat),(l.flatMap f)[j]?=(l[j / n]?).bind fun x=>(f x)[j%n]?
 |[],j=>by simp
 |x::r,j=>by
  rw[xct,List.getElem?_append,hf x]
  by_cases h:j<n
  ·rw[if_pos h,Nat.div_eq_of_lt h,Nat.mod_eq_of_lt h];rfl
  ·rw[if_neg h,zq9 f n hn hf r (j-n)]
   have h1:j / n=(j-n) / n+1:=by
    rw[<-Nat.div_eq_sub_div hn (by omega)]
   have h2:j%n=(j-n)%n:=Nat.mod_eq_sub_mod (by omega)
   rw[h1,h2];rfl
theorem zok{α β:Type}(f:α->List β)(n:Nat)(hf:∀x,(f x).length=n):∀(l:List α),(l.flatMap f).length=l.length*n
 |[]=>by simp
 |x::r=>by rw[xct,xak,hf x,zok f n hf r,xax,Nat.add_mul,xc4,Nat.add_comm]
theorem zdv{α:Type}(l:List α){n:Nat}(h:l.length=n):cut l 0 n=some l:=by
 subst h
 simp[cut]
theorem z7e{α:Type}(n:Nat)(p:Nat->α->Prop)(h:∀i,i<n->∃x,p i x):∃l:List α,l.length=n/\∀i x,l[i]?=some x->p i x:=by
 induction n with
 |zero=>exact⟨[],rfl,fun i x hx=>by simp at hx⟩
 |succ n ih=>
  obtain⟨l,h1,h2⟩:=ih fun i hi=>h i (by omega)
  obtain⟨x,hx⟩:=h n (by omega)
  refine⟨l++[x],by simp[h1],fun i y hy=>?_⟩
  rw[List.getElem?_append]at hy
  split at hy
  ·exact h2 i y hy
  ·have:i=n:=by
    have:=(xab.1 hy).1
    simp at this;omega
   subst this
   simp[h1]at hy
   subst hy;exact hx
theorem z43{H:Type}{e:TypeId}:∀(l:List (DataW H)),(DataW.weightsAll P e l).all (· <=reachBytes)=true->∀(i:Nat) (d:DataW H),l[i]?=some d->(DataW.weights P e d).all (· <=reachBytes)=true
 |[],_,i,d,h=>by simp at h
 |x::l,hw,i,d,h=>by
  simp only[DataW.weightsAll,xc2,xae]at hw
  cases i with
  |zero=>simp at h;subst h;exact hw.1
  |succ i=>exact z43 l hw.2 i d (by simpa using h)
theorem z44{H:Type}:∀(ts:List TypeId) (l:List (DataW H)),(DataW.weightsEach P ts l).all (· <=reachBytes)=true->∀(i:Nat) (t:TypeId) (d:DataW H),ts[i]?=some t->l[i]?=some d->(DataW.weights P t d).all (· <=reachBytes)=true
 |[],_,_,i,t,d,h,_=>by simp at h
 |_::_,[],_,i,t,d,_,h=>by simp at h
 |t0::ts,x::l,hw,i,t,d,ht,h=>by
  simp only[DataW.weightsEach,xc2,xae]at hw
  cases i with
  |zero=>simp at h ht;subst h;subst ht;exact hw.1
  |succ i=>exact z44 ts l hw.2 i t d (by simpa using ht) (by simpa using h)
theorem z27{α:Type}{e:TypeId}{τ:Ty α}(ht:P.underlying t=some (.slice e))(he:zfu P e τ)(hc:P.cellsOf e=τ.sz)(h0:0<τ.sz)(hby:0<P.bytesOf e):zfu P t (tSl τ):=by
 intro H enc w spare hsp fuel cs x h hwt
 have hlt:=DataW.trod_lt _ _ _ _ h
 rcases DataW.trod_slice ht h with⟨rfl,_⟩|⟨a,len,cap,elems,rest,n,_,rfl,rfl,hb,hl,hm,hel,h1,h2,_⟩
 ·refine⟨⟨.val (.slice none 0 0),[],fun x hx=>(by cases hx),by simp,.inl ⟨rfl,rfl⟩⟩,trivial,rfl,fun j y u hy hu=>?_⟩
  cases j with
  |zero=>simp[tSl]at hy hu;subst hy;subst hu;exact .val _ rfl
  |succ j=>simp[tSl]at hy
 ·obtain⟨hr,h3⟩:=h2 (hsp _)
  simp only[DataW.weights,ht,xcp,xc2,xae,decide_eq_true_eq,xam]at hwt
  have hlong:elems.length+rest.length<=reachBytes:=xb1 (Nat.le_mul_of_pos_right _ hby) hwt.1
  have hwe:=hwt.2.1
  have hone:∀i,i<len->∃d:α,τ.wf d/\∀j y,(τ.enc d)[j]?=some y->∃u,w.cell? ((a.add (i*τ.sz)).add j)=some u/\IRep (fun b=>b<w.heap.size) w y u:=by
   intro i hi
   have h4:=h1 i hi
   have hei:∃z,elems[i]?=some z:=by
    have hie:i<elems.length:=by omega
    exact⟨_,xaa hie⟩
   obtain⟨z,hz⟩:=hei
   rw[hz]at h4
   rw[xb5]at h4
   obtain⟨cs,h5,h6⟩:=h4
   obtain⟨d,hd,hlen,hrep⟩:=he enc w spare hsp n cs z h6 (z43 _ hwe i z.1 (by rw[xar,hz];rfl))
   obtain⟨h7,h8⟩:=cells?_get h5
   refine⟨d,hd,fun j y hy=>?_⟩
   have hj:j<cs.length:=by
    rw[hlen]
    have:=(xab.1 hy).1
    rw[τ.len]at this;exact this
   refine⟨cs[j],?_,hrep j y _ hy (xaa hj)⟩
   have:=h8 j (by rw[<-h7];exact hj)
   rw[hc]at this
   rw[this];exact xaa hj
  obtain⟨xs,hxl,hxs⟩:=z7e len _ hone
  have hmax:xs.length<=140737488355328:=by have e:reachBytes=140737488351232:=rfl;omega
  refine⟨⟨.slice (xs.flatMap τ.enc) 0 xs.length (some cap),xs,fun x hx=>?_,by omega,.inr ⟨_,0,some cap,rfl,fun c hc=>by cases hc;omega,zdv _ (zok _ _ τ.len xs)⟩⟩,trivial,rfl,fun j y u hy hu=>?_⟩
  ·obtain⟨i,hi,rfl⟩:=List.mem_iff_getElem.1 hx
   exact(hxs i _ (xaa hi)).1
  cases j with
  |succ j=>simp[tSl]at hy
  |zero=>
   simp[tSl]at hy hu;subst hy;subst hu
   by_cases hcap:cap=0
   ·subst hcap
    have:len=0:=by omega
    subst this
    rw[hxl]
    exact .vac _ 0 a
   ·have hblk:a.block<w.heap.size:=by
     have hin:MemPlace.cell a.block a.off∈MemPlace.row a ((elems.length+rest.length)*P.cellsOf e):=by
      simp only[MemPlace.row,xbd,xa9]
      refine⟨0,?_,by simp⟩
      exact Nat.mul_pos (by omega) (by omega)
     exact hlt _ (xc0 _ hin)
    have hspot:a.spot=none:=by
     have:∃z cs,w.cells? 0 a (P.cellsOf e)=some cs/\z=cs:=by
      by_cases hl0:0<len
      ·have h4:=h1 0 hl0
       have hie:0<elems.length:=by omega
       rw[xaa hie,xb5]at h4
       obtain⟨cs,h5,_⟩:=h4
       simp[Addr.add]at h5
       exact⟨cs,cs,h5,rfl⟩
      ·have h4:=h3 0 (by omega)
       have hie:0<rest.length:=by omega
       rw[xaa hie,xb5]at h4
       obtain⟨cs,h5,_⟩:=h4
       have:len=0:=by omega
       subst this
       simp[Addr.add]at h5
       exact⟨cs,cs,h5,rfl⟩
     obtain⟨_,cs,h5,_⟩:=this
     obtain⟨h7,h8⟩:=cells?_get h5
     have h9:=h8 0 (by omega)
     have hj:0<cs.length:=by omega
     rw[xaa hj]at h9
     have:=World.cell?_spot h9
     simpa [Addr.add]using this
    obtain⟨b,o,sp⟩:=a
    simp only at hspot
    subst hspot
    have hcell:∀j y,(xs.flatMap τ.enc)[j]?=some y->∃u,w.cell? ⟨b,o+j,none⟩=some u/\IRep (fun b=>b<w.heap.size) w y u:=by
     intro j y hy
     rw[zq9 _ _ h0 τ.len,xb5]at hy
     obtain⟨d,hd,hy⟩:=hy
     obtain⟨u,hu,hr⟩:=(hxs _ _ hd).2 _ _ hy
     refine⟨u,?_,hr⟩
     rw[zel,zel]at hu
     rw[<-hu]
     congr 2
     have:=Nat.div_add_mod j τ.sz
     rw[Nat.mul_comm]at this
     omega
    rw[<-hxl]
    refine IRep.slice (I:=fun b=>b<w.heap.size) (xs.flatMap τ.enc) 0 xs.length (some cap) b o cap o (fun j=>(w.cell? ⟨b,o+j,none⟩).getD undef) hblk (fun j y hy=>?_) (fun j y hy=>?_) (by omega) (fun k hk=>by cases hk;rfl) (.inl rfl)
    ·obtain⟨u,hu,_⟩:=hcell j y hy
     simp only[hu];rfl
    ·obtain⟨u,hu,hr⟩:=hcell j y hy
     simp only[hu];exact hr
def zqv{α:Type}(P:Program)(fs:List Field)(at':Nat)(τ:Ty α):Prop:=
 ∀{H:Type} (enc:TypeId×Value->H) (w:World) (spare:Nat->Bool) (_:∀b,spare b=true) (fuel:Nat) (cs:List Value),(∀f∈fs,∃x,DataW.trod enc P w 0 spare true fuel f.type ((cs.drop f.offset).take (P.cellsOf f.type))=some x/\(DataW.weights P f.type x.1).all (· <=reachBytes)=true)->
  ∃d:α,τ.wf d/\∀(j:Nat) (y:IV) (u:Value),(τ.enc d)[j]?=some y->cs[at'+j]?=some u->IRep (fun b=>b<w.heap.size) w y u
theorem z26(n:Nat):zqv P [] n zso:=by
 intro H enc w spare hsp fuel cs h
 exact⟨(),trivial,fun j y u hy=>by simp[zso]at hy⟩
theorem zk4{α β:Type}{f:Field}{fs:List Field}{n:Nat}{τ:Ty α}{σ:Ty β}(h1:zfu P f.type τ)(ho:f.offset=n)(hc:P.cellsOf f.type=τ.sz)(h2:zqv P fs (n+τ.sz) σ):zqv P (f::fs) n (zi6 τ σ):=by
 intro H enc w spare hsp fuel cs h
 obtain⟨x,hx,hxw⟩:=h f (xbh ..)
 obtain⟨d,hd,hl,hr⟩:=h1 enc w spare hsp fuel _ _ hx hxw
 obtain⟨d',hd',hr'⟩:=h2 enc w spare hsp fuel cs fun g hg=>h g (xbc _ hg)
 refine⟨(d,d'),⟨hd,hd'⟩,fun j y u hy hu=>?_⟩
 simp only[zi6]at hy
 rw[List.getElem?_append,τ.len]at hy
 split at hy
 ·rename_i hj
  refine hr j y u hy ?_
  rw[xce,hc,if_pos hj,xbv,ho]
  exact hu
 ·rename_i hj
  refine hr' _ y u hy ?_
  rw[<-hu]
  congr 1
  omega
theorem z29{α:Type}{fs:Array Field}{τ:Ty α}(ht:P.underlying t=some (.struct fs))(hf:zqv P fs.toList 0 τ)(hc:P.cellsOf t=τ.sz):zfu P t τ:=by
 intro H enc w spare hsp fuel cs x h hwt
 obtain⟨xs,n,_,rfl,hl,hxl,hg⟩:=DataW.trod_struct ht h
 simp only[DataW.weights,ht]at hwt
 obtain⟨d,hd,hr⟩:=hf enc w spare hsp n cs fun f hmem=>by
  obtain⟨i,hi,rfl⟩:=List.mem_iff_getElem.1 hmem
  have hi':i<fs.size:=by simpa using hi
  have:=hg i fs[i] (by simp[hi'])
  have hie:i<xs.length:=by omega
  rw[xaa hie]at this
  exact⟨_,by simpa using this,z44 _ _ hwt i _ _ (by simp[hi']) (by rw[xar,xaa hie];rfl)⟩
 exact⟨d,hd,by rw[hl,hc],fun j y u hy hu=>hr j y u hy (by simpa using hu)⟩
theorem z3a{α β:Type}{τ:Ty α}{σ:Ty β}(h:zfu P t τ)(f:α->β)(he:∀x,σ.enc (f x)=τ.enc x)(hw:∀x,τ.wf x->σ.wf (f x))(hs:σ.sz=τ.sz):zfu P t σ:=by
 intro H enc w spare hsp fuel cs x hx hwt
 obtain⟨d,hd,hl,hr⟩:=h enc w spare hsp fuel cs x hx hwt
 exact⟨f d,hw d hd,by rw[hl,hs],fun j y u hy hu=>hr j y u (by rw[<-he];exact hy) hu⟩
end
end Go.EX


namespace Go.EX
open Go.RowKit Go.ChangeShapes Go.WideShapes Go.ChangeAt
def zri(P:Program)(t:TypeId):Bool:=
 match P.underlying t with
 |some (.struct _)|some (.array ..)=>true
 |_=>false
inductive ArgsOf (P:Program):List TypeId->(List AV->Prop)->Prop
 |nil:ArgsOf P [] (fun az=>az=[])
 |cons {α:Type} {t:TypeId} {τ:Ty α} {ts:List TypeId} {Q:List AV->Prop} (h:zfu P t τ) (ha:zri P t=τ.agg) (r:ArgsOf P ts Q):ArgsOf P (t::ts) (fun az=>∃x r,τ.wf x/\az=τ.av x::r/\Q r)
section
variable {P:Program} {num:Names}
theorem z6j{α:Type}{t:TypeId}{τ:Ty α}(h:zfu P t τ)(ha:zri P t=τ.agg){H:Type}{enc:TypeId×Value->H}{W:World}{b:Nat}{v:Value}{d:DataW H}{ps:List MemPlace}
  (hok:Value.okWide P W .any b t v) (ht:DataW.Trod enc P W 0 (fun _=>true) true t v d ps) (hwt:(DataW.weights P t d).all (· <=reachBytes)=true):∃x:α,τ.wf x/\ARep num (Cx.whole W) (τ.av x) v:=by
 obtain⟨fuel,ht⟩:=ht
 obtain⟨x,hx,hl,hr⟩:=h enc W _ (fun _=>rfl) fuel _ _ ht hwt
 refine⟨x,hx,?_⟩
 unfold Ty.av
 have hlen:=τ.len x
 cases hag:τ.agg with
 |true=>
  rw[hag]at ha
  have:∃cs,v=.agg cs:=by
   unfold zri at ha
   unfold Value.okWide at hok
   split at ha
   ·rename_i fs hu;rw[hu]at hok;obtain⟨cs,h1,_⟩:=hok;exact⟨cs,h1⟩
   ·rename_i n e hu;rw[hu]at hok;obtain⟨cs,h1,_⟩:=hok;exact⟨cs,h1⟩
   ·cases ha
  obtain⟨cs,rfl⟩:=this
  have hcs:(Value.agg cs).cells=cs:=rfl
  rw[hcs]at hl hr
  rw[if_pos rfl]
  have hget:∀(j:Nat) (u:Value),cs[j]?=some u->∃y,(τ.enc x)[j]?=some y/\IRep (fun b=>b<W.heap.size) W y u:=by
   intro j u hu
   have hj:j<(τ.enc x).length:=by
    rw[hlen,<-hl]
    have:=(xal.1 hu).1
    simpa using this
   exact⟨_,xaa hj,hr j _ u (xaa hj) (by simpa using hu)⟩
  refine .agg _ cs (by rw[xam,hlen,<-hl];simp) (fun j u hu=>?_) fun j y u hy hu=>?_
  ·obtain⟨y,_,h2⟩:=hget j u hu
   exact h2.one
  ·rw[xar]at hy
   obtain⟨z,h1,h2⟩:=hget j u hu
   rw[h1]at hy
   simp at hy;subst hy
   exact .imm _ _ h2
 |false=>
  rw[hag]at ha
  have hcell:Cell.okWide P W .any b t v:=by
   unfold zri at ha
   unfold Value.okWide at hok
   split at hok
   ·rename_i fs hu;rw[hu]at ha;cases ha
   ·rename_i n e hu;rw[hu]at ha;cases ha
   ·exact hok
  have hone:v.cells.toList=[v]:=by
   cases v<;>first|rfl|(exfalso;unfold Cell.okWide at hcell;split at hcell<;>first|cases ‹Value.agg _=_› |cases ‹Value.tuple _=_› |(unfold Cell.ok at hcell;split at hcell<;>first|exact hcell|cases ‹Value.agg _=_› |cases ‹Value.tuple _=_›))
  rw[hone]at hl hr
  simp only[xan,if_false]
  split
  ·rename_i y hy
   exact .imm _ _ (hr 0 y v (by rw[hy];rfl) rfl)
  ·exact .junk _
theorem yad{H:Type}{enc:TypeId×Value->H}{W:World}{b:Nat}:∀{ts:List TypeId} {Q:List AV->Prop} (_:ArgsOf P ts Q) (vs:List Value) (ds:List (DataW H)) (ps:List MemPlace),
  (∀(j:Nat) t v,ts[j]?=some t->vs[j]?=some v->Value.okWide P W .any b t v)->DataW.TrodAll enc P W 0 (fun _=>true) true ts vs ds ps->(DataW.weightsEach P ts ds).all (· <=reachBytes)=true->
  ∃az,Q az/\az.length=vs.length/\ds.length=ts.length/\∀(j:Nat) (x:AV) (u:Value),az[j]?=some x->vs[j]?=some u->ARep num (Cx.whole W) x u:=by
 intro ts Q h
 induction h with
 |nil=>
  intro vs ds ps _ ht _
  obtain⟨rfl,rfl,_⟩:=trodAll_nil ht
  exact⟨[],rfl,rfl,rfl,fun j x u hx=>by simp at hx⟩
 |cons h ha r ih=>
  intro vs ds ps hok ht hwt
  obtain⟨v0,vs0,d0,ds0,p0,q0,rfl,rfl,rfl,h0,r0⟩:=trodAll_cons ht
  obtain⟨az,h1,h2,h3,h4⟩:=ih vs0 ds0 q0 (fun j t v hj hv=>hok (j+1) t v (by simpa using hj) (by simpa using hv)) r0 (by simp only[DataW.weightsEach,xc2,xae]at hwt;exact hwt.2)
  obtain⟨x,hx,hr⟩:=z6j (num:=num) h ha (hok 0 _ v0 rfl rfl) h0 (by simp only[DataW.weightsEach,xc2,xae]at hwt;exact hwt.1)
  refine⟨_::az,⟨x,az,hx,rfl,h1⟩,by simp[h2],by simp[h3],fun j y u hy hu=>?_⟩
  cases j with
  |zero=>simp at hy hu;subst hy;subst hu;exact hr
  |succ j=>exact h4 j y u (by simpa using hy) (by simpa using hu)
theorem z4m{H:Type}{enc:TypeId×Value->H}(hl:laidOutB P=true){W W':World}(hb:Below W.heap.size W W'):∀{ts:List TypeId} {vs:List Value} {ds:List (DataW H)} {ps:List MemPlace},
  (ts.all fun t=>P.readableRec t&&decide (t<P.types.size))=true->DataW.TrodAll enc P W 0 (fun _=>true) true ts vs ds ps->DataW.TrodAll enc P W' 0 (fun b=>decide (b<W.heap.size)) true ts vs ds ps
 |[],vs,ds,ps,_,h=>by
  obtain⟨rfl,rfl,rfl⟩:=trodAll_nil h
  exact trodAll_mk0
 |t::ts,vs,ds,ps,hts,h=>by
  obtain⟨v0,vs0,d0,ds0,p0,q0,rfl,rfl,rfl,h0,r0⟩:=trodAll_cons h
  simp only[xcp,xae,decide_eq_true_eq]at hts
  have lt0:∀x∈p0,x.block<W.heap.size:=by obtain⟨m,hm⟩:=h0;exact DataW.trod_lt m _ _ _ hm
  exact trodAll_cons_mk (Below.trod hl hts.1.1 hts.1.2 h0 hb lt0) (z4m hl hb hts.2 r0)
theorem yaj{code:Nat->Option zab}{ext:zac}(h:zg5 P num code ext){f:FuncId}{az:List AV}{vals:Array Value}{w:World}(hG:num.G (fun b=>b<w.heap.size) w){m:Mem}(hr:callW code ext (num f) az []=some (.imm (.val (.bool true)),m))(hl:az.length=vals.size)
  (ha:∀(j:Nat) (x:AV) (u:Value),az[j]?=some x->vals[j]?=some u->ARep num (Cx.whole w) x u):
  Calls P f vals w fun e w'=>e=.returned (.bool true)/\Below w.heap.size w w':=by
 obtain⟨_,hc⟩:=(zgg h).fn f _ _ _ _ (Cx.whole w) vals hr (yir w hG) hl ha
 refine hc.mono fun e w' ⟨v,D,he,hw,hst,hv⟩=>?_
 have:=zbw hv
 subst this
 subst hw
 exact⟨he,hst.os,hst.tape,hst.out,hst.size,fun k hk=>hst.keep k hk fun ⟨i,o,h,_⟩=>by simp at h⟩
def zyu(s:ChangeSpec)(n:Nat):Prop:=s.vars=[]/\∀(H:Type) (ds:List (DataW H)),ds.length=n->s.fn H ds={ results:=[.lit (.bool true)],args:=ds }
end
end Go.EX


namespace Go.EX
def z7d(P:Program)(num:FuncId->Nat)(xf:zab)(fn:Func):Bool×Option XCode×Option Bool×List XRes×Bool:=
 (fn.name== "runtime.NumGoroutine",fn.body.map (tr P num fn.ntmps),fn.body.map (zc5 · xf.body),fn.results.toList.map (zic P),fn.results.toList.all (zxf P))
def yip(xf:zab):Bool×Option XCode×Option Bool×List XRes×Bool:=(false,some xf.body.wipe,some true,XRes.outs xf.res,true)
def zzj(P:Program)(num:FuncId->Nat)(code:Nat->Option zab)(f:Nat):Option (Option (Bool×Option XCode×Option Bool×List XRes×Bool)):=
 (code (num f)).map fun xf=>(P.funcs[f]?).map (z7d P num xf)
def z41(num:FuncId->Nat)(code:Nat->Option zab)(f:Nat):Option (Option (Bool×Option XCode×Option Bool×List XRes×Bool)):=
 (code (num f)).map fun xf=>some (yip xf)
def zst{α:Type}(g:Nat->α):Nat->List α
 |0=>[]
 |n+1=>g n::zst g n
def zrs{α:Type}(g:Nat->α):Nat->List α
 |0=>[]
 |n+1=>g n::zrs g n
theorem z4w{α:Type}{g g':Nat->α}:∀{n},zst g n=zrs g' n->∀f,f<n->g f=g' f
 |0,_,f,h=>absurd h (xcw f)
 |n+1,e,f,h=>by
  simp only[zst,zrs,xcu]at e
  rcases Nat.lt_or_eq_of_le (Nat.le_of_lt_succ h)with h|rfl
  ·exact z4w e.2 f h
  ·exact e.1
theorem FunOK.all{P:Program}{num:FuncId->Nat}{code:Nat->Option zab}{n:Nat}(e:zst (zzj P num code) n=zrs (z41 num code) n)(hn:∀f:Nat,n<=f->code (num f)=none)(f:FuncId)(xf:zab)(h:code (num f)=some xf):FunOK P num f xf:=by
 by_cases hf:f<n
 ·have e:=z4w e f hf
  unfold zzj z41 at e
  rw[h]at e
  simp only[xao,xaf,xad]at e
  obtain⟨fn,h1,h2⟩:=e
  exact .of h1 (congrArg (·.1) h2) (congrArg (·.2.1) h2) (congrArg (·.2.2.1) h2) (congrArg (·.2.2.2.1) h2) (congrArg (·.2.2.2.2) h2)
 ·rw[hn f (Nat.le_of_not_lt hf)]at h;cases h
def zww(gids:List Nat)(f:FuncId):Nat:=(gids[f]?).getD (100000+f)
theorem yd8{gids:List Nat}{f:Nat}(h:gids.length<=f):zww gids f=100000+f:=by
 unfold zww
 rw[xaq h];rfl
def zli:zab:=
 ⟨[.tmp 2],(.seq (.region [0] [o0 2 (.mv (.c (.slice none 0 0)))]) (.seq (.region [2] [o3 3 0,
 o0 4 (.call .own 373 [.t 3]),o3 2 4]) .ret))⟩
def yi0:XCode:=
 (.seq (.seq (.region [0,3,4,12] [o3 9 4,o3 10 0,o8 11 10,
 o0 12 (.bin .lss (.t 9) (.t 11))]) (.cond (.t 12) .skip (.exit 0))) (.seq (.block 1 (.region [0,3,4] [o3 15 3,o3 16 0,o3 17 4,
 o0 18 (.idxA 2 (.t 16) (.t 17)),o6 19 2 18,
 o0 20 (.buildSlice 2 [(.int .u8 0),(.int .i64 0)] 1 [(0,2,(.t 19))]),
 o0 21 (.append 2 16 (.t 15) (.t 20)),o3 3 21])) (.region [0,3,4] [o3 13 4,
 o0 14 (.bin .add (.t 13) (.c (.int .i64 1))),o3 4 14])))
def zhn:zab:=
 ⟨[.tmp 2],(.seq (.region [0] [o0 2 (.mv (.c (.slice none 0 0)))]) (.seq (.region [0,3] [o3 5 0,o8 6 5,
 o0 7 (.bin .add (.t 6) (.c (.int .i64 1))),
 o0 8 (.makeSlice 2 16 [(.int .u8 0),(.int .i64 0)] (.c (.int .i64 0)) (.t 7)),o3 3 8]) (.seq (.seq (.region [0,3,4] [o0 4 (.mv (.c (.int .i64 0)))]) (.block 0 (.loop [0,3,4] yi0))) (.seq (.region [2] [o3 22 3,
 o0 23 (.build [(.int .u8 0),(.int .i64 0)] [(1,1,(.c (.int .i64 7777)))]),
 o0 24 (.buildSlice 2 [(.int .u8 0),(.int .i64 0)] 1 [(0,2,(.t 23))]),
 o0 25 (.append 2 16 (.t 22) (.t 24)),o3 26 0,o8 27 26,
 o0 28 (.slice 2 (.t 25) none (some (.t 27))),o3 2 28]) .ret))))⟩
def zqa:zab:=
 ⟨[.tmp 4],(.seq (.region [0,1] [o0 4 (.mv (.c (.bool false)))]) (.seq (.region [4] [o3 5 0,o3 6 1,
 o0 7 (.call .view 330 [(.t 5),(.t 6)]),o3 4 7]) .ret))⟩
def zth:XCode:=
 (.seq (.seq (.region [0,1,5,22] [o3 19 5,o3 20 1,o8 21 20,
 o0 22 (.bin .lss (.t 19) (.t 21))]) (.cond (.t 22) .skip (.exit 0))) (.seq (.block 1 (.seq (.region [0,1,5,33] [o3 25 0,o3 26 5,
 o0 27 (.idxA 2 (.t 25) (.t 26)),o6 28 2 27,o3 29 1,o3 30 5,
 o0 31 (.idxA 2 (.t 29) (.t 30)),o6 32 2 31,
 o0 33 (.eqCells true [0,0] (.t 28) (.t 32))]) (.cond (.t 33) (.seq (.region [4] [o0 4 (.mv (.c (.bool false)))]) .ret) .skip))) (.region [0,1,5] [o3 23 5,
 o0 24 (.bin .add (.t 23) (.c (.int .i64 1))),o3 5 24])))
def zlf:zab:=
 ⟨[.tmp 4],(.seq (.region [0,1] [o0 4 (.mv (.c (.bool false)))]) (.seq (.seq (.region [0,1,18] [o3 7 0,o8 8 7,o3 9 1,o8 10 9,
 o0 11 (.bin .neq (.t 8) (.t 10)),o3 12 11,
 o1 13 12 false (.mv (.t 0)),
 o1 14 12 false (.cap (.t 13)),
 o1 15 12 false (.mv (.t 1)),
 o1 16 12 false (.len (.t 15)),
 o1 17 12 false (.bin .leq (.t 14) (.t 16)),
 o0 18 (.pick (.t 12) (.c (.bool true)) (.t 17))]) (.cond (.t 18) (.seq (.region [4] [o0 4 (.mv (.c (.bool false)))]) .ret) .skip)) (.seq (.seq (.region [0,1,5] [o0 5 (.mv (.c (.int .i64 0)))]) (.block 0 (.loop [0,1,5] zth))) (.seq (.region [6] [o3 34 0,o3 35 1,o8 36 35,
 o0 37 (.bin .add (.t 36) (.c (.int .i64 1))),
 o0 38 (.slice 2 (.t 34) none (some (.t 37))),o3 39 1,o8 40 39,
 o0 41 (.idxA 2 (.t 38) (.t 40)),o6 42 2 41,
 o0 6 (.alloc [(.int .u8 0),(.int .i64 0)]),
 o2 (.store 2 (.t 6) (.t 42))]) (.seq (.region [4] [o5 43 1 6,o4 44 43,
 o0 45 (.bin .eql (.t 44) (.c (.int .i64 7777))),o3 4 45]) .ret)))))⟩
def zql:zab:=
 ⟨[.tmp 4],(.seq (.region [2,3] [o0 2 (.box 1 (.t 0)),
 o0 3 (.box 2 (.t 1)),
 o0 4 (.mv (.c (.bool false)))]) (.seq (.region [4] [o4 5 2,o6 6 2 3,
 o0 7 (.call .share 656 [(.t 5),(.t 6)]),o3 8 7,
 o1 9 8 true (.load none (.t 2)),
 o1 10 8 true (.load (some 2) (.t 3)),
 o1 11 8 true (.buildSlice 2 [(.int .u8 0),(.int .i64 0)] 1 [(0,2,(.t 10))]),
 o1 12 8 true (.call .share 654 [(.t 9),(.t 11)]),
 o1 13 8 true (.mkClo 647 [.t 2]),
 o1 14 8 true (.call .share 745 [(.t 12),(.t 13)]),
 o1 15 8 true (.un .not (.t 14)),
 o0 16 (.pick (.t 8) (.t 15) (.c (.bool false))),o3 4 16]) .ret))⟩
def znl:XCode:=
 (.seq (.seq (.region [0,5,6,18] [o3 15 6,o3 16 5,o8 17 16,
 o0 18 (.bin .lss (.t 15) (.t 17))]) (.cond (.t 18) .skip (.exit 0))) (.seq (.block 1 (.seq (.region [0,5,6,33] [o3 21 5,o3 22 6,
 o0 23 (.idxA 1 (.t 21) (.t 22)),o4 24 23,o3 25 24,
 o1 26 25 true (.mv (.t 0)),
 o1 27 25 true (.mv (.t 0)),
 o1 28 25 true (.mv (.t 6)),
 o1 29 25 true (.idxA 5 (.t 27) (.t 28)),
 o1 30 25 true (.load (some 5) (.t 29)),
 o1 31 25 true (.call .view 508 [(.t 26),(.t 30)]),
 o1 32 25 true (.un .not (.t 31)),
 o0 33 (.pick (.t 25) (.t 32) (.c (.bool false)))]) (.cond (.t 33) (.seq (.region [4] [o0 4 (.mv (.c (.bool false)))]) .ret) .skip))) (.region [0,5,6] [o3 19 6,
 o0 20 (.bin .add (.t 19) (.c (.int .i64 1))),o3 6 20])))
def znk:zab:=
 ⟨[.tmp 4],(.seq (.region [0,3] [o0 3 (.box 2 (.t 1)),
 o0 4 (.mv (.c (.bool false)))]) (.seq (.seq (.region [0,3,10] [o3 7 0,o6 8 2 3,
 o0 9 (.call .view 510 [(.t 7),(.t 8)]),
 o0 10 (.un .not (.t 9))]) (.cond (.t 10) (.seq (.region [4] [o0 4 (.mv (.c (.bool false)))]) .ret) .skip)) (.seq (.region [0,5] [o3 11 0,o6 12 2 3,
 o0 13 (.buildSlice 2 [(.int .u8 0),(.int .i64 0)] 1 [(0,2,(.t 12))]),
 o0 14 (.call .own 509 [(.t 11),(.t 13)]),o3 5 14]) (.seq (.seq (.region [0,5,6] [o0 6 (.mv (.c (.int .i64 0)))]) (.block 0 (.loop [0,5,6] znl))) (.seq (.region [4] [o0 4 (.mv (.c (.bool true)))]) .ret)))))⟩
def zqf:zab:=
 ⟨[.tmp 2],(.seq (.region [0] [o0 2 (.mv (.c (.int .i64 0)))]) (.seq (.region [2] [o3 3 0,
 o0 4 (.call .view 339 [.t 3]),o3 2 4]) .ret))⟩
def ztm:XCode:=
 (.seq (.seq (.region [0,3,4,12] [o3 9 4,o3 10 0,o8 11 10,
 o0 12 (.bin .lss (.t 9) (.t 11))]) (.cond (.t 12) .skip (.exit 0))) (.seq (.block 1 (.region [0,3,4] [o3 15 3,o3 16 0,o3 17 4,
 o0 18 (.idxA 5 (.t 16) (.t 17)),o6 19 5 18,
 o0 20 (.call .view 372 [.t 19]),
 o0 21 (.buildSlice 5 [(.int .u8 0),(.string .empty),(.slice none 0 0),(.int .i64 0),(.int .i64 0)] 1 [(0,5,(.t 20))]),
 o0 22 (.append 5 64 (.t 15) (.t 21)),o3 3 22])) (.region [0,3,4] [o3 13 4,
 o0 14 (.bin .add (.t 13) (.c (.int .i64 1))),o3 4 14])))
def zyb:zab:=
 ⟨[.tmp 2],(.seq (.region [0] [o0 2 (.mv (.c (.slice none 0 0)))]) (.seq (.region [0,3] [o3 5 0,o8 6 5,
 o0 7 (.bin .add (.t 6) (.c (.int .i64 1))),
 o0 8 (.makeSlice 5 64 [(.int .u8 0),(.string .empty),(.slice none 0 0),(.int .i64 0),(.int .i64 0)] (.c (.int .i64 0)) (.t 7)),o3 3 8]) (.seq (.seq (.region [0,3,4] [o0 4 (.mv (.c (.int .i64 0)))]) (.block 0 (.loop [0,3,4] ztm))) (.seq (.region [2] [o3 23 3,
 o0 24 (.build [(.int .u8 0),(.string .empty),(.slice none 0 0),(.int .i64 0),(.int .i64 0)] [(1,1,(.c (.string ⟨#[115,112,97,114,101]⟩)))]),
 o0 25 (.buildSlice 5 [(.int .u8 0),(.string .empty),(.slice none 0 0),(.int .i64 0),(.int .i64 0)] 1 [(0,5,(.t 24))]),
 o0 26 (.append 5 64 (.t 23) (.t 25)),o3 27 0,o8 28 27,
 o0 29 (.slice 5 (.t 26) none (some (.t 28))),o3 2 29]) .ret))))⟩
def zke:XCode:=
 (.seq (.seq (.region [4,6,7,16] [o3 13 7,o4 14 4,o8 15 14,
 o0 16 (.bin .lss (.t 13) (.t 15))]) (.cond (.t 16) .skip (.exit 0))) (.seq (.block 1 (.region [4,6,7] [o3 19 6,o4 20 4,o3 21 7,
 o0 22 (.idxA 1 (.t 20) (.t 21)),o4 23 22,o7 24 23,o5 25 2 24,o4 26 25,
 o0 27 (.callV (.t 19) [.t 26])])) (.region [4,6,7] [o3 17 7,
 o0 18 (.bin .add (.t 17) (.c (.int .i64 1))),o3 7 18])))
def zqn:zab:=
 ⟨[.cell 4 none],(.seq (.region [1,2,4] [o0 2 (.box 1 (.t 0)),
 o0 4 (.alloc [(.slice none 0 0)])]) (.seq (.region [1,2,4,5] [o0 8 (.makeMap none),
 o0 5 (.alloc [(.map none)]),
 o2 (.store 1 (.t 5) (.t 8))]) (.seq (.region [1,4,6] [o0 9 (.mkClo 655 [(.t 2),(.t 5),(.t 4)]),o3 6 9]) (.seq (.region [4,6] [o3 10 6,o3 11 1,
 o0 12 (.callV (.t 10) [.t 11])]) (.seq (.seq (.region [4,6,7] [o0 7 (.mv (.c (.int .i64 0)))]) (.block 0 (.loop [4,6,7] zke))) (.seq (.region [4] [o4 28 4,
 o2 (.store 1 (.t 4) (.t 28))]) .ret))))))⟩
def zkc:XCode:=
 (.seq (.seq (.region [0,5,6,16] [o3 14 6,o8 15 14,
 o0 16 (.bin .gtr (.t 15) (.c (.int .i64 0)))]) (.cond (.t 16) .skip (.exit 0))) (.block 1 (.seq (.region [0,5,6,7] [o3 17 0,o3 18 6,o3 19 6,o8 20 19,
 o0 21 (.bin .sub (.t 20) (.c (.int .i64 1))),
 o0 22 (.idxA 2 (.t 18) (.t 21)),o6 23 2 22,
 o0 24 (.call .view 502 [(.t 17),(.t 23)]),o3 7 24]) (.seq (.region [0,5,6,7] [o3 25 6,o3 26 6,o8 27 26,
 o0 28 (.bin .sub (.t 27) (.c (.int .i64 1))),
 o0 29 (.slice 2 (.t 25) none (some (.t 28))),o3 6 29]) (.seq (.region [0,5,6,7,38] [o3 30 7,
 o0 31 (.bin .geq (.t 30) (.c (.int .i64 0))),o3 32 31,
 o1 33 32 true (.mv (.t 5)),
 o1 34 32 true (.mv (.t 7)),
 o1 35 32 true (.idxA 1 (.t 33) (.t 34)),
 o1 36 32 true (.load none (.t 35)),
 o1 37 32 true (.un .not (.t 36)),
 o0 38 (.pick (.t 32) (.t 37) (.c (.bool false)))]) (.cond (.t 38) (.seq (.region [0,5,6,7] [o3 39 5,o3 40 7,
 o0 41 (.idxA 1 (.t 39) (.t 40)),
 o2 (.store 1 (.t 41) (.c (.bool true)))]) (.region [0,5,6] [o3 42 6,o3 43 0,o3 44 7,
 o0 45 (.idxA 5 (.t 43) (.t 44)),o5 46 2 45,o4 47 46,
 o0 48 (.append 2 16 (.t 42) (.t 47)),o3 6 48])) .skip))))))
def znn:zab:=
 ⟨[.tmp 4],(.seq (.region [0,1] [o0 4 (.mv (.c (.slice none 0 0)))]) (.seq (.region [0,1,5] [o3 8 0,o8 9 8,
 o0 10 (.makeSlice 1 1 [(.bool false)] (.t 9) (.t 9)),o3 5 10]) (.seq (.region [0,1,5,6] [o0 6 (.mv (.c (.slice none 0 0)))]) (.seq (.region [0,5,6] [o3 11 6,o3 12 1,
 o0 13 (.append 2 16 (.t 11) (.t 12)),o3 6 13]) (.seq (.block 0 (.loop [0,5,6] zkc)) (.seq (.region [4] [o3 49 5,o3 4 49]) .ret))))))⟩
def ztg:XCode:=
 (.seq (.seq (.region [0,1,5,22] [o3 19 5,o3 20 1,o8 21 20,
 o0 22 (.bin .lss (.t 19) (.t 21))]) (.cond (.t 22) .skip (.exit 0))) (.seq (.block 1 (.seq (.region [0,1,5,34] [o3 25 0,o3 26 5,
 o0 27 (.idxA 5 (.t 25) (.t 26)),o6 28 5 27,o3 29 1,o3 30 5,
 o0 31 (.idxA 5 (.t 29) (.t 30)),o6 32 5 31,
 o0 33 (.call .view 329 [(.t 28),(.t 32)]),
 o0 34 (.un .not (.t 33))]) (.cond (.t 34) (.seq (.region [4] [o0 4 (.mv (.c (.bool false)))]) .ret) .skip))) (.region [0,1,5] [o3 23 5,
 o0 24 (.bin .add (.t 23) (.c (.int .i64 1))),o3 5 24])))
def zp9:zab:=
 ⟨[.tmp 4],(.seq (.region [0,1] [o0 4 (.mv (.c (.bool false)))]) (.seq (.seq (.region [0,1,18] [o3 7 0,o8 8 7,o3 9 1,o8 10 9,
 o0 11 (.bin .neq (.t 8) (.t 10)),o3 12 11,
 o1 13 12 false (.mv (.t 0)),
 o1 14 12 false (.cap (.t 13)),
 o1 15 12 false (.mv (.t 1)),
 o1 16 12 false (.len (.t 15)),
 o1 17 12 false (.bin .leq (.t 14) (.t 16)),
 o0 18 (.pick (.t 12) (.c (.bool true)) (.t 17))]) (.cond (.t 18) (.seq (.region [4] [o0 4 (.mv (.c (.bool false)))]) .ret) .skip)) (.seq (.seq (.region [0,1,5] [o0 5 (.mv (.c (.int .i64 0)))]) (.block 0 (.loop [0,1,5] ztg))) (.seq (.region [6] [o3 35 0,o3 36 1,o8 37 36,
 o0 38 (.bin .add (.t 37) (.c (.int .i64 1))),
 o0 39 (.slice 5 (.t 35) none (some (.t 38))),o3 40 1,o8 41 40,
 o0 42 (.idxA 5 (.t 39) (.t 41)),o6 43 5 42,
 o0 6 (.alloc [(.int .u8 0),(.string .empty),(.slice none 0 0),(.int .i64 0),(.int .i64 0)]),
 o2 (.store 5 (.t 6) (.t 43))]) (.seq (.region [4] [o5 44 1 6,o4 45 44,
 o0 46 (.bin .eql (.t 45) (.c (.string ⟨#[115,112,97,114,101]⟩))),o3 4 46]) .ret)))))⟩
def zbq:zab:=
 ⟨[.tmp 4],(.seq (.region [0,3] [o0 3 (.box 2 (.t 1)),
 o0 4 (.mv (.c (.bool false)))]) (.seq (.seq (.region [0,3,6] [o5 5 0 3,o4 6 5]) (.block 0 (.seq (.region [0,3,6,7] [o0 8 (.bin .eql (.t 6) (.c (.int .u8 0))),o3 7 8]) (.cond (.t 7) (.seq (.region [4] [o5 9 1 3,o4 10 9,
 o0 11 (.bin .eql (.t 10) (.c (.int .i64 0))),o3 4 11]) .ret) (.seq (.region [0,3,6,12] [o0 13 (.bin .eql (.t 6) (.c (.int .u8 1))),o3 12 13]) (.cond (.t 12) (.seq (.region [4] [o5 14 1 3,o4 15 14,
 o0 16 (.bin .eql (.t 15) (.c (.int .i64 0))),o3 17 16,
 o1 18 17 false (.fieldA 1 (.t 3)),
 o1 19 17 false (.load none (.t 18)),
 o1 20 17 false (.bin .eql (.t 19) (.c (.int .i64 1))),
 o0 21 (.pick (.t 17) (.c (.bool true)) (.t 20)),o3 4 21]) .ret) (.seq (.region [0,3,22] [o0 23 (.bin .eql (.t 6) (.c (.int .u8 2))),o3 22 23]) (.cond (.t 22) (.seq (.region [4] [o0 4 (.mv (.c (.bool true)))]) .ret) .skip)))))))) (.seq (.region [4] [o3 24 0,o6 25 2 3,
 o0 26 (.call .share 651 [(.t 24),(.t 25)]),
 o0 27 (.eqNil true 1 (.t 26)),o3 4 27]) .ret)))⟩
def znr:zab:=
 ⟨[.tmp 4],(.seq (.region [0,1] [o0 4 (.mv (.c (.bool false)))]) (.seq (.region [4] [o3 5 0,o3 6 1,
 o0 7 (.call .share 755 [(.t 5),(.t 6)]),
 o0 8 (.bin .geq (.t 7) (.c (.int .i64 0))),o3 4 8]) .ret))⟩
def zqm:zab:=
 ⟨[.tmp 3],(.seq (.region [0,1] [o0 3 (.mv (.c (.bool false)))]) (.seq (.region [3] [o4 4 1,o3 5 0,
 o0 6 (.call .share 652 [(.t 4),(.t 5)]),
 o0 7 (.un .not (.t 6)),o3 3 7]) .ret))⟩
def zan:zab:=
 ⟨[.tmp 4],(.seq (.region [2,3] [o0 2 (.box 1 (.t 0)),
 o0 3 (.box 1 (.t 1)),
 o0 4 (.mv (.c (.bool false)))]) (.seq (.region [2,3,5] [o4 7 3,o7 8 7,o5 9 2 8,o4 10 9,o8 11 10,o3 5 11]) (.seq (.region [2,3,5,6] [o4 12 3,o7 13 12,o5 14 1 13,o4 15 14,
 o0 16 (.bin .eql (.t 15) (.c (.string .empty))),o3 17 16,
 o1 18 17 true (.load none (.t 3)),
 o1 19 17 true (.nilCheck (.t 18)),
 o1 20 17 true (.fieldA 4 (.t 19)),
 o1 21 17 true (.load none (.t 20)),
 o1 22 17 true (.bin .eql (.t 21) (.c (.int .i64 0))),
 o0 23 (.pick (.t 17) (.t 22) (.c (.bool false))),o3 24 23,
 o1 25 24 true (.load none (.t 3)),
 o1 26 24 true (.nilCheck (.t 25)),
 o1 27 24 true (.fieldA 3 (.t 26)),
 o1 28 24 true (.load none (.t 27)),
 o1 29 24 true (.mv (.t 5)),
 o1 30 24 true (.bin .geq (.t 28) (.t 29)),
 o0 31 (.pick (.t 24) (.t 30) (.c (.bool false))),o3 32 31,
 o1 33 32 true (.load none (.t 3)),
 o1 34 32 true (.nilCheck (.t 33)),
 o1 35 32 true (.fieldA 3 (.t 34)),
 o1 36 32 true (.load none (.t 35)),
 o1 37 32 true (.bin .leq (.t 36) (.c (.int .i64 262144))),
 o0 38 (.pick (.t 32) (.t 37) (.c (.bool false))),o3 6 38]) (.seq (.seq (.region [2,3,5,6,44] [o4 39 3,o7 40 39,o5 41 2 40,o4 42 41,
 o0 43 (.mkClo 653 [(.t 2),(.t 3)]),
 o0 44 (.call .share 749 [(.t 42),(.t 43)])]) (.cond (.t 44) (.seq (.region [4] [o0 4 (.mv (.c (.bool false)))]) .ret) .skip)) (.seq (.seq (.region [2,3,5,6,48] [o4 45 3,o7 46 45,o5 47 0 46,o4 48 47]) (.block 0 (.seq (.region [2,3,5,6,48,49] [o0 50 (.bin .eql (.t 48) (.c (.int .u8 3))),o3 49 50]) (.cond (.t 49) (.seq (.region [4] [o4 51 3,o7 52 51,o5 53 1 52,o4 54 53,
 o0 55 (.lenS (.t 54)),
 o0 56 (.bin .leq (.t 55) (.c (.int .i64 4096))),o3 57 56,
 o1 58 57 true (.mv (.t 5)),
 o1 59 57 true (.bin .eql (.t 58) (.c (.int .i64 0))),
 o0 60 (.pick (.t 57) (.t 59) (.c (.bool false))),o3 61 60,
 o1 62 61 true (.load none (.t 3)),
 o1 63 61 true (.nilCheck (.t 62)),
 o1 64 61 true (.fieldA 3 (.t 63)),
 o1 65 61 true (.load none (.t 64)),
 o1 66 61 true (.bin .eql (.t 65) (.c (.int .i64 0))),
 o0 67 (.pick (.t 61) (.t 66) (.c (.bool false))),o3 68 67,
 o1 69 68 true (.load none (.t 3)),
 o1 70 68 true (.nilCheck (.t 69)),
 o1 71 68 true (.fieldA 4 (.t 70)),
 o1 72 68 true (.load none (.t 71)),
 o1 73 68 true (.bin .eql (.t 72) (.c (.int .i64 0))),
 o0 74 (.pick (.t 68) (.t 73) (.c (.bool false))),o3 4 74]) .ret) (.seq (.region [2,3,5,6,48,75] [o0 76 (.bin .eql (.t 48) (.c (.int .u8 4))),o3 75 76]) (.cond (.t 75) (.seq (.region [4] [o3 77 6,o3 78 77,
 o1 79 78 true (.mv (.t 5)),
 o1 80 78 true (.bin .leq (.t 79) (.c (.int .i64 65536))),
 o0 81 (.pick (.t 78) (.t 80) (.c (.bool false))),o3 4 81]) .ret) (.seq (.region [2,3,5,6,48,82] [o0 83 (.bin .eql (.t 48) (.c (.int .u8 5))),o3 82 83]) (.cond (.t 82) (.seq (.region [4] [o3 84 6,o3 85 84,
 o1 86 85 true (.mv (.t 5)),
 o1 87 85 true (.bin .rem (.t 86) (.c (.int .i64 2))),
 o1 88 85 true (.bin .eql (.t 87) (.c (.int .i64 0))),
 o0 89 (.pick (.t 85) (.t 88) (.c (.bool false))),o3 90 89,
 o1 91 90 true (.mv (.t 5)),
 o1 92 90 true (.bin .leq (.t 91) (.c (.int .i64 131072))),
 o0 93 (.pick (.t 90) (.t 92) (.c (.bool false))),o3 94 93,
 o1 95 94 true (.load none (.t 2)),
 o1 96 94 true (.load none (.t 3)),
 o1 97 94 true (.nilCheck (.t 96)),
 o1 98 94 true (.fieldA 2 (.t 97)),
 o1 99 94 true (.load none (.t 98)),
 o1 100 94 true (.call .share 650 [(.t 95),(.t 99)]),
 o0 101 (.pick (.t 94) (.t 100) (.c (.bool false))),o3 4 101]) .ret) (.seq (.region [3,5,102] [o0 103 (.bin .eql (.t 48) (.c (.int .u8 6))),o3 102 103]) (.cond (.t 102) (.seq (.region [4] [o4 104 3,o7 105 104,o5 106 1 105,o4 107 106,
 o0 108 (.bin .eql (.t 107) (.c (.string .empty))),o3 109 108,
 o1 110 109 true (.load none (.t 3)),
 o1 111 109 true (.nilCheck (.t 110)),
 o1 112 109 true (.fieldA 3 (.t 111)),
 o1 113 109 true (.load none (.t 112)),
 o1 114 109 true (.bin .eql (.t 113) (.c (.int .i64 0))),
 o0 115 (.pick (.t 109) (.t 114) (.c (.bool false))),o3 116 115,
 o1 117 116 true (.load none (.t 3)),
 o1 118 116 true (.nilCheck (.t 117)),
 o1 119 116 true (.fieldA 4 (.t 118)),
 o1 120 116 true (.load none (.t 119)),
 o1 121 116 true (.bin .geq (.t 120) (.c (.int .i64 0))),
 o0 122 (.pick (.t 116) (.t 121) (.c (.bool false))),o3 123 122,
 o1 124 123 true (.load none (.t 3)),
 o1 125 123 true (.nilCheck (.t 124)),
 o1 126 123 true (.fieldA 4 (.t 125)),
 o1 127 123 true (.load none (.t 126)),
 o1 128 123 true (.bin .lss (.t 127) (.c (.int .i64 256))),
 o0 129 (.pick (.t 123) (.t 128) (.c (.bool false))),o3 4 129]) .ret) .skip)))))))))) (.seq (.region [4] [o4 130 3,o7 131 130,o5 132 1 131,o4 133 132,
 o0 134 (.bin .eql (.t 133) (.c (.string .empty))),o3 135 134,
 o1 136 135 true (.load none (.t 3)),
 o1 137 135 true (.nilCheck (.t 136)),
 o1 138 135 true (.fieldA 3 (.t 137)),
 o1 139 135 true (.load none (.t 138)),
 o1 140 135 true (.bin .eql (.t 139) (.c (.int .i64 0))),
 o0 141 (.pick (.t 135) (.t 140) (.c (.bool false))),o3 142 141,
 o1 143 142 true (.load none (.t 3)),
 o1 144 142 true (.nilCheck (.t 143)),
 o1 145 142 true (.fieldA 4 (.t 144)),
 o1 146 142 true (.load none (.t 145)),
 o1 147 142 true (.bin .eql (.t 146) (.c (.int .i64 0))),
 o0 148 (.pick (.t 142) (.t 147) (.c (.bool false))),o3 149 148,
 o1 150 149 true (.mv (.t 5)),
 o1 151 149 true (.bin .eql (.t 150) (.c (.int .i64 1))),
 o0 152 (.pick (.t 149) (.t 151) (.c (.bool false))),o3 4 152]) .ret))))))⟩
def zer:zab:=
 ⟨[.tmp 4],(.seq (.region [0,3] [o0 3 (.box 2 (.t 1)),
 o0 4 (.mv (.c (.bool false)))]) (.seq (.seq (.region [0,3,6] [o5 5 0 3,o4 6 5]) (.block 0 (.seq (.region [0,3,6,7] [o0 8 (.bin .eql (.t 6) (.c (.int .u8 0))),o3 7 8]) (.cond (.t 7) (.seq (.region [4] [o5 9 1 3,o4 10 9,
 o0 11 (.bin .eql (.t 10) (.c (.int .i64 0))),o3 4 11]) .ret) (.seq (.region [0,3,6,12] [o0 13 (.bin .eql (.t 6) (.c (.int .u8 1))),o3 12 13]) (.cond (.t 12) (.seq (.region [4] [o5 14 1 3,o4 15 14,
 o0 16 (.bin .eql (.t 15) (.c (.int .i64 0))),o3 17 16,
 o1 18 17 false (.fieldA 1 (.t 3)),
 o1 19 17 false (.load none (.t 18)),
 o1 20 17 false (.bin .eql (.t 19) (.c (.int .i64 1))),
 o0 21 (.pick (.t 17) (.c (.bool true)) (.t 20)),o3 4 21]) .ret) (.seq (.region [0,3,22] [o0 23 (.bin .eql (.t 6) (.c (.int .u8 2))),o3 22 23]) (.cond (.t 22) (.seq (.region [4] [o0 4 (.mv (.c (.bool true)))]) .ret) .skip)))))))) (.seq (.region [4] [o3 24 0,o6 25 2 3,
 o0 26 (.call .view 502 [(.t 24),(.t 25)]),
 o0 27 (.bin .geq (.t 26) (.c (.int .i64 0))),o3 4 27]) .ret)))⟩
def zbx:zab:=
 ⟨[.tmp 4],(.seq (.region [0,3] [o0 3 (.box 5 (.t 1)),
 o0 4 (.mv (.c (.bool false)))]) (.seq (.region [0,3,5] [o5 6 2 3,o4 7 6,o8 8 7,o3 5 8]) (.seq (.seq (.region [0,3,5,10] [o5 9 0 3,o4 10 9]) (.block 0 (.seq (.region [0,3,5,10,11] [o0 12 (.bin .eql (.t 10) (.c (.int .u8 3))),o3 11 12]) (.cond (.t 11) (.seq (.region [4] [o5 13 1 3,o4 14 13,
 o0 15 (.lenS (.t 14)),
 o0 16 (.bin .leq (.t 15) (.c (.int .i64 4096))),o3 17 16,
 o1 18 17 true (.mv (.t 5)),
 o1 19 17 true (.bin .eql (.t 18) (.c (.int .i64 0))),
 o0 20 (.pick (.t 17) (.t 19) (.c (.bool false))),o3 21 20,
 o1 22 21 true (.fieldA 3 (.t 3)),
 o1 23 21 true (.load none (.t 22)),
 o1 24 21 true (.bin .eql (.t 23) (.c (.int .i64 0))),
 o0 25 (.pick (.t 21) (.t 24) (.c (.bool false))),o3 26 25,
 o1 27 26 true (.fieldA 4 (.t 3)),
 o1 28 26 true (.load none (.t 27)),
 o1 29 26 true (.bin .eql (.t 28) (.c (.int .i64 0))),
 o0 30 (.pick (.t 26) (.t 29) (.c (.bool false))),o3 4 30]) .ret) (.seq (.region [0,3,5,10,31] [o0 32 (.bin .eql (.t 10) (.c (.int .u8 4))),o3 31 32]) (.cond (.t 31) (.seq (.region [4] [o5 33 1 3,o4 34 33,
 o0 35 (.bin .eql (.t 34) (.c (.string .empty))),o3 36 35,
 o1 37 36 true (.fieldA 4 (.t 3)),
 o1 38 36 true (.load none (.t 37)),
 o1 39 36 true (.bin .eql (.t 38) (.c (.int .i64 0))),
 o0 40 (.pick (.t 36) (.t 39) (.c (.bool false))),o3 41 40,
 o1 42 41 true (.mv (.t 5)),
 o1 43 41 true (.bin .leq (.t 42) (.c (.int .i64 65536))),
 o0 44 (.pick (.t 41) (.t 43) (.c (.bool false))),o3 45 44,
 o1 46 45 true (.fieldA 3 (.t 3)),
 o1 47 45 true (.load none (.t 46)),
 o1 48 45 true (.mv (.t 5)),
 o1 49 45 true (.bin .geq (.t 47) (.t 48)),
 o0 50 (.pick (.t 45) (.t 49) (.c (.bool false))),o3 51 50,
 o1 52 51 true (.fieldA 3 (.t 3)),
 o1 53 51 true (.load none (.t 52)),
 o1 54 51 true (.bin .leq (.t 53) (.c (.int .i64 262144))),
 o0 55 (.pick (.t 51) (.t 54) (.c (.bool false))),o3 56 55,
 o1 57 56 true (.mv (.t 0)),
 o1 58 56 true (.fieldA 2 (.t 3)),
 o1 59 56 true (.load none (.t 58)),
 o1 60 56 true (.call .view 506 [(.t 57),(.t 59),(.c (.bool false))]),
 o0 61 (.pick (.t 56) (.t 60) (.c (.bool false))),o3 4 61]) .ret) (.seq (.region [0,3,5,10,62] [o0 63 (.bin .eql (.t 10) (.c (.int .u8 5))),o3 62 63]) (.cond (.t 62) (.seq (.region [4] [o5 64 1 3,o4 65 64,
 o0 66 (.bin .eql (.t 65) (.c (.string .empty))),o3 67 66,
 o1 68 67 true (.fieldA 4 (.t 3)),
 o1 69 67 true (.load none (.t 68)),
 o1 70 67 true (.bin .eql (.t 69) (.c (.int .i64 0))),
 o0 71 (.pick (.t 67) (.t 70) (.c (.bool false))),o3 72 71,
 o1 73 72 true (.mv (.t 5)),
 o1 74 72 true (.bin .rem (.t 73) (.c (.int .i64 2))),
 o1 75 72 true (.bin .eql (.t 74) (.c (.int .i64 0))),
 o0 76 (.pick (.t 72) (.t 75) (.c (.bool false))),o3 77 76,
 o1 78 77 true (.mv (.t 5)),
 o1 79 77 true (.bin .leq (.t 78) (.c (.int .i64 131072))),
 o0 80 (.pick (.t 77) (.t 79) (.c (.bool false))),o3 81 80,
 o1 82 81 true (.fieldA 3 (.t 3)),
 o1 83 81 true (.load none (.t 82)),
 o1 84 81 true (.mv (.t 5)),
 o1 85 81 true (.bin .geq (.t 83) (.t 84)),
 o0 86 (.pick (.t 81) (.t 85) (.c (.bool false))),o3 87 86,
 o1 88 87 true (.fieldA 3 (.t 3)),
 o1 89 87 true (.load none (.t 88)),
 o1 90 87 true (.bin .leq (.t 89) (.c (.int .i64 262144))),
 o0 91 (.pick (.t 87) (.t 90) (.c (.bool false))),o3 92 91,
 o1 93 92 true (.mv (.t 0)),
 o1 94 92 true (.fieldA 2 (.t 3)),
 o1 95 92 true (.load none (.t 94)),
 o1 96 92 true (.call .view 506 [(.t 93),(.t 95),(.c (.bool false))]),
 o0 97 (.pick (.t 92) (.t 96) (.c (.bool false))),o3 98 97,
 o1 99 98 true (.mv (.t 0)),
 o1 100 98 true (.fieldA 2 (.t 3)),
 o1 101 98 true (.load none (.t 100)),
 o1 102 98 true (.call .view 507 [(.t 99),(.t 101)]),
 o0 103 (.pick (.t 98) (.t 102) (.c (.bool false))),o3 4 103]) .ret) (.seq (.region [0,3,5,104] [o0 105 (.bin .eql (.t 10) (.c (.int .u8 6))),o3 104 105]) (.cond (.t 104) (.seq (.region [4] [o5 106 1 3,o4 107 106,
 o0 108 (.bin .eql (.t 107) (.c (.string .empty))),o3 109 108,
 o1 110 109 true (.fieldA 3 (.t 3)),
 o1 111 109 true (.load none (.t 110)),
 o1 112 109 true (.bin .eql (.t 111) (.c (.int .i64 0))),
 o0 113 (.pick (.t 109) (.t 112) (.c (.bool false))),o3 114 113,
 o1 115 114 true (.fieldA 4 (.t 3)),
 o1 116 114 true (.load none (.t 115)),
 o1 117 114 true (.bin .geq (.t 116) (.c (.int .i64 0))),
 o0 118 (.pick (.t 114) (.t 117) (.c (.bool false))),o3 119 118,
 o1 120 119 true (.fieldA 4 (.t 3)),
 o1 121 119 true (.load none (.t 120)),
 o1 122 119 true (.bin .lss (.t 121) (.c (.int .i64 256))),
 o0 123 (.pick (.t 119) (.t 122) (.c (.bool false))),o3 124 123,
 o1 125 124 true (.mv (.t 0)),
 o1 126 124 true (.fieldA 2 (.t 3)),
 o1 127 124 true (.load none (.t 126)),
 o1 128 124 true (.call .view 506 [(.t 125),(.t 127),(.c (.bool true))]),
 o0 129 (.pick (.t 124) (.t 128) (.c (.bool false))),o3 4 129]) .ret) .skip)))))))))) (.seq (.region [4] [o5 130 1 3,o4 131 130,
 o0 132 (.bin .eql (.t 131) (.c (.string .empty))),o3 133 132,
 o1 134 133 true (.fieldA 3 (.t 3)),
 o1 135 133 true (.load none (.t 134)),
 o1 136 133 true (.bin .eql (.t 135) (.c (.int .i64 0))),
 o0 137 (.pick (.t 133) (.t 136) (.c (.bool false))),o3 138 137,
 o1 139 138 true (.fieldA 4 (.t 3)),
 o1 140 138 true (.load none (.t 139)),
 o1 141 138 true (.bin .eql (.t 140) (.c (.int .i64 0))),
 o0 142 (.pick (.t 138) (.t 141) (.c (.bool false))),o3 143 142,
 o1 144 143 true (.mv (.t 5)),
 o1 145 143 true (.bin .eql (.t 144) (.c (.int .i64 1))),
 o0 146 (.pick (.t 143) (.t 145) (.c (.bool false))),o3 147 146,
 o1 148 147 true (.mv (.t 0)),
 o1 149 147 true (.fieldA 2 (.t 3)),
 o1 150 147 true (.load none (.t 149)),
 o1 151 147 true (.call .view 506 [(.t 148),(.t 150),(.c (.bool false))]),
 o0 152 (.pick (.t 147) (.t 151) (.c (.bool false))),o3 4 152]) .ret))))⟩
def zqb:XCode:=
 (.seq (.seq (.region [0,3,4,14] [o3 7 4,o3 8 0,o8 9 8,
 o0 10 (.bin .lss (.t 7) (.t 9)),o3 11 10,
 o1 12 11 true (.mv (.t 3)),
 o1 13 11 true (.bin .leq (.t 12) (.c (.int .i64 1048576))),
 o0 14 (.pick (.t 11) (.t 13) (.c (.bool false)))]) (.cond (.t 14) .skip (.exit 0))) (.seq (.block 1 (.region [0,3,4] [o3 17 3,o3 18 0,o3 19 4,
 o0 20 (.idxA 5 (.t 18) (.t 19)),o6 21 5 20,
 o0 22 (.call .view 338 [.t 21]),
 o0 23 (.bin .add (.t 17) (.t 22)),o3 3 23])) (.region [0,3,4] [o3 15 4,
 o0 16 (.bin .add (.t 15) (.c (.int .i64 1))),o3 4 16])))
def znf:zab:=
 ⟨[.tmp 2],(.seq (.region [0] [o0 2 (.mv (.c (.int .i64 0)))]) (.seq (.region [0,3] [o3 5 0,o8 6 5,o3 3 6]) (.seq (.seq (.region [0,3,4] [o0 4 (.mv (.c (.int .i64 0)))]) (.block 0 (.loop [0,3,4] zqb))) (.seq (.region [2] [o3 24 3,o3 2 24]) .ret))))⟩
def zqg:zab:=
 ⟨[.cell 2 (some 5)],(.seq (.region [1,2] [o0 1 (.box 5 (.t 0)),
 o0 2 (.alloc [(.int .u8 0),(.string .empty),(.slice none 0 0),(.int .i64 0),(.int .i64 0)])]) (.seq (.region [2] [o5 3 0 1,o4 4 3,o5 5 1 1,o4 6 5,o5 7 2 1,o4 8 7,
 o0 9 (.call .view 379 [.t 8]),o5 10 3 1,o4 11 10,o5 12 4 1,o4 13 12,
 o0 14 (.build [(.int .u8 0),(.string .empty),(.slice none 0 0),(.int .i64 0),(.int .i64 0)] [(0,1,(.t 4)),(1,1,(.t 6)),(2,1,(.t 9)),(3,1,(.t 11)),(4,1,(.t 13))]),
 o2 (.store 5 (.t 2) (.t 14))]) .ret))⟩
def zdh:XCode:=
 (.seq (.region [1,2,3,8,9,10,11] [o0 11 (.bin .lss (.t 10) (.t 9))]) (.seq (.cond (.t 11) .skip (.exit 0)) (.seq (.block 1 (.seq (.region [1,2,3,6,8,9,10] [o0 12 (.idxA 2 (.t 8) (.t 10)),o6 13 2 12,
 o0 6 (.alloc [(.int .u8 0),(.int .i64 0)]),
 o2 (.store 2 (.t 6) (.t 13))]) (.seq (.region [1,2,3,7,8,9,10] [o4 14 1,o6 15 2 6,
 o0 16 (.call .share 651 [(.t 14),(.t 15)]),o3 7 16]) (.seq (.region [1,2,3,7,8,9,10,24] [o3 17 7,
 o0 18 (.eqNil true 1 (.t 17)),o3 19 18,
 o1 20 19 true (.load none (.t 2)),
 o1 21 19 true (.mv (.t 7)),
 o1 22 19 true (.lookup 3 [(.bool false)] false (.t 20) (.t 21) false),
 o1 23 19 true (.un .not (.t 22)),
 o0 24 (.pick (.t 19) (.t 23) (.c (.bool false)))]) (.cond (.t 24) (.seq (.region [1,2,3,7,8,9,10] [o4 25 2,o3 26 7,
 o2 (.mapSet 3 (.t 25) (.t 26) (.c (.bool true)))]) (.region [1,2,3,8,9,10] [o4 27 3,o3 28 7,
 o0 29 (.buildSlice 1 [(.pointer none)] 1 [(0,1,(.t 28))]),
 o0 30 (.append 1 8 (.t 27) (.t 29)),
 o2 (.store 1 (.t 3) (.t 30))])) .skip))))) (.region [1,2,3,8,9,10] [o0 31 (.bin .add (.t 10) (.c (.int .i64 1))),o3 10 31]))))
def zg3:zab:=
 ⟨[],(.seq (.region [1,2,3,8,9,10] [o3 8 0,o8 9 8,
 o0 10 (.mv (.c (.int .i64 0)))]) (.block 0 (.loop [1,2,3,8,9,10] zdh)))⟩
def zfc:zab:=
 ⟨[.tmp 4],(.seq (.region [0,3] [o0 3 (.box 2 (.t 1)),
 o0 4 (.mv (.c (.pointer none)))]) (.seq (.seq (.region [0,3,36] [o5 5 0 3,o4 6 5,
 o0 7 (.bin .lss (.t 6) (.c (.int .u8 3))),o3 8 7,
 o1 9 8 false (.fieldA 0 (.t 3)),
 o1 10 8 false (.load none (.t 9)),
 o1 11 8 false (.bin .gtr (.t 10) (.c (.int .u8 7))),
 o0 12 (.pick (.t 8) (.c (.bool true)) (.t 11)),o3 13 12,
 o1 14 13 false (.fieldA 1 (.t 3)),
 o1 15 13 false (.load none (.t 14)),
 o1 16 13 false (.bin .lss (.t 15) (.c (.int .i64 1))),
 o0 17 (.pick (.t 13) (.c (.bool true)) (.t 16)),o3 18 17,
 o1 19 18 false (.fieldA 1 (.t 3)),
 o1 20 18 false (.load none (.t 19)),
 o1 21 18 false (.mv (.t 0)),
 o1 22 18 false (.len (.t 21)),
 o1 23 18 false (.bin .gtr (.t 20) (.t 22)),
 o0 24 (.pick (.t 18) (.c (.bool true)) (.t 23)),o3 25 24,
 o1 26 25 false (.mv (.t 0)),
 o1 27 25 false (.fieldA 1 (.t 3)),
 o1 28 25 false (.load none (.t 27)),
 o1 29 25 false (.bin .sub (.t 28) (.c (.int .i64 1))),
 o1 30 25 false (.idxA 5 (.t 26) (.t 29)),
 o1 31 25 false (.fieldA 0 (.t 30)),
 o1 32 25 false (.load none (.t 31)),
 o1 33 25 false (.fieldA 0 (.t 3)),
 o1 34 25 false (.load none (.t 33)),
 o1 35 25 false (.bin .neq (.t 32) (.t 34)),
 o0 36 (.pick (.t 25) (.c (.bool true)) (.t 35))]) (.cond (.t 36) (.seq (.region [4] [o0 4 (.mv (.c (.pointer none)))]) .ret) .skip)) (.seq (.region [4] [o3 37 0,o5 38 1 3,o4 39 38,
 o0 40 (.bin .sub (.t 39) (.c (.int .i64 1))),
 o0 41 (.idxA 5 (.t 37) (.t 40)),o3 4 41]) .ret)))⟩
def zc9:zab:=
 ⟨[.tmp 4],(.seq (.region [0,3] [o0 3 (.box 2 (.t 1)),
 o0 4 (.mv (.c (.int .i64 0)))]) (.seq (.seq (.region [3,36] [o5 5 0 3,o4 6 5,
 o0 7 (.bin .lss (.t 6) (.c (.int .u8 3))),o3 8 7,
 o1 9 8 false (.fieldA 0 (.t 3)),
 o1 10 8 false (.load none (.t 9)),
 o1 11 8 false (.bin .gtr (.t 10) (.c (.int .u8 7))),
 o0 12 (.pick (.t 8) (.c (.bool true)) (.t 11)),o3 13 12,
 o1 14 13 false (.fieldA 1 (.t 3)),
 o1 15 13 false (.load none (.t 14)),
 o1 16 13 false (.bin .lss (.t 15) (.c (.int .i64 1))),
 o0 17 (.pick (.t 13) (.c (.bool true)) (.t 16)),o3 18 17,
 o1 19 18 false (.fieldA 1 (.t 3)),
 o1 20 18 false (.load none (.t 19)),
 o1 21 18 false (.mv (.t 0)),
 o1 22 18 false (.len (.t 21)),
 o1 23 18 false (.bin .gtr (.t 20) (.t 22)),
 o0 24 (.pick (.t 18) (.c (.bool true)) (.t 23)),o3 25 24,
 o1 26 25 false (.mv (.t 0)),
 o1 27 25 false (.fieldA 1 (.t 3)),
 o1 28 25 false (.load none (.t 27)),
 o1 29 25 false (.bin .sub (.t 28) (.c (.int .i64 1))),
 o1 30 25 false (.idxA 5 (.t 26) (.t 29)),
 o1 31 25 false (.fieldA 0 (.t 30)),
 o1 32 25 false (.load none (.t 31)),
 o1 33 25 false (.fieldA 0 (.t 3)),
 o1 34 25 false (.load none (.t 33)),
 o1 35 25 false (.bin .neq (.t 32) (.t 34)),
 o0 36 (.pick (.t 25) (.c (.bool true)) (.t 35))]) (.cond (.t 36) (.seq (.region [4] [o0 4 (.mv (.c (.int .i64 (-1))))]) .ret) .skip)) (.seq (.region [4] [o5 37 1 3,o4 38 37,
 o0 39 (.bin .sub (.t 38) (.c (.int .i64 1))),o3 4 39]) .ret)))⟩
def zne:zab:=
 ⟨[.tmp 4],(.seq (.region [2,3] [o0 2 (.box 5 (.t 0)),
 o0 3 (.box 5 (.t 1)),
 o0 4 (.mv (.c (.bool false)))]) (.seq (.region [4] [o5 5 0 2,o4 6 5,o5 7 0 3,o4 8 7,
 o0 9 (.bin .eql (.t 6) (.t 8)),o3 10 9,
 o1 11 10 true (.fieldA 1 (.t 2)),
 o1 12 10 true (.load none (.t 11)),
 o1 13 10 true (.fieldA 1 (.t 3)),
 o1 14 10 true (.load none (.t 13)),
 o1 15 10 true (.bin .eql (.t 12) (.t 14)),
 o0 16 (.pick (.t 10) (.t 15) (.c (.bool false))),o3 17 16,
 o1 18 17 true (.fieldA 2 (.t 2)),
 o1 19 17 true (.load none (.t 18)),
 o1 20 17 true (.fieldA 2 (.t 3)),
 o1 21 17 true (.load none (.t 20)),
 o1 22 17 true (.call .view 336 [(.t 19),(.t 21)]),
 o0 23 (.pick (.t 17) (.t 22) (.c (.bool false))),o3 24 23,
 o1 25 24 true (.fieldA 3 (.t 2)),
 o1 26 24 true (.load none (.t 25)),
 o1 27 24 true (.fieldA 3 (.t 3)),
 o1 28 24 true (.load none (.t 27)),
 o1 29 24 true (.bin .eql (.t 26) (.t 28)),
 o0 30 (.pick (.t 24) (.t 29) (.c (.bool false))),o3 31 30,
 o1 32 31 true (.fieldA 4 (.t 2)),
 o1 33 31 true (.load none (.t 32)),
 o1 34 31 true (.fieldA 4 (.t 3)),
 o1 35 31 true (.load none (.t 34)),
 o1 36 31 true (.bin .eql (.t 33) (.t 35)),
 o0 37 (.pick (.t 31) (.t 36) (.c (.bool false))),o3 4 37]) .ret))⟩
def zls:XCode:=
 (.seq (.region [0,1,7,8,9] [o0 9 (.bin .lss (.t 8) (.t 7))]) (.seq (.cond (.t 9) .skip (.exit 0)) (.seq (.block 1 (.seq (.region [0,1,5,7,8] [o3 10 8,o3 5 10]) (.seq (.region [0,1,5,7,8,16] [o3 11 1,o3 12 0,o3 13 5,
 o0 14 (.idxA 1 (.t 12) (.t 13)),o4 15 14,
 o0 16 (.callV (.t 11) [.t 15])]) (.cond (.t 16) (.seq (.region [4] [o3 17 5,o3 4 17]) .ret) .skip)))) (.region [0,1,7,8] [o0 18 (.bin .add (.t 8) (.c (.int .i64 1))),o3 8 18]))))
def zlr:zab:=
 ⟨[.tmp 4],(.seq (.region [0,1] [o0 4 (.mv (.c (.int .i64 0)))]) (.seq (.seq (.region [0,1,7,8] [o3 6 0,o8 7 6,
 o0 8 (.mv (.c (.int .i64 0)))]) (.block 0 (.loop [0,1,7,8] zls))) (.seq (.region [4] [o0 4 (.mv (.c (.int .i64 (-1))))]) .ret)))⟩
def zbf:zab:=
 ⟨[.tmp 4],(.seq (.region [0,1] [o0 4 (.mv (.c (.bool false)))]) (.seq (.region [4] [o3 5 0,o3 6 1,
 o0 7 (.call .share 759 [(.t 5),(.t 6)]),
 o0 8 (.bin .geq (.t 7) (.c (.int .i64 0))),o3 4 8]) .ret))⟩
def zbs:zab:=
 ⟨[.tmp 4],(.seq (.region [1,2,3] [o0 3 (.box 2 (.t 0)),
 o0 4 (.mv (.c (.bool false)))]) (.seq (.region [4] [o4 5 1,o6 6 2 3,
 o0 7 (.call .peek 656 [(.t 5),(.t 6)]),
 o0 8 (.un .not (.t 7)),o3 9 8,
 o1 10 9 false (.fieldA 0 (.t 3)),
 o1 11 9 false (.load none (.t 10)),
 o1 12 9 false (.bin .eql (.t 11) (.c (.int .u8 7))),
 o1 13 9 false (.load none (.t 2)),
 o1 14 9 false (.nilCheck (.t 13)),
 o1 15 9 false (.fieldA 0 (.t 14)),
 o1 16 9 false (.load none (.t 15)),
 o1 17 9 false (.bin .eql (.t 16) (.c (.int .u8 6))),
 o1 18 9 false (.binB .neq (.t 12) (.t 17)),
 o0 19 (.pick (.t 9) (.c (.bool true)) (.t 18)),o3 4 19]) .ret))⟩
def zig:XCode:=
 (.seq (.seq (.region [0,1,5,6,13] [o3 10 6,o3 11 1,o8 12 11,
 o0 13 (.bin .lss (.t 10) (.t 12))]) (.cond (.t 13) .skip (.exit 0))) (.seq (.block 1 (.seq (.region [0,1,5,6,7] [o3 16 1,o3 17 6,
 o0 18 (.idxA 2 (.t 16) (.t 17)),o6 19 2 18,
 o0 20 (.build [(.int .u8 0),(.int .i64 0),(.string .empty)] [(0,2,(.t 19))]),
 o0 7 (.alloc [(.int .u8 0),(.int .i64 0),(.string .empty)]),
 o2 (.store 3 (.t 7) (.t 20))]) (.seq (.seq (.region [0,1,5,6,7,8] [o3 21 0,o3 22 1,o3 23 6,
 o0 24 (.idxA 2 (.t 22) (.t 23)),o6 25 2 24,
 o0 26 (.call .share 651 [(.t 21),(.t 25)]),o3 8 26]) (.seq (.region [0,1,5,6,7,8,36] [o3 27 1,o3 28 6,
 o0 29 (.idxA 2 (.t 27) (.t 28)),o5 30 0 29,o4 31 30,
 o0 32 (.bin .eql (.t 31) (.c (.int .u8 3))),o3 33 32,
 o1 34 33 true (.mv (.t 8)),
 o1 35 33 true (.eqNil true 1 (.t 34)),
 o0 36 (.pick (.t 33) (.t 35) (.c (.bool false)))]) (.cond (.t 36) (.region [0,1,5,6,7] [o0 37 (.build [(.int .u8 0),(.int .i64 0)] [(0,1,(.c (.int .u8 3)))]),o3 38 8,o7 39 38,o5 40 1 39,o4 41 40,
 o0 42 (.build [(.int .u8 0),(.int .i64 0),(.string .empty)] [(0,2,(.t 37)),(2,1,(.t 41))]),
 o2 (.store 3 (.t 7) (.t 42))]) .skip))) (.region [0,1,5,6] [o3 43 5,o6 44 3 7,
 o2 (.mapSet 57 (.t 43) (.t 44) (.c (.bool true)))])))) (.region [0,1,5,6] [o3 14 6,
 o0 15 (.bin .add (.t 14) (.c (.int .i64 2))),o3 6 15])))
def zb3:zab:=
 ⟨[.tmp 4],(.seq (.region [0,1] [o0 4 (.mv (.c (.bool false)))]) (.seq (.region [0,1,5] [o0 9 (.makeMap none),o3 5 9]) (.seq (.seq (.region [0,1,5,6] [o0 6 (.mv (.c (.int .i64 0)))]) (.block 0 (.loop [0,1,5,6] zig))) (.seq (.region [4] [o3 45 5,
 o0 46 (.lenM (.t 45)),o3 47 1,o8 48 47,
 o0 49 (.bin .quo (.t 48) (.c (.int .i64 2))),
 o0 50 (.bin .eql (.t 46) (.t 49)),o3 4 50]) .ret))))⟩
def znm:XCode:=
 (.seq (.seq (.region [0,1,2,7,11] [o3 8 7,o3 9 1,o8 10 9,
 o0 11 (.bin .lss (.t 8) (.t 10))]) (.cond (.t 11) .skip (.exit 0))) (.seq (.block 1 (.seq (.region [0,1,2,7,30] [o3 14 0,o3 15 1,o3 16 7,
 o0 17 (.idxA 2 (.t 15) (.t 16)),o6 18 2 17,
 o0 19 (.call .view 510 [(.t 14),(.t 18)]),
 o0 20 (.un .not (.t 19)),o3 21 20,
 o1 22 21 false (.mv (.t 1)),
 o1 23 21 false (.mv (.t 7)),
 o1 24 21 false (.idxA 2 (.t 22) (.t 23)),
 o1 25 21 false (.fieldA 0 (.t 24)),
 o1 26 21 false (.load none (.t 25)),
 o1 27 21 false (.bin .eql (.t 26) (.c (.int .u8 7))),
 o1 28 21 false (.mv (.t 2)),
 o1 29 21 false (.binB .neq (.t 27) (.t 28)),
 o0 30 (.pick (.t 21) (.c (.bool true)) (.t 29))]) (.cond (.t 30) (.seq (.region [6] [o0 6 (.mv (.c (.bool false)))]) .ret) .skip))) (.region [0,1,2,7] [o3 12 7,
 o0 13 (.bin .add (.t 12) (.c (.int .i64 1))),o3 7 13])))
def zg1:zab:=
 ⟨[.tmp 6],(.seq (.region [0,1,2] [o0 6 (.mv (.c (.bool false)))]) (.seq (.seq (.region [0,1,2,7] [o0 7 (.mv (.c (.int .i64 0)))]) (.block 0 (.loop [0,1,2,7] znm))) (.seq (.region [6] [o0 6 (.mv (.c (.bool true)))]) .ret)))⟩
def zqj:XCode:=
 (.seq (.seq (.region [0,1,5,6,15] [o3 13 6,o3 14 5,
 o0 15 (.bin .lss (.t 13) (.t 14))]) (.cond (.t 15) .skip (.exit 2))) (.seq (.block 3 (.seq (.region [0,1,5,6,27] [o3 18 0,o3 19 1,o3 20 5,
 o0 21 (.idxA 2 (.t 19) (.t 20)),o6 22 2 21,o3 23 1,o3 24 6,
 o0 25 (.idxA 2 (.t 23) (.t 24)),o6 26 2 25,
 o0 27 (.call .view 503 [(.t 18),(.t 22),(.t 26)])]) (.cond (.t 27) (.seq (.region [4] [o0 4 (.mv (.c (.bool false)))]) .ret) .skip))) (.region [0,1,5,6] [o3 16 6,
 o0 17 (.bin .add (.t 16) (.c (.int .i64 2))),o3 6 17])))
def zqk:XCode:=
 (.seq (.seq (.region [0,1,5,10] [o3 7 5,o3 8 1,o8 9 8,
 o0 10 (.bin .lss (.t 7) (.t 9))]) (.cond (.t 10) .skip (.exit 0))) (.seq (.block 1 (.seq (.region [0,1,5,6] [o0 6 (.mv (.c (.int .i64 0)))]) (.block 2 (.loop [0,1,5,6] zqj)))) (.region [0,1,5] [o3 11 5,
 o0 12 (.bin .add (.t 11) (.c (.int .i64 2))),o3 5 12])))
def zg2:zab:=
 ⟨[.tmp 4],(.seq (.region [0,1] [o0 4 (.mv (.c (.bool false)))]) (.seq (.seq (.region [0,1,5] [o0 5 (.mv (.c (.int .i64 0)))]) (.block 0 (.loop [0,1,5] zqk))) (.seq (.region [4] [o0 4 (.mv (.c (.bool true)))]) .ret)))⟩
def zj9:zab:=
 ⟨[.tmp 2],(.seq (.region [1] [o0 1 (.box 5 (.t 0)),
 o0 2 (.mv (.c (.int .i64 0)))]) (.seq (.region [1,3] [o5 4 1 1,o4 5 4,
 o0 6 (.lenS (.t 5)),
 o0 7 (.bin .add (.c (.int .i64 1)) (.t 6)),o3 3 7]) (.seq (.seq (.region [1,3,9] [o3 8 3,
 o0 9 (.bin .leq (.t 8) (.c (.int .i64 1048576)))]) (.cond (.t 9) (.region [3] [o3 10 3,o5 11 2 1,o4 12 11,
 o0 13 (.call .view 380 [.t 12]),
 o0 14 (.bin .add (.t 10) (.t 13)),o3 3 14]) .skip)) (.seq (.region [2] [o3 15 3,o3 2 15]) .ret))))⟩
def zet:XCode:=
 (.seq (.region [0,1,7,8,9] [o0 9 (.bin .lss (.t 8) (.t 7))]) (.seq (.cond (.t 9) .skip (.exit 0)) (.seq (.block 1 (.seq (.region [0,1,5,7,8] [o3 10 8,o3 5 10]) (.seq (.region [0,1,5,7,8,16] [o3 11 1,o3 12 0,o3 13 5,
 o0 14 (.idxA 2 (.t 12) (.t 13)),o6 15 2 14,
 o0 16 (.callV (.t 11) [.t 15])]) (.cond (.t 16) (.seq (.region [4] [o3 17 5,o3 4 17]) .ret) .skip)))) (.region [0,1,7,8] [o0 18 (.bin .add (.t 8) (.c (.int .i64 1))),o3 8 18]))))
def zbc:zab:=
 ⟨[.tmp 4],(.seq (.region [0,1] [o0 4 (.mv (.c (.int .i64 0)))]) (.seq (.seq (.region [0,1,7,8] [o3 6 0,o8 7 6,
 o0 8 (.mv (.c (.int .i64 0)))]) (.block 0 (.loop [0,1,7,8] zet))) (.seq (.region [4] [o0 4 (.mv (.c (.int .i64 (-1))))]) .ret)))⟩
def zd3:zab:=
 ⟨[.tmp 6],(.seq (.region [0,4,5] [o0 4 (.box 2 (.t 1)),
 o0 5 (.box 2 (.t 2)),
 o0 6 (.mv (.c (.bool false)))]) (.seq (.seq (.region [0,4,5,13] [o5 9 0 4,o4 10 9,o5 11 0 5,o4 12 11,
 o0 13 (.bin .neq (.t 10) (.t 12))]) (.cond (.t 13) (.seq (.region [6] [o0 6 (.mv (.c (.bool false)))]) .ret) .skip)) (.seq (.seq (.region [0,4,5,23] [o5 14 0 4,o4 15 14,
 o0 16 (.bin .eql (.t 15) (.c (.int .u8 0))),o3 17 16,
 o1 18 17 false (.fieldA 1 (.t 4)),
 o1 19 17 false (.load none (.t 18)),
 o1 20 17 false (.fieldA 1 (.t 5)),
 o1 21 17 false (.load none (.t 20)),
 o1 22 17 false (.bin .eql (.t 19) (.t 21)),
 o0 23 (.pick (.t 17) (.c (.bool true)) (.t 22))]) (.cond (.t 23) (.seq (.region [6] [o0 6 (.mv (.c (.bool true)))]) .ret) .skip)) (.seq (.region [0,4,7,8] [o3 24 0,o6 25 2 4,
 o0 26 (.call .view 502 [(.t 24),(.t 25)]),o3 27 0,o6 28 2 5,
 o0 29 (.call .view 502 [(.t 27),(.t 28)]),o3 7 26,o3 8 29]) (.seq (.region [6] [o5 30 0 4,o4 31 30,
 o0 32 (.bin .eql (.t 31) (.c (.int .u8 3))),o3 33 32,
 o1 34 33 true (.mv (.t 7)),
 o1 35 33 true (.bin .geq (.t 34) (.c (.int .i64 0))),
 o0 36 (.pick (.t 33) (.t 35) (.c (.bool false))),o3 37 36,
 o1 38 37 true (.mv (.t 8)),
 o1 39 37 true (.bin .geq (.t 38) (.c (.int .i64 0))),
 o0 40 (.pick (.t 37) (.t 39) (.c (.bool false))),o3 41 40,
 o1 42 41 true (.mv (.t 0)),
 o1 43 41 true (.mv (.t 7)),
 o1 44 41 true (.idxA 5 (.t 42) (.t 43)),
 o1 45 41 true (.fieldA 1 (.t 44)),
 o1 46 41 true (.load none (.t 45)),
 o1 47 41 true (.mv (.t 0)),
 o1 48 41 true (.mv (.t 8)),
 o1 49 41 true (.idxA 5 (.t 47) (.t 48)),
 o1 50 41 true (.fieldA 1 (.t 49)),
 o1 51 41 true (.load none (.t 50)),
 o1 52 41 true (.bin .eql (.t 46) (.t 51)),
 o0 53 (.pick (.t 41) (.t 52) (.c (.bool false))),o3 6 53]) .ret)))))⟩
def zkb:zab:=
 ⟨[.tmp 2],(.seq (.region [0] [o0 2 (.mv (.c (.int .i64 0)))]) (.seq (.region [2] [o3 3 0,o8 4 3,o3 2 4]) .ret))⟩
def zur:zab:=
 ⟨[.tmp 2],(.seq (.region [0] [o0 2 (.mv (.c (.string .empty)))]) (.seq (.region [2] [o3 3 0,
 o0 4 (.call .view 709 [.t 3]),o3 2 4]) .ret))⟩
def zuj:zab:=
 ⟨[.tmp 2],(.seq (.region [0] [o0 2 (.mv (.c (.string .empty)))]) (.seq (.region [2] [o3 3 0,
 o0 4 (.call .view 708 [(.t 3),(.c (.int .i64 10))]),o3 2 4]) .ret))⟩
end Go.EX

